/-
  Own lemmas, no conditions: Wi, Wr, Wj, Wk, Wl, Wm, Wn, Pi, Wo, Pj, Wq, Ws, Wt, Wu, Wv, Pk, Pl.
-/
import Derived.Test.YtpfokhdelnlciaaGreatDoorGrpG
set_option linter.unusedVariables false
set_option linter.unusedSimpArgs false
namespace Go.Proofs.YtpfokhdelnlciaaGreatDoor
open Go Dw
set_option maxRecDepth 10000
attribute [local irreducible] Run
set_option maxHeartbeats 2000000
open Paths
theorem glue_len {c : UInt8} {m : Nat} : ∀ {l : List Bs},(∀ x ∈ l,x.length ≤ m) → (glue c l).length ≤ l.length * (m + 1)
 | [],_=>Nat.zero_le _
 | [x],h=>by have:=h x (by simp);simp only [glue,List.length_cons,List.length_nil];omega
 | x :: y :: l,h=>by
  have h1:=h x (by simp)
  have ih:=glue_len (c:=c) (l:=y :: l) (fun z hz=>h z (by simp [hz]))
  rw [glue,List.length_append,List.length_cons,List.length_cons (a:=x),Nat.add_mul]
  omega
theorem parse_cases (s : Bs) : (∃ e,e ≠ 0 ∧ parse s = (noPP,e)) ∨ (s = [47] ∧ parse s = (⟨true,[],[]⟩,0)) ∨ (∃ l t,colons (cut 47 (restOf s)) = some (l,t) ∧ partsErr l t = 0 ∧ s.length ≤ 200 ∧ parse s = (⟨isAbs s,l,t⟩,0)):=by
 unfold parse
 split
 ·exact .inl ⟨8,by decide,rfl⟩
 ·rename_i h1
  split
  ·exact .inl ⟨7,by decide,rfl⟩
  ·split
   ·rename_i h3;exact .inr (.inl ⟨h3,rfl⟩)
   ·split
    ·exact .inl ⟨7,by decide,rfl⟩
    ·rename_i l t hc
     split
     ·exact .inl ⟨7,by decide,rfl⟩
     ·split
      ·rename_i h5;exact .inl ⟨_,h5,rfl⟩
      ·rename_i h5;exact .inr (.inr ⟨l,t,hc,by simpa using h5,by omega,rfl⟩)
theorem parse_bad {s : Bs} (h : ¬ (parse s).2 = 0) : (parse s).1 = noPP:=by
 rcases parse_cases s with ⟨e,_,h1⟩ | ⟨_,h1⟩ | ⟨l,t,_,_,_,h1⟩
 ·rw [h1]
 ·exact absurd (by rw [h1]) h
 ·exact absurd (by rw [h1]) h
theorem colons_dots {l l' : List Bs} {t : Bs} (hl : l ≠ []) (h : colons l = some (l', t)) : l' ≠ [] ∧ (t = [] ∨ dots (l'.getLastD []) = false) := by
 unfold colons at h
 split at h
 ·cases h;exact ⟨hl,.inl rfl⟩
 ·rename_i a b e
  split at h
  ·cases h
  ·rename_i hd
   cases h
   refine ⟨by simp,.inr ?_⟩
   rw [getLastD_snoc]
   by_cases c : dots a = true
   ·exact absurd (.inl c) hd
   ·simpa using c
 ·cases h
theorem fmt_parse {s : Bs} (h : (parse s).2 = 0) : fmtErr (parse s).1 = 0:=by
  have ht:=text_parse h
  rcases parse_cases s with ⟨e,h0,h1⟩ | ⟨_,h1⟩ | ⟨l,t,hc,hp,hs,h1⟩
  · rw [h1] at h;exact absurd h h0
  · rw [h1];decide +kernel
  · rw [h1] at ht ⊢
    obtain ⟨hne,hd⟩:=colons_dots (cut_ne _ _) hc
    have k:=fun e he=>firstE_mem (l:=[firstE (l.map partErr),if t = [] then 0 else nameErr t,if 16 < l.length then 8 else 0]) hp (e:=e) he
    have k1:=k _ (.head _)
    have k2:=k _ (.tail _ (.head _))
    have k3:=k _ (.tail _ (.tail _ (.head _)))
    have k4 : l.length ≤ 16:=by
      by_cases c : 16 < l.length
      · rw [if_pos c] at k3;cases k3
      · omega
    rw [fmtT (p := ⟨isAbs s, l, t⟩) k4 k1 k2 (by rcases hd with hd | hd; · exact .inl hd
                                                 · exact .inr ⟨hne,hd⟩) (.inl hne),ht,if_pos hs]
attribute [local irreducible] nameErr cut normal dots partErr text parse glue fmtErr
theorem parse_le (s : Bs) : (parse s).1.parts.length ≤ 16 ∧ (∀ x ∈ (parse s).1.parts,x.length ≤ 32):=by
 by_cases h : (parse s).2 = 0
 ·exact ⟨(parse_good h).2,fun x hx=>(part_no ((parse_good h).1 x hx).2).2.2.2⟩
 ·have e : (parse s).1 = noPP:=parse_bad h
  rw [e];exact ⟨Nat.zero_le _,fun x hx=>by cases hx⟩
theorem stream_le {s : Bs} (h : (parse s).2 = 0) : (parse s).1.stream.length ≤ 200 ∧ (text (parse s).1).length ≤ 200:=by
 have h6:=(fmt_ok (fmt_parse h)).2.2.2.2.2
 refine ⟨?_,h6⟩
 have : (parse s).1.stream.length ≤ (text (parse s).1).length:=by
  by_cases c : (parse s).1.stream = []
  ·rw [c];exact Nat.zero_le _
  ·unfold text
   rw [List.length_append,if_neg c,List.length_cons]
   omega
 omega
end Go.Proofs.YtpfokhdelnlciaaGreatDoor
namespace Go.Proofs.YtpfokhdelnlciaaGreatDoor
open Go Dw
set_option maxRecDepth 10000
attribute [local irreducible] Run
set_option maxHeartbeats 2000000
open Paths
def longE (e : Ent) : Bool:=decide ((60 : Int) < e.name.length)
def smGo : List Nod → Int → Bool
 | [],n=>decide (n ≤ 80)
 | x :: l,n=>if decide ((24 : Int) < x.ents.length) || decide ((300 : Int) < x.target.length) then false else if x.ents.any longE then false else smGo l (n + x.ents.length)
def smallT (t : List Nod) : Bool:=if (42 : Int) < t.length then false else smGo t 0
theorem sm_at {t : List Nod} {k : Nat} {n : Int} (hk : k < t.length) : smGo (t.drop k) n = if decide ((24 : Int) < t[k].ents.length) || decide ((300 : Int) < t[k].target.length) then false else if t[k].ents.any longE then false else smGo (t.drop (k + 1)) (n + t[k].ents.length):=by
 rw [List.drop_eq_getElem_cons hk];rfl
theorem sm_end {t : List Nod} {k : Nat} {n : Int} (hk : t.length ≤ k) : smGo (t.drop k) n = decide (n ≤ 80):=by
 rw [List.drop_eq_nil_of_le hk];rfl
theorem sm_a {t : List Nod} {k : Nat} {n : Int} (hk : k < t.length) (h : (24 : Int) < t[k].ents.length) : smGo (t.drop k) n = false:=by rw [sm_at hk,decide_eq_true h];rfl
theorem sm_b {t : List Nod} {k : Nat} {n : Int} (hk : k < t.length) (h : (300 : Int) < t[k].target.length) : smGo (t.drop k) n = false:=by rw [sm_at hk,decide_eq_true h,Bool.or_true];rfl
theorem sm_c {t : List Nod} {k m : Nat} {n : Int} (hk : k < t.length) (hm : m < t[k].ents.length) (h : (60 : Int) < t[k].ents[m].name.length) : smGo (t.drop k) n = false:=by
 rw [sm_at hk]
 split
 ·rfl
 ·rw [if_pos]
  exact List.any_eq_true.2 ⟨_,List.getElem_mem hm,decide_eq_true h⟩
theorem sm_d {t : List Nod} {k m : Nat} {n : Int} (hk : k < t.length) (h1 : ¬ (24 : Int) < t[k].ents.length) (h2 : ¬ (300 : Int) < t[k].target.length) (hm : t[k].ents.length ≤ m) (h : ∀ x ∈ t[k].ents.take m,longE x = false) : smGo (t.drop k) n = smGo (t.drop (k + 1)) (n + t[k].ents.length):=by
 rw [sm_at hk,decide_eq_false h1,decide_eq_false h2,if_neg (by simp),if_neg]
 rw [List.take_of_length_le hm] at h
 intro c
 obtain ⟨x,hx,hl⟩:=List.any_eq_true.1 c
 rw [h x hx] at hl;cases hl
theorem sm_take {l : List Ent} {m : Nat} (hm : m < l.length) (h : ∀ x ∈ l.take m,longE x = false) (h1 : ¬ (60 : Int) < l[m].name.length) : ∀ x ∈ l.take (m + 1),longE x = false:=by
 rw [List.take_succ_eq_append_getElem hm]
 intro x hx
 rcases List.mem_append.1 hx with hx | hx
 ·exact h x hx
 ·rw [List.mem_singleton] at hx;subst hx;exact decide_eq_false h1
attribute [local irreducible] smGo
theorem c11 (t : List Nod) : Fn 11 [treeD t] (.bool (smallT t)):=by
 refine run_walkF eok Tryz.func11 rfl (by kernel_rfl) ?_
 conv=>whnf
 repeat' (first
 | ((with_reducible refine on_dec_f ?_ ?_);(focus ((try simp only [List.length_map,List.length_cons,List.length_nil,List.length_append]);omega));conv=>whnf)
 | ((with_reducible refine on_dec_t ?_ ?_);(focus ((try simp only [List.length_map,List.length_cons,List.length_nil,List.length_append]);omega));conv=>whnf)
 | ((with_reducible refine on_dec (fun h=>?_) (fun h=>?_))<;>(try simp only [List.length_map] at h)<;>conv=>whnf)
 | ((with_reducible refine on_ndec (fun h=>?_) (fun h=>?_))<;>(try simp only [List.length_map] at h)<;>conv=>whnf)
 | ((with_reducible refine on_not (fun h=>?_) (fun h=>?_))<;>conv=>whnf)
 | ((with_reducible refine onBool_split (fun h=>?_) (fun h=>?_))<;>conv=>whnf)
 | ((with_reducible refine loop_go ?_);first | (refine loop1 (fun (m : Nat)=>(t[k]'(by omega)).ents.length - m) (fun (m : Nat)=>m ≤ (t[k]'(by omega)).ents.length ∧ ∀ x ∈ (t[k]'(by omega)).ents.take m,longE x = false) (fun (m : Nat)=>[(0,.d (treeD t)),(3,.d (i ((n + (t[k]'(by omega)).ents.length : Nat) : Int))),(4,.d (i k)),(5,.d (i m))]) (fun (m : Nat)=>[]) (0) (by exact ⟨Nat.zero_le _,fun x hx=>by cases hx⟩) ?_ (fun m Cm hIm hCm=>?_);(exact ⟨[],rfl,rfl,⟨(by first | (show (_ : D) = _;with_reducible rfl) | exact rfl),(congrArg (D.int .i64) (by simp only [List.length_map];omega)),(by first | (show (_ : D) = _;with_reducible rfl) | exact congrArg (D.int .i64) (by omega) | exact congrArg (D.int .i64) (by simp only [List.length_map]) | exact rfl),(by first | (show (_ : D) = _;with_reducible rfl) | exact congrArg (D.int .i64) (by omega) | exact congrArg (D.int .i64) (by simp only [List.length_map]) | exact rfl),trivial⟩,trivial⟩);all_goals (conv=>whnf)) | (refine loop2 (fun (k : Nat) (n : Nat)=>t.length - k) (fun (k : Nat) (n : Nat)=>k ≤ t.length ∧ smallT t = smGo (t.drop k) n ∧ n ≤ 24 * k) (fun (k : Nat) (n : Nat)=>[(0,.d (treeD t)),(3,.d (i n)),(4,.d (i k))]) (fun (k : Nat) (n : Nat)=>[]) (0) (0) (by exact ⟨Nat.zero_le _,if_neg (by omega),by omega⟩) ?_ (fun k n C hI hC=>?_);(exact ⟨[],rfl,rfl,⟨(by first | (show (_ : D) = _;with_reducible rfl) | exact rfl),(by first | (show (_ : D) = _;with_reducible rfl) | exact congrArg (D.int .i64) (by omega) | exact congrArg (D.int .i64) (by simp only [List.length_map]) | exact rfl),(by first | (show (_ : D) = _;with_reducible rfl) | exact congrArg (D.int .i64) (by omega) | exact congrArg (D.int .i64) (by simp only [List.length_map]) | exact rfl),trivial⟩,trivial⟩);all_goals (conv=>whnf)))
 | ((with_reducible show C _ _);first | (refine hC (k + 1) (n + (t[k]'(by omega)).ents.length) _ _ ?_ (by omega) ?_;clear hC;rotate_left;(exact ⟨[],rfl,rfl,⟨(by first | (show (_ : D) = _;with_reducible rfl) | exact rfl),(by first | (show (_ : D) = _;with_reducible rfl) | exact congrArg (D.int .i64) (by omega) | exact congrArg (D.int .i64) (by simp only [List.length_map]) | exact rfl),(by first | (show (_ : D) = _;with_reducible rfl) | exact congrArg (D.int .i64) (by omega) | exact congrArg (D.int .i64) (by simp only [List.length_map]) | exact rfl),trivial⟩,trivial⟩);(exact ⟨by omega,by rw [hI.2.1,sm_d (by omega) (by assumption) (by assumption) (by omega) hIm.2];rfl,by omega⟩)))
 | ((with_reducible show Cm _ _);first | (refine hCm (m + 1) _ _ ?_ (by omega) ?_;clear hCm;rotate_left;(exact ⟨[],rfl,rfl,⟨(by first | (show (_ : D) = _;with_reducible rfl) | exact rfl),(by first | (show (_ : D) = _;with_reducible rfl) | exact congrArg (D.int .i64) (by omega) | exact congrArg (D.int .i64) (by simp only [List.length_map]) | exact rfl),(by first | (show (_ : D) = _;with_reducible rfl) | exact congrArg (D.int .i64) (by omega) | exact congrArg (D.int .i64) (by simp only [List.length_map]) | exact rfl),(by first | (show (_ : D) = _;with_reducible rfl) | exact congrArg (D.int .i64) (by omega) | exact congrArg (D.int .i64) (by simp only [List.length_map]) | exact rfl),trivial⟩,trivial⟩);(exact ⟨by omega,sm_take (by omega) hIm.2 (by assumption)⟩)))
 | (refine ⟨⟨(by first | rfl | (simp;done)),cap_ok (by simp only [List.length_map,List.length_cons,List.length_nil,List.length_append];omega) rfl⟩,?_⟩;conv=>whnf)
 | (refine ⟨mem_one ⟨rfl,rfl⟩,?_⟩;conv=>whnf)
 | (refine ⟨(by intro y hy;obtain ⟨x,_,rfl⟩:=List.mem_map.1 hy;first | rfl | exact ⟨rfl,rfl⟩),?_⟩;conv=>whnf)
 | (refine ⟨cap_ok (by first | omega | (simp only [List.length_map];omega)) rfl,?_⟩;conv=>whnf)
 | (refine ix_map (by omega) ?_;conv=>whnf)
 | (refine ix_str (by omega) ?_;conv=>whnf)
 | (refine wrap64 (by omega) ?_;conv=>whnf)
 | (refine ix_map (l:=t) (f:=Nod.enc) (by omega) ?_;conv=>whnf)
 | (refine ix_map (l:=(t[k]'(by omega)).ents) (f:=Ent.enc) (by omega) ?_;conv=>whnf)
 | (refine wrap64 (by first | omega | (simp only [List.length_map];omega)) ?_;conv=>whnf)
 | (exfalso;simp only [List.length_map,List.length_cons,List.length_nil,List.length_append] at h;omega)
 | ((with_reducible refine endx_go ?_);first | (exact endx (congrArg D.bool (if_pos (by omega)).symm);done) | (exact endx (congrArg D.bool (hI.2.1.trans (sm_a (by omega) (by assumption))).symm);done) | (exact endx (congrArg D.bool (hI.2.1.trans (sm_b (by omega) (by assumption))).symm);done) | (exact endx (congrArg D.bool (hI.2.1.trans (sm_c (m:=m) (by omega) (by omega) (by assumption))).symm);done) | (exact endx (congrArg D.bool (hI.2.1.trans (sm_end (by omega))).symm);done))
 | (refine ⟨rfl,?_⟩;conv=>whnf)
  | fail
  )
end Go.Proofs.YtpfokhdelnlciaaGreatDoor
namespace Go.Proofs.YtpfokhdelnlciaaGreatDoor
open Go Dw
set_option maxRecDepth 10000
attribute [local irreducible] Run
set_option maxHeartbeats 2000000
open Paths
attribute [local irreducible] nameErr cut normal dots partErr text parse glue fmtErr
def sized (p : PP) : Bs × Int:=if 16 < p.parts.length ∨ 200 < (text p).length then ([],8) else (text p,0)
theorem sized_8 {p : PP} (h : (16 : Int) < p.parts.length ∨ (200 : Int) < (text p).length) : sized p = ([],8):=if_pos (by omega)
theorem sized_0 {p : PP} (h : ¬ (16 : Int) < p.parts.length) (h2 : ¬ (200 : Int) < (text p).length) : sized p = (text p,0):=if_neg (by omega)
attribute [local irreducible] sized
theorem c69 (p : PP) (hn : p.parts.length < 1000000) (hx : (text p).length < 1000000) : Fn 69 [PPe p] (.tup [.str (sized p).1,i (sized p).2]):=by
 refine run_walkF eok Tryz.func69 rfl (by kernel_rfl) ?_
 conv=>whnf
 repeat' (first
 | ((with_reducible refine on_dec_f ?_ ?_);(focus ((try simp only [List.length_map,List.length_cons,List.length_nil,List.length_append]);omega));conv=>whnf)
 | ((with_reducible refine on_dec_t ?_ ?_);(focus ((try simp only [List.length_map,List.length_cons,List.length_nil,List.length_append]);omega));conv=>whnf)
 | ((with_reducible refine on_dec (fun h=>?_) (fun h=>?_))<;>(try simp only [List.length_map] at h)<;>conv=>whnf)
 | ((with_reducible refine on_ndec (fun h=>?_) (fun h=>?_))<;>(try simp only [List.length_map] at h)<;>conv=>whnf)
 | ((with_reducible refine on_not (fun h=>?_) (fun h=>?_))<;>conv=>whnf)
 | ((with_reducible refine onBool_split (fun h=>?_) (fun h=>?_))<;>conv=>whnf)
 | ((with_reducible refine call_go ?_);(first | refine call_step (run_view (c55 p hn hx) rfl rfl) ?_);conv=>whnf)
 | (refine ⟨⟨(by first | rfl | (simp;done)),cap_ok (by simp only [List.length_map,List.length_cons,List.length_nil,List.length_append];omega) rfl⟩,?_⟩;conv=>whnf)
 | (refine ⟨mem_one ⟨rfl,rfl⟩,?_⟩;conv=>whnf)
 | (refine ⟨(by intro y hy;obtain ⟨x,_,rfl⟩:=List.mem_map.1 hy;first | rfl | exact ⟨rfl,rfl⟩),?_⟩;conv=>whnf)
 | (refine ⟨cap_ok (by first | omega | (simp only [List.length_map];omega)) rfl,?_⟩;conv=>whnf)
 | (refine ix_map (by omega) ?_;conv=>whnf)
 | (refine ix_str (by omega) ?_;conv=>whnf)
 | (refine wrap64 (by omega) ?_;conv=>whnf)
 | (refine wrap64 (by first | omega | (simp only [List.length_map];omega)) ?_;conv=>whnf)
 | (exfalso;simp only [List.length_map,List.length_cons,List.length_nil,List.length_append] at h;omega)
 | ((with_reducible refine endx_go ?_);first | (refine endxv rfl ?_;(rw [sized_8 (.inl h)])<;>rfl;done) | (refine endxv rfl ?_;(rw [sized_8 (.inr h)])<;>rfl;done) | (refine endxv rfl ?_;(rw [sized_8 (.inr (of_decide_eq_true h))])<;>rfl;done) | (refine endxv rfl ?_;(rw [sized_0 (by assumption) (by assumption)])<;>rfl;done))
 | (refine ⟨rfl,?_⟩;conv=>whnf)
  | fail
  )
theorem grow_cap {z : Int} (h0 : 0 ≤ z) (h : z < 1000000) : z * ((16 : Nat) : Int) ≤ 140737488355328:=by omega
abbrev rep (n : Nat) : List AV:=List.replicate n (.d (.str []))
theorem grow_row {n m : Nat} (e : m = n) : ([⟨List.replicate m (.d (.str [])),1,0⟩] : Heap) = [⟨rep n,1,0⟩]:=by subst e;rfl
theorem grow_e2 {n : Nat} (e : n = 0) : EndX [] 0 [] (tupD [.nilS]) (.sl 0 0 0 1 none) [⟨rep n,1,0⟩]:=by
 subst e
 exact endX_of (.inl ⟨[.void 1],rfl,rfl,⟨⟨rfl,rfl,rfl,rfl⟩,trivial⟩,⟨rfl,rfl,by decide,rfl⟩,trivial⟩)
def lens (L : List (List Bs)) (k : Nat) : Nat:=((L.take k).map List.length).sum
theorem lens_at {L : List (List Bs)} {k : Nat} (h : k < L.length) : lens L (k + 1) = lens L k + L[k].length:=by
 unfold lens;rw [List.take_succ_eq_append_getElem h,List.map_append,List.sum_append];simp only [List.map_cons,List.map_nil,List.sum_cons,List.sum_nil,Nat.add_zero]
theorem lens_flat (L : List (List Bs)) (k : Nat) : lens L k = (L.take k).flatten.length:=by
 unfold lens;rw [List.length_flatten]
theorem lens_mono {L : List (List Bs)} {k : Nat} : lens L k ≤ lens L L.length:=by
 rw [lens_flat,lens_flat,List.take_length]
 conv=>rhs;rw [← List.take_append_drop k L]
 rw [List.flatten_append,List.length_append]
 omega
def catR (L : List (List Bs)) (k : Nat) : List AV:=((L.take k).flatten.map D.str).map .d ++ rep (lens L L.length - lens L k)
theorem cat_0 (L : List (List Bs)) : catR L 0 = (List.replicate (lens L L.length) (D.str [])).map .d:=by
 simp [catR,lens,rep]
abbrev rowL (l : List Bs) : D:=.fs (l.map .str)
theorem c104 (n : Nat) (hn : n < 1000000) : Run Tryz.prog 104 [.nilS,.d (i n)] [] (.sl 0 0 0 1 none) [⟨rep n,1,0⟩]:=by
 refine run_walkF eok Tryz.func104 rfl (by kernel_rfl) ?_
 conv=>whnf
 repeat' (first
 | ((with_reducible refine on_dec_f ?_ ?_);(focus ((try simp only [List.length_map,List.length_cons,List.length_nil,List.length_append]);omega));conv=>whnf)
 | ((with_reducible refine on_dec_t ?_ ?_);(focus ((try simp only [List.length_map,List.length_cons,List.length_nil,List.length_append]);omega));conv=>whnf)
 | ((with_reducible refine on_dec (fun h=>?_) (fun h=>?_))<;>(try simp only [List.length_map] at h)<;>conv=>whnf)
 | ((with_reducible refine on_ndec (fun h=>?_) (fun h=>?_))<;>(try simp only [List.length_map] at h)<;>conv=>whnf)
 | ((with_reducible refine on_not (fun h=>?_) (fun h=>?_))<;>conv=>whnf)
 | ((with_reducible refine onBool_split (fun h=>?_) (fun h=>?_))<;>conv=>whnf)
 | (refine ⟨⟨(by first | rfl | (simp;done)),cap_ok (by simp only [List.length_map,List.length_cons,List.length_nil,List.length_append];omega) rfl⟩,?_⟩;conv=>whnf)
 | (refine ⟨mem_one ⟨rfl,rfl⟩,?_⟩;conv=>whnf)
 | (refine ⟨(by intro y hy;obtain ⟨x,_,rfl⟩:=List.mem_map.1 hy;first | rfl | exact ⟨rfl,rfl⟩),?_⟩;conv=>whnf)
 | (refine ⟨cap_ok (by first | omega | (simp only [List.length_map];omega)) rfl,?_⟩;conv=>whnf)
 | (refine ix_map (by omega) ?_;conv=>whnf)
 | (refine ix_str (by omega) ?_;conv=>whnf)
 | (refine wrap64 (by omega) ?_;conv=>whnf)
 | (refine wrap64 (by first | omega | (simp only [List.length_map];omega)) ?_;conv=>whnf)
 | (refine ⟨⟨rfl,rfl,rfl⟩,?_⟩;conv=>whnf)
 | (refine ⟨⟨by omega,by omega,grow_cap (by omega) (by omega)⟩,?_⟩;conv=>whnf)
 | (refine ⟨cap_ok (by simp only [List.length_replicate];omega) rfl,?_⟩;conv=>whnf)
 | (refine own_sl 0 0 rfl rfl ⟨Nat.le_refl _,Nat.zero_le _⟩ ?_;conv=>whnf)
 | (exfalso;simp only [List.length_map,List.length_cons,List.length_nil,List.length_append] at h;omega)
 | ((with_reducible refine endx_go ?_);first | (refine endx_same rfl ?_;exact grow_row (by omega);done) | (exact grow_e2 (by omega);done))
 | (refine ⟨rfl,?_⟩;conv=>whnf)
  | fail
  )
theorem c104e {L : List (List Bs)} {k : Nat} (h : ¬ (k : Int) < L.length) (hk : k ≤ L.length) (hs : lens L L.length < 1000000) : Run Tryz.prog 104 [.nilS,.d (i (lens L k))] [] (.sl 0 0 0 1 none) [⟨rep (lens L L.length),1,0⟩]:=by
 have : k = L.length:=by omega
 subst this
 exact c104 _ hs
theorem rep_d (n : Nat) : rep n = (List.replicate n (D.str [])).map .d:=by simp [rep]
theorem cat_end {L : List (List Bs)} {k : Nat} (hk : L.length ≤ k) : catR L k = (L.flatten.map D.str).map .d:=by
 have e : lens L L.length - lens L k = 0:=by rw [lens_flat,lens_flat,List.take_of_length_le hk,List.take_length];omega
 unfold catR;rw [e,List.take_of_length_le hk];simp [rep]
theorem lens_end {L : List (List Bs)} {k : Nat} (hk : L.length ≤ k) : lens L k = L.flatten.length:=by rw [lens_flat,List.take_of_length_le hk]
theorem cat_len (L : List (List Bs)) (k : Nat) : (catR L k).length = lens L L.length:=by
 have:=lens_mono (L:=L) (k:=k)
 unfold catR
 simp only [List.length_append,List.length_map,rep,List.length_replicate]
 rw [← lens_flat];omega
theorem cat_step {L : List (List Bs)} {k : Nat} (hk : k < L.length) : over (catR L k) (0 + lens L k) ((L[k].map D.str).map .d) = catR L (k + 1):=by
 have h1:=lens_mono (L:=L) (k:=k + 1)
 rw [lens_at hk] at h1
 have e1 : (((L.take k).flatten.map D.str).map AV.d).length = lens L k:=by rw [List.length_map,List.length_map,lens_flat]
 unfold over catR
 rw [Nat.zero_add,List.take_left' e1,List.length_map,List.length_map,List.take_succ_eq_append_getElem hk,List.flatten_append,List.map_append,List.map_append,lens_at hk]
 rw [List.drop_append,e1,List.drop_of_length_le (by omega)]
 simp only [List.flatten_cons,List.flatten_nil,List.append_nil,List.nil_append,rep,List.drop_replicate,List.append_assoc]
 congr 2
 congr 1
 omega
theorem cat_fit {L : List (List Bs)} {k : Nat} (hk : k < L.length) : 0 + lens L k + L[k].length ≤ (catR L k).length:=by
 have h1:=lens_mono (L:=L) (k:=k + 1)
 rw [lens_at hk] at h1
 rw [cat_len];omega
theorem view_cat {L : List (List Bs)} {k : Nat} (hk : L.length ≤ k) : view 8 [⟨catR L k,1,0⟩] (.sl 0 0 (lens L k) 1 none) = some (rowL L.flatten):=by
 rw [cat_end hk,lens_end hk]
 exact view_map (n:=6) rfl Nat.two_pos
theorem catR_d (L : List (List Bs)) (k : Nat) : ∃ l : List D,catR L k = l.map .d:=⟨(L.take k).flatten.map D.str ++ List.replicate (lens L L.length - lens L k) (.str []),by simp [catR,rep]⟩
theorem c68 (L : List (List Bs)) (hL : L.length < 1000000) (hs : lens L L.length < 1000000) : Fn 68 [.fs (L.map rowL)] (rowL L.flatten):=by
 refine run_walkF eok Tryz.func68 rfl (by kernel_rfl) ?_
 conv=>whnf
 repeat' (first
 | ((with_reducible refine on_dec_f ?_ ?_);(focus ((try simp only [List.length_map,List.length_cons,List.length_nil,List.length_append]);omega));conv=>whnf)
 | ((with_reducible refine on_dec_t ?_ ?_);(focus ((try simp only [List.length_map,List.length_cons,List.length_nil,List.length_append]);omega));conv=>whnf)
 | ((with_reducible refine on_dec (fun h=>?_) (fun h=>?_))<;>(try simp only [List.length_map] at h)<;>conv=>whnf)
 | ((with_reducible refine on_ndec (fun h=>?_) (fun h=>?_))<;>(try simp only [List.length_map] at h)<;>conv=>whnf)
 | ((with_reducible refine on_not (fun h=>?_) (fun h=>?_))<;>conv=>whnf)
 | ((with_reducible refine onBool_split (fun h=>?_) (fun h=>?_))<;>conv=>whnf)
 | ((with_reducible refine call_go ?_);(first | refine call_step (c104e h hI hs) ?_);conv=>whnf)
 | ((with_reducible refine loop_go ?_);first | (refine loop1 (fun (k : Nat)=>L.length - k) (fun (k : Nat)=>k ≤ L.length) (fun (k : Nat)=>[(6,.sl 0 0 (lens L k) 1 none),(25,.d (.fs (L.map rowL))),(26,.d (i L.length)),(27,.d (i k))]) (fun (k : Nat)=>[⟨catR L k,1,0⟩]) (0) (by exact Nat.zero_le _) ?_ (fun k C hI hC=>?_);(exact ⟨[.old 0],rfl,rfl,⟨(by first | exact congrArg (D.int .i64) (by omega) | exact ⟨rfl,rfl,rfl⟩ | exact ⟨rfl,rfl,rfl,rfl,rfl⟩ | (show (_ : D) = _;with_reducible rfl)),(by first | (show (_ : D) = _;with_reducible rfl) | exact rfl),(congrArg (D.int .i64) (by simp only [List.length_map])),(by first | (show (_ : D) = _;with_reducible rfl) | exact congrArg (D.int .i64) (by omega) | exact congrArg (D.int .i64) (by simp only [List.length_map]) | exact rfl),trivial⟩,⟨⟨rfl,rfl,.inl ⟨_,rep_d _,cat_0 L⟩⟩,trivial⟩⟩);all_goals (conv=>whnf)) | (refine loop1 (fun (k : Nat)=>L.length - k) (fun (k : Nat)=>k ≤ L.length) (fun (k : Nat)=>[(0,.d (.fs (L.map rowL))),(3,.d (i (lens L k))),(9,.d (.fs (L.map rowL))),(10,.d (i L.length)),(11,.d (i k))]) (fun (k : Nat)=>[]) (0) (by exact Nat.zero_le _) ?_ (fun k C hI hC=>?_);(exact ⟨[],rfl,rfl,⟨(by first | (show (_ : D) = _;with_reducible rfl) | exact rfl),(by first | (show (_ : D) = _;with_reducible rfl) | exact congrArg (D.int .i64) (by omega) | exact congrArg (D.int .i64) (by simp only [List.length_map]) | exact rfl),(by first | (show (_ : D) = _;with_reducible rfl) | exact rfl),(congrArg (D.int .i64) (by simp only [List.length_map])),(by first | (show (_ : D) = _;with_reducible rfl) | exact congrArg (D.int .i64) (by omega) | exact congrArg (D.int .i64) (by simp only [List.length_map]) | exact rfl),trivial⟩,trivial⟩);all_goals (conv=>whnf)))
 | ((with_reducible show C _ _);first | (refine hC (k + 1) _ _ ?_ (by omega) ?_;clear hC;rotate_left;(exact ⟨[],rfl,rfl,⟨(by first | (show (_ : D) = _;with_reducible rfl) | exact rfl),(congrArg (D.int .i64) (by rw [lens_at (by omega)];simp only [List.length_map];omega)),(by first | (show (_ : D) = _;with_reducible rfl) | exact rfl),(by first | (show (_ : D) = _;with_reducible rfl) | exact congrArg (D.int .i64) (by omega) | exact congrArg (D.int .i64) (by simp only [List.length_map]) | exact rfl),(by first | (show (_ : D) = _;with_reducible rfl) | exact congrArg (D.int .i64) (by omega) | exact congrArg (D.int .i64) (by simp only [List.length_map]) | exact rfl),trivial⟩,trivial⟩);(exact by omega)) | (refine hC (k + 1) _ _ ?_ (by omega) ?_;clear hC;rotate_left;(exact ⟨[.old 0],rfl,rfl,⟨⟨rfl,rfl,(by rw [lens_at (by omega)];simp only [List.length_map]),rfl,rfl⟩,(by first | (show (_ : D) = _;with_reducible rfl) | exact rfl),(by first | (show (_ : D) = _;with_reducible rfl) | exact congrArg (D.int .i64) (by omega) | exact congrArg (D.int .i64) (by simp only [List.length_map]) | exact rfl),(by first | (show (_ : D) = _;with_reducible rfl) | exact congrArg (D.int .i64) (by omega) | exact congrArg (D.int .i64) (by simp only [List.length_map]) | exact rfl),trivial⟩,⟨⟨rfl,rfl,.inl ⟨_,(cat_step (by omega)).trans (catR_d L _).choose_spec,(catR_d L _).choose_spec⟩⟩,trivial⟩⟩);(exact by omega)))
 | (refine ⟨⟨(by first | rfl | (simp;done)),cap_ok (by simp only [List.length_map,List.length_cons,List.length_nil,List.length_append];omega) rfl⟩,?_⟩;conv=>whnf)
 | (refine ⟨mem_one ⟨rfl,rfl⟩,?_⟩;conv=>whnf)
 | (refine ⟨(by intro y hy;obtain ⟨x,_,rfl⟩:=List.mem_map.1 hy;first | rfl | exact ⟨rfl,rfl⟩),?_⟩;conv=>whnf)
 | (refine ⟨cap_ok (by first | omega | (simp only [List.length_map];omega)) rfl,?_⟩;conv=>whnf)
 | (refine ix_map (by omega) ?_;conv=>whnf)
 | (refine ix_str (by omega) ?_;conv=>whnf)
 | (refine wrap64 (by omega) ?_;conv=>whnf)
 | (refine wrap64 (by have:=lens_mono (L:=L) (k:=k + 1);rw [lens_at (by omega)] at this;simp only [List.length_map];omega) ?_;conv=>whnf)
 | (refine wrap64 (by first | omega | (simp only [List.length_map];omega)) ?_;conv=>whnf)
 | (exact absurd (cat_fit (by omega)) h)
 | (exfalso;simp only [List.length_map,List.length_cons,List.length_nil,List.length_append] at h;omega)
 | ((with_reducible refine endx_go ?_);first | (refine endxv (view_cat (by omega)) rfl;done))
 | (refine ⟨rfl,?_⟩;conv=>whnf)
  | fail
  )
end Go.Proofs.YtpfokhdelnlciaaGreatDoor
namespace Go.Proofs.YtpfokhdelnlciaaGreatDoor
open Go Dw
set_option maxRecDepth 10000
attribute [local irreducible] Run
set_option maxHeartbeats 2000000
open Paths
theorem step_bd {P : Bs → Prop} {abs : Bool} {out : List Bs} {s : Bs} (ho : ∀ x ∈ out,P x) (hs : P s) : (∀ x ∈ normStep abs out s,P x) ∧ (normStep abs out s).length ≤ out.length + 1:=by
 have ha : (∀ x ∈ out ++ [s],P x) ∧ (out ++ [s]).length ≤ out.length + 1:=⟨fun x hx=>by
  rcases List.mem_append.1 hx with hx | hx
  ·exact ho x hx
  ·rw [List.mem_singleton] at hx;subst hx;exact hs,by simp⟩
 have hz : (∀ x ∈ out,P x) ∧ out.length ≤ out.length + 1:=⟨ho,by omega⟩
 unfold normStep
 split
 ·exact hz
 ·split
  ·exact ha
  ·split
   ·exact ⟨fun x hx=>ho x ((List.dropLast_sublist _).mem hx),by rw [List.length_dropLast];omega⟩
   ·split
    ·exact hz
    ·exact ha
theorem foldn_bd {P : Bs → Prop} {abs : Bool} : ∀ {l out : List Bs},(∀ x ∈ out,P x) → (∀ x ∈ l,P x) → (∀ x ∈ l.foldl (normStep abs) out,P x) ∧ (l.foldl (normStep abs) out).length ≤ out.length + l.length
 | [],out,ho,_=>⟨ho,Nat.le_refl _⟩
 | s :: l,out,ho,h=>by
  have h1:=step_bd (abs:=abs) ho (h s (by simp))
  have ih:=foldn_bd (abs:=abs) (l:=l) h1.1 (fun x hx=>h x (by simp [hx]))
  refine ⟨ih.1,?_⟩
  have:=ih.2
  rw [List.foldl_cons,List.length_cons]
  omega
theorem normal_bd {P : Bs → Prop} {p : PP} (h : ∀ x ∈ p.parts,P x) (h0 : P [46]) : (∀ x ∈ (normal p).parts,P x) ∧ (normal p).parts.length ≤ p.parts.length + 1:=by
 have hf:=foldn_bd (abs:=p.abs) (l:=p.parts) (out:=[]) (fun x hx=>by cases hx) h
 unfold normal
 simp only
 split
 ·exact ⟨fun x hx=>by rw [List.mem_singleton] at hx;subst hx;exact h0,by simp⟩
 ·exact ⟨hf.1,by have:=hf.2;rw [List.length_nil] at this;omega⟩
theorem text_lenG {p : PP} (h : p.parts.length ≤ 1000) (hb : ∀ x ∈ p.parts,x.length ≤ 60) (ht : p.stream.length ≤ 200) : (text p).length < 1000000:=by
 have h1:=glue_len (c:=47) hb
 have h2 : p.parts.length * (60 + 1) ≤ 1000 * 61:=Nat.mul_le_mul_right _ h
 have h3 : ((if p.abs then [47] else []) : Bs).length ≤ 1:=by split<;>simp
 have h4 : (if p.stream = [] then ([] : Bs) else 58 :: p.stream).length ≤ 201:=by split<;>simp;omega
 unfold text
 rw [List.length_append,List.length_append]
 omega
def Sm (p : PP) : Prop:=p.parts.length ≤ 900 ∧ (∀ x ∈ p.parts,x.length ≤ 60) ∧ p.stream.length ≤ 200
theorem Sm.text {p : PP} (h : Sm p) : (text p).length < 1000000:=text_lenG (by have:=h.1;omega) h.2.1 h.2.2
theorem Sm.parts {p : PP} (h : Sm p) : p.parts.length < 1000000:=by have:=h.1;omega
theorem Sm.normal {p : PP} (h : p.parts.length ≤ 800) (hb : ∀ x ∈ p.parts,x.length ≤ 60) (ht : p.stream.length ≤ 200) : Sm (normal p):=by
 have:=normal_bd (P:=fun x=>x.length ≤ 60) hb (by decide)
 exact ⟨by have:=this.2;omega,this.1,ht⟩
theorem view_two {l m : List Bs} {H : Heap} {id k k' st n : Nat} {c : Option Nat} (h : H[id]? = some ⟨(l.map D.str).map .d ++ (m.map D.str).map .d,k,st⟩) (hst : st < 2) (hn : n = l.length + m.length) : view 7 H (.sl id 0 n k' c) = some (.fs ((l ++ m).map D.str)):=by
 have e : n = (l ++ m).length:=by rw [hn,List.length_append]
 rw [e]
 exact view_map (n:=5) (k:=k) (st:=st) (by rw [h,List.map_append,List.map_append]) hst
def behind (a b : PP) : PP:=⟨true,a.parts ++ b.parts,b.stream⟩
theorem sm_norm {b : Bs} (hb : (parse b).2 = 0) : Sm (normal (parse b).1):=by
 have h2:=parse_le b
 exact Sm.normal (by omega) (fun x hx=>by have:=h2.2 x hx;omega) (stream_le hb).1
def joinR (a b : Bs) : Bs × Int:=
 if (parse a).2 ≠ 0 then ([],(parse a).2) else if (parse b).2 ≠ 0 then ([],(parse b).2) else if (parse a).1.abs = false ∨ (parse a).1.stream ≠ [] then ([],3)
 else if (parse b).1.abs = true then sized (normal (parse b).1) else sized (normal (behind (parse a).1 (parse b).1))
attribute [local irreducible] nameErr cut normal dots partErr text parse glue fmtErr sized joinR
theorem c36n (l : List Bs) (hl : l.length < 1000000) : Run Tryz.prog 36 (([rowL l] : List D).map .d) [] (.sl 0 0 l.length 1 none) [⟨(l.map D.str).map .d,1,0⟩]:=by
 refine run_walkF eok Tryz.func36 rfl (by kernel_rfl) ?_
 conv=>whnf
 repeat' (first
 | ((with_reducible refine on_dec_f ?_ ?_);(focus ((try simp only [List.length_map,List.length_cons,List.length_nil,List.length_append]);omega));conv=>whnf)
 | ((with_reducible refine on_dec_t ?_ ?_);(focus ((try simp only [List.length_map,List.length_cons,List.length_nil,List.length_append]);omega));conv=>whnf)
 | ((with_reducible refine on_dec (fun h=>?_) (fun h=>?_))<;>(try simp only [List.length_map] at h)<;>conv=>whnf)
 | ((with_reducible refine on_ndec (fun h=>?_) (fun h=>?_))<;>(try simp only [List.length_map] at h)<;>conv=>whnf)
 | ((with_reducible refine on_not (fun h=>?_) (fun h=>?_))<;>conv=>whnf)
 | ((with_reducible refine onBool_split (fun h=>?_) (fun h=>?_))<;>conv=>whnf)
 | (refine ⟨⟨(by first | rfl | (simp;done)),cap_ok (by simp only [List.length_map,List.length_cons,List.length_nil,List.length_append];omega) rfl⟩,?_⟩;conv=>whnf)
 | (refine ⟨mem_one ⟨rfl,rfl⟩,?_⟩;conv=>whnf)
 | (refine ⟨(by intro y hy;obtain ⟨x,_,rfl⟩:=List.mem_map.1 hy;first | rfl | exact ⟨rfl,rfl⟩),?_⟩;conv=>whnf)
 | (refine ⟨cap_ok (by first | omega | (simp only [List.length_map];omega)) rfl,?_⟩;conv=>whnf)
 | (refine ix_map (by omega) ?_;conv=>whnf)
 | (refine ix_str (by omega) ?_;conv=>whnf)
 | (refine wrap64 (by omega) ?_;conv=>whnf)
 | (refine wrap64 (by first | omega | (simp only [List.length_map];omega)) ?_;conv=>whnf)
 | (refine ⟨cap_ok (by simp only [List.length_map];omega) rfl,?_⟩;conv=>whnf)
 | (exfalso;simp only [List.length_map,List.length_cons,List.length_nil,List.length_append] at h;omega)
 | ((with_reducible refine endx_go ?_);first | (exact endX_of (.inl ⟨[.old 0],rfl,rfl,⟨⟨rfl,rfl,(by simp only [List.length_map]),rfl,rfl⟩,trivial⟩,⟨rfl,rfl,.inl ⟨_,rfl,rfl⟩⟩,trivial⟩);done))
 | (refine ⟨rfl,?_⟩;conv=>whnf)
  | fail
  )
theorem first3 (a b c : Int) : firstE [a,b,c] = if a = 0 then (if b = 0 then c else b) else a:=by
 simp only [firstE]
 by_cases h : c = 0
 ·rw [if_pos h,h]
 ·rw [if_neg h]
theorem c68ab (l m : List Bs) (hl : l.length ≤ 1000) (hm : m.length ≤ 1000) : Fn 68 [.fs [rowL l,rowL m]] (rowL (l ++ m)):=by
 have e : lens [l,m] [l,m].length = l.length + m.length:=by simp [lens]
 have:=c68 [l,m] (by simp) (by rw [e];omega)
 simpa using this
end Go.Proofs.YtpfokhdelnlciaaGreatDoor
namespace Go.Proofs.YtpfokhdelnlciaaGreatDoor
open Go Dw
set_option maxRecDepth 10000
attribute [local irreducible] Run
set_option maxHeartbeats 2000000
open Paths
def up : Bs:=[46,46]
attribute [local irreducible] nameErr cut normal dots partErr text parse glue fmtErr sized joinR fold
theorem fold_dec {a b : Bs} (h : a = b) : true = decide (fold a = fold b):=by rw [h];exact (decide_eq_true rfl).symm
theorem c71 (a b : Bs) (ha : a.length < 1000000) (hb : b.length < 1000000) (h0 : nameErr a = 0) (h1 : nameErr b = 0) : Fn 71 [.str a,.str b] (.bool (decide (fold a = fold b))):=by
 refine run_walkF eok Tryz.func71 rfl (by kernel_rfl) ?_
 conv=>whnf
 repeat' (first
 | ((with_reducible refine on_dec_f ?_ ?_);(focus ((try simp only [List.length_map,List.length_cons,List.length_nil,List.length_append]);omega));conv=>whnf)
 | ((with_reducible refine on_dec_t ?_ ?_);(focus ((try simp only [List.length_map,List.length_cons,List.length_nil,List.length_append]);omega));conv=>whnf)
 | ((with_reducible refine on_dec (fun h=>?_) (fun h=>?_))<;>(try simp only [List.length_map] at h)<;>conv=>whnf)
 | ((with_reducible refine on_ndec (fun h=>?_) (fun h=>?_))<;>(try simp only [List.length_map] at h)<;>conv=>whnf)
 | ((with_reducible refine on_not (fun h=>?_) (fun h=>?_))<;>conv=>whnf)
 | ((with_reducible refine onBool_split (fun h=>?_) (fun h=>?_))<;>conv=>whnf)
 | ((with_reducible refine call_go ?_);(first | refine call_step (run_view (c105 a ha h0) rfl rfl) ?_ | refine call_step (run_view (c105 b hb h1) rfl rfl) ?_);conv=>whnf)
 | (refine ⟨⟨(by first | rfl | (simp;done)),cap_ok (by simp only [List.length_map,List.length_cons,List.length_nil,List.length_append];omega) rfl⟩,?_⟩;conv=>whnf)
 | (refine ⟨mem_one ⟨rfl,rfl⟩,?_⟩;conv=>whnf)
 | (refine ⟨(by intro y hy;obtain ⟨x,_,rfl⟩:=List.mem_map.1 hy;first | rfl | exact ⟨rfl,rfl⟩),?_⟩;conv=>whnf)
 | (refine ⟨cap_ok (by first | omega | (simp only [List.length_map];omega)) rfl,?_⟩;conv=>whnf)
 | (refine ix_map (by omega) ?_;conv=>whnf)
 | (refine ix_str (by omega) ?_;conv=>whnf)
 | (refine wrap64 (by omega) ?_;conv=>whnf)
 | (refine wrap64 (by first | omega | (simp only [List.length_map];omega)) ?_;conv=>whnf)
 | (exfalso;simp only [List.length_map,List.length_cons,List.length_nil,List.length_append] at h;omega)
 | ((with_reducible refine endx_go ?_);first | (exact endx (congrArg D.bool (fold_dec h));done) | (exact endx rfl;done))
 | (refine ⟨rfl,?_⟩;conv=>whnf)
  | fail
  )
theorem plain_iff {p : PP} : plainErr p = 0 ↔ p.abs = true ∧ p.stream = [] ∧ (normal p).parts = p.parts:=by
 unfold plainErr
 by_cases h1 : p.abs = false
 ·rw [if_pos (.inl h1)];simp [h1]
 ·have h1' : p.abs = true:=by simpa using h1
  by_cases h2 : (normal p).parts = p.parts
  ·by_cases h3 : p.stream = []
   ·rw [if_neg (fun c => c.elim h1 fun c => c.elim (fun c => c h2) (fun c => c h3))]; simp [h1', h2, h3]
   ·rw [if_pos (.inr (.inr h3))];simp [h3]
  ·rw [if_pos (.inr (.inl h2))];simp [h2]
theorem plain_txt {s : Bs} (h : (parse s).2 = 0) (h1 : (parse s).1.abs = true) (h2 : (parse s).1.stream = []) : decide (text (normal (parse s).1) = s) = decide (plainErr (parse s).1 = 0):=by
 rw [decide_eq_decide,plain_iff]
 have:=text_normal (good_parse h)
 rw [text_parse h] at this
 rw [this]
 exact ⟨fun e=>⟨h1,h2,e⟩,fun e=>e.2.2⟩
theorem plain_no1 {p : PP} (h : p.abs = false) : decide (plainErr p = 0) = false:=decide_eq_false (by rw [plain_iff,h];simp)
theorem plain_no2 {p : PP} (h : ¬ p.stream = []) : decide (plainErr p = 0) = false:=decide_eq_false (by rw [plain_iff];simp [h])
theorem noPP_abs {s : Bs} (h : ¬ (parse s).2 = 0) : (parse s).1.abs = false:=by rw [parse_bad h];rfl
theorem abs_ok {s : Bs} (h : (parse s).1.abs = true) : (parse s).2 = 0:=by
 by_cases c : (parse s).2 = 0
 ·exact c
 ·rw [noPP_abs c] at h;cases h
attribute [local irreducible] plainErr
theorem c70 (s : Bs) : Fn 70 [PPe (parse s).1,.str s] (.bool (decide (plainErr (parse s).1 = 0))):=by
 refine run_walkF eok Tryz.func70 rfl (by kernel_rfl) ?_
 conv=>whnf
 repeat' (first
 | ((with_reducible refine on_dec_f ?_ ?_);(focus ((try simp only [List.length_map,List.length_cons,List.length_nil,List.length_append]);omega));conv=>whnf)
 | ((with_reducible refine on_dec_t ?_ ?_);(focus ((try simp only [List.length_map,List.length_cons,List.length_nil,List.length_append]);omega));conv=>whnf)
 | ((with_reducible refine on_dec (fun h=>?_) (fun h=>?_))<;>(try simp only [List.length_map] at h)<;>conv=>whnf)
 | ((with_reducible refine on_ndec (fun h=>?_) (fun h=>?_))<;>(try simp only [List.length_map] at h)<;>conv=>whnf)
 | ((with_reducible refine on_not (fun h=>?_) (fun h=>?_))<;>conv=>whnf)
 | ((with_reducible refine onBool_split (fun h=>?_) (fun h=>?_))<;>conv=>whnf)
 | ((with_reducible refine call_go ?_);(first | refine call_step (run_viewF (c56 (parse s).1 (by have:=parse_le s;omega)) rfl) ?_ | refine call_step (run_view (c55 (normal (parse s).1) (sm_norm (abs_ok (by assumption))).parts (sm_norm (abs_ok (by assumption))).text) rfl rfl) ?_);conv=>whnf)
 | (refine ⟨⟨(by first | rfl | (simp;done)),cap_ok (by simp only [List.length_map,List.length_cons,List.length_nil,List.length_append];omega) rfl⟩,?_⟩;conv=>whnf)
 | (refine ⟨mem_one ⟨rfl,rfl⟩,?_⟩;conv=>whnf)
 | (refine ⟨(by intro y hy;obtain ⟨x,_,rfl⟩:=List.mem_map.1 hy;first | rfl | exact ⟨rfl,rfl⟩),?_⟩;conv=>whnf)
 | (refine ⟨cap_ok (by first | omega | (simp only [List.length_map];omega)) rfl,?_⟩;conv=>whnf)
 | (refine ix_map (by omega) ?_;conv=>whnf)
 | (refine ix_str (by omega) ?_;conv=>whnf)
 | (refine wrap64 (by omega) ?_;conv=>whnf)
 | (refine wrap64 (by first | omega | (simp only [List.length_map];omega)) ?_;conv=>whnf)
 | (exfalso;simp only [List.length_map,List.length_cons,List.length_nil,List.length_append] at h;omega)
 | ((with_reducible refine endx_go ?_);first | (exact endx (congrArg D.bool (plain_no1 (by assumption)).symm);done) | (exact endx (congrArg D.bool (plain_no2 (of_decide_eq_false (by assumption))).symm);done) | (exact endx (congrArg D.bool (plain_txt (abs_ok (by assumption)) (by assumption) (of_decide_eq_true (by assumption))));done))
 | (refine ⟨rfl,?_⟩;conv=>whnf)
  | fail
  )
end Go.Proofs.YtpfokhdelnlciaaGreatDoor
namespace Go.Proofs.YtpfokhdelnlciaaGreatDoor
open Go Dw
set_option maxRecDepth 10000
attribute [local irreducible] Run
set_option maxHeartbeats 2000000
open Paths
theorem run_uncap {f n k : Nat} {args : List AV} {h H : Heap} {o : AO} (hf : Run Tryz.prog f args h (.sl 0 0 n k (some n)) (o :: H)) (ho : o.elems.length = n) (hs : o.st < 2) : Run Tryz.prog f args h (.sl 0 0 n k none) (o :: H):=by
 unfold Run at hf ⊢
 intro B W w st vs hw ha
 refine Good.mono (fun v w' hp=>?_) (hf B W w st vs hw ha)
 obtain ⟨st', h1, h2, h3, h4⟩ := hp
 refine ⟨st', h1, ?_, h3, h4⟩
 obtain ⟨a,c,rfl,a1,a2,a3,a4,a5,a6⟩:=aV_sl.1 h2
 refine aV_sl.2 ⟨a,c,rfl,a1,a2,a3,a4,fun c' e=>(by cases e),fun r hr=>⟨(a6 r hr).1,(a6 r hr).2.1,(a6 r hr).2.2.1,fun _=>?_⟩⟩
 have hc:=a5 n rfl
 obtain ⟨r0,e0,hobj⟩:=h1.obj 0 o rfl hs a2
 rw [hr] at e0;cases e0
 have:=hobj.n
 constructor<;>omega
attribute [local irreducible] nameErr cut normal dots partErr text parse glue fmtErr sized joinR fold plainErr
def pre : List Bs → List Bs → Nat
 | x :: l,y :: m=>if fold x = fold y then pre l m + 1 else 0
 | _,_=>0
theorem pre_at {l m : List Bs} {k : Nat} (h1 : k < l.length) (h2 : k < m.length) : pre (l.drop k) (m.drop k) = if fold l[k] = fold m[k] then pre (l.drop (k + 1)) (m.drop (k + 1)) + 1 else 0:=by
 rw [List.drop_eq_getElem_cons h1,List.drop_eq_getElem_cons h2];rfl
theorem pre_nl {l m : List Bs} {k : Nat} (h : l.length ≤ k) : pre (l.drop k) (m.drop k) = 0:=by
 rw [List.drop_eq_nil_of_le h]
 cases m.drop k<;>rfl
theorem pre_nr {l m : List Bs} {k : Nat} (h : m.length ≤ k) : pre (l.drop k) (m.drop k) = 0:=by
 rw [List.drop_eq_nil_of_le h]
 cases l.drop k<;>rfl
def relP (l m : List Bs) : List Bs:=if List.replicate (l.length - pre l m) up ++ m.drop (pre l m) = [] then [[46]] else List.replicate (l.length - pre l m) up ++ m.drop (pre l m)
def relR (a b : Bs) : Bs × Int:=
 if (parse a).2 ≠ 0 then ([],(parse a).2) else if (parse b).2 ≠ 0 then ([],(parse b).2) else if ¬ plainErr (parse a).1 = 0 ∨ ¬ plainErr (parse b).1 = 0 then ([],3)
 else sized ⟨false,relP (parse a).1.parts (parse b).1.parts,[]⟩
theorem rA {a b : Bs} (h : ¬ (parse a).2 = 0) : relR a b = ([],(parse a).2):=if_pos h
theorem rB {a b : Bs} (h : (parse a).2 = 0) (h2 : ¬ (parse b).2 = 0) : relR a b = ([],(parse b).2):=by unfold relR;rw [if_neg (by simpa using h),if_pos h2]
theorem rC {a b : Bs} (h : (parse a).2 = 0) (h2 : (parse b).2 = 0) (h3 : ¬ plainErr (parse a).1 = 0 ∨ ¬ plainErr (parse b).1 = 0) : relR a b = ([],3):=by unfold relR;rw [if_neg (by simpa using h),if_neg (by simpa using h2),if_pos h3]
theorem rD {a b : Bs} (h : (parse a).2 = 0) (h2 : (parse b).2 = 0) (h3 : plainErr (parse a).1 = 0) (h4 : plainErr (parse b).1 = 0) : relR a b = sized ⟨false,relP (parse a).1.parts (parse b).1.parts,[]⟩:=by unfold relR;rw [if_neg (by simpa using h),if_neg (by simpa using h2),if_neg (by simp [h3,h4])]
theorem legal_of {s : Bs} (h : (parse s).2 = 0) (h2 : plainErr (parse s).1 = 0) : ∀ x ∈ (parse s).1.parts,nameErr x = 0:=plain_legal (s:=s) (by unfold pathErr;rw [if_pos h];exact h2)
theorem r3e {a b : Bs} {c : Bool} (hc : c = true ↔ plainErr (parse a).1 = 0 ∧ plainErr (parse b).1 = 0) (h : ¬ firstE [(parse a).2,(parse b).2,if c = true then 0 else 3] = 0) : relR a b = ([],firstE [(parse a).2,(parse b).2,if c = true then 0 else 3]):=by
 rw [first3] at h ⊢
 by_cases h1 : (parse a).2 = 0
 ·rw [if_pos h1] at h ⊢
  by_cases h2 : (parse b).2 = 0
  ·rw [if_pos h2] at h ⊢
   cases c
   ·rw [rC h1 h2 (by
     by_cases ha : plainErr (parse a).1 = 0
     ·exact .inr fun hs=>by have:=hc.2 ⟨ha,hs⟩;cases this
     ·exact .inl ha)];rfl
   ·exact absurd rfl h
  ·rw [if_neg h2,rB h1 h2]
 ·rw [if_neg h1,rA h1]
theorem r3g {a b : Bs} {c : Bool} (hc : c = true ↔ plainErr (parse a).1 = 0 ∧ plainErr (parse b).1 = 0) (h : firstE [(parse a).2,(parse b).2,if c = true then 0 else 3] = 0) : (parse a).2 = 0 ∧ (parse b).2 = 0 ∧ plainErr (parse a).1 = 0 ∧ plainErr (parse b).1 = 0:=by
 rw [first3] at h
 by_cases h1 : (parse a).2 = 0
 ·rw [if_pos h1] at h
  by_cases h2 : (parse b).2 = 0
  ·rw [if_pos h2] at h
   cases c
   ·cases h
   ·exact ⟨h1,h2,hc.1 rfl⟩
  ·rw [if_neg h2] at h;exact absurd h h2
 ·rw [if_neg h1] at h;exact absurd h h1
theorem r3e1 {a b : Bs} (ha : plainErr (parse a).1 = 0) (h : ¬ firstE [(parse a).2,(parse b).2,if decide (plainErr (parse b).1 = 0) = true then 0 else 3] = 0) : relR a b = ([],firstE [(parse a).2,(parse b).2,if decide (plainErr (parse b).1 = 0) = true then 0 else 3]):=
 r3e (c:=decide (plainErr (parse b).1 = 0)) ⟨fun h=>⟨ha,of_decide_eq_true h⟩,fun h=>decide_eq_true h.2⟩ h
theorem r3g1 {a b : Bs} (ha : plainErr (parse a).1 = 0) (h : firstE [(parse a).2,(parse b).2,if decide (plainErr (parse b).1 = 0) = true then 0 else 3] = 0) : (parse a).2 = 0 ∧ (parse b).2 = 0 ∧ plainErr (parse a).1 = 0 ∧ plainErr (parse b).1 = 0:=
 r3g (c:=decide (plainErr (parse b).1 = 0)) ⟨fun h=>⟨ha,of_decide_eq_true h⟩,fun h=>decide_eq_true h.2⟩ h
theorem r3e0 {a b : Bs} (ha : ¬ plainErr (parse a).1 = 0) (h : ¬ firstE [(parse a).2,(parse b).2,if false = true then 0 else 3] = 0) : relR a b = ([],firstE [(parse a).2,(parse b).2,if false = true then 0 else 3]):=
 r3e (c:=false) ⟨fun h=>(by cases h),fun h=>absurd h.1 ha⟩ h
theorem r3n0 {a b : Bs} (ha : ¬ plainErr (parse a).1 = 0) (h : firstE [(parse a).2,(parse b).2,if false = true then 0 else 3] = 0) : False:=
 ha (r3g (c:=false) ⟨fun h=>(by cases h),fun h=>absurd h.1 ha⟩ h).2.2.1
theorem pre_step {l m : List Bs} {k : Nat} (hI : pre l m = k + pre (l.drop k) (m.drop k)) (h1 : k < l.length) (h2 : k < m.length) (h : fold l[k] = fold m[k]) : pre l m = k + 1 + pre (l.drop (k + 1)) (m.drop (k + 1)):=by
 rw [hI,pre_at h1 h2,if_pos h];omega
theorem pre_ne {l m : List Bs} {k : Nat} (hI : pre l m = k + pre (l.drop k) (m.drop k)) (h1 : k < l.length) (h2 : k < m.length) (h : ¬ fold l[k] = fold m[k]) : pre l m = k:=by
 rw [hI,pre_at h1 h2,if_neg h];omega
theorem pre_l {l m : List Bs} {k : Nat} (hI : pre l m = k + pre (l.drop k) (m.drop k)) (h1 : l.length ≤ k) : pre l m = k:=by
 rw [hI,pre_nl h1];omega
theorem pre_r {l m : List Bs} {k : Nat} (hI : pre l m = k + pre (l.drop k) (m.drop k)) (h1 : m.length ≤ k) : pre l m = k:=by
 rw [hI,pre_nr h1];omega
theorem view_i {n : Nat} {H : Heap} {x y : Int} (e : x = y) : view (n + 1) H (.d (i x)) = some (i y):=by subst e;rfl
theorem view_over {l m : List Bs} {H : Heap} {id k k' st n a : Nat} {c : Option Nat} (h : H[id]? = some ⟨over ((l.map D.str).map .d) a ((m.map D.str).map .d),k,st⟩) (ha : a = 0 + l.length) (hst : st < 2) (hn : n = l.length + m.length) (hm : 0 + l.length + m.length ≤ l.length) : view 7 H (.sl id 0 n k' c) = some (.fs ((l ++ m).map D.str)):=by
 have e : m = []:=List.length_eq_zero_iff.1 (by omega)
 subst e;subst ha
 refine view_two (l:=l) (m:=[]) (k:=k) (st:=st) ?_ hst hn
 rw [h]
 congr 2
 simp [over]
def rel0 (l m : List Bs) (k : Nat) : List Bs:=List.replicate (l.length - k) up ++ m.drop k
theorem rel_dot {l m : List Bs} {k : Nat} (hk : pre l m = k) (h : rel0 l m k = []) : relP l m = [[46]]:=by unfold relP;rw [hk];exact if_pos h
theorem rel_no {l m : List Bs} {k : Nat} (hk : pre l m = k) (h : ¬ rel0 l m k = []) : relP l m = rel0 l m k:=by unfold relP;rw [hk];exact if_neg h
theorem sm_rel {a b : Bs} {k : Nat} : Sm ⟨false,rel0 (parse a).1.parts (parse b).1.parts k,[]⟩:=by
 have h1:=parse_le a
 have h2:=parse_le b
 refine ⟨by simp only [rel0,List.length_append,List.length_replicate,List.length_drop];omega,fun x hx=>?_,Nat.zero_le _⟩
 rcases List.mem_append.1 hx with hx | hx
 ·rw [List.eq_of_mem_replicate hx];decide
 ·have:=h2.2 x (List.mem_of_mem_drop hx);omega
theorem sm_dot : Sm ⟨false,[[46]],[]⟩:=⟨by decide,fun x hx=>by rw [List.mem_singleton] at hx;subst hx;decide,Nat.zero_le _⟩
theorem rel_len (l m : List Bs) (k : Nat) : (rel0 l m k).length = (List.replicate (l.length - k) up).length + (m.drop k).length:=by rw [rel0,List.length_append]
theorem rel_z {l m : List Bs} {k : Nat} {z : Int} (h : z = 0) (hz : z = (((List.replicate (l.length - k) up).length + (m.drop k).length : Nat) : Int)) : rel0 l m k = []:=List.length_eq_zero_iff.1 (by rw [rel_len];omega)
theorem rel_nz {l m : List Bs} {k : Nat} {z : Int} (h : ¬ z = 0) (hz : z = (((List.replicate (l.length - k) up).length + (m.drop k).length : Nat) : Int)) : ¬ rel0 l m k = []:=fun c=>h (by have:=congrArg List.length c;rw [rel_len,List.length_nil] at this;omega)
theorem rel_g {l m : List Bs} {k : Nat} (h : ¬ 0 + (List.replicate (l.length - k) up).length + (m.drop k).length ≤ (List.replicate (l.length - k) up).length) : ¬ rel0 l m k = []:=fun c=>h (by have:=congrArg List.length c;rw [rel_len,List.length_nil] at this;omega)
theorem h72k {l m : List Bs} {k : Nat} (H : Run Tryz.prog 72 (([.fs [.str up],i ((l.length - pre l m : Nat) : Int)] : List D).map .d) [] (.sl 0 0 (List.replicate (l.length - pre l m) up).length 1 none) [⟨((List.replicate (l.length - pre l m) up).map D.str).map .d,1,0⟩]) (hk : pre l m = k) : Run Tryz.prog 72 (([.fs [.str up],i ((l.length - k : Nat) : Int)] : List D).map .d) [] (.sl 0 0 (List.replicate (l.length - k) up).length 1 none) [⟨((List.replicate (l.length - k) up).map D.str).map .d,1,0⟩]:=by subst hk;exact H
theorem len_of {s : Bs} {k : Nat} (h : k < (parse s).1.parts.length) : ((parse s).1.parts[k]'h).length < 1000000:=by
 have:=(parse_le s).2 _ (List.getElem_mem h);omega
theorem c27h (a b : Bs) (H72 : Run Tryz.prog 72 (([.fs [.str up],i (((parse a).1.parts.length - pre (parse a).1.parts (parse b).1.parts : Nat) : Int)] : List D).map .d) [] (.sl 0 0 (List.replicate ((parse a).1.parts.length - pre (parse a).1.parts (parse b).1.parts) up).length 1 none) [⟨((List.replicate ((parse a).1.parts.length - pre (parse a).1.parts (parse b).1.parts) up).map D.str).map .d,1,0⟩]) : Fn 27 [.str a,.str b] (.tup [.str (relR a b).1,i (relR a b).2]):=by
 refine run_walkF eok Tryz.func27 rfl (by kernel_rfl) ?_
 conv=>whnf
 repeat' (first
 | ((with_reducible refine on_dec_f ?_ ?_);(focus ((try simp only [List.length_map,List.length_cons,List.length_nil,List.length_append]);omega));conv=>whnf)
 | ((with_reducible refine on_dec_t ?_ ?_);(focus ((try simp only [List.length_map,List.length_cons,List.length_nil,List.length_append]);omega));conv=>whnf)
 | ((with_reducible refine on_dec (fun h=>?_) (fun h=>?_))<;>(try simp only [List.length_map] at h)<;>conv=>whnf)
 | ((with_reducible refine on_ndec (fun h=>?_) (fun h=>?_))<;>(try simp only [List.length_map] at h)<;>conv=>whnf)
 | ((with_reducible refine on_not (fun h=>?_) (fun h=>?_))<;>conv=>whnf)
 | ((with_reducible refine onBool_split (fun h=>?_) (fun h=>?_))<;>conv=>whnf)
 | ((with_reducible refine call_go ?_);(first | refine call_step (run_viewF (c35 a) rfl) ?_ | refine call_step (run_viewF (c35 b) rfl) ?_ | refine call_step (run_view (c53 _ _) rfl rfl) ?_ | refine call_step (run_view (c52 [_,_,_] (by simp)) rfl rfl) ?_ | refine call_step (run_view (c71 ((parse a).1.parts[k]'(by omega)) ((parse b).1.parts[k]'(by omega)) (len_of (by omega)) (len_of (by omega)) (legal_of hG.1 hG.2.2.1 _ (List.getElem_mem _)) (legal_of hG.2.1 hG.2.2.2 _ (List.getElem_mem _))) rfl rfl) ?_ | refine call_step (run_new (xs:=[_,_]) (h72k H72 (k:=k) (by first | exact pre_ne hI.2.2 (by omega) (by omega) (by assumption) | exact pre_l hI.2.2 (by omega) | exact pre_r hI.2.2 (by omega))) (fun _=>rfl) (vlc rfl (vlc (view_i (by simp only [List.length_map];omega)) vln))) ?_ | refine call_step (run_view (c69 ⟨false,[[46]],[]⟩ sm_dot.parts sm_dot.text) rfl rfl) ?_ | refine call_step (run_view (c69 ⟨false,rel0 (parse a).1.parts (parse b).1.parts k,[]⟩ sm_rel.parts sm_rel.text) rfl (vlc (view_agg (vlc rfl (vlc (view_two rfl Nat.two_pos (by simp only [List.length_map])) (vlc rfl vln)))) vln)) ?_ | refine call_step (run_view (c69 ⟨false,rel0 (parse a).1.parts (parse b).1.parts k,[]⟩ sm_rel.parts sm_rel.text) rfl (vlc (view_agg (vlc rfl (vlc (view_over rfl rfl Nat.two_pos (by simp only [List.length_map]) (by assumption)) (vlc rfl vln)))) vln)) ?_ | refine call_step (run_view (c70 a) rfl rfl) ?_ | refine call_step (run_view (c70 b) rfl rfl) ?_);conv=>whnf)
 | (refine ⟨[],[],(by decide +kernel),?_⟩;conv=>whnf)
 | ((with_reducible refine loop_go ?_);first | (refine loop1 (fun (k : Nat)=>(parse a).1.parts.length - k) (fun (k : Nat)=>k ≤ (parse a).1.parts.length ∧ k ≤ (parse b).1.parts.length ∧ pre (parse a).1.parts (parse b).1.parts = k + pre ((parse a).1.parts.drop k) ((parse b).1.parts.drop k)) (fun (k : Nat)=>[(6,.ptr 0 0 0),(8,.ptr 1 0 0),(12,.d (i k))]) (fun (k : Nat)=>[⟨[.d (PPe (parse a).1)],3,0⟩,⟨[.d (PPe (parse b).1)],3,0⟩]) (0) (by exact ⟨Nat.zero_le _,Nat.zero_le _,by simp⟩) ?_ (fun k C hI hC=>?_);(exact ⟨[.old 0,.old 1],rfl,rfl,⟨⟨rfl,rfl,rfl⟩,⟨rfl,rfl,rfl⟩,(by first | (show (_ : D) = _;with_reducible rfl) | exact congrArg (D.int .i64) (by omega) | exact congrArg (D.int .i64) (by simp only [List.length_map]) | exact rfl),trivial⟩,⟨⟨rfl,rfl,.inl ⟨[_],rfl,rfl⟩⟩,⟨rfl,rfl,.inl ⟨[_],rfl,rfl⟩⟩,trivial⟩⟩);have hG:=r3g1 (a:=a) (b:=b) (by assumption) (by assumption);all_goals (conv=>whnf)))
 | ((with_reducible show C _ _);first | (refine hC (k + 1) _ _ ?_ (by omega) ?_;clear hC;rotate_left;(exact ⟨[.old 0,.old 1],rfl,rfl,⟨⟨rfl,rfl,rfl⟩,⟨rfl,rfl,rfl⟩,(by first | (show (_ : D) = _;with_reducible rfl) | exact congrArg (D.int .i64) (by omega) | exact congrArg (D.int .i64) (by simp only [List.length_map]) | exact rfl),trivial⟩,⟨⟨rfl,rfl,.inl ⟨[_],rfl,rfl⟩⟩,⟨rfl,rfl,.inl ⟨[_],rfl,rfl⟩⟩,trivial⟩⟩);(exact ⟨by omega,by omega,pre_step hI.2.2 (by omega) (by omega) (by assumption)⟩)))
 | (refine ⟨⟨(by first | rfl | (simp;done)),cap_ok (by simp only [List.length_map,List.length_cons,List.length_nil,List.length_append];omega) rfl⟩,?_⟩;conv=>whnf)
 | (refine ⟨mem_one ⟨rfl,rfl⟩,?_⟩;conv=>whnf)
 | (refine ⟨(by intro y hy;obtain ⟨x,_,rfl⟩:=List.mem_map.1 hy;first | rfl | exact ⟨rfl,rfl⟩),?_⟩;conv=>whnf)
 | (refine ⟨cap_ok (by first | omega | (simp only [List.length_map];omega)) rfl,?_⟩;conv=>whnf)
 | (refine ix_map (by omega) ?_;conv=>whnf)
 | (refine ix_str (by omega) ?_;conv=>whnf)
 | (refine wrap64 (by omega) ?_;conv=>whnf)
 | (refine ⟨⟨by simp only [List.length_map];omega,cap_ok (by have h1:=parse_le a;have h2:=parse_le b;simp only [List.length_map,List.length_replicate,List.length_drop];omega) rfl⟩,?_⟩;conv=>whnf)
 | (refine sl_map (l:=(parse b).1.parts) (f:=D.str) k (parse b).1.parts.length rfl (by simp only [List.length_map]) ⟨by omega,Nat.le_refl _⟩ (fun _=>rfl) ?_;rw [List.take_length];conv=>whnf)
 | (refine wrap64 (by have h1:=parse_le a;have h2:=parse_le b;(try simp only [List.length_map]);omega) ?_;conv=>whnf)
 | (exact (r3n0 (by assumption) (by assumption)).elim)
 | (exfalso;simp only [List.length_map,List.length_cons,List.length_nil,List.length_append] at h;omega)
 | ((with_reducible refine endx_go ?_);first | (refine endxv rfl ?_;(rw [rD hG.1 hG.2.1 hG.2.2.1 hG.2.2.2,rel_no (by first | exact pre_ne hI.2.2 (by omega) (by omega) (by assumption) | exact pre_l hI.2.2 (by omega) | exact pre_r hI.2.2 (by omega)) (rel_g (by assumption))])<;>rfl;done) | (refine endxv rfl ?_;(rw [rD hG.1 hG.2.1 hG.2.2.1 hG.2.2.2,rel_dot (by first | exact pre_ne hI.2.2 (by omega) (by omega) (by assumption) | exact pre_l hI.2.2 (by omega) | exact pre_r hI.2.2 (by omega)) (rel_z (by assumption) (by first | rfl | (simp only [List.length_map];done) | omega))])<;>rfl;done) | (refine endxv rfl ?_;(rw [rD hG.1 hG.2.1 hG.2.2.1 hG.2.2.2,rel_no (by first | exact pre_ne hI.2.2 (by omega) (by omega) (by assumption) | exact pre_l hI.2.2 (by omega) | exact pre_r hI.2.2 (by omega)) (rel_nz (by assumption) (by first | rfl | (simp only [List.length_map];done) | omega))])<;>rfl;done) | (refine endxv rfl ?_;(rw [r3e1 (by assumption) h])<;>rfl;done) | (refine endxv rfl ?_;(rw [r3e0 (by assumption) h])<;>rfl;done))
 | (refine ⟨rfl,?_⟩;conv=>whnf)
  | fail
  )
end Go.Proofs.YtpfokhdelnlciaaGreatDoor
namespace Go.Proofs.YtpfokhdelnlciaaGreatDoor
open Go Dw
set_option maxRecDepth 10000
attribute [local irreducible] Run
set_option maxHeartbeats 2000000
open Paths
attribute [local irreducible] nameErr cut normal dots partErr text parse glue fmtErr sized joinR fold plainErr relR relP
end Go.Proofs.YtpfokhdelnlciaaGreatDoor
namespace Go.Proofs.YtpfokhdelnlciaaGreatDoor
open Paths
end Go.Proofs.YtpfokhdelnlciaaGreatDoor
namespace Go.Proofs.YtpfokhdelnlciaaGreatDoor
open Go Dw
set_option maxRecDepth 10000
attribute [local irreducible] Run
set_option maxHeartbeats 2000000
open Paths
attribute [local irreducible] nameErr cut normal dots partErr text parse glue fmtErr sized joinR fold plainErr relR relP
end Go.Proofs.YtpfokhdelnlciaaGreatDoor
namespace Go.Proofs.YtpfokhdelnlciaaGreatDoor
open Paths
def Nms (l : List Bs) : Prop:=∀ x ∈ l,nameErr x = 0
theorem Nms.ne {l : List Bs} (h : Nms l) : ∀ x ∈ l,x ≠ [46] ∧ x ≠ [46,46]:=fun x hx=>by
 have:=name_dots (h x hx)
 constructor<;>rintro rfl<;>exact absurd this (by decide)
def joined (l m : List Bs) : PP:=⟨true,l.take (pre l m) ++ m.drop (pre l m),[]⟩
end Go.Proofs.YtpfokhdelnlciaaGreatDoor
namespace Go.Proofs.YtpfokhdelnlciaaGreatDoor
open Go Dw
set_option maxRecDepth 10000
attribute [local irreducible] Run
set_option maxHeartbeats 2000000
open Paths
attribute [local irreducible] nameErr cut normal dots partErr text parse glue fmtErr sized joinR fold plainErr relR relP
def back (a b : Bs) : Bs:=text (joined (parse a).1.parts (parse b).1.parts)
attribute [local irreducible] back
end Go.Proofs.YtpfokhdelnlciaaGreatDoor
namespace Go.Proofs.YtpfokhdelnlciaaGreatDoor
open Go Dw
set_option maxRecDepth 10000
attribute [local irreducible] Run
set_option maxHeartbeats 2000000
open Paths
attribute [local irreducible] nameErr cut normal dots partErr text parse glue fold
def lookG (l : List Ent) (s : Bs) : Nat → Int
 | k=>match l with
  | []=>-1
  | x :: r=>if fold x.name = fold s then k else lookG r s (k + 1)
def look (l : List Ent) (s : Bs) : Int:=lookG l s 0
theorem look_at {l : List Ent} {s : Bs} {k : Nat} (hk : k < l.length) : lookG (l.drop k) s k = if fold l[k].name = fold s then (k : Int) else lookG (l.drop (k + 1)) s (k + 1):=by
 rw [List.drop_eq_getElem_cons hk];rfl
theorem look_end {l : List Ent} {s : Bs} {k : Nat} (hk : l.length ≤ k) : lookG (l.drop k) s k = -1:=by
 rw [List.drop_eq_nil_of_le hk];rfl
theorem look_f {l : List Ent} {s : Bs} {k : Nat} (hk : k < l.length) (h : fold l[k].name = fold s) : lookG (l.drop k) s k = (k : Int):=by rw [look_at hk,if_pos h]
theorem look_n {l : List Ent} {s : Bs} {k : Nat} (hk : k < l.length) (h : ¬ fold l[k].name = fold s) : lookG (l.drop k) s k = lookG (l.drop (k + 1)) s (k + 1):=by rw [look_at hk,if_neg h]
attribute [local irreducible] lookG
theorem c90 (n lo hi : Int) : Fn 90 [i n,i lo,i hi] (.bool (within n lo hi)):=by
 refine run_walkF eok Tryz.func90 rfl (by kernel_rfl) ?_
 conv=>whnf
 repeat' (first
 | ((with_reducible refine on_dec_f ?_ ?_);(focus ((try simp only [List.length_map,List.length_cons,List.length_nil,List.length_append]);omega));conv=>whnf)
 | ((with_reducible refine on_dec_t ?_ ?_);(focus ((try simp only [List.length_map,List.length_cons,List.length_nil,List.length_append]);omega));conv=>whnf)
 | ((with_reducible refine on_dec (fun h=>?_) (fun h=>?_))<;>(try simp only [List.length_map] at h)<;>conv=>whnf)
 | ((with_reducible refine on_ndec (fun h=>?_) (fun h=>?_))<;>(try simp only [List.length_map] at h)<;>conv=>whnf)
 | ((with_reducible refine on_not (fun h=>?_) (fun h=>?_))<;>conv=>whnf)
 | ((with_reducible refine onBool_split (fun h=>?_) (fun h=>?_))<;>conv=>whnf)
 | (refine ⟨⟨(by first | rfl | (simp;done)),cap_ok (by simp only [List.length_map,List.length_cons,List.length_nil,List.length_append];omega) rfl⟩,?_⟩;conv=>whnf)
 | (refine ⟨mem_one ⟨rfl,rfl⟩,?_⟩;conv=>whnf)
 | (refine ⟨(by intro y hy;obtain ⟨x,_,rfl⟩:=List.mem_map.1 hy;first | rfl | exact ⟨rfl,rfl⟩),?_⟩;conv=>whnf)
 | (refine ⟨cap_ok (by first | omega | (simp only [List.length_map];omega)) rfl,?_⟩;conv=>whnf)
 | (refine ix_map (by omega) ?_;conv=>whnf)
 | (refine ix_str (by omega) ?_;conv=>whnf)
 | (refine wrap64 (by omega) ?_;conv=>whnf)
 | (exfalso;simp only [List.length_map,List.length_cons,List.length_nil,List.length_append] at h;omega)
 | ((with_reducible refine endx_go ?_);first | (exact endx (congrArg D.bool (by simp [within, *]));done))
 | (refine ⟨rfl,?_⟩;conv=>whnf)
  | fail
  )
theorem c102 (b : Bool) : Fn 102 [.bool b] (i (if b = true then 1 else 0)):=by
 refine run_walkF eok Tryz.func102 rfl (by kernel_rfl) ?_
 conv=>whnf
 repeat' (first
 | ((with_reducible refine on_dec_f ?_ ?_);(focus ((try simp only [List.length_map,List.length_cons,List.length_nil,List.length_append]);omega));conv=>whnf)
 | ((with_reducible refine on_dec_t ?_ ?_);(focus ((try simp only [List.length_map,List.length_cons,List.length_nil,List.length_append]);omega));conv=>whnf)
 | ((with_reducible refine on_dec (fun h=>?_) (fun h=>?_))<;>(try simp only [List.length_map] at h)<;>conv=>whnf)
 | ((with_reducible refine on_ndec (fun h=>?_) (fun h=>?_))<;>(try simp only [List.length_map] at h)<;>conv=>whnf)
 | ((with_reducible refine on_not (fun h=>?_) (fun h=>?_))<;>conv=>whnf)
 | ((with_reducible refine onBool_split (fun h=>?_) (fun h=>?_))<;>conv=>whnf)
 | (refine ⟨⟨(by first | rfl | (simp;done)),cap_ok (by simp only [List.length_map,List.length_cons,List.length_nil,List.length_append];omega) rfl⟩,?_⟩;conv=>whnf)
 | (refine ⟨mem_one ⟨rfl,rfl⟩,?_⟩;conv=>whnf)
 | (refine ⟨(by intro y hy;obtain ⟨x,_,rfl⟩:=List.mem_map.1 hy;first | rfl | exact ⟨rfl,rfl⟩),?_⟩;conv=>whnf)
 | (refine ⟨cap_ok (by first | omega | (simp only [List.length_map];omega)) rfl,?_⟩;conv=>whnf)
 | (refine ix_map (by omega) ?_;conv=>whnf)
 | (refine ix_str (by omega) ?_;conv=>whnf)
 | (refine wrap64 (by omega) ?_;conv=>whnf)
 | (exfalso;simp only [List.length_map,List.length_cons,List.length_nil,List.length_append] at h;omega)
 | ((with_reducible refine endx_go ?_);first | (exact endx (congrArg i (if_pos h).symm);done) | (exact endx (congrArg i (if_pos rfl).symm);done) | (exact endx (congrArg i (by rw [h];rfl));done))
 | (refine ⟨rfl,?_⟩;conv=>whnf)
  | fail
  )
theorem c25 (t : List Nod) (d : Int) (nd : Nod) (s : Bs) (h0 : 0 ≤ d) (hd : t[d.toNat]? = some nd) (hl : nd.ents.length < 1000000) (hb : ∀ x ∈ nd.ents,x.name.length < 1000000) (hs : s.length < 1000000) : Fn 25 [treeD t,i d,.str s] (i (look nd.ents s)):=by
 refine run_walkF eok Tryz.func25 rfl (by kernel_rfl) ?_
 conv=>whnf
 repeat' (first
 | ((with_reducible refine on_dec_f ?_ ?_);(focus ((try simp only [List.length_map,List.length_cons,List.length_nil,List.length_append]);omega));conv=>whnf)
 | ((with_reducible refine on_dec_t ?_ ?_);(focus ((try simp only [List.length_map,List.length_cons,List.length_nil,List.length_append]);omega));conv=>whnf)
 | ((with_reducible refine on_dec (fun h=>?_) (fun h=>?_))<;>(try simp only [List.length_map] at h)<;>conv=>whnf)
 | ((with_reducible refine on_ndec (fun h=>?_) (fun h=>?_))<;>(try simp only [List.length_map] at h)<;>conv=>whnf)
 | ((with_reducible refine on_not (fun h=>?_) (fun h=>?_))<;>conv=>whnf)
 | ((with_reducible refine onBool_split (fun h=>?_) (fun h=>?_))<;>conv=>whnf)
 | ((with_reducible refine call_go ?_);(first | refine call_step (run_view (c34 (nd.ents[k]'(by omega)).name s (hb _ (List.getElem_mem _)) hs) rfl rfl) ?_);conv=>whnf)
 | ((with_reducible refine loop_go ?_);first | (refine loop1 (fun (k : Nat)=>nd.ents.length - k) (fun (k : Nat)=>k ≤ nd.ents.length ∧ look nd.ents s = lookG (nd.ents.drop k) s k) (fun (k : Nat)=>[(0,.d (treeD t)),(1,.d (i d)),(2,.d (.str s)),(7,.d (i k))]) (fun (k : Nat)=>[]) (0) (by exact ⟨Nat.zero_le _,rfl⟩) ?_ (fun k C hI hC=>?_);(exact ⟨[],rfl,rfl,⟨(by first | (show (_ : D) = _;with_reducible rfl) | exact rfl),(by first | (show (_ : D) = _;with_reducible rfl) | exact congrArg (D.int .i64) (by omega) | exact congrArg (D.int .i64) (by simp only [List.length_map]) | exact rfl),(by first | (show (_ : D) = _;with_reducible rfl) | exact rfl),(by first | (show (_ : D) = _;with_reducible rfl) | exact congrArg (D.int .i64) (by omega) | exact congrArg (D.int .i64) (by simp only [List.length_map]) | exact rfl),trivial⟩,trivial⟩);all_goals (conv=>whnf)))
 | ((with_reducible show C _ _);first | (refine hC (k + 1) _ _ ?_ (by omega) ?_;clear hC;rotate_left;(exact ⟨[],rfl,rfl,⟨(by first | (show (_ : D) = _;with_reducible rfl) | exact rfl),(by first | (show (_ : D) = _;with_reducible rfl) | exact congrArg (D.int .i64) (by omega) | exact congrArg (D.int .i64) (by simp only [List.length_map]) | exact rfl),(by first | (show (_ : D) = _;with_reducible rfl) | exact rfl),(by first | (show (_ : D) = _;with_reducible rfl) | exact congrArg (D.int .i64) (by omega) | exact congrArg (D.int .i64) (by simp only [List.length_map]) | exact rfl),trivial⟩,trivial⟩);(exact ⟨by omega,hI.2.trans (look_n (by omega) (by assumption))⟩)))
 | (refine ⟨⟨(by first | rfl | (simp;done)),cap_ok (by simp only [List.length_map,List.length_cons,List.length_nil,List.length_append];omega) rfl⟩,?_⟩;conv=>whnf)
 | (refine ⟨mem_one ⟨rfl,rfl⟩,?_⟩;conv=>whnf)
 | (refine ⟨(by intro y hy;obtain ⟨x,_,rfl⟩:=List.mem_map.1 hy;first | rfl | exact ⟨rfl,rfl⟩),?_⟩;conv=>whnf)
 | (refine ⟨cap_ok (by first | omega | (simp only [List.length_map];omega)) rfl,?_⟩;conv=>whnf)
 | (refine ix_map (by omega) ?_;conv=>whnf)
 | (refine ix_str (by omega) ?_;conv=>whnf)
 | (refine wrap64 (by omega) ?_;conv=>whnf)
 | (refine wrap64 (by first | omega | (simp only [List.length_map];omega)) ?_;conv=>whnf)
 | (refine ix_nd h0 hd ?_;conv=>whnf)
 | (refine ix_map (l:=nd.ents) (f:=Ent.enc) (by omega) ?_;conv=>whnf)
 | (exfalso;simp only [List.length_map,List.length_cons,List.length_nil,List.length_append] at h;omega)
 | ((with_reducible refine endx_go ?_);first | (exact endx (congrArg i (hI.2.trans (look_f (by omega) (by assumption))).symm);done) | (exact endx (congrArg i (hI.2.trans (look_end (by omega))).symm);done))
 | (refine ⟨rfl,?_⟩;conv=>whnf)
  | fail
  )
end Go.Proofs.YtpfokhdelnlciaaGreatDoor
namespace Go.Proofs.YtpfokhdelnlciaaGreatDoor
open Go Dw
set_option maxRecDepth 10000
attribute [local irreducible] Run
set_option maxHeartbeats 2000000
open Paths
attribute [local irreducible] nameErr cut normal dots partErr text parse glue fold
def leads (n : Int) : Bool:=decide (n = 2) || decide (n = 3)
def entE (len : Int) (ahead : List Ent) (x : Ent) : Int:=
 if nameErr x.name ≠ 0 then nameErr x.name else if ahead.any (fun y=>decide (fold y.name = fold x.name)) = true then 5 else if within x.node 1 (len - 1) = true then 0 else 6
def entsE (len : Int) (l : List Ent) : Nat → Nat → Int
 | 0,_=>0
 | n + 1,k=>match l[k]? with
  | none=>0
  | some x=>if entE len (l.take k) x ≠ 0 then entE len (l.take k) x else entsE len l n (k + 1)
def targE (x : Nod) : Int:=if (parse x.target).2 ≠ 0 then (parse x.target).2 else if (parse x.target).1.stream ≠ [] ∨ (x.kind = 3 ∧ (parse x.target).1.abs = false) then 3 else 0
def nodE (t : List Nod) (i : Int) (x : Nod) : Int:=
 if within x.kind 0 3 = false then 15 else if i = 0 ∧ x.kind ≠ 0 then 35 else if (x.kind ≠ 0 ∧ x.ents ≠ []) ∨ (leads x.kind = false ∧ x.target ≠ []) then 3
 else if entsE t.length x.ents x.ents.length 0 ≠ 0 then entsE t.length x.ents x.ents.length 0 else if leads x.kind = false then 0 else targE x
theorem ents_at {len : Int} {l : List Ent} {n k : Nat} (hk : k < l.length) (hn : n = l.length - k) : entsE len l n k = if entE len (l.take k) l[k] ≠ 0 then entE len (l.take k) l[k] else entsE len l (l.length - (k + 1)) (k + 1):=by
 subst hn
 rw [show l.length - k = (l.length - (k + 1)) + 1 by omega,entsE,List.getElem?_eq_getElem hk]
theorem ents_end {len : Int} {l : List Ent} {k : Nat} (hk : l.length ≤ k) : entsE len l (l.length - k) k = 0:=by
 rw [show l.length - k = 0 by omega];rfl
theorem ent_a {len : Int} {l : List Ent} {k : Nat} (hk : k < l.length) (h : ¬ nameErr l[k].name = 0) : entsE len l (l.length - k) k = nameErr l[k].name:=by
 have e : entE len (l.take k) l[k] = nameErr l[k].name:=if_pos h
 rw [ents_at hk rfl,e,if_pos h]
theorem ent_b {len : Int} {l : List Ent} {j k : Nat} (hk : k < l.length) (hj : j < k) (h : nameErr l[k].name = 0) (h2 : fold (l[j]'(by omega)).name = fold l[k].name) : entsE len l (l.length - k) k = 5:=by
 have e : entE len (l.take k) l[k] = 5:=by
  unfold entE
  rw [if_neg (by simpa using h),if_pos]
  refine List.any_eq_true.2 ⟨l[j]'(by omega),?_,decide_eq_true h2⟩
  rw [List.mem_take_iff_getElem]
  exact ⟨j,by omega,rfl⟩
 rw [ents_at hk rfl,e,if_pos (by decide)]
theorem ent_no {l : List Ent} {j k : Nat} {x : Ent} (hj : k ≤ j) (h : ∀ y ∈ l.take j,¬ fold y.name = fold x.name) : ¬ (l.take k).any (fun y=>decide (fold y.name = fold x.name)) = true:=by
 intro c
 obtain ⟨y,hy,he⟩:=List.any_eq_true.1 c
 exact h y (List.take_subset_take_left l hj hy) (of_decide_eq_true he)
theorem ent_c {len : Int} {l : List Ent} {j k : Nat} (hk : k < l.length) (hj : k ≤ j) (h : nameErr l[k].name = 0) (h2 : ∀ y ∈ l.take j,¬ fold y.name = fold l[k].name) (h3 : within l[k].node 1 (len - 1) = false) : entsE len l (l.length - k) k = 6:=by
 have e : entE len (l.take k) l[k] = 6:=by
  unfold entE
  rw [if_neg (by simpa using h),if_neg (ent_no hj h2),if_neg (by rw [h3];decide)]
 rw [ents_at hk rfl,e,if_pos (by decide)]
theorem ent_d {len : Int} {l : List Ent} {j k : Nat} (hk : k < l.length) (hj : k ≤ j) (h : nameErr l[k].name = 0) (h2 : ∀ y ∈ l.take j,¬ fold y.name = fold l[k].name) (h3 : within l[k].node 1 (len - 1) = true) : entsE len l (l.length - k) k = entsE len l (l.length - (k + 1)) (k + 1):=by
 have e : entE len (l.take k) l[k] = 0:=by
  unfold entE
  rw [if_neg (by simpa using h),if_neg (ent_no hj h2),if_pos h3]
 rw [ents_at hk rfl,e,if_neg (by decide)]
theorem take_ne {l : List Ent} {j : Nat} {x : Ent} (hj : j < l.length) (h : ∀ y ∈ l.take j,¬ fold y.name = fold x.name) (h1 : ¬ fold l[j].name = fold x.name) : ∀ y ∈ l.take (j + 1),¬ fold y.name = fold x.name:=by
 rw [List.take_succ_eq_append_getElem hj]
 intro y hy
 rcases List.mem_append.1 hy with hy | hy
 ·exact h y hy
 ·rw [List.mem_singleton] at hy;subst hy;exact h1
end Go.Proofs.YtpfokhdelnlciaaGreatDoor
namespace Go.Proofs.YtpfokhdelnlciaaGreatDoor
open Go Dw
set_option maxRecDepth 10000
attribute [local irreducible] Run
set_option maxHeartbeats 1000000
open Paths
attribute [local irreducible] nameErr cut normal dots partErr text parse glue fold entsE within
theorem c18z (n lo hi z : Int) (e : hi = z) : Fn 18 [i n,i lo,i hi] (.bool (within n lo z)):=by subst e;exact c18 n lo hi
theorem nd_k {t : List Nod} {d : Int} {x : Nod} (h : within x.kind 0 3 = false) : nodE t d x = 15:=by unfold nodE;rw [if_pos h]
theorem nd_0 {t : List Nod} {d : Int} {es : List Ent} {tg : Bs} : nodE t d ⟨0,es,tg⟩ = if tg = [] then entsE t.length es es.length 0 else 3:=by
 have w : within 0 0 3 = true:=by decide +kernel
 have l : leads 0 = false:=by decide
 unfold nodE
 rw [if_neg (by rw [w];decide),if_neg (by simp),l]
 by_cases h : tg = []
 ·rw [if_neg (by simp [h]),if_pos h]
  split
  ·rfl
  ·rename_i h1
   rw [if_pos rfl];exact (Classical.not_not.1 h1).symm
 ·rw [if_pos (by simp [h]),if_neg h]
theorem nd_1 {t : List Nod} {d : Int} {es : List Ent} {tg : Bs} : nodE t d ⟨1,es,tg⟩ = if d = 0 then 35 else if es = [] ∧ tg = [] then 0 else 3:=by
 have w : within 1 0 3 = true:=by decide +kernel
 have l : leads 1 = false:=by decide
 unfold nodE
 rw [if_neg (by rw [w];decide),l]
 by_cases h0 : d = 0
 ·rw [if_pos (by simp [h0]),if_pos h0]
 ·rw [if_neg (by simp [h0]),if_neg h0]
  by_cases h : es = [] ∧ tg = []
  ·rw [if_neg (by simp [h.1,h.2]),if_pos h,h.1];simp [entsE]
  ·rw [if_pos (by by_cases h1 : es = []<;>by_cases h2 : tg = []<;>simp_all),if_neg h]
theorem nd_l {t : List Nod} {d K : Int} {es : List Ent} {tg : Bs} (hK : K = 2 ∨ K = 3) : nodE t d ⟨K,es,tg⟩ = if d = 0 then 35 else if es = [] then targE ⟨K,es,tg⟩ else 3:=by
 have w : within K 0 3 = true:=by rcases hK with rfl | rfl<;>decide +kernel
 have l : leads K = true:=by rcases hK with rfl | rfl<;>decide
 have k0 : K ≠ 0:=by omega
 unfold nodE
 rw [if_neg (by rw [w];decide),l]
 by_cases h0 : d = 0
 ·rw [if_pos (by simp [h0,k0]),if_pos h0]
 ·rw [if_neg (by simp [h0]),if_neg h0]
  by_cases h : es = []
  ·rw [if_neg (by simp [h]),if_pos h,h];simp [entsE]
  ·rw [if_pos (by simp [h,k0]),if_neg h]
theorem tg_e {K : Int} {es : List Ent} {tg : Bs} (h : ¬ (parse tg).2 = 0) : targE ⟨K,es,tg⟩ = (parse tg).2:=if_pos h
theorem tg_3 {K : Int} {es : List Ent} {tg : Bs} (h : (parse tg).2 = 0) (h1 : (parse tg).1.stream ≠ [] ∨ (K = 3 ∧ (parse tg).1.abs = false)) : targE ⟨K,es,tg⟩ = 3:=by
 unfold targE;rw [if_neg (by simpa using h),if_pos h1]
theorem tg_o {K : Int} {es : List Ent} {tg : Bs} (h : (parse tg).2 = 0) (h1 : ¬ ((parse tg).1.stream ≠ [] ∨ (K = 3 ∧ (parse tg).1.abs = false))) : targE ⟨K,es,tg⟩ = 0:=by
 unfold targE;rw [if_neg (by simpa using h),if_neg h1]
attribute [local irreducible] nodE targE
theorem c65a (t : List Nod) (d : Int) (x : Nod) (h0 : 0 ≤ d) (hd : t[d.toNat]? = some x) (hk : within x.kind 0 3 = false) : Fn 65 [treeD t,i d] (i (nodE t d x)):=by
 refine run_walkF eok Tryz.func65 rfl (by kernel_rfl) ?_
 conv=>whnf
 repeat' (first
 | ((with_reducible refine on_nf (by assumption) ?_);conv=>whnf)
 | ((with_reducible refine call_go ?_);(first | refine call_step (run_view (c18 x.kind 0 3) rfl rfl) ?_ );conv=>whnf)
 | (refine ix_nd h0 hd ?_;conv=>whnf)
 | ((with_reducible refine endx_go ?_);first | (exact endx (congrArg i (nd_k hk).symm);done))
  | fail
  )
theorem c18w0 : Fn 18 [i 0,i 0,i 3] (.bool true):=by
 have:=c18 0 0 3
 rwa [show within 0 0 3 = true by decide +kernel] at this
theorem c18w1 : Fn 18 [i 1,i 0,i 3] (.bool true):=by
 have:=c18 1 0 3
 rwa [show within 1 0 3 = true by decide +kernel] at this
theorem c18w2 : Fn 18 [i 2,i 0,i 3] (.bool true):=by
 have:=c18 2 0 3
 rwa [show within 2 0 3 = true by decide +kernel] at this
theorem c18w3 : Fn 18 [i 3,i 0,i 3] (.bool true):=by
 have:=c18 3 0 3
 rwa [show within 3 0 3 = true by decide +kernel] at this
theorem c65k0 (t : List Nod) (d : Int) (es : List Ent) (tg : Bs) (h0 : 0 ≤ d) (hd : t[d.toNat]? = some ⟨0,es,tg⟩) (ht : t.length < 1000000) (hl : es.length < 1000000) (hb : ∀ y ∈ es,y.name.length < 1000000) : Fn 65 [treeD t,i d] (i (nodE t d ⟨0,es,tg⟩)):=by
 refine run_walkF eok Tryz.func65 rfl (by kernel_rfl) ?_
 conv=>whnf
 repeat' (first
 | ((with_reducible refine on_dec (fun h=>?_) (fun h=>?_))<;>(try simp only [List.length_map] at h)<;>conv=>whnf)
 | ((with_reducible refine on_ndec (fun h=>?_) (fun h=>?_))<;>(try simp only [List.length_map] at h)<;>conv=>whnf)
 | ((with_reducible refine on_not (fun h=>?_) (fun h=>?_))<;>conv=>whnf)
 | ((with_reducible refine call_go ?_);(first | refine call_step (run_view (c18w0) rfl rfl) ?_ | refine call_step (run_view (c18z (es[k]'(by omega)).node 1 _ ((t.length : Int) - 1) (by simp only [List.length_map])) rfl rfl) ?_ | refine call_step (run_view (c67 (es[k]'(by omega)).name (hb _ (List.getElem_mem _))) rfl rfl) ?_ | refine call_step (run_view (c34 (es[j]'(by omega)).name (es[k]'(by omega)).name (hb _ (List.getElem_mem _)) (hb _ (List.getElem_mem _))) rfl rfl) ?_ );conv=>whnf)
 | (refine ⟨[],[],(by decide +kernel),?_⟩;conv=>whnf)
 | ((with_reducible refine loop_go ?_);first | (refine loop1 (fun (j : Nat)=>k - j) (fun (j : Nat)=>j ≤ k ∧ ∀ y ∈ es.take j,¬ fold y.name = fold (es[k]'(by omega)).name) (fun (j : Nat)=>[(0,.d (treeD t)),(5,.ptr 0 0 0),(6,.d (.bool false)),(7,.d (i k)),(9,.d (i j))]) (fun (j : Nat)=>[⟨[.d (Nod.enc ⟨0,es,tg⟩)],3,0⟩]) (0) (by exact ⟨Nat.zero_le _,fun y hy=>by cases hy⟩) ?_ (fun j Cj hIj hCj=>?_);(exact ⟨[.old 0],rfl,rfl,⟨(by first | (show (_ : D) = _;with_reducible rfl) ),⟨rfl,rfl,rfl⟩,(by first | (show (_ : D) = _;with_reducible rfl) ),(by first | (show (_ : D) = _;with_reducible rfl) ),(by first | exact congrArg (D.int .i64) (by omega) ),trivial⟩,⟨⟨rfl,rfl,.inl ⟨[_],rfl,rfl⟩⟩,trivial⟩⟩);all_goals (conv=>whnf)) | (refine loop1 (fun (k : Nat)=>es.length - k) (fun (k : Nat)=>k ≤ es.length ∧ entsE t.length es es.length 0 = entsE t.length es (es.length - k) k) (fun (k : Nat)=>[(0,.d (treeD t)),(5,.ptr 0 0 0),(6,.d (.bool false)),(7,.d (i k))]) (fun (k : Nat)=>[⟨[.d (Nod.enc ⟨0,es,tg⟩)],3,0⟩]) (0) (by exact ⟨Nat.zero_le _,rfl⟩) ?_ (fun k C hI hC=>?_);(exact ⟨[.old 0],rfl,rfl,⟨(by first | (show (_ : D) = _;with_reducible rfl) ),⟨rfl,rfl,rfl⟩,(by first | (refine congrArg D.bool ?_;simp_all)),(by first | exact congrArg (D.int .i64) (by omega) ),trivial⟩,⟨⟨rfl,rfl,.inl ⟨[_],rfl,rfl⟩⟩,trivial⟩⟩);all_goals (conv=>whnf)))
 | ((with_reducible show C _ _);first | (refine hC (k + 1) _ _ ?_ (by omega) ?_;clear hC;rotate_left;(exact ⟨[.old 0],rfl,rfl,⟨(by first | (show (_ : D) = _;with_reducible rfl) ),⟨rfl,rfl,rfl⟩,(by first | (show (_ : D) = _;with_reducible rfl) ),(by first | exact congrArg (D.int .i64) (by omega) ),trivial⟩,⟨⟨rfl,rfl,.inl ⟨[_],rfl,rfl⟩⟩,trivial⟩⟩);(exact ⟨by omega,hI.2.trans (ent_d (j:=j) (by omega) (by omega) (by assumption) hIj.2 (by assumption))⟩)))
 | ((with_reducible show Cj _ _);first | (refine hCj (j + 1) _ _ ?_ (by omega) ?_;clear hCj;rotate_left;(exact ⟨[.old 0],rfl,rfl,⟨(by first | (show (_ : D) = _;with_reducible rfl) ),⟨rfl,rfl,rfl⟩,(by first | (show (_ : D) = _;with_reducible rfl) ),(by first | (show (_ : D) = _;with_reducible rfl) ),(by first | exact congrArg (D.int .i64) (by omega) ),trivial⟩,⟨⟨rfl,rfl,.inl ⟨[_],rfl,rfl⟩⟩,trivial⟩⟩);(exact ⟨by omega,take_ne (by omega) hIj.2 (by assumption)⟩)))
 | (refine wrap64 (by omega) ?_;conv=>whnf)
 | (refine wrap64 (by first | (simp only [List.length_map];omega)) ?_;conv=>whnf)
 | (refine ix_nd h0 hd ?_;conv=>whnf)
 | (refine ix_map (l:=es) (f:=Ent.enc) (by omega) ?_;conv=>whnf)
 | ((with_reducible refine endx_go ?_);first | (exact endx (congrArg i (nd_0.trans (if_neg (by first | exact of_decide_eq_false (by assumption)))).symm);done) | (exact endx (congrArg i ((nd_0.trans (if_pos (of_decide_eq_true (by assumption)))).trans (hI.2.trans (ent_a (by omega) h))).symm);done) | (exact endx (congrArg i ((nd_0.trans (if_pos (of_decide_eq_true (by assumption)))).trans (hI.2.trans (ent_b (j:=j) (by omega) (by omega) (by assumption) h))).symm);done) | (exact endx (congrArg i ((nd_0.trans (if_pos (of_decide_eq_true (by assumption)))).trans (hI.2.trans (ent_c (j:=j) (by omega) (by omega) (by assumption) hIj.2 (by assumption)))).symm);done) | (exact endx (congrArg i ((nd_0.trans (if_pos (of_decide_eq_true (by assumption)))).trans (hI.2.trans (ents_end (by omega)))).symm);done))
  | fail
  )
theorem c65k1 (t : List Nod) (d : Int) (es : List Ent) (tg : Bs) (h0 : 0 ≤ d) (hd : t[d.toNat]? = some ⟨1,es,tg⟩) (ht : t.length < 1000000) (hl : es.length < 1000000) (hb : ∀ y ∈ es,y.name.length < 1000000) : Fn 65 [treeD t,i d] (i (nodE t d ⟨1,es,tg⟩)):=by
 refine run_walkF eok Tryz.func65 rfl (by kernel_rfl) ?_
 conv=>whnf
 repeat' (first
 | ((with_reducible refine on_dec_f ?_ ?_);(focus ((try simp only [List.length_map,List.length_cons,List.length_nil,List.length_append]);omega));conv=>whnf)
 | ((with_reducible refine on_dec (fun h=>?_) (fun h=>?_))<;>(try simp only [List.length_map] at h)<;>conv=>whnf)
 | ((with_reducible refine on_not (fun h=>?_) (fun h=>?_))<;>conv=>whnf)
 | ((with_reducible refine call_go ?_);(first | refine call_step (run_view (c18w1) rfl rfl) ?_ );conv=>whnf)
 | ((with_reducible refine loop_go ?_);first | (refine loop1 (fun (k : Nat)=>es.length - k) (fun (k : Nat)=>k ≤ es.length ∧ entsE t.length es es.length 0 = entsE t.length es (es.length - k) k) (fun (k : Nat)=>[(0,.d (treeD t)),(5,.ptr 0 0 0),(6,.d (.bool false)),(7,.d (i k))]) (fun (k : Nat)=>[⟨[.d (Nod.enc ⟨1,es,tg⟩)],3,0⟩]) (0) (by exact ⟨Nat.zero_le _,rfl⟩) ?_ (fun k C hI hC=>?_);(exact ⟨[.old 0],rfl,rfl,⟨(by first | (show (_ : D) = _;with_reducible rfl) ),⟨rfl,rfl,rfl⟩,(by first | (refine congrArg D.bool ?_;simp_all)),(by first | exact congrArg (D.int .i64) (by omega) ),trivial⟩,⟨⟨rfl,rfl,.inl ⟨[_],rfl,rfl⟩⟩,trivial⟩⟩);all_goals (conv=>whnf)))
 | (refine ix_nd h0 hd ?_;conv=>whnf)
 | ((with_reducible refine endx_go ?_);first | (exact endx (congrArg i (nd_1.trans (if_pos h)).symm);done) | (exact endx (congrArg i (nd_1.trans ((if_neg (by omega)).trans (if_neg (fun hh=>by have:=congrArg List.length hh.1;simp only [List.length_nil] at this;omega)))).symm);done) | (exact endx (congrArg i (nd_1.trans ((if_neg (by omega)).trans (if_neg (fun hh=>(by first | exact (of_decide_eq_false h : ¬ tg = []) hh.2))))).symm);done) | (exact endx (congrArg i (nd_1.trans ((if_neg (by omega)).trans (if_pos ⟨List.length_eq_zero_iff.1 (by omega),of_decide_eq_true (by assumption)⟩))).symm);done))
  | fail
  )
theorem c65k2 (t : List Nod) (d : Int) (es : List Ent) (tg : Bs) (h0 : 0 ≤ d) (hd : t[d.toNat]? = some ⟨2,es,tg⟩) (ht : t.length < 1000000) (hl : es.length < 1000000) (hb : ∀ y ∈ es,y.name.length < 1000000) : Fn 65 [treeD t,i d] (i (nodE t d ⟨2,es,tg⟩)):=by
 refine run_walkF eok Tryz.func65 rfl (by kernel_rfl) ?_
 conv=>whnf
 repeat' (first
 | ((with_reducible refine on_dec_f ?_ ?_);(focus ((try simp only [List.length_map,List.length_cons,List.length_nil,List.length_append]);omega));conv=>whnf)
 | ((with_reducible refine on_dec (fun h=>?_) (fun h=>?_))<;>(try simp only [List.length_map] at h)<;>conv=>whnf)
 | ((with_reducible refine on_ndec (fun h=>?_) (fun h=>?_))<;>(try simp only [List.length_map] at h)<;>conv=>whnf)
 | ((with_reducible refine on_not (fun h=>?_) (fun h=>?_))<;>conv=>whnf)
 | ((with_reducible refine call_go ?_);(first | refine call_step (run_view (c18w2) rfl rfl) ?_ | refine call_step (run_viewF (c30 tg) rfl) ?_);conv=>whnf)
 | ((with_reducible refine loop_go ?_);first | (refine loop1 (fun (k : Nat)=>es.length - k) (fun (k : Nat)=>k ≤ es.length ∧ entsE t.length es es.length 0 = entsE t.length es (es.length - k) k) (fun (k : Nat)=>[(0,.d (treeD t)),(5,.ptr 0 0 0),(6,.d (.bool true)),(7,.d (i k))]) (fun (k : Nat)=>[⟨[.d (Nod.enc ⟨2,es,tg⟩)],3,0⟩]) (0) (by exact ⟨Nat.zero_le _,rfl⟩) ?_ (fun k C hI hC=>?_);(exact ⟨[.old 0],rfl,rfl,⟨(by first | (show (_ : D) = _;with_reducible rfl) ),⟨rfl,rfl,rfl⟩,(by first | (show (_ : D) = _;with_reducible rfl) ),(by first | exact congrArg (D.int .i64) (by omega) ),trivial⟩,⟨⟨rfl,rfl,.inl ⟨[_],rfl,rfl⟩⟩,trivial⟩⟩);all_goals (conv=>whnf)))
 | (refine ix_nd h0 hd ?_;conv=>whnf)
 | ((with_reducible refine endx_go ?_);first | (exact endx (congrArg i ((nd_l (by omega : (2 : Int) = 2 ∨ (2 : Int) = 3)).trans (if_pos h)).symm);done) | (exact endx (congrArg i ((nd_l (by omega : (2 : Int) = 2 ∨ (2 : Int) = 3)).trans ((if_neg (by omega)).trans (if_neg (fun hh=>by have:=congrArg List.length hh;simp only [List.length_nil] at this;omega)))).symm);done) | (exact endx (congrArg i ((nd_l (by omega : (2 : Int) = 2 ∨ (2 : Int) = 3)).trans ((if_neg (by omega)).trans ((if_pos (List.length_eq_zero_iff.1 (by omega))).trans (tg_e h)))).symm);done) | (exact endx (congrArg i ((nd_l (by omega : (2 : Int) = 2 ∨ (2 : Int) = 3)).trans ((if_neg (by omega)).trans ((if_pos (List.length_eq_zero_iff.1 (by omega))).trans (tg_3 (by assumption) (by simp_all))))).symm);done) | (exact endx (congrArg i ((nd_l (by omega : (2 : Int) = 2 ∨ (2 : Int) = 3)).trans ((if_neg (by omega)).trans ((if_pos (List.length_eq_zero_iff.1 (by omega))).trans (tg_o (by assumption) (by simp_all))))).symm);done))
  | fail
  )
theorem c65k3 (t : List Nod) (d : Int) (es : List Ent) (tg : Bs) (h0 : 0 ≤ d) (hd : t[d.toNat]? = some ⟨3,es,tg⟩) (ht : t.length < 1000000) (hl : es.length < 1000000) (hb : ∀ y ∈ es,y.name.length < 1000000) : Fn 65 [treeD t,i d] (i (nodE t d ⟨3,es,tg⟩)):=by
 refine run_walkF eok Tryz.func65 rfl (by kernel_rfl) ?_
 conv=>whnf
 repeat' (first
 | ((with_reducible refine on_dec_f ?_ ?_);(focus ((try simp only [List.length_map,List.length_cons,List.length_nil,List.length_append]);omega));conv=>whnf)
 | ((with_reducible refine on_dec (fun h=>?_) (fun h=>?_))<;>(try simp only [List.length_map] at h)<;>conv=>whnf)
 | ((with_reducible refine on_ndec (fun h=>?_) (fun h=>?_))<;>(try simp only [List.length_map] at h)<;>conv=>whnf)
 | ((with_reducible refine on_not (fun h=>?_) (fun h=>?_))<;>conv=>whnf)
 | ((with_reducible refine call_go ?_);(first | refine call_step (run_view (c18w3) rfl rfl) ?_ | refine call_step (run_viewF (c30 tg) rfl) ?_);conv=>whnf)
 | ((with_reducible refine loop_go ?_);first | (refine loop1 (fun (k : Nat)=>es.length - k) (fun (k : Nat)=>k ≤ es.length ∧ entsE t.length es es.length 0 = entsE t.length es (es.length - k) k) (fun (k : Nat)=>[(0,.d (treeD t)),(5,.ptr 0 0 0),(6,.d (.bool true)),(7,.d (i k))]) (fun (k : Nat)=>[⟨[.d (Nod.enc ⟨3,es,tg⟩)],3,0⟩]) (0) (by exact ⟨Nat.zero_le _,rfl⟩) ?_ (fun k C hI hC=>?_);(exact ⟨[.old 0],rfl,rfl,⟨(by first | (show (_ : D) = _;with_reducible rfl) ),⟨rfl,rfl,rfl⟩,(by first | (refine congrArg D.bool ?_;simp_all)),(by first | exact congrArg (D.int .i64) (by omega) ),trivial⟩,⟨⟨rfl,rfl,.inl ⟨[_],rfl,rfl⟩⟩,trivial⟩⟩);all_goals (conv=>whnf)))
 | (refine ix_nd h0 hd ?_;conv=>whnf)
 | ((with_reducible refine endx_go ?_);first | (exact endx (congrArg i ((nd_l (by omega : (3 : Int) = 2 ∨ (3 : Int) = 3)).trans (if_pos h)).symm);done) | (exact endx (congrArg i ((nd_l (by omega : (3 : Int) = 2 ∨ (3 : Int) = 3)).trans ((if_neg (by omega)).trans (if_neg (fun hh=>by have:=congrArg List.length hh;simp only [List.length_nil] at this;omega)))).symm);done) | (exact endx (congrArg i ((nd_l (by omega : (3 : Int) = 2 ∨ (3 : Int) = 3)).trans ((if_neg (by omega)).trans ((if_pos (List.length_eq_zero_iff.1 (by omega))).trans (tg_e h)))).symm);done) | (exact endx (congrArg i ((nd_l (by omega : (3 : Int) = 2 ∨ (3 : Int) = 3)).trans ((if_neg (by omega)).trans ((if_pos (List.length_eq_zero_iff.1 (by omega))).trans (tg_3 (by assumption) (by simp_all))))).symm);done) | (exact endx (congrArg i ((nd_l (by omega : (3 : Int) = 2 ∨ (3 : Int) = 3)).trans ((if_neg (by omega)).trans ((if_pos (List.length_eq_zero_iff.1 (by omega))).trans (tg_o (by assumption) (by simp_all))))).symm);done))
  | fail
  )
theorem c65 (t : List Nod) (d : Int) (x : Nod) (h0 : 0 ≤ d) (hd : t[d.toNat]? = some x) (ht : t.length < 1000000) (hl : x.ents.length < 1000000) (hb : ∀ y ∈ x.ents,y.name.length < 1000000) : Fn 65 [treeD t,i d] (i (nodE t d x)):=by
 cases hk : within x.kind 0 3 with
 | false=>exact c65a t d x h0 hd hk
 | true=>
  have hw : 0 ≤ x.kind ∧ x.kind ≤ 3:=(by simpa [within] using hk)
  obtain ⟨K,es,tg⟩:=x
  have : K = 0 ∨ K = 1 ∨ K = 2 ∨ K = 3:=by simp only at hw;omega
  rcases this with rfl | rfl | rfl | rfl
  ·exact c65k0 t d es tg h0 hd ht hl hb
  ·exact c65k1 t d es tg h0 hd ht hl hb
  ·exact c65k2 t d es tg h0 hd ht hl hb
  ·exact c65k3 t d es tg h0 hd ht hl hb
end Go.Proofs.YtpfokhdelnlciaaGreatDoor
namespace Go.Proofs.YtpfokhdelnlciaaGreatDoor
open Go Dw
set_option maxRecDepth 10000
attribute [local irreducible] Run
set_option maxHeartbeats 1000000
open Paths
attribute [local irreducible] nameErr cut normal dots partErr text parse glue fold within
def bitN (b : Bool) : Nat:=if b then 1 else 0
theorem c102n (b : Bool) : Fn 102 [.bool b] (i (bitN b : Nat)):=by
 have:=c102 b
 cases b<;>exact this
def cntE : List Ent → Int → Nat
 | [],_=>0
 | e :: l,n=>bitN (decide (e.node = n)) + cntE l n
def namesR : List Nod → Int → Nat
 | [],_=>0
 | x :: t,n=>cntE x.ents n + namesR t n
theorem cntE_take {n : Int} : ∀ (l : List Ent) (m : Nat) (h : m < l.length),cntE (l.take (m + 1)) n = cntE (l.take m) n + bitN (decide (l[m].node = n))
 | e :: l,0,_=>by simp [cntE]
 | e :: l,m + 1,h=>by
  have:=cntE_take (n:=n) l m (by simpa using h)
  simp only [List.take_succ_cons,cntE,List.getElem_cons_succ,this];omega
theorem cntE_le {n : Int} : ∀ (l : List Ent),cntE l n ≤ l.length
 | []=>by simp [cntE]
 | e :: l=>by
  have:=cntE_le (n:=n) l
  have : bitN (decide (e.node = n)) ≤ 1:=by unfold bitN;split<;>omega
  simp only [cntE,List.length_cons];omega
theorem names_take {n : Int} : ∀ (t : List Nod) (k : Nat) (h : k < t.length),namesR (t.take (k + 1)) n = namesR (t.take k) n + cntE t[k].ents n
 | x :: t,0,_=>by simp [namesR]
 | x :: t,k + 1,h=>by
  have:=names_take (n:=n) t k (by simpa using h)
  simp only [List.take_succ_cons,namesR,List.getElem_cons_succ,this];omega
theorem bitN_le (b : Bool) : bitN b ≤ 1:=by unfold bitN;split<;>omega
attribute [local irreducible] namesR cntE bitN
theorem c66 (t : List Nod) (n : Int) (ht : t.length < 1000000) (hb : ∀ x ∈ t,x.ents.length < 1000000) : Fn 66 [treeD t,i n] (i (namesR t n : Nat)):=by
 refine run_walkF eok Tryz.func66 rfl (by kernel_rfl) ?_
 conv=>whnf
 repeat' (first
 | ((with_reducible refine on_dec_t (by assumption) ?_);conv=>whnf)
 | ((with_reducible refine on_dec_f (by assumption) ?_);conv=>whnf)
 | ((with_reducible refine onBool_t (by assumption) ?_);conv=>whnf)
 | ((with_reducible refine onBool_f (by assumption) ?_);conv=>whnf)
 | ((with_reducible refine on_nt (by assumption) ?_);conv=>whnf)
 | ((with_reducible refine on_nf (by assumption) ?_);conv=>whnf)
 | ((with_reducible refine on_ndec_t (by first | assumption | rfl) ?_);conv=>whnf)
 | ((with_reducible refine on_ndec_f (by assumption) ?_);conv=>whnf)
 | ((with_reducible refine on_dec_t rfl ?_);conv=>whnf)
 | ((with_reducible refine on_dec_f ?_ ?_);(focus ((try simp only [List.length_map,List.length_cons,List.length_nil,List.length_append]);omega));conv=>whnf)
 | ((with_reducible refine on_dec_t ?_ ?_);(focus ((try simp only [List.length_map,List.length_cons,List.length_nil,List.length_append]);omega));conv=>whnf)
 | ((with_reducible refine on_dec (fun h=>?_) (fun h=>?_))<;>(try simp only [List.length_map] at h)<;>conv=>whnf)
 | ((with_reducible refine on_ndec (fun h=>?_) (fun h=>?_))<;>(try simp only [List.length_map] at h)<;>conv=>whnf)
 | ((with_reducible refine on_not (fun h=>?_) (fun h=>?_))<;>conv=>whnf)
 | ((with_reducible refine onBool_split (fun h=>?_) (fun h=>?_))<;>conv=>whnf)
 | ((with_reducible refine call_go ?_);(first | refine call_step (run_data (xs:=[_]) (c102n _) _) ?_);conv=>whnf)
 | ((with_reducible refine loop_go ?_);first | (refine loop2 (fun (m : Nat) (b : Nat)=>(t[k]'(by omega)).ents.length - m) (fun (m : Nat) (b : Nat)=>m ≤ (t[k]'(by omega)).ents.length ∧ b = c + cntE ((t[k]'(by omega)).ents.take m) n ∧ b ≤ c + m) (fun (m : Nat) (b : Nat)=>[(0,.d (treeD t)),(1,.d (i n)),(5,.d (i b)),(6,.d (i k)),(7,.d (i m))]) (fun (m : Nat) (b : Nat)=>[]) (0) (c) (by exact ⟨Nat.zero_le _,(by rw [List.take_zero];unfold cntE;rfl),by omega⟩) ?_ (fun m b Cm hIm hCm=>?_);(exact ⟨[],rfl,rfl,⟨(by first | (show (_ : D) = _;with_reducible rfl) | exact rfl),(by first | (show (_ : D) = _;with_reducible rfl) | exact congrArg (D.int .i64) (by omega) | exact congrArg (D.int .i64) (by simp only [List.length_map]) | exact rfl),(by first | (show (_ : D) = _;with_reducible rfl) | exact congrArg (D.int .i64) (by omega) | exact congrArg (D.int .i64) (by simp only [List.length_map]) | exact rfl),(by first | (show (_ : D) = _;with_reducible rfl) | exact congrArg (D.int .i64) (by omega) | exact congrArg (D.int .i64) (by simp only [List.length_map]) | exact rfl),(by first | (show (_ : D) = _;with_reducible rfl) | exact congrArg (D.int .i64) (by omega) | exact congrArg (D.int .i64) (by simp only [List.length_map]) | exact rfl),trivial⟩,trivial⟩);all_goals (conv=>whnf)) | (refine loop2 (fun (k : Nat) (c : Nat)=>t.length - k) (fun (k : Nat) (c : Nat)=>k ≤ t.length ∧ c = namesR (t.take k) n ∧ c ≤ 1000000 * k) (fun (k : Nat) (c : Nat)=>[(0,.d (treeD t)),(1,.d (i n)),(5,.d (i c)),(6,.d (i k))]) (fun (k : Nat) (c : Nat)=>[]) (0) (0) (by exact ⟨Nat.zero_le _,(by unfold namesR;rfl),by omega⟩) ?_ (fun k c C hI hC=>?_);(exact ⟨[],rfl,rfl,⟨(by first | (show (_ : D) = _;with_reducible rfl) | exact rfl),(by first | (show (_ : D) = _;with_reducible rfl) | exact congrArg (D.int .i64) (by omega) | exact congrArg (D.int .i64) (by simp only [List.length_map]) | exact rfl),(by first | (show (_ : D) = _;with_reducible rfl) | exact congrArg (D.int .i64) (by omega) | exact congrArg (D.int .i64) (by simp only [List.length_map]) | exact rfl),(by first | (show (_ : D) = _;with_reducible rfl) | exact congrArg (D.int .i64) (by omega) | exact congrArg (D.int .i64) (by simp only [List.length_map]) | exact rfl),trivial⟩,trivial⟩);all_goals (conv=>whnf)))
 | ((with_reducible show C _ _);first | (refine hC (k + 1) (b) _ _ ?_ (by omega) ?_;clear hC;rotate_left;(exact ⟨[],rfl,rfl,⟨(by first | (show (_ : D) = _;with_reducible rfl) | exact rfl),(by first | (show (_ : D) = _;with_reducible rfl) | exact congrArg (D.int .i64) (by omega) | exact congrArg (D.int .i64) (by simp only [List.length_map]) | exact rfl),(by first | (show (_ : D) = _;with_reducible rfl) | exact congrArg (D.int .i64) (by omega) | exact congrArg (D.int .i64) (by simp only [List.length_map]) | exact rfl),(by first | (show (_ : D) = _;with_reducible rfl) | exact congrArg (D.int .i64) (by omega) | exact congrArg (D.int .i64) (by simp only [List.length_map]) | exact rfl),trivial⟩,trivial⟩);(exact ⟨by omega,by rw [names_take t k (by omega),← hI.2.1,hIm.2.1,List.take_of_length_le (by omega)],by have:=hb _ (List.getElem_mem (by omega : k < t.length));have:=hIm.2.2;have:=hI.2.2;omega⟩)))
 | ((with_reducible show Cm _ _);first | (refine hCm (m + 1) (b + bitN (decide (((t[k]'(by omega)).ents[m]'(by omega)).node = n))) _ _ ?_ (by omega) ?_;clear hCm;rotate_left;(exact ⟨[],rfl,rfl,⟨(by first | (show (_ : D) = _;with_reducible rfl) | exact rfl),(by first | (show (_ : D) = _;with_reducible rfl) | exact congrArg (D.int .i64) (by omega) | exact congrArg (D.int .i64) (by simp only [List.length_map]) | exact rfl),(by first | (show (_ : D) = _;with_reducible rfl) | exact congrArg (D.int .i64) (by omega) | exact congrArg (D.int .i64) (by simp only [List.length_map]) | exact rfl),(by first | (show (_ : D) = _;with_reducible rfl) | exact congrArg (D.int .i64) (by omega) | exact congrArg (D.int .i64) (by simp only [List.length_map]) | exact rfl),(by first | (show (_ : D) = _;with_reducible rfl) | exact congrArg (D.int .i64) (by omega) | exact congrArg (D.int .i64) (by simp only [List.length_map]) | exact rfl),trivial⟩,trivial⟩);(exact ⟨by omega,by rw [cntE_take _ m (by omega),hIm.2.1];omega,by have:=bitN_le (decide (((t[k]'(by omega)).ents[m]'(by omega)).node = n));have:=hIm.2.2;omega⟩)))
 | (refine ⟨⟨(by first | rfl | (simp;done)),cap_ok (by simp only [List.length_map,List.length_cons,List.length_nil,List.length_append];omega) rfl⟩,?_⟩;conv=>whnf)
 | (refine ⟨mem_one ⟨rfl,rfl⟩,?_⟩;conv=>whnf)
 | (refine ⟨(by intro y hy;obtain ⟨x,_,rfl⟩:=List.mem_map.1 hy;first | rfl | exact ⟨rfl,rfl⟩),?_⟩;conv=>whnf)
 | (refine ⟨cap_ok (by first | omega | (simp only [List.length_map];omega)) rfl,?_⟩;conv=>whnf)
 | (refine ix_map (by omega) ?_;conv=>whnf)
 | (refine ix_str (by omega) ?_;conv=>whnf)
 | (refine wrap64 (by omega) ?_;conv=>whnf)
 | (refine wrap64 (by first | omega | (simp only [List.length_map];omega)) ?_;conv=>whnf)
 | (refine wrap64 (by have:=hb _ (List.getElem_mem (by omega : k < t.length));have:=bitN_le (decide (((t[k]'(by omega)).ents[m]'(by omega)).node = n));have:=hIm.2.2;have:=hI.2.2;omega) ?_;conv=>whnf)
 | (refine ix_map (l:=t) (f:=Nod.enc) (by omega) ?_;conv=>whnf)
 | (refine ix_map (l:=(t[k]'(by omega)).ents) (f:=Ent.enc) (by omega) ?_;conv=>whnf)
 | (exfalso;simp only [List.length_map,List.length_cons,List.length_nil,List.length_append] at h;omega)
 | ((with_reducible refine endx_go ?_);first | (exact endx (congrArg i (by rw [hI.2.1,List.take_of_length_le (by omega)]));done))
 | (refine ⟨rfl,?_⟩;conv=>whnf)
  | fail
  )
theorem c44 (t : List Nod) (n : Int) (ht : t.length < 1000000) : Fn 44 [treeD t,i n] (i (if within n 0 ((t.length : Int) - 1) = true then 0 else 6)):=by
 refine run_walkF eok Tryz.func44 rfl (by kernel_rfl) ?_
 conv=>whnf
 repeat' (first
 | ((with_reducible refine on_dec_t (by assumption) ?_);conv=>whnf)
 | ((with_reducible refine on_dec_f (by assumption) ?_);conv=>whnf)
 | ((with_reducible refine onBool_t (by assumption) ?_);conv=>whnf)
 | ((with_reducible refine onBool_f (by assumption) ?_);conv=>whnf)
 | ((with_reducible refine on_nt (by assumption) ?_);conv=>whnf)
 | ((with_reducible refine on_nf (by assumption) ?_);conv=>whnf)
 | ((with_reducible refine on_ndec_t (by first | assumption | rfl) ?_);conv=>whnf)
 | ((with_reducible refine on_ndec_f (by assumption) ?_);conv=>whnf)
 | ((with_reducible refine on_dec_t rfl ?_);conv=>whnf)
 | ((with_reducible refine on_dec_f ?_ ?_);(focus ((try simp only [List.length_map,List.length_cons,List.length_nil,List.length_append]);omega));conv=>whnf)
 | ((with_reducible refine on_dec_t ?_ ?_);(focus ((try simp only [List.length_map,List.length_cons,List.length_nil,List.length_append]);omega));conv=>whnf)
 | ((with_reducible refine on_dec (fun h=>?_) (fun h=>?_))<;>(try simp only [List.length_map] at h)<;>conv=>whnf)
 | ((with_reducible refine on_ndec (fun h=>?_) (fun h=>?_))<;>(try simp only [List.length_map] at h)<;>conv=>whnf)
 | ((with_reducible refine on_not (fun h=>?_) (fun h=>?_))<;>conv=>whnf)
 | ((with_reducible refine onBool_split (fun h=>?_) (fun h=>?_))<;>conv=>whnf)
 | ((with_reducible refine call_go ?_);(first | refine call_step (run_view (c18z n 0 _ ((t.length : Int) - 1) (by simp only [List.length_map])) rfl rfl) ?_);conv=>whnf)
 | (refine ⟨⟨(by first | rfl | (simp;done)),cap_ok (by simp only [List.length_map,List.length_cons,List.length_nil,List.length_append];omega) rfl⟩,?_⟩;conv=>whnf)
 | (refine ⟨mem_one ⟨rfl,rfl⟩,?_⟩;conv=>whnf)
 | (refine ⟨(by intro y hy;obtain ⟨x,_,rfl⟩:=List.mem_map.1 hy;first | rfl | exact ⟨rfl,rfl⟩),?_⟩;conv=>whnf)
 | (refine ⟨cap_ok (by first | omega | (simp only [List.length_map];omega)) rfl,?_⟩;conv=>whnf)
 | (refine ix_map (by omega) ?_;conv=>whnf)
 | (refine ix_str (by omega) ?_;conv=>whnf)
 | (refine wrap64 (by omega) ?_;conv=>whnf)
 | (refine wrap64 (by first | omega | (simp only [List.length_map];omega)) ?_;conv=>whnf)
 | (exfalso;simp only [List.length_map,List.length_cons,List.length_nil,List.length_append] at h;omega)
 | ((with_reducible refine endx_go ?_);first | (exact endx (congrArg i (if_neg (by rw [h];decide)).symm);done) | (exact endx (congrArg i (if_pos h).symm);done))
 | (refine ⟨rfl,?_⟩;conv=>whnf)
  | fail
  )
end Go.Proofs.YtpfokhdelnlciaaGreatDoor
namespace Go.Proofs.YtpfokhdelnlciaaGreatDoor
open Go Dw
def Good (t : List Nod) : Prop:=∀ x ∈ t,∀ e ∈ x.ents,1 ≤ e.node ∧ e.node ≤ (t.length : Int) - 1
inductive Reach (t : List Nod) (a : Nat) : Nat → Prop
 | refl : Reach t a a
 | step {b : Nat} {x : Nod} {e : Ent} : Reach t a b → t[b]? = some x → e ∈ x.ents → Reach t a e.node.toNat
def isT (R : List Bool) (k : Nat) : Prop:=R[k]? = some true
def setT (R : List Bool) (e : Ent) : List Bool:=R.set e.node.toNat true
def markE (R : List Bool) (l : List Ent) : List Bool:=l.foldl setT R
def markI (t : List Nod) (R : List Bool) (k : Nat) : List Bool:=match t[k]? with
 | some x=>if R[k]? = some true then markE R x.ents else R
 | none=>R
def roundP (t : List Nod) (R : List Bool) (k : Nat) : List Bool:=(List.range k).foldl (markI t) R
def roundsR (t : List Nod) (R : List Bool) : Nat → List Bool
 | 0=>R
 | n + 1=>roundP t (roundsR t R n) t.length
def startR (t : List Nod) (a : Nat) : List Bool:=(List.replicate t.length false).set a true
def rchF (t : List Nod) (a : Nat) : List Bool:=roundsR t (startR t a) t.length
theorem setT_len (R : List Bool) (e : Ent) : (setT R e).length = R.length:=by simp [setT]
theorem markE_len : ∀ (l : List Ent) (R : List Bool),(markE R l).length = R.length
 | [],R=>rfl
 | e :: l,R=>by
  show (markE (setT R e) l).length = _
  rw [markE_len l,setT_len]
theorem markE_snoc (R : List Bool) (l : List Ent) (e : Ent) : markE R (l ++ [e]) = setT (markE R l) e:=by simp [markE,List.foldl_append]
theorem isT_set {R : List Bool} {m k : Nat} : isT (R.set m true) k ↔ isT R k ∨ (m = k ∧ k < R.length):=by
 unfold isT
 rw [List.getElem?_set]
 by_cases h : m = k
 ·subst h
  by_cases h2 : m < R.length
  ·simp [h2]
  ·simp [h2]
 ·simp [h]
theorem isT_lt {R : List Bool} {k : Nat} (h : isT R k) : k < R.length:=(List.getElem?_eq_some_iff.1 h).1
theorem isT_markE {k : Nat} : ∀ (l : List Ent) (R : List Bool),isT (markE R l) k ↔ isT R k ∨ (k < R.length ∧ ∃ e ∈ l,e.node.toNat = k)
 | [],R=>by simp [markE]
 | e :: l,R=>by
  show isT (markE (setT R e) l) k ↔ _
  rw [isT_markE l,setT_len]
  unfold setT
  rw [isT_set]
  constructor
  ·rintro ((h | h) | h)
   ·exact .inl h
   ·exact .inr ⟨h.2,e,by simp,h.1⟩
   ·obtain ⟨h1, e', h2, h3⟩ := h
    exact .inr ⟨h1, e', by simp [h2], h3⟩
  ·rintro (h | ⟨h1, e', h2, h3⟩)
   ·exact .inl (.inl h)
   ·rcases List.mem_cons.1 h2 with rfl | h2
    ·exact .inl (.inr ⟨h3,h1⟩)
    ·exact .inr ⟨h1, e', h2, h3⟩
theorem markI_len (t : List Nod) (R : List Bool) (k : Nat) : (markI t R k).length = R.length:=by
 unfold markI
 split
 ·split
  ·exact markE_len _ _
  ·rfl
 ·rfl
theorem markI_mono {t : List Nod} {R : List Bool} {k j : Nat} (h : isT R j) : isT (markI t R k) j:=by
 unfold markI
 split
 ·split
  ·exact (isT_markE _ _).2 (.inl h)
  ·exact h
 ·exact h
theorem roundP_succ (t : List Nod) (R : List Bool) (k : Nat) : roundP t R (k + 1) = markI t (roundP t R k) k:=by simp [roundP,List.range_succ,List.foldl_append]
theorem roundP_len (t : List Nod) (R : List Bool) : ∀ k,(roundP t R k).length = R.length
 | 0=>rfl
 | k + 1=>by rw [roundP_succ,markI_len,roundP_len t R k]
theorem roundP_mono {t : List Nod} {R : List Bool} {j m : Nat} (h : isT (roundP t R m) j) : ∀ k,m ≤ k → isT (roundP t R k) j
  | 0, hk => by have : m = 0 := by omega
                subst this;exact h
  | k + 1,hk=>by
    by_cases e : m = k + 1
    · subst e;exact h
    · rw [roundP_succ];exact markI_mono (roundP_mono h k (by omega))
theorem rounds_len (t : List Nod) (R : List Bool) : ∀ n,(roundsR t R n).length = R.length
 | 0=>rfl
 | n + 1=>by show (roundP t (roundsR t R n) t.length).length = _;rw [roundP_len,rounds_len t R n]
theorem markI_sound {t : List Nod} {R : List Bool} {a k : Nat} (h : ∀ j,isT R j → Reach t a j) : ∀ j,isT (markI t R k) j → Reach t a j:=by
 intro j hj
 unfold markI at hj
 split at hj
 ·rename_i x hx
  split at hj
  ·rename_i hk
   rcases (isT_markE _ _).1 hj with hj | ⟨_,e,he,rfl⟩
   ·exact h j hj
   ·exact .step (h k hk) hx he
  ·exact h j hj
 ·exact h j hj
theorem roundP_sound {t : List Nod} {R : List Bool} {a : Nat} (h : ∀ j,isT R j → Reach t a j) : ∀ k j,isT (roundP t R k) j → Reach t a j
 | 0=>h
 | k + 1=>by rw [roundP_succ];exact markI_sound (roundP_sound h k)
theorem rounds_sound {t : List Nod} {R : List Bool} {a : Nat} (h : ∀ j,isT R j → Reach t a j) : ∀ n j,isT (roundsR t R n) j → Reach t a j
 | 0=>h
 | n + 1=>roundP_sound (rounds_sound h n) t.length
theorem start_T {t : List Nod} {a j : Nat} : isT (startR t a) j ↔ a = j ∧ j < t.length:=by
 unfold startR
 rw [isT_set]
 simp [isT,List.getElem?_replicate]
def Closed (t : List Nod) (R : List Bool) : Prop:=∀ k x,t[k]? = some x → isT R k → ∀ e ∈ x.ents,isT R e.node.toNat
theorem closed_all {t : List Nod} {R : List Bool} {a : Nat} (hc : Closed t R) (ha : isT R a) : ∀ j,Reach t a j → isT R j:=by
 intro j hj
 induction hj with
 | refl=>exact ha
 | step _ hx he ih=>exact hc _ _ hx ih _ he
theorem fix_closed {t : List Nod} {R : List Bool} (hg : Good t) (hl : R.length = t.length) (hf : roundP t R t.length = R) : Closed t R:=by
 intro k x hx hk e he
 have hkl : k < t.length:=(List.getElem?_eq_some_iff.1 hx).1
 have h1 : isT (roundP t R k) k:=roundP_mono (m:=0) hk k (by omega)
 have h2 : isT (roundP t R (k + 1)) e.node.toNat:=by
  rw [roundP_succ]
  unfold markI
  rw [hx]
  simp only
  rw [if_pos (show (roundP t R k)[k]? = some true from h1),isT_markE]
  have:=hg x (List.mem_of_getElem? hx) e he
  exact .inr ⟨by rw [roundP_len,hl];omega,e,he,rfl⟩
 have h3:=roundP_mono h2 t.length (by omega)
 rwa [hf] at h3
def cntT (R : List Bool) : Nat:=R.countP id
theorem cnt_le : ∀ (R S : List Bool),R.length = S.length → (∀ k,isT R k → isT S k) → cntT R ≤ cntT S ∧ (cntT R = cntT S → R = S)
 | [],[],_,_=>⟨Nat.le_refl _,fun _=>rfl⟩
 | [],_ :: _,h,_=>by simp at h
 | _ :: _,[],h,_=>by simp at h
 | a :: R,b :: S,h,hm=>by
  obtain ⟨h1,h2⟩:=cnt_le R S (by simpa using h) fun k hk=>by have:=hm (k + 1);simpa [isT] using this (by simpa [isT] using hk)
  have h0:=hm 0
  simp only [isT,List.getElem?_cons_zero,Option.some.injEq] at h0
  unfold cntT at *
  simp only [List.countP_cons,id]
  cases a<;>cases b
  ·simp only [Bool.false_eq_true,if_false,Nat.add_zero];exact ⟨h1,fun e=>by rw [h2 e]⟩
  ·simp only [Bool.false_eq_true,if_false,if_true];exact ⟨by omega,fun e=>by omega⟩
  ·exact absurd (h0 rfl) (by simp)
  ·simp only [if_true];exact ⟨by omega,fun e=>by rw [h2 (by omega)]⟩
theorem cnt_len (R : List Bool) : cntT R ≤ R.length:=List.countP_le_length
theorem rounds_fix {t : List Nod} {R : List Bool} (h1 : 1 ≤ cntT R) : ∀ n,roundP t (roundsR t R n) t.length = roundsR t R n ∨ n + 1 ≤ cntT (roundsR t R n)
 | 0=>.inr h1
 | n + 1=>by
  have hm:=cnt_le (roundsR t R n) (roundP t (roundsR t R n) t.length) (roundP_len _ _ _).symm fun k hk=>roundP_mono (m:=0) hk _ (by omega)
  rcases rounds_fix h1 n with h | h
  ·left
   show roundP t (roundP t (roundsR t R n) t.length) t.length = roundP t (roundsR t R n) t.length
   rw [h,h]
  ·by_cases e : roundP t (roundsR t R n) t.length = roundsR t R n
   ·left
    show roundP t (roundP t (roundsR t R n) t.length) t.length = roundP t (roundsR t R n) t.length
    rw [e,e]
   ·right
    show n + 1 + 1 ≤ cntT (roundP t (roundsR t R n) t.length)
    have : cntT (roundsR t R n) ≠ cntT (roundP t (roundsR t R n) t.length):=fun h2=>e (hm.2 h2).symm
    omega
theorem start_len (t : List Nod) (a : Nat) : (startR t a).length = t.length:=by simp [startR]
theorem rch_len (t : List Nod) (a : Nat) : (rchF t a).length = t.length:=by unfold rchF;rw [rounds_len,start_len]
theorem rch_iff {t : List Nod} {a : Nat} (hg : Good t) (ha : a < t.length) (j : Nat) : isT (rchF t a) j ↔ Reach t a j:=by
 have h0 : isT (startR t a) a:=start_T.2 ⟨rfl,ha⟩
 have hT : ∀ n,isT (roundsR t (startR t a) n) a:=by
  intro n
  induction n with
  | zero=>exact h0
  | succ n ih=>exact roundP_mono (m:=0) ih _ (by omega)
 constructor
 ·exact rounds_sound (fun j hj=>by obtain ⟨rfl,_⟩:=start_T.1 hj;exact .refl) _ j
 ·have h1 : 1 ≤ cntT (startR t a):=by
   have:=(List.getElem?_eq_some_iff.1 h0)
   exact List.countP_pos_iff.2 ⟨true,by obtain ⟨hl,e⟩:=this;rw [← e];exact List.getElem_mem _,rfl⟩
  have hf : roundP t (rchF t a) t.length = rchF t a:=by
   rcases rounds_fix (t:=t) h1 t.length with h | h
   ·exact h
   ·have:=cnt_len (roundsR t (startR t a) t.length)
    rw [rounds_len,start_len] at this
    omega
  exact closed_all (fix_closed hg (rch_len t a) hf) (hT _) j
theorem bools_ext {R S : List Bool} (h : R.length = S.length) (hi : ∀ j,isT R j ↔ isT S j) : R = S:=by
 apply List.ext_getElem h
 intro k h1 h2
 have:=hi k
 unfold isT at this
 rw [List.getElem?_eq_getElem h1,List.getElem?_eq_getElem h2] at this
 simp only [Option.some.injEq] at this
 cases hr : R[k]<;>cases hs : S[k]<;>simp_all
theorem rch_uniq {t : List Nod} {a : Nat} {R : List Bool} (hg : Good t) (ha : a < t.length) (hl : R.length = t.length) (h1 : isT R a) (h2 : ∀ j,isT R j → Reach t a j) (h3 : Closed t R) : R = rchF t a:=
 bools_ext (by rw [hl,rch_len]) fun j=>⟨fun h=>(rch_iff hg ha j).2 (h2 j h),fun h=>closed_all h3 h1 j ((rch_iff hg ha j).1 h)⟩
end Go.Proofs.YtpfokhdelnlciaaGreatDoor
namespace Go.Proofs.YtpfokhdelnlciaaGreatDoor
open Go Dw
structure Bf (t : List Nod) (a : Nat) (R : List Bool) (Q : List Int) : Prop where
 len : R.length = t.length
 st : isT R a
 snd : ∀ j,isT R j → Reach t a j
 q : ∀ q ∈ Q,0 ≤ q ∧ isT R q.toNat
 cl : ∀ k x,t[k]? = some x → isT R k → (k : Int) ∈ Q ∨ ∀ e ∈ x.ents,isT R e.node.toNat
 n : Q.length ≤ cntT R
theorem cnt_set : ∀ (R : List Bool) (m : Nat),R[m]? = some false → cntT (R.set m true) = cntT R + 1
 | [],m,h=>by simp at h
 | b :: R,0,h=>by
  simp only [List.getElem?_cons_zero,Option.some.injEq] at h
  subst h
  simp [cntT]
 | b :: R,m + 1,h=>by
  have:=cnt_set R m (by simpa using h)
  unfold cntT at *
  simp only [List.set_cons_succ,List.countP_cons,this];omega
theorem bf_0 {t : List Nod} {a : Nat} (ha : a < t.length) : Bf t a (startR t a) [(a : Int)]:=by
 have h0 : isT (startR t a) a:=start_T.2 ⟨rfl,ha⟩
 refine ⟨start_len t a,h0,fun j hj=>by obtain ⟨rfl,_⟩:=start_T.1 hj;exact .refl,fun q hq=>by rw [List.mem_singleton.1 hq];exact ⟨by omega,by simpa using h0⟩,fun k x _ hk=>.inl (by obtain ⟨rfl,_⟩:=start_T.1 hk;simp),?_⟩
 obtain ⟨hl,e⟩:=List.getElem?_eq_some_iff.1 h0
 exact List.countP_pos_iff.2 ⟨true,by rw [← e];exact List.getElem_mem _,rfl⟩
theorem bf_pop {t : List Nod} {a : Nat} {R : List Bool} {p : Int} {cur : List Int} {nd : Nod} (h : Bf t a R (p :: cur)) (hd : t[p.toNat]? = some nd) (hm : ∀ e ∈ nd.ents,isT R e.node.toNat) : Bf t a R cur:=by
 refine ⟨h.len,h.st,h.snd,fun q hq=>h.q q (by simp [hq]),fun k x hx hk=>?_,by have:=h.n;simp only [List.length_cons] at this;omega⟩
 rcases h.cl k x hx hk with hh | hh
 ·rcases List.mem_cons.1 hh with e | hh
  ·right
   have : p.toNat = k:=by omega
   rw [this,hx] at hd
   cases hd
   exact hm
  ·exact .inl hh
 ·exact .inr hh
theorem bf_push {t : List Nod} {a : Nat} {R : List Bool} {p : Int} {cur : List Int} {nd : Nod} {e : Ent} (hg : Good t) (h : Bf t a R (p :: cur)) (hd : t[p.toNat]? = some nd) (he : e ∈ nd.ents) (hf : R[e.node.toNat]? = some false) : Bf t a (setT R e) (p :: (cur ++ [e.node])):=by
 have hb:=hg nd (List.mem_of_getElem? hd) e he
 have hmo : ∀ j,isT R j → isT (setT R e) j:=fun j hj=>isT_set.2 (.inl hj)
 have hn : isT (setT R e) e.node.toNat:=isT_set.2 (.inr ⟨rfl,by rw [h.len];omega⟩)
 refine ⟨by rw [setT_len];exact h.len,hmo _ h.st,fun j hj=>?_,fun q hq=>?_,fun k x hx hk=>?_,?_⟩
 ·rcases isT_set.1 hj with hj | ⟨rfl,_⟩
  ·exact h.snd j hj
  ·exact .step (h.snd _ (h.q p (by simp)).2) hd he
 ·rw [← List.cons_append] at hq
  rcases List.mem_append.1 hq with hq | hq
  ·exact ⟨(h.q q hq).1,hmo _ (h.q q hq).2⟩
  ·rw [List.mem_singleton.1 hq];exact ⟨by omega,hn⟩
 ·rcases isT_set.1 hk with hk | ⟨rfl,_⟩
  ·rcases h.cl k x hx hk with hh | hh
   ·left;rw [← List.cons_append];exact List.mem_append_left _ hh
   ·exact .inr fun e' he'=>hmo _ (hh e' he')
  ·left
   rw [show ((e.node.toNat : Nat) : Int) = e.node by omega];simp
 ·unfold setT
  rw [cnt_set _ _ hf]
  have:=h.n
  simp only [List.length_cons,List.length_append,List.length_nil] at *;omega
theorem bf_end {t : List Nod} {a : Nat} {R : List Bool} (hg : Good t) (h : Bf t a R []) : R = rchF t a:=
 rch_uniq hg (by have:=isT_lt h.st;rw [h.len] at this;exact this) h.len h.st h.snd fun k x hx hk=>(h.cl k x hx hk).resolve_left (by simp)
structure Bi (t : List Nod) (a : Nat) (R : List Bool) (p : Int) (cur : List Int) (nd : Nod) (m : Nat) (R0 : List Bool) (cur0 : List Int) : Prop where
 b : Bf t a R (p :: cur)
 ml : m ≤ nd.ents.length
 mrk : ∀ e ∈ nd.ents.take m,isT R e.node.toNat
 n : cur.length + cntT R0 = cur0.length + cntT R
 le : cntT R0 ≤ cntT R
theorem bi_0 {t : List Nod} {a : Nat} {R : List Bool} {p : Int} {cur : List Int} {nd : Nod} (h : Bf t a R (p :: cur)) : Bi t a R p cur nd 0 R cur:=
 ⟨h,Nat.zero_le _,fun e he=>by simp at he,rfl,Nat.le_refl _⟩
section
variable {t : List Nod} {a : Nat} {R R0 : List Bool} {p : Int} {cur cur0 : List Int} {nd : Nod} {m : Nat} (hg : Good t) (h : Bi t a R p cur nd m R0 cur0)
include h in
theorem bi_skip (hm : m < nd.ents.length) (ht : isT R nd.ents[m].node.toNat) : Bi t a R p cur nd (m + 1) R0 cur0:=by
 refine ⟨h.b,hm,fun e he=>?_,h.n,h.le⟩
 rw [List.take_succ_eq_append_getElem hm] at he
 rcases List.mem_append.1 he with he | he
 ·exact h.mrk e he
 ·rw [List.mem_singleton.1 he];exact ht
include hg h in
theorem bi_push (hd : t[p.toNat]? = some nd) (hm : m < nd.ents.length) (hf : R[nd.ents[m].node.toNat]? = some false) : Bi t a (setT R nd.ents[m]) p (cur ++ [nd.ents[m].node]) nd (m + 1) R0 cur0:=by
 have hb:=bf_push hg h.b hd (List.getElem_mem hm) hf
 have hc : cntT (setT R nd.ents[m]) = cntT R + 1:=cnt_set _ _ hf
 refine ⟨hb,hm,fun e he=>?_,?_,?_⟩
 ·rw [List.take_succ_eq_append_getElem hm] at he
  rcases List.mem_append.1 he with he | he
  ·exact isT_set.2 (.inl (h.mrk e he))
  ·rw [List.mem_singleton.1 he]
   have:=hg nd (List.mem_of_getElem? hd) _ (List.getElem_mem hm)
   exact isT_set.2 (.inr ⟨rfl,by rw [h.b.len];omega⟩)
 ·have:=h.n
  rw [List.length_append,hc];simp only [List.length_cons,List.length_nil];omega
 ·have:=h.le
  omega
include h in
theorem bi_end (hd : t[p.toNat]? = some nd) (hm : nd.ents.length ≤ m) : Bf t a R cur ∧ 2 * (t.length - cntT R) + cur.length < 2 * (t.length - cntT R0) + (p :: cur0).length:=by
 have hk:=h.mrk
 rw [List.take_of_length_le hm] at hk
 refine ⟨bf_pop h.b hd hk,?_⟩
 have h1:=h.n
 have h2:=h.le
 have h3:=cnt_len R
 rw [h.b.len] at h3
 simp only [List.length_cons];omega
include h in
theorem bi_cnt : (p :: cur).length ≤ t.length:=by
 have h1:=h.b.n
 have h3:=cnt_len R
 rw [h.b.len] at h3
 omega
end
end Go.Proofs.YtpfokhdelnlciaaGreatDoor
