/-
  Own lemmas, no conditions: Aw, Ph, Pg, Wh, Wi, Wr, Wj, Wk, Wl, Wm, Wn, Pi, Wo, Pj, Wq, Ws, Wt, Wu, Wv, Pk, Pl, Ww, Pm.
-/
import Derived.Test.YtogifnjnpljnfaaGreatDoorGrpD
set_option linter.unusedVariables false
set_option linter.unusedSimpArgs false
namespace Go.Proofs.YtogifnjnpljnfaaGreatDoor
open Go Dw
section
open Go Dw Paths
set_option maxRecDepth 100000
end
namespace Paths
theorem Ew {c : UInt8} (p : Bs) (l : List Bs) (h : l ≠ []) : glue c (p :: l) = p ++ c :: glue c l:=by
 cases l with
 | nil=>exact absurd rfl h
 | cons q l=>rfl
theorem j5 {s : Bs} (h : am s = 0) : bp s = false:=by
 cases hd : bp s with
 | false=>rfl
 | true=>
  exfalso
  unfold bp at hd
  rw [Bool.or_eq_true,decide_eq_true_eq,decide_eq_true_eq] at hd
  rcases hd with rfl | rfl<;>revert h<;>decide
end Paths
namespace Paths
def gR (p : PP) : Int:=
 aI [if p.parts.length <= 16 then 0 else 8,aI (p.parts.map aF),dL p.stream,if p.stream = [] \/ (p.parts ≠ [] /\ bp (p.parts.getLastD []) = false) then 0 else 3,if p.parts ≠ [] \/ p.abs = true then 0 else 7,if (text p).length <= 200 then 0 else 8]
theorem ny {l : List Int} (h : aI l = 0) {e : Int} (he : e ∈ l) : e = 0:=kx h e he
theorem GP {p : PP} (h : gR p = 0) : p.parts.length <= 16 /\ (∀ x ∈ p.parts,aF x = 0) /\ dL p.stream = 0 /\ (p.stream = [] \/ (p.parts ≠ [] /\ bp (p.parts.getLastD []) = false)) /\ (p.parts ≠ [] \/ p.abs = true) /\ (text p).length <= 200:=by
 have k:=fun e he=>ny h (e:=e) he
 have h1:=k _ (.head _)
 have h2:=k _ (.tail _ (.head _))
 have h3:=k _ (.tail _ (.tail _ (.head _)))
 have h4:=k _ (.tail _ (.tail _ (.tail _ (.head _))))
 have h5:=k _ (.tail _ (.tail _ (.tail _ (.tail _ (.head _)))))
 have h6:=k _ (.tail _ (.tail _ (.tail _ (.tail _ (.tail _ (.head _))))))
 refine ⟨?_,fun x hx=>ny h2 (List.mem_map_of_mem hx),h3,?_,?_,?_⟩
 ·by_cases c : p.parts.length <= 16
  ·exact c
  ·rw [if_neg c] at h1;cases h1
 ·by_cases c : p.stream = [] \/ (p.parts ≠ [] /\ bp (p.parts.getLastD []) = false)
  ·exact c
  ·rw [if_neg c] at h4;cases h4
 ·by_cases c : p.parts ≠ [] \/ p.abs = true
  ·exact c
  ·rw [if_neg c] at h5;cases h5
 ·by_cases c : (text p).length <= 200
  ·exact c
  ·rw [if_neg c] at h6;cases h6
theorem uw (m : List Bs) (x : Bs) : (m ++ [x]).getLastD [] = x:=by simp
end Paths
section
set_option maxRecDepth 10000
attribute [local irreducible] bn
set_option maxHeartbeats 2000000
open Paths
attribute [local irreducible] am cut normal bp aF text aj glue
theorem b4 {q : Prop} [Decidable q] {b : Bool} (h : q ↔ b = true) : (if q then (0 : Int) else 3) = if b = true then 0 else 3:=by
 cases b
 ·rw [if_neg (by rw [h];simp),if_neg (by simp)]
 ·rw [if_pos (h.2 rfl),if_pos rfl]
theorem Tt {p : PP} (h : p.parts.length <= 16) (hb : aI (p.parts.map aF) = 0) (hc : dL p.stream = 0) (hd : p.stream = [] \/ (p.parts ≠ [] /\ bp (p.parts.getLastD []) = false)) (he : p.parts ≠ [] \/ p.abs = true) : gR p = if (text p).length <= 200 then 0 else 8:=by
 unfold gR;rw [if_pos h,hb,hc,if_pos hd,if_pos he]
 split<;>rfl
end
section
set_option maxRecDepth 10000
attribute [local irreducible] bn
set_option maxHeartbeats 2000000
open Paths
theorem yU {c : UInt8} {m : Nat} : ∀ {l : List Bs},(∀ x ∈ l,x.length <= m) -> (glue c l).length <= l.length * (m + 1)
 | [],_=>Nat.zero_le _
 | [x],h=>by have:=h x (by simp);simp only [glue,List.length_cons,List.length_nil];omega
 | x :: y :: l,h=>by
  have h1:=h x (by simp)
  have ih:=yU (c:=c) (l:=y :: l) (fun z hz=>h z (by simp [hz]))
  rw [glue,List.length_append,List.length_cons,List.length_cons (a:=x),Nat.add_mul]
  omega
theorem qN (s : Bs) : (∃ e,e ≠ 0 /\ aj s = (fz,e)) \/ (s = [47] /\ aj s = (⟨true,[],[]⟩,0)) \/ (∃ l t,gO (cut 47 (ay s)) = some (l,t) /\ cP l t = 0 /\ s.length <= 200 /\ aj s = (⟨dI s,l,t⟩,0)):=by
 unfold aj
 split
 ·exact .inl ⟨8,by decide,rfl⟩
 ·rename_i h1
  split
  ·exact .inl ⟨7,by decide,rfl⟩
  ·split
   ·rename_i h3;exact .inr (.inl ⟨h3,rfl⟩)
   ·split
    ·exact .inl ⟨7,by decide,rfl⟩
    ·rename_i l t hc
     split
     ·exact .inl ⟨7,by decide,rfl⟩
     ·split
      ·rename_i h5;exact .inl ⟨_,h5,rfl⟩
      ·rename_i h5;exact .inr (.inr ⟨l,t,hc,by simpa using h5,by omega,rfl⟩)
theorem EZ {s : Bs} (h : ¬ (aj s).2 = 0) : (aj s).1 = fz:=by
 rcases qN s with ⟨e,_,h1⟩ | ⟨_,h1⟩ | ⟨l,t,_,_,_,h1⟩
 ·rw [h1]
 ·exact absurd (by rw [h1]) h
 ·exact absurd (by rw [h1]) h
theorem yn {l l' : List Bs} {t : Bs} (hl : l ≠ []) (h : gO l = some (l', t)) : l' ≠ [] /\ (t = [] \/ bp (l'.getLastD []) = false) := by
 unfold gO at h
 split at h
 ·cases h;exact ⟨hl,.inl rfl⟩
 ·rename_i a b e
  split at h
  ·cases h
  ·rename_i hd
   cases h
   refine ⟨by simp,.inr ?_⟩
   rw [uw]
   by_cases c : bp a = true
   ·exact absurd (.inl c) hd
   ·simpa using c
 ·cases h
theorem uV {s : Bs} (h : (aj s).2 = 0) : gR (aj s).1 = 0:=by
  have ht:=nX h
  rcases qN s with ⟨e,h0,h1⟩ | ⟨_,h1⟩ | ⟨l,t,hc,hp,hs,h1⟩
  . rw [h1] at h;exact absurd h h0
  . rw [h1];decide +kernel
  . rw [h1] at ht ⊢
    obtain ⟨hne,hd⟩:=yn (bv _ _) hc
    have k:=fun e he=>ny (l:=[aI (l.map aF),if t = [] then 0 else am t,if 16 < l.length then 8 else 0]) hp (e:=e) he
    have k1:=k _ (.head _)
    have k2:=k _ (.tail _ (.head _))
    have k3:=k _ (.tail _ (.tail _ (.head _)))
    have k4 : l.length <= 16:=by
      by_cases c : 16 < l.length
      . rw [if_pos c] at k3;cases k3
      . omega
    rw [Tt (p := ⟨dI s, l, t⟩) k4 k1 k2 (by rcases hd with hd | hd; · exact .inl hd
                                            . exact .inr ⟨hne,hd⟩) (.inl hne),ht,if_pos hs]
attribute [local irreducible] am cut normal bp aF text aj glue gR
theorem gE (s : Bs) : (aj s).1.parts.length <= 16 /\ (∀ x ∈ (aj s).1.parts,x.length <= 32):=by
 by_cases h : (aj s).2 = 0
 ·exact ⟨(ge h).2,fun x hx=>(ry ((ge h).1 x hx).2).2.2.2⟩
 ·have e : (aj s).1 = fz:=EZ h
  rw [e];exact ⟨Nat.zero_le _,fun x hx=>by cases hx⟩
theorem vR {s : Bs} (h : (aj s).2 = 0) : (aj s).1.stream.length <= 200 /\ (text (aj s).1).length <= 200:=by
 have h6:=(GP (uV h)).2.2.2.2.2
 refine ⟨?_,h6⟩
 have : (aj s).1.stream.length <= (text (aj s).1).length:=by
  by_cases c : (aj s).1.stream = []
  ·rw [c];exact Nat.zero_le _
  ·unfold text
   rw [List.length_append,if_neg c,List.length_cons]
   omega
 omega
end
section
set_option maxRecDepth 10000
attribute [local irreducible] bn
set_option maxHeartbeats 2000000
open Paths
def Pz (e : bm) : Bool:=decide ((60 : Int) < e.name.length)
def P5 : List aM -> Int -> Bool
 | [],n=>decide (n <= 80)
 | x :: l,n=>if decide ((24 : Int) < x.ents.length) || decide ((300 : Int) < x.target.length) then false else if x.ents.any Pz then false else P5 l (n + x.ents.length)
attribute [local irreducible] P5
end
section
set_option maxRecDepth 10000
attribute [local irreducible] bn
set_option maxHeartbeats 2000000
open Paths
attribute [local irreducible] am cut normal bp aF text aj glue gR
def hZ (p : PP) : Bs × Int:=if 16 < p.parts.length \/ 200 < (text p).length then ([],8) else (text p,0)
theorem Dz {p : PP} (h : (16 : Int) < p.parts.length \/ (200 : Int) < (text p).length) : hZ p = ([],8):=if_pos (by omega)
theorem Dy {p : PP} (h : ¬ (16 : Int) < p.parts.length) (h2 : ¬ (200 : Int) < (text p).length) : hZ p = (text p,0):=if_neg (by omega)
attribute [local irreducible] hZ
theorem TY (p : PP) (hn : p.parts.length < 2000000) (hx : (text p).length < 2000000) : Fn 41 [js p] (.tup [.str (hZ p).1,i (hZ p).2]):=by
 refine ac aZ Tryz.func41 rfl (by kernel_rfl) ?_
 conv=>whnf
 repeat' (first
 | ((with_reducible refine aB (fun h=>?_) (fun h=>?_))<;>(try simp only [List.length_map] at h)<;>conv=>whnf)
 | ((with_reducible refine ak ?_);(first | refine aa (ah (TX p hn hx) rfl rfl) ?_);conv=>whnf)
 | ((with_reducible refine ag ?_);first | (refine aP rfl ?_;(rw [Dz (.inl h)])<;>rfl;done) | (refine aP rfl ?_;(rw [Dz (.inr h)])<;>rfl;done) | (refine aP rfl ?_;(rw [Dy (by assumption) (by assumption)])<;>rfl;done))
  | fail
  )
theorem GY {z : Int} (h0 : 0 <= z) (h : z < 2000000) : z * ((16 : Nat) : Int) <= 140737488355328:=by omega
abbrev FQ (n : Nat) : List AV:=List.replicate n (.d (.str []))
theorem GZ {n m : Nat} (e : m = n) : ([⟨List.replicate m (.d (.str [])),1,0⟩] : ae) = [⟨FQ n,1,0⟩]:=by subst e;rfl
theorem I9 {n : Nat} (e : n = 0) : nq [] 0 [] (gj [.nilS]) (.sl 0 0 0 1 none) [⟨FQ n,1,0⟩]:=by
 subst e
 exact bR (.inl ⟨[.void 1],rfl,rfl,⟨⟨rfl,rfl,rfl,rfl⟩,trivial⟩,⟨rfl,rfl,by decide,rfl⟩,trivial⟩)
def fI (L : List (List Bs)) (k : Nat) : Nat:=((L.take k).map List.length).sum
theorem my {L : List (List Bs)} {k : Nat} (h : k < L.length) : fI L (k + 1) = fI L k + L[k].length:=by
 unfold fI;rw [List.take_succ_eq_append_getElem h,List.map_append,List.sum_append];simp only [List.map_cons,List.map_nil,List.sum_cons,List.sum_nil,Nat.add_zero]
theorem f9 (L : List (List Bs)) (k : Nat) : fI L k = (L.take k).flatten.length:=by
 unfold fI;rw [List.length_flatten]
theorem mz {L : List (List Bs)} {k : Nat} : fI L k <= fI L L.length:=by
 rw [f9,f9,List.take_length]
 conv=>rhs;rw [<- List.take_append_drop k L]
 rw [List.flatten_append,List.length_append]
 omega
def oo (L : List (List Bs)) (k : Nat) : List AV:=((L.take k).flatten.map D.str).map .d ++ FQ (fI L L.length - fI L k)
theorem OE (L : List (List Bs)) : oo L 0 = (List.replicate (fI L L.length) (D.str [])).map .d:=by
 simp [oo,fI,FQ]
abbrev xt (l : List Bs) : D:=.fs (l.map .str)
theorem UY (n : Nat) (hn : n < 2000000) : bn Tryz.prog 69 [.nilS,.d (i n)] [] (.sl 0 0 0 1 none) [⟨FQ n,1,0⟩]:=by
 refine ac aZ Tryz.func69 rfl (by kernel_rfl) ?_
 conv=>whnf
 repeat' (first
 | ((with_reducible refine aB (fun h=>?_) (fun h=>?_))<;>(try simp only [List.length_map] at h)<;>conv=>whnf)
 | (refine ax (by omega) ?_;conv=>whnf)
 | (refine ⟨⟨rfl,rfl,rfl⟩,?_⟩;conv=>whnf)
 | (refine ⟨⟨by omega,by omega,GY (by omega) (by omega)⟩,?_⟩;conv=>whnf)
 | (refine ⟨cm (by simp only [List.length_replicate];omega) rfl,?_⟩;conv=>whnf)
 | (refine jH 0 0 rfl rfl ⟨Nat.le_refl _,Nat.zero_le _⟩ ?_;conv=>whnf)
 | ((with_reducible refine ag ?_);first | (refine pQ rfl ?_;exact GZ (by omega);done) | (exact I9 (by omega);done))
  | fail
  )
theorem SZ {L : List (List Bs)} {k : Nat} (h : ¬ (k : Int) < L.length) (hk : k <= L.length) (hs : fI L L.length < 2000000) : bn Tryz.prog 69 [.nilS,.d (i (fI L k))] [] (.sl 0 0 0 1 none) [⟨FQ (fI L L.length),1,0⟩]:=by
 have : k = L.length:=by omega
 subst this
 exact UY _ hs
theorem PV (n : Nat) : FQ n = (List.replicate n (D.str [])).map .d:=by simp [FQ]
theorem IP {L : List (List Bs)} {k : Nat} (hk : L.length <= k) : oo L k = (L.flatten.map D.str).map .d:=by
 have e : fI L L.length - fI L k = 0:=by rw [f9,f9,List.take_of_length_le hk,List.take_length];omega
 unfold oo;rw [e,List.take_of_length_le hk];simp [FQ]
theorem Ha {L : List (List Bs)} {k : Nat} (hk : L.length <= k) : fI L k = L.flatten.length:=by rw [f9,List.take_of_length_le hk]
theorem IR (L : List (List Bs)) (k : Nat) : (oo L k).length = fI L L.length:=by
 have:=mz (L:=L) (k:=k)
 unfold oo
 simp only [List.length_append,List.length_map,FQ,List.length_replicate]
 rw [<- f9];omega
theorem Gc {L : List (List Bs)} {k : Nat} (hk : k < L.length) : eI (oo L k) (0 + fI L k) ((L[k].map D.str).map .d) = oo L (k + 1):=by
 have h1:=mz (L:=L) (k:=k + 1)
 rw [my hk] at h1
 have e1 : (((L.take k).flatten.map D.str).map AV.d).length = fI L k:=by rw [List.length_map,List.length_map,f9]
 unfold eI oo
 rw [Nat.zero_add,List.take_left' e1,List.length_map,List.length_map,List.take_succ_eq_append_getElem hk,List.flatten_append,List.map_append,List.map_append,my hk]
 rw [List.drop_append,e1,List.drop_of_length_le (by omega)]
 simp only [List.flatten_cons,List.flatten_nil,List.append_nil,List.nil_append,FQ,List.drop_replicate,List.append_assoc]
 congr 2
 congr 1
 omega
theorem IQ {L : List (List Bs)} {k : Nat} (hk : k < L.length) : 0 + fI L k + L[k].length <= (oo L k).length:=by
 have h1:=mz (L:=L) (k:=k + 1)
 rw [my hk] at h1
 rw [IR];omega
theorem Ic {L : List (List Bs)} {k : Nat} (hk : L.length <= k) : bl 8 [⟨oo L k,1,0⟩] (.sl 0 0 (fI L k) 1 none) = some (xt L.flatten):=by
 rw [IP hk,Ha hk]
 exact ca (n:=6) rfl Nat.two_pos
theorem Gb (L : List (List Bs)) (k : Nat) : ∃ l : List D,oo L k = l.map .d:=⟨(L.take k).flatten.map D.str ++ List.replicate (fI L L.length - fI L k) (.str []),by simp [oo,FQ]⟩
theorem UI (L : List (List Bs)) (hL : L.length < 2000000) (hs : fI L L.length < 2000000) : Fn 40 [.fs (L.map xt)] (xt L.flatten):=by
 refine ac aZ Tryz.func40 rfl (by kernel_rfl) ?_
 conv=>whnf
 repeat' (first
 | ((with_reducible refine aB (fun h=>?_) (fun h=>?_))<;>(try simp only [List.length_map] at h)<;>conv=>whnf)
 | ((with_reducible refine ak ?_);(first | refine aa (SZ h hI hs) ?_);conv=>whnf)
 | ((with_reducible refine aO ?_);first | (refine bh (fun (k : Nat)=>L.length - k) (fun (k : Nat)=>k <= L.length) (fun (k : Nat)=>[(6,.sl 0 0 (fI L k) 1 none),(25,.d (.fs (L.map xt))),(26,.d (i L.length)),(27,.d (i k))]) (fun (k : Nat)=>[⟨oo L k,1,0⟩]) (0) (by exact Nat.zero_le _) ?_ (fun k C hI hC=>?_);(exact ⟨[.old 0],rfl,rfl,⟨(by first | exact ⟨rfl,rfl,rfl,rfl,rfl⟩ ),rfl,(congrArg (D.int .i64) (by simp only [List.length_map])),(by first | exact congrArg (D.int .i64) (by omega) ),trivial⟩,⟨⟨rfl,rfl,.inl ⟨_,PV _,OE L⟩⟩,trivial⟩⟩);all_goals (conv=>whnf)) | (refine bh (fun (k : Nat)=>L.length - k) (fun (k : Nat)=>k <= L.length) (fun (k : Nat)=>[(0,.d (.fs (L.map xt))),(3,.d (i (fI L k))),(9,.d (.fs (L.map xt))),(10,.d (i L.length)),(11,.d (i k))]) (fun (k : Nat)=>[]) (0) (by exact Nat.zero_le _) ?_ (fun k C hI hC=>?_);(exact ⟨[],rfl,rfl,⟨rfl,(by first | exact rfl),rfl,(congrArg (D.int .i64) (by simp only [List.length_map])),(by first | exact congrArg (D.int .i64) (by omega) ),trivial⟩,trivial⟩);all_goals (conv=>whnf)))
 | ((with_reducible show C _ _);first | (refine hC (k + 1) _ _ ?_ (by omega) ?_;clear hC;rotate_left;(exact ⟨[],rfl,rfl,⟨rfl,(congrArg (D.int .i64) (by rw [my (by omega)];simp only [List.length_map];omega)),rfl,rfl,(by first | exact congrArg (D.int .i64) (by omega) ),trivial⟩,trivial⟩);(exact by omega)) | (refine hC (k + 1) _ _ ?_ (by omega) ?_;clear hC;rotate_left;(exact ⟨[.old 0],rfl,rfl,⟨⟨rfl,rfl,(by rw [my (by omega)];simp only [List.length_map]),rfl,rfl⟩,rfl,rfl,(by first | exact congrArg (D.int .i64) (by omega) ),trivial⟩,⟨⟨rfl,rfl,.inl ⟨_,(Gc (by omega)).trans (Gb L _).choose_spec,(Gb L _).choose_spec⟩⟩,trivial⟩⟩);(exact by omega)))
 | (refine ⟨(by intro y hy;obtain ⟨x,_,rfl⟩:=List.mem_map.1 hy;first | exact ⟨rfl,rfl⟩),?_⟩;conv=>whnf)
 | (refine bf (by omega) ?_;conv=>whnf)
 | (refine ax (by omega) ?_;conv=>whnf)
 | (refine ax (by have:=mz (L:=L) (k:=k + 1);rw [my (by omega)] at this;simp only [List.length_map];omega) ?_;conv=>whnf)
 | (exact absurd (IQ (by omega)) h)
 | ((with_reducible refine ag ?_);first | (refine aP (Ic (by omega)) rfl;done))
  | fail
  )
end
section
set_option maxRecDepth 10000
attribute [local irreducible] bn
set_option maxHeartbeats 2000000
open Paths
theorem JX {P : Bs -> Prop} {abs : Bool} {out : List Bs} {s : Bs} (ho : ∀ x ∈ out,P x) (hs : P s) : (∀ x ∈ bb abs out s,P x) /\ (bb abs out s).length <= out.length + 1:=by
 have ha : (∀ x ∈ out ++ [s],P x) /\ (out ++ [s]).length <= out.length + 1:=⟨fun x hx=>by
  rcases List.mem_append.1 hx with hx | hx
  ·exact ho x hx
  ·rw [List.mem_singleton] at hx;subst hx;exact hs,by simp⟩
 have hz : (∀ x ∈ out,P x) /\ out.length <= out.length + 1:=⟨ho,by omega⟩
 unfold bb
 split
 ·exact hz
 ·split
  ·exact ha
  ·split
   ·exact ⟨fun x hx=>ho x ((List.dropLast_sublist _).mem hx),by rw [List.length_dropLast];omega⟩
   ·split
    ·exact hz
    ·exact ha
theorem yS {P : Bs -> Prop} {abs : Bool} : ∀ {l out : List Bs},(∀ x ∈ out,P x) -> (∀ x ∈ l,P x) -> (∀ x ∈ l.foldl (bb abs) out,P x) /\ (l.foldl (bb abs) out).length <= out.length + l.length
 | [],out,ho,_=>⟨ho,Nat.le_refl _⟩
 | s :: l,out,ho,h=>by
  have h1:=JX (abs:=abs) ho (h s (by simp))
  have ih:=yS (abs:=abs) (l:=l) h1.1 (fun x hx=>h x (by simp [hx]))
  refine ⟨ih.1,?_⟩
  have:=ih.2
  rw [List.foldl_cons,List.length_cons]
  omega
theorem ER {P : Bs -> Prop} {p : PP} (h : ∀ x ∈ p.parts,P x) (h0 : P [46]) : (∀ x ∈ (normal p).parts,P x) /\ (normal p).parts.length <= p.parts.length + 1:=by
 have hf:=yS (abs:=p.abs) (l:=p.parts) (out:=[]) (fun x hx=>by cases hx) h
 unfold normal
 simp only
 split
 ·exact ⟨fun x hx=>by rw [List.mem_singleton] at hx;subst hx;exact h0,by simp⟩
 ·exact ⟨hf.1,by have:=hf.2;rw [List.length_nil] at this;omega⟩
theorem FA {p : PP} (h : p.parts.length <= 1000) (hb : ∀ x ∈ p.parts,x.length <= 60) (ht : p.stream.length <= 200) : (text p).length < 2000000:=by
 have h1:=yU (c:=47) hb
 have h2 : p.parts.length * (60 + 1) <= 1000 * 61:=Nat.mul_le_mul_right _ h
 have h3 : ((if p.abs then [47] else []) : Bs).length <= 1:=by split<;>simp
 have h4 : (if p.stream = [] then ([] : Bs) else 58 :: p.stream).length <= 201:=by split<;>simp;omega
 unfold text
 rw [List.length_append,List.length_append]
 omega
def Sm (p : PP) : Prop:=p.parts.length <= 900 /\ (∀ x ∈ p.parts,x.length <= 60) /\ p.stream.length <= 200
theorem Sm.text {p : PP} (h : Sm p) : (text p).length < 2000000:=FA (by have:=h.1;omega) h.2.1 h.2.2
theorem Sm.parts {p : PP} (h : Sm p) : p.parts.length < 2000000:=by have:=h.1;omega
theorem Sm.normal {p : PP} (h : p.parts.length <= 800) (hb : ∀ x ∈ p.parts,x.length <= 60) (ht : p.stream.length <= 200) : Sm (normal p):=by
 have:=ER (P:=fun x=>x.length <= 60) hb (by decide)
 exact ⟨by have:=this.2;omega,this.1,ht⟩
def kn (a b : PP) : PP:=⟨true,a.parts ++ b.parts,b.stream⟩
theorem vO {a b : Bs} (ha : (aj a).2 = 0) (hb : (aj b).2 = 0) : Sm (normal (kn (aj a).1 (aj b).1)):=by
 have h1:=gE a
 have h2:=gE b
 refine Sm.normal (by simp only [kn,List.length_append];omega) (fun x hx=>?_) (vR hb).1
 rcases List.mem_append.1 hx with hx | hx
 ·have:=h1.2 x hx;omega
 ·have:=h2.2 x hx;omega
theorem DA {b : Bs} (hb : (aj b).2 = 0) : Sm (normal (aj b).1):=by
 have h2:=gE b
 exact Sm.normal (by omega) (fun x hx=>by have:=h2.2 x hx;omega) (vR hb).1
def eA (a b : Bs) : Bs × Int:=
 if (aj a).2 ≠ 0 then ([],(aj a).2) else if (aj b).2 ≠ 0 then ([],(aj b).2) else if (aj a).1.abs = false \/ (aj a).1.stream ≠ [] then ([],3)
 else if (aj b).1.abs = true then hZ (normal (aj b).1) else hZ (normal (kn (aj a).1 (aj b).1))
theorem jA {a b : Bs} (h : ¬ (aj a).2 = 0) : eA a b = ([],(aj a).2):=if_pos h
theorem jB {a b : Bs} (h : (aj a).2 = 0) (h2 : ¬ (aj b).2 = 0) : eA a b = ([],(aj b).2):=by unfold eA;rw [if_neg (by simpa using h),if_pos h2]
theorem jC {a b : Bs} (h : (aj a).2 = 0) (h2 : (aj b).2 = 0) (h3 : (aj a).1.abs = false \/ ¬ (aj a).1.stream = []) : eA a b = ([],3):=by unfold eA;rw [if_neg (by simpa using h),if_neg (by simpa using h2),if_pos h3]
theorem jD {a b : Bs} (h : (aj a).2 = 0) (h2 : (aj b).2 = 0) (h3 : (aj a).1.abs = true) (h4 : (aj a).1.stream = []) (h5 : (aj b).1.abs = true) : eA a b = hZ (normal (aj b).1):=by unfold eA;rw [if_neg (by simpa using h),if_neg (by simpa using h2),if_neg (by simp [h3,h4]),if_pos h5]
theorem jE {a b : Bs} (h : (aj a).2 = 0) (h2 : (aj b).2 = 0) (h3 : (aj a).1.abs = true) (h4 : (aj a).1.stream = []) (h5 : (aj b).1.abs = false) : eA a b = hZ (normal (kn (aj a).1 (aj b).1)):=by unfold eA;rw [if_neg (by simpa using h),if_neg (by simpa using h2),if_neg (by simp [h3,h4]),if_neg (by simp [h5])]
attribute [local irreducible] am cut normal bp aF text aj glue gR hZ eA
theorem Bg (a b c : Int) : aI [a,b,c] = if a = 0 then (if b = 0 then c else b) else a:=by
 simp only [aI]
 by_cases h : c = 0
 ·rw [if_pos h,h]
 ·rw [if_neg h]
theorem jF {a b : Bs} {c : Bool} (hc : c = true ↔ (aj a).1.abs = true /\ (aj a).1.stream = []) (h : ¬ aI [(aj a).2,(aj b).2,if c = true then 0 else 3] = 0) : eA a b = ([],aI [(aj a).2,(aj b).2,if c = true then 0 else 3]):=by
 rw [Bg] at h ⊢
 by_cases h1 : (aj a).2 = 0
 ·rw [if_pos h1] at h ⊢
  by_cases h2 : (aj b).2 = 0
  ·rw [if_pos h2] at h ⊢
   cases c
   ·rw [jC h1 h2 (by
     cases ha : (aj a).1.abs
     ·exact .inl rfl
     ·exact .inr fun hs=>by have:=hc.2 ⟨ha,hs⟩;cases this)];rfl
   ·exact absurd rfl h
  ·rw [if_neg h2,jB h1 h2]
 ·rw [if_neg h1,jA h1]
theorem jG {a b : Bs} {c : Bool} (hc : c = true ↔ (aj a).1.abs = true /\ (aj a).1.stream = []) (h : aI [(aj a).2,(aj b).2,if c = true then 0 else 3] = 0) : (aj a).2 = 0 /\ (aj b).2 = 0 /\ (aj a).1.abs = true /\ (aj a).1.stream = []:=by
 rw [Bg] at h
 by_cases h1 : (aj a).2 = 0
 ·rw [if_pos h1] at h
  by_cases h2 : (aj b).2 = 0
  ·rw [if_pos h2] at h
   cases c
   ·cases h
   ·exact ⟨h1,h2,hc.1 rfl⟩
  ·rw [if_neg h2] at h;exact absurd h h2
 ·rw [if_neg h1] at h;exact absurd h h1
theorem Vk {a b : Bs} (ha : (aj a).1.abs = true) (h : ¬ aI [(aj a).2,(aj b).2,if decide ((aj a).1.stream = []) = true then 0 else 3] = 0) : eA a b = ([],aI [(aj a).2,(aj b).2,if decide ((aj a).1.stream = []) = true then 0 else 3]):=
 jF (c:=decide ((aj a).1.stream = [])) ⟨fun h=>⟨ha,of_decide_eq_true h⟩,fun h=>decide_eq_true h.2⟩ h
theorem Uj {a b : Bs} (ha : (aj a).1.abs = false) : eA a b = ([],aI [(aj a).2,(aj b).2,3]) /\ ¬ aI [(aj a).2,(aj b).2,3] = 0:=by
 have h0 : ¬ aI [(aj a).2,(aj b).2,3] = 0:=by
  rw [Bg]
  split
  ·split
   ·decide
   ·assumption
  ·assumption
 exact ⟨jF (c:=false) ⟨fun h=>(by cases h),fun h=>absurd h.1 (by rw [ha];decide)⟩ h0,h0⟩
theorem KS {a b : Bs} (ha : (aj a).1.abs = true) (h : aI [(aj a).2,(aj b).2,if decide ((aj a).1.stream = []) = true then 0 else 3] = 0) : (aj a).2 = 0 /\ (aj b).2 = 0 /\ (aj a).1.abs = true /\ (aj a).1.stream = []:=
 jG (c:=decide ((aj a).1.stream = [])) ⟨fun h=>⟨ha,of_decide_eq_true h⟩,fun h=>decide_eq_true h.2⟩ h
theorem KF (l m : List Bs) (hl : l.length <= 1000) (hm : m.length <= 1000) : Fn 40 [.fs [xt l,xt m]] (xt (l ++ m)):=by
 have e : fI [l,m] [l,m].length = l.length + m.length:=by simp [fI]
 have:=UI [l,m] (by simp) (by rw [e];omega)
 simpa using this
theorem Uw (a b : Bs) : Fn 17 [.str a,.str b] (.tup [.str (eA a b).1,i (eA a b).2]):=by
 refine ac aZ Tryz.func17 rfl (by kernel_rfl) ?_
 conv=>whnf
 repeat' (first
 | ((with_reducible refine bu (fun h=>?_) (fun h=>?_))<;>(try simp only [List.length_map] at h)<;>conv=>whnf)
 | ((with_reducible refine dj (fun h=>?_) (fun h=>?_))<;>conv=>whnf)
 | ((with_reducible refine ao (fun h=>?_) (fun h=>?_))<;>conv=>whnf)
 | ((with_reducible refine ak ?_);(first | refine aa (aA (II a) rfl) ?_ | refine aa (aA (II b) rfl) ?_ | refine aa (ah (Ip _ _) rfl rfl) ?_ | refine aa (ah (Cw [_,_,_] (by simp)) rfl rfl) ?_ | refine aa (aA (KF (aj a).1.parts (aj b).1.parts (by have:=gE a;omega) (by have:=gE b;omega)) rfl) ?_ | refine aa (aA (SE (aj b).1 (by have:=gE b;omega)) rfl) ?_ | refine aa (aA (SE (kn (aj a).1 (aj b).1) (by have h1:=gE a;have h2:=gE b;simp only [kn,List.length_append];omega)) rfl) ?_ | refine aa (ah (TY (normal (aj b).1) (DA (KS (a:=a) (b:=b) (by assumption) (by assumption)).2.1).parts (DA (KS (a:=a) (b:=b) (by assumption) (by assumption)).2.1).text) rfl rfl) ?_ | refine aa (ah (TY (normal (kn (aj a).1 (aj b).1)) (vO (KS (a:=a) (b:=b) (by assumption) (by assumption)).1 (KS (a:=a) (b:=b) (by assumption) (by assumption)).2.1).parts (vO (KS (a:=a) (b:=b) (by assumption) (by assumption)).1 (KS (a:=a) (b:=b) (by assumption) (by assumption)).2.1).text) rfl rfl) ?_);conv=>whnf)
 | (refine absurd ?_ (Uj (a:=a) (b:=b) (by assumption)).2;(simp only [Bool.false_eq_true,if_false] at *);assumption)
 | ((with_reducible refine ag ?_);first | (refine aP rfl ?_;(rw [Vk (by assumption) h])<;>rfl;done) | (refine aP rfl ?_;(rw [(Uj (b:=b) (by assumption)).1])<;>rfl;done) | (refine aP rfl ?_;(have hg:=KS (a:=a) (b:=b) (by assumption) (by assumption));(rw [jD hg.1 hg.2.1 hg.2.2.1 hg.2.2.2 (by assumption)])<;>rfl;done) | (refine aP rfl ?_;(have hg:=KS (a:=a) (b:=b) (by assumption) (by assumption));(rw [jE hg.1 hg.2.1 hg.2.2.1 hg.2.2.2 (by assumption)])<;>rfl;done))
  | fail
  )
end
section
set_option maxRecDepth 10000
attribute [local irreducible] bn
set_option maxHeartbeats 2000000
open Paths
def up : Bs:=[46,46]
attribute [local irreducible] am cut normal bp aF text aj glue gR hZ eA bi
theorem GT {a b : Bs} (h : a = b) : true = decide (bi a = bi b):=by rw [h];exact (decide_eq_true rfl).symm
theorem Rp (a b : Bs) (ha : a.length < 2000000) (hb : b.length < 2000000) (h0 : am a = 0) (h1 : am b = 0) : Fn 159 [.str a,.str b] (.bool (decide (bi a = bi b))):=by
 refine ac aZ Tryz.func159 rfl (by kernel_rfl) ?_
 conv=>whnf
 repeat' (first
 | ((with_reducible refine aB (fun h=>?_) (fun h=>?_))<;>(try simp only [List.length_map] at h)<;>conv=>whnf)
 | ((with_reducible refine ak ?_);(first | refine aa (ah (F1 a ha h0) rfl rfl) ?_ | refine aa (ah (F1 b hb h1) rfl rfl) ?_);conv=>whnf)
 | ((with_reducible refine ag ?_);first | (exact aD (congrArg D.bool (GT h));done) | (exact aD rfl;done))
  | fail
  )
attribute [local irreducible] iK
end
section
set_option maxRecDepth 10000
attribute [local irreducible] bn
set_option maxHeartbeats 2000000
open Paths
attribute [local irreducible] am cut normal bp aF text aj glue gR hZ eA bi iK
def pre : List Bs -> List Bs -> Nat
 | x :: l,y :: m=>if bi x = bi y then pre l m + 1 else 0
 | _,_=>0
def JJ (l m : List Bs) : List Bs:=if List.replicate (l.length - pre l m) up ++ m.drop (pre l m) = [] then [[46]] else List.replicate (l.length - pre l m) up ++ m.drop (pre l m)
def Mv (a b : Bs) : Bs × Int:=
 if (aj a).2 ≠ 0 then ([],(aj a).2) else if (aj b).2 ≠ 0 then ([],(aj b).2) else if ¬ iK (aj a).1 = 0 \/ ¬ iK (aj b).1 = 0 then ([],3)
 else hZ ⟨false,JJ (aj a).1.parts (aj b).1.parts,[]⟩
end
section
set_option maxRecDepth 10000
attribute [local irreducible] bn
set_option maxHeartbeats 2000000
open Paths
attribute [local irreducible] am cut normal bp aF text aj glue gR hZ eA bi iK Mv JJ
end
section
open Paths
end
section
set_option maxRecDepth 10000
attribute [local irreducible] bn
set_option maxHeartbeats 2000000
open Paths
attribute [local irreducible] am cut normal bp aF text aj glue gR hZ eA bi iK Mv JJ
end
section
open Paths
def TR (l : List Bs) : Prop:=∀ x ∈ l,am x = 0
theorem TR.ne {l : List Bs} (h : TR l) : ∀ x ∈ l,x ≠ [46] /\ x ≠ [46,46]:=fun x hx=>by
 have:=j5 (h x hx)
 constructor<;>rintro rfl<;>exact absurd this (by decide)
def L4 (l m : List Bs) : PP:=⟨true,l.take (pre l m) ++ m.drop (pre l m),[]⟩
end
section
set_option maxRecDepth 10000
attribute [local irreducible] bn
set_option maxHeartbeats 2000000
open Paths
attribute [local irreducible] am cut normal bp aF text aj glue gR hZ eA bi iK Mv JJ
def Iy (a b : Bs) : Bs:=text (L4 (aj a).1.parts (aj b).1.parts)
attribute [local irreducible] Iy
end
section
set_option maxRecDepth 10000
attribute [local irreducible] bn
set_option maxHeartbeats 2000000
open Paths
attribute [local irreducible] am cut normal bp aF text aj glue bi
def iH (l : List bm) (s : Bs) : Nat -> Int
 | k=>match l with
  | []=>-1
  | x :: r=>if bi x.name = bi s then k else iH r s (k + 1)
def bX (l : List bm) (s : Bs) : Int:=iH l s 0
attribute [local irreducible] iH
theorem QF (n lo hi : Int) : Fn 60 [i n,i lo,i hi] (.bool (ar n lo hi)):=by
 refine ac aZ Tryz.func60 rfl (by kernel_rfl) ?_
 conv=>whnf
 repeat' (first
 | ((with_reducible refine aB (fun h=>?_) (fun h=>?_))<;>(try simp only [List.length_map] at h)<;>conv=>whnf)
 | ((with_reducible refine ag ?_);first | (exact aD (congrArg D.bool (by simp [ar, *]));done))
  | fail
  )
theorem UE (b : Bool) : Fn 32 [.bool b] (i (if b = true then 1 else 0)):=by
 refine ac aZ Tryz.func32 rfl (by kernel_rfl) ?_
 conv=>whnf
 repeat' (first
 | ((with_reducible refine ao (fun h=>?_) (fun h=>?_))<;>conv=>whnf)
 | ((with_reducible refine ag ?_);first | (exact aD (congrArg i (if_pos h).symm);done) | (exact aD (congrArg i (by rw [h];rfl));done))
  | fail
  )
end
section
set_option maxRecDepth 10000
attribute [local irreducible] bn
set_option maxHeartbeats 2000000
open Paths
attribute [local irreducible] am cut normal bp aF text aj glue bi
def sZ (n : Int) : Bool:=decide (n = 2) || decide (n = 3)
def iB (len : Int) (ahead : List bm) (x : bm) : Int:=
 if am x.name ≠ 0 then am x.name else if ahead.any (fun y=>decide (bi y.name = bi x.name)) = true then 5 else if ar x.node 1 (len - 1) = true then 0 else 6
def dc (len : Int) (l : List bm) : Nat -> Nat -> Int
 | 0,_=>0
 | n + 1,k=>match l[k]? with
  | none=>0
  | some x=>if iB len (l.take k) x ≠ 0 then iB len (l.take k) x else dc len l n (k + 1)
def ia (x : aM) : Int:=if (aj x.target).2 ≠ 0 then (aj x.target).2 else if (aj x.target).1.stream ≠ [] \/ (x.kind = 3 /\ (aj x.target).1.abs = false) then 3 else 0
def dv (t : List aM) (i : Int) (x : aM) : Int:=
 if ar x.kind 0 3 = false then 15 else if i = 0 /\ x.kind ≠ 0 then 35 else if (x.kind ≠ 0 /\ x.ents ≠ []) \/ (sZ x.kind = false /\ x.target ≠ []) then 3
 else if dc t.length x.ents x.ents.length 0 ≠ 0 then dc t.length x.ents x.ents.length 0 else if sZ x.kind = false then 0 else ia x
theorem fC {len : Int} {l : List bm} {n k : Nat} (hk : k < l.length) (hn : n = l.length - k) : dc len l n k = if iB len (l.take k) l[k] ≠ 0 then iB len (l.take k) l[k] else dc len l (l.length - (k + 1)) (k + 1):=by
 subst hn
 rw [show l.length - k = (l.length - (k + 1)) + 1 by omega,dc,List.getElem?_eq_getElem hk]
theorem GB {len : Int} {l : List bm} {k : Nat} (hk : l.length <= k) : dc len l (l.length - k) k = 0:=by
 rw [show l.length - k = 0 by omega];rfl
theorem OR {len : Int} {l : List bm} {k : Nat} (hk : k < l.length) (h : ¬ am l[k].name = 0) : dc len l (l.length - k) k = am l[k].name:=by
 have e : iB len (l.take k) l[k] = am l[k].name:=if_pos h
 rw [fC hk rfl,e,if_pos h]
theorem OS {len : Int} {l : List bm} {j k : Nat} (hk : k < l.length) (hj : j < k) (h : am l[k].name = 0) (h2 : bi (l[j]'(by omega)).name = bi l[k].name) : dc len l (l.length - k) k = 5:=by
 have e : iB len (l.take k) l[k] = 5:=by
  unfold iB
  rw [if_neg (by simpa using h),if_pos]
  refine List.any_eq_true.2 ⟨l[j]'(by omega),?_,decide_eq_true h2⟩
  rw [List.mem_take_iff_getElem]
  exact ⟨j,by omega,rfl⟩
 rw [fC hk rfl,e,if_pos (by decide)]
theorem Gy {l : List bm} {j k : Nat} {x : bm} (hj : k <= j) (h : ∀ y ∈ l.take j,¬ bi y.name = bi x.name) : ¬ (l.take k).any (fun y=>decide (bi y.name = bi x.name)) = true:=by
 intro c
 obtain ⟨y,hy,he⟩:=List.any_eq_true.1 c
 exact h y (List.take_subset_take_left l hj hy) (of_decide_eq_true he)
theorem OT {len : Int} {l : List bm} {j k : Nat} (hk : k < l.length) (hj : k <= j) (h : am l[k].name = 0) (h2 : ∀ y ∈ l.take j,¬ bi y.name = bi l[k].name) (h3 : ar l[k].node 1 (len - 1) = false) : dc len l (l.length - k) k = 6:=by
 have e : iB len (l.take k) l[k] = 6:=by
  unfold iB
  rw [if_neg (by simpa using h),if_neg (Gy hj h2),if_neg (by rw [h3];decide)]
 rw [fC hk rfl,e,if_pos (by decide)]
theorem OU {len : Int} {l : List bm} {j k : Nat} (hk : k < l.length) (hj : k <= j) (h : am l[k].name = 0) (h2 : ∀ y ∈ l.take j,¬ bi y.name = bi l[k].name) (h3 : ar l[k].node 1 (len - 1) = true) : dc len l (l.length - k) k = dc len l (l.length - (k + 1)) (k + 1):=by
 have e : iB len (l.take k) l[k] = 0:=by
  unfold iB
  rw [if_neg (by simpa using h),if_neg (Gy hj h2),if_pos h3]
 rw [fC hk rfl,e,if_neg (by decide)]
theorem J3 {l : List bm} {j : Nat} {x : bm} (hj : j < l.length) (h : ∀ y ∈ l.take j,¬ bi y.name = bi x.name) (h1 : ¬ bi l[j].name = bi x.name) : ∀ y ∈ l.take (j + 1),¬ bi y.name = bi x.name:=by
 rw [List.take_succ_eq_append_getElem hj]
 intro y hy
 rcases List.mem_append.1 hy with hy | hy
 ·exact h y hy
 ·rw [List.mem_singleton] at hy;subst hy;exact h1
end
section
set_option maxRecDepth 10000
attribute [local irreducible] bn
set_option maxHeartbeats 2000000
open Paths
attribute [local irreducible] am cut normal bp aF text aj glue bi dc ar
theorem QV (n lo hi z : Int) (e : hi = z) : Fn 10 [i n,i lo,i hi] (.bool (ar n lo z)):=by subst e;exact Cu n lo hi
theorem PD {t : List aM} {d : Int} {x : aM} (h : ar x.kind 0 3 = false) : dv t d x = 15:=by unfold dv;rw [if_pos h]
theorem BE {t : List aM} {d : Int} {es : List bm} {tg : Bs} : dv t d ⟨0,es,tg⟩ = if tg = [] then dc t.length es es.length 0 else 3:=by
 have w : ar 0 0 3 = true:=by decide +kernel
 have l : sZ 0 = false:=by decide
 unfold dv
 rw [if_neg (by rw [w];decide),if_neg (by simp),l]
 by_cases h : tg = []
 ·rw [if_neg (by simp [h]),if_pos h]
  split
  ·rfl
  ·rename_i h1
   rw [if_pos rfl];exact (Classical.not_not.1 h1).symm
 ·rw [if_pos (by simp [h]),if_neg h]
theorem zq {t : List aM} {d : Int} {es : List bm} {tg : Bs} : dv t d ⟨1,es,tg⟩ = if d = 0 then 35 else if es = [] /\ tg = [] then 0 else 3:=by
 have w : ar 1 0 3 = true:=by decide +kernel
 have l : sZ 1 = false:=by decide
 unfold dv
 rw [if_neg (by rw [w];decide),l]
 by_cases h0 : d = 0
 ·rw [if_pos (by simp [h0]),if_pos h0]
 ·rw [if_neg (by simp [h0]),if_neg h0]
  by_cases h : es = [] /\ tg = []
  ·rw [if_neg (by simp [h.1,h.2]),if_pos h,h.1];simp [dc]
  ·rw [if_pos (by by_cases h1 : es = []<;>by_cases h2 : tg = []<;>simp_all),if_neg h]
theorem lh {t : List aM} {d K : Int} {es : List bm} {tg : Bs} (hK : K = 2 \/ K = 3) : dv t d ⟨K,es,tg⟩ = if d = 0 then 35 else if es = [] then ia ⟨K,es,tg⟩ else 3:=by
 have w : ar K 0 3 = true:=by rcases hK with rfl | rfl<;>decide +kernel
 have l : sZ K = true:=by rcases hK with rfl | rfl<;>decide
 have k0 : K ≠ 0:=by omega
 unfold dv
 rw [if_neg (by rw [w];decide),l]
 by_cases h0 : d = 0
 ·rw [if_pos (by simp [h0,k0]),if_pos h0]
 ·rw [if_neg (by simp [h0]),if_neg h0]
  by_cases h : es = []
  ·rw [if_neg (by simp [h]),if_pos h,h];simp [dc]
  ·rw [if_pos (by simp [h,k0]),if_neg h]
theorem P9 {K : Int} {es : List bm} {tg : Bs} (h : ¬ (aj tg).2 = 0) : ia ⟨K,es,tg⟩ = (aj tg).2:=if_pos h
theorem P8 {K : Int} {es : List bm} {tg : Bs} (h : (aj tg).2 = 0) (h1 : (aj tg).1.stream ≠ [] \/ (K = 3 /\ (aj tg).1.abs = false)) : ia ⟨K,es,tg⟩ = 3:=by
 unfold ia;rw [if_neg (by simpa using h),if_pos h1]
theorem Qu {K : Int} {es : List bm} {tg : Bs} (h : (aj tg).2 = 0) (h1 : ¬ ((aj tg).1.stream ≠ [] \/ (K = 3 /\ (aj tg).1.abs = false))) : ia ⟨K,es,tg⟩ = 0:=by
 unfold ia;rw [if_neg (by simpa using h),if_neg h1]
attribute [local irreducible] dv ia
theorem Ns (t : List aM) (d : Int) (x : aM) (h0 : 0 <= d) (hd : t[d.toNat]? = some x) (hk : ar x.kind 0 3 = false) : Fn 140 [aS t,i d] (i (dv t d x)):=by
 refine ac aZ Tryz.func140 rfl (by kernel_rfl) ?_
 conv=>whnf
 repeat' (first
 | ((with_reducible refine zw (by assumption) ?_);conv=>whnf)
 | ((with_reducible refine ak ?_);(first | refine aa (ah (Cu x.kind 0 3) rfl rfl) ?_ );conv=>whnf)
 | (refine gD h0 hd ?_;conv=>whnf)
 | ((with_reducible refine ag ?_);first | (exact aD (congrArg i (PD hk).symm);done))
  | fail
  )
theorem NR : Fn 10 [i 0,i 0,i 3] (.bool true):=by
 have:=Cu 0 0 3
 rwa [show ar 0 0 3 = true by decide +kernel] at this
theorem NS : Fn 10 [i 1,i 0,i 3] (.bool true):=by
 have:=Cu 1 0 3
 rwa [show ar 1 0 3 = true by decide +kernel] at this
theorem NT : Fn 10 [i 2,i 0,i 3] (.bool true):=by
 have:=Cu 2 0 3
 rwa [show ar 2 0 3 = true by decide +kernel] at this
theorem NU : Fn 10 [i 3,i 0,i 3] (.bool true):=by
 have:=Cu 3 0 3
 rwa [show ar 3 0 3 = true by decide +kernel] at this
theorem Ot (t : List aM) (d : Int) (es : List bm) (tg : Bs) (h0 : 0 <= d) (hd : t[d.toNat]? = some ⟨0,es,tg⟩) (ht : t.length < 2000000) (hl : es.length < 2000000) (hb : ∀ y ∈ es,y.name.length < 2000000) : Fn 140 [aS t,i d] (i (dv t d ⟨0,es,tg⟩)):=by
 refine ac aZ Tryz.func140 rfl (by kernel_rfl) ?_
 conv=>whnf
 repeat' (first
 | ((with_reducible refine aB (fun h=>?_) (fun h=>?_))<;>(try simp only [List.length_map] at h)<;>conv=>whnf)
 | ((with_reducible refine bu (fun h=>?_) (fun h=>?_))<;>(try simp only [List.length_map] at h)<;>conv=>whnf)
 | ((with_reducible refine dj (fun h=>?_) (fun h=>?_))<;>conv=>whnf)
 | ((with_reducible refine ak ?_);(first | refine aa (ah (NR) rfl rfl) ?_ | refine aa (ah (QV (es[k]'(by omega)).node 1 _ ((t.length : Int) - 1) (by simp only [List.length_map])) rfl rfl) ?_ | refine aa (ah (KD (es[k]'(by omega)).name (hb _ (List.getElem_mem _))) rfl rfl) ?_ | refine aa (ah (RR (es[j]'(by omega)).name (es[k]'(by omega)).name (hb _ (List.getElem_mem _)) (hb _ (List.getElem_mem _))) rfl rfl) ?_ );conv=>whnf)
 | (refine ⟨[],[],(by decide +kernel),?_⟩;conv=>whnf)
 | ((with_reducible refine aO ?_);first | (refine bh (fun (j : Nat)=>k - j) (fun (j : Nat)=>j <= k /\ ∀ y ∈ es.take j,¬ bi y.name = bi (es[k]'(by omega)).name) (fun (j : Nat)=>[(0,.d (aS t)),(5,.ptr 0 0 0),(6,.d (.bool false)),(7,.d (i k)),(9,.d (i j))]) (fun (j : Nat)=>[⟨[.d (aM.enc ⟨0,es,tg⟩)],3,0⟩]) (0) (by exact ⟨Nat.zero_le _,fun y hy=>by cases hy⟩) ?_ (fun j Cj hIj hCj=>?_);(exact ⟨[.old 0],rfl,rfl,⟨rfl,⟨rfl,rfl,rfl⟩,rfl,rfl,(by first | exact congrArg (D.int .i64) (by omega) ),trivial⟩,⟨⟨rfl,rfl,.inl ⟨[_],rfl,rfl⟩⟩,trivial⟩⟩);all_goals (conv=>whnf)) | (refine bh (fun (k : Nat)=>es.length - k) (fun (k : Nat)=>k <= es.length /\ dc t.length es es.length 0 = dc t.length es (es.length - k) k) (fun (k : Nat)=>[(0,.d (aS t)),(5,.ptr 0 0 0),(6,.d (.bool false)),(7,.d (i k))]) (fun (k : Nat)=>[⟨[.d (aM.enc ⟨0,es,tg⟩)],3,0⟩]) (0) (by exact ⟨Nat.zero_le _,rfl⟩) ?_ (fun k C hI hC=>?_);(exact ⟨[.old 0],rfl,rfl,⟨rfl,⟨rfl,rfl,rfl⟩,(by first | (refine congrArg D.bool ?_;simp_all)),(by first | exact congrArg (D.int .i64) (by omega) ),trivial⟩,⟨⟨rfl,rfl,.inl ⟨[_],rfl,rfl⟩⟩,trivial⟩⟩);all_goals (conv=>whnf)))
 | ((with_reducible show C _ _);first | (refine hC (k + 1) _ _ ?_ (by omega) ?_;clear hC;rotate_left;(exact ⟨[.old 0],rfl,rfl,⟨rfl,⟨rfl,rfl,rfl⟩,rfl,(by first | exact congrArg (D.int .i64) (by omega) ),trivial⟩,⟨⟨rfl,rfl,.inl ⟨[_],rfl,rfl⟩⟩,trivial⟩⟩);(exact ⟨by omega,hI.2.trans (OU (j:=j) (by omega) (by omega) (by assumption) hIj.2 (by assumption))⟩)))
 | ((with_reducible show Cj _ _);first | (refine hCj (j + 1) _ _ ?_ (by omega) ?_;clear hCj;rotate_left;(exact ⟨[.old 0],rfl,rfl,⟨rfl,⟨rfl,rfl,rfl⟩,rfl,rfl,(by first | exact congrArg (D.int .i64) (by omega) ),trivial⟩,⟨⟨rfl,rfl,.inl ⟨[_],rfl,rfl⟩⟩,trivial⟩⟩);(exact ⟨by omega,J3 (by omega) hIj.2 (by assumption)⟩)))
 | (refine ax (by omega) ?_;conv=>whnf)
 | (refine ax (by first | (simp only [List.length_map];omega)) ?_;conv=>whnf)
 | (refine gD h0 hd ?_;conv=>whnf)
 | (refine bf (l:=es) (f:=bm.enc) (by omega) ?_;conv=>whnf)
 | ((with_reducible refine ag ?_);first | (exact aD (congrArg i (BE.trans (if_neg (by first | exact of_decide_eq_false (by assumption)))).symm);done) | (exact aD (congrArg i ((BE.trans (if_pos (of_decide_eq_true (by assumption)))).trans (hI.2.trans (OR (by omega) h))).symm);done) | (exact aD (congrArg i ((BE.trans (if_pos (of_decide_eq_true (by assumption)))).trans (hI.2.trans (OS (j:=j) (by omega) (by omega) (by assumption) h))).symm);done) | (exact aD (congrArg i ((BE.trans (if_pos (of_decide_eq_true (by assumption)))).trans (hI.2.trans (OT (j:=j) (by omega) (by omega) (by assumption) hIj.2 (by assumption)))).symm);done) | (exact aD (congrArg i ((BE.trans (if_pos (of_decide_eq_true (by assumption)))).trans (hI.2.trans (GB (by omega)))).symm);done))
  | fail
  )
theorem Ou (t : List aM) (d : Int) (es : List bm) (tg : Bs) (h0 : 0 <= d) (hd : t[d.toNat]? = some ⟨1,es,tg⟩) (ht : t.length < 2000000) (hl : es.length < 2000000) (hb : ∀ y ∈ es,y.name.length < 2000000) : Fn 140 [aS t,i d] (i (dv t d ⟨1,es,tg⟩)):=by
 refine ac aZ Tryz.func140 rfl (by kernel_rfl) ?_
 conv=>whnf
 repeat' (first
 | ((with_reducible refine aJ ?_ ?_);(focus ((try simp only [List.length_map,List.length_cons,List.length_nil,List.length_append]);omega));conv=>whnf)
 | ((with_reducible refine aB (fun h=>?_) (fun h=>?_))<;>(try simp only [List.length_map] at h)<;>conv=>whnf)
 | ((with_reducible refine dj (fun h=>?_) (fun h=>?_))<;>conv=>whnf)
 | ((with_reducible refine ak ?_);(first | refine aa (ah (NS) rfl rfl) ?_ );conv=>whnf)
 | ((with_reducible refine aO ?_);first | (refine bh (fun (k : Nat)=>es.length - k) (fun (k : Nat)=>k <= es.length /\ dc t.length es es.length 0 = dc t.length es (es.length - k) k) (fun (k : Nat)=>[(0,.d (aS t)),(5,.ptr 0 0 0),(6,.d (.bool false)),(7,.d (i k))]) (fun (k : Nat)=>[⟨[.d (aM.enc ⟨1,es,tg⟩)],3,0⟩]) (0) (by exact ⟨Nat.zero_le _,rfl⟩) ?_ (fun k C hI hC=>?_);(exact ⟨[.old 0],rfl,rfl,⟨rfl,⟨rfl,rfl,rfl⟩,(by first | (refine congrArg D.bool ?_;simp_all)),(by first | exact congrArg (D.int .i64) (by omega) ),trivial⟩,⟨⟨rfl,rfl,.inl ⟨[_],rfl,rfl⟩⟩,trivial⟩⟩);all_goals (conv=>whnf)))
 | (refine gD h0 hd ?_;conv=>whnf)
 | ((with_reducible refine ag ?_);first | (exact aD (congrArg i (zq.trans (if_pos h)).symm);done) | (exact aD (congrArg i (zq.trans ((if_neg (by omega)).trans (if_neg (fun hh=>by have:=congrArg List.length hh.1;simp only [List.length_nil] at this;omega)))).symm);done) | (exact aD (congrArg i (zq.trans ((if_neg (by omega)).trans (if_neg (fun hh=>(by first | exact (of_decide_eq_false h : ¬ tg = []) hh.2))))).symm);done) | (exact aD (congrArg i (zq.trans ((if_neg (by omega)).trans (if_pos ⟨List.length_eq_zero_iff.1 (by omega),of_decide_eq_true (by assumption)⟩))).symm);done))
  | fail
  )
theorem Ov (t : List aM) (d : Int) (es : List bm) (tg : Bs) (h0 : 0 <= d) (hd : t[d.toNat]? = some ⟨2,es,tg⟩) (ht : t.length < 2000000) (hl : es.length < 2000000) (hb : ∀ y ∈ es,y.name.length < 2000000) : Fn 140 [aS t,i d] (i (dv t d ⟨2,es,tg⟩)):=by
 refine ac aZ Tryz.func140 rfl (by kernel_rfl) ?_
 conv=>whnf
 repeat' (first
 | ((with_reducible refine aJ ?_ ?_);(focus ((try simp only [List.length_map,List.length_cons,List.length_nil,List.length_append]);omega));conv=>whnf)
 | ((with_reducible refine aB (fun h=>?_) (fun h=>?_))<;>(try simp only [List.length_map] at h)<;>conv=>whnf)
 | ((with_reducible refine bu (fun h=>?_) (fun h=>?_))<;>(try simp only [List.length_map] at h)<;>conv=>whnf)
 | ((with_reducible refine dj (fun h=>?_) (fun h=>?_))<;>conv=>whnf)
 | ((with_reducible refine ak ?_);(first | refine aa (ah (NT) rfl rfl) ?_ | refine aa (aA (Q9 tg) rfl) ?_);conv=>whnf)
 | ((with_reducible refine aO ?_);first | (refine bh (fun (k : Nat)=>es.length - k) (fun (k : Nat)=>k <= es.length /\ dc t.length es es.length 0 = dc t.length es (es.length - k) k) (fun (k : Nat)=>[(0,.d (aS t)),(5,.ptr 0 0 0),(6,.d (.bool true)),(7,.d (i k))]) (fun (k : Nat)=>[⟨[.d (aM.enc ⟨2,es,tg⟩)],3,0⟩]) (0) (by exact ⟨Nat.zero_le _,rfl⟩) ?_ (fun k C hI hC=>?_);(exact ⟨[.old 0],rfl,rfl,⟨rfl,⟨rfl,rfl,rfl⟩,rfl,(by first | exact congrArg (D.int .i64) (by omega) ),trivial⟩,⟨⟨rfl,rfl,.inl ⟨[_],rfl,rfl⟩⟩,trivial⟩⟩);all_goals (conv=>whnf)))
 | (refine gD h0 hd ?_;conv=>whnf)
 | ((with_reducible refine ag ?_);first | (exact aD (congrArg i ((lh (by omega : (2 : Int) = 2 \/ (2 : Int) = 3)).trans (if_pos h)).symm);done) | (exact aD (congrArg i ((lh (by omega : (2 : Int) = 2 \/ (2 : Int) = 3)).trans ((if_neg (by omega)).trans (if_neg (fun hh=>by have:=congrArg List.length hh;simp only [List.length_nil] at this;omega)))).symm);done) | (exact aD (congrArg i ((lh (by omega : (2 : Int) = 2 \/ (2 : Int) = 3)).trans ((if_neg (by omega)).trans ((if_pos (List.length_eq_zero_iff.1 (by omega))).trans (P9 h)))).symm);done) | (exact aD (congrArg i ((lh (by omega : (2 : Int) = 2 \/ (2 : Int) = 3)).trans ((if_neg (by omega)).trans ((if_pos (List.length_eq_zero_iff.1 (by omega))).trans (P8 (by assumption) (by simp_all))))).symm);done) | (exact aD (congrArg i ((lh (by omega : (2 : Int) = 2 \/ (2 : Int) = 3)).trans ((if_neg (by omega)).trans ((if_pos (List.length_eq_zero_iff.1 (by omega))).trans (Qu (by assumption) (by simp_all))))).symm);done))
  | fail
  )
theorem Ow (t : List aM) (d : Int) (es : List bm) (tg : Bs) (h0 : 0 <= d) (hd : t[d.toNat]? = some ⟨3,es,tg⟩) (ht : t.length < 2000000) (hl : es.length < 2000000) (hb : ∀ y ∈ es,y.name.length < 2000000) : Fn 140 [aS t,i d] (i (dv t d ⟨3,es,tg⟩)):=by
 refine ac aZ Tryz.func140 rfl (by kernel_rfl) ?_
 conv=>whnf
 repeat' (first
 | ((with_reducible refine aJ ?_ ?_);(focus ((try simp only [List.length_map,List.length_cons,List.length_nil,List.length_append]);omega));conv=>whnf)
 | ((with_reducible refine aB (fun h=>?_) (fun h=>?_))<;>(try simp only [List.length_map] at h)<;>conv=>whnf)
 | ((with_reducible refine bu (fun h=>?_) (fun h=>?_))<;>(try simp only [List.length_map] at h)<;>conv=>whnf)
 | ((with_reducible refine dj (fun h=>?_) (fun h=>?_))<;>conv=>whnf)
 | ((with_reducible refine ak ?_);(first | refine aa (ah (NU) rfl rfl) ?_ | refine aa (aA (Q9 tg) rfl) ?_);conv=>whnf)
 | ((with_reducible refine aO ?_);first | (refine bh (fun (k : Nat)=>es.length - k) (fun (k : Nat)=>k <= es.length /\ dc t.length es es.length 0 = dc t.length es (es.length - k) k) (fun (k : Nat)=>[(0,.d (aS t)),(5,.ptr 0 0 0),(6,.d (.bool true)),(7,.d (i k))]) (fun (k : Nat)=>[⟨[.d (aM.enc ⟨3,es,tg⟩)],3,0⟩]) (0) (by exact ⟨Nat.zero_le _,rfl⟩) ?_ (fun k C hI hC=>?_);(exact ⟨[.old 0],rfl,rfl,⟨rfl,⟨rfl,rfl,rfl⟩,(by first | (refine congrArg D.bool ?_;simp_all)),(by first | exact congrArg (D.int .i64) (by omega) ),trivial⟩,⟨⟨rfl,rfl,.inl ⟨[_],rfl,rfl⟩⟩,trivial⟩⟩);all_goals (conv=>whnf)))
 | (refine gD h0 hd ?_;conv=>whnf)
 | ((with_reducible refine ag ?_);first | (exact aD (congrArg i ((lh (by omega : (3 : Int) = 2 \/ (3 : Int) = 3)).trans (if_pos h)).symm);done) | (exact aD (congrArg i ((lh (by omega : (3 : Int) = 2 \/ (3 : Int) = 3)).trans ((if_neg (by omega)).trans (if_neg (fun hh=>by have:=congrArg List.length hh;simp only [List.length_nil] at this;omega)))).symm);done) | (exact aD (congrArg i ((lh (by omega : (3 : Int) = 2 \/ (3 : Int) = 3)).trans ((if_neg (by omega)).trans ((if_pos (List.length_eq_zero_iff.1 (by omega))).trans (P9 h)))).symm);done) | (exact aD (congrArg i ((lh (by omega : (3 : Int) = 2 \/ (3 : Int) = 3)).trans ((if_neg (by omega)).trans ((if_pos (List.length_eq_zero_iff.1 (by omega))).trans (P8 (by assumption) (by simp_all))))).symm);done) | (exact aD (congrArg i ((lh (by omega : (3 : Int) = 2 \/ (3 : Int) = 3)).trans ((if_neg (by omega)).trans ((if_pos (List.length_eq_zero_iff.1 (by omega))).trans (Qu (by assumption) (by simp_all))))).symm);done))
  | fail
  )
theorem Q3 (t : List aM) (d : Int) (x : aM) (h0 : 0 <= d) (hd : t[d.toNat]? = some x) (ht : t.length < 2000000) (hl : x.ents.length < 2000000) (hb : ∀ y ∈ x.ents,y.name.length < 2000000) : Fn 140 [aS t,i d] (i (dv t d x)):=by
 cases hk : ar x.kind 0 3 with
 | false=>exact Ns t d x h0 hd hk
 | true=>
  have hw : 0 <= x.kind /\ x.kind <= 3:=(by simpa [ar] using hk)
  obtain ⟨K,es,tg⟩:=x
  have : K = 0 \/ K = 1 \/ K = 2 \/ K = 3:=by simp only at hw;omega
  rcases this with rfl | rfl | rfl | rfl
  ·exact Ot t d es tg h0 hd ht hl hb
  ·exact Ou t d es tg h0 hd ht hl hb
  ·exact Ov t d es tg h0 hd ht hl hb
  ·exact Ow t d es tg h0 hd ht hl hb
end
section
set_option maxRecDepth 10000
attribute [local irreducible] bn
set_option maxHeartbeats 2000000
open Paths
attribute [local irreducible] am cut normal bp aF text aj glue bi ar
def lc (b : Bool) : Nat:=if b then 1 else 0
theorem Sz (b : Bool) : Fn 32 [.bool b] (i (lc b : Nat)):=by
 have:=UE b
 cases b<;>exact this
def eO : List bm -> Int -> Nat
 | [],_=>0
 | e :: l,n=>lc (decide (e.node = n)) + eO l n
def aX : List aM -> Int -> Nat
 | [],_=>0
 | x :: t,n=>eO x.ents n + aX t n
theorem mh {n : Int} : ∀ (l : List bm) (m : Nat) (h : m < l.length),eO (l.take (m + 1)) n = eO (l.take m) n + lc (decide (l[m].node = n))
 | e :: l,0,_=>by simp [eO]
 | e :: l,m + 1,h=>by
  have:=mh (n:=n) l m (by simpa using h)
  simp only [List.take_succ_cons,eO,List.getElem_cons_succ,this];omega
theorem ou {n : Int} : ∀ (l : List bm),eO l n <= l.length
 | []=>by simp [eO]
 | e :: l=>by
  have:=ou (n:=n) l
  have : lc (decide (e.node = n)) <= 1:=by unfold lc;split<;>omega
  simp only [eO,List.length_cons];omega
theorem kD {n : Int} : ∀ (t : List aM) (k : Nat) (h : k < t.length),aX (t.take (k + 1)) n = aX (t.take k) n + eO t[k].ents n
 | x :: t,0,_=>by simp [aX]
 | x :: t,k + 1,h=>by
  have:=kD (n:=n) t k (by simpa using h)
  simp only [List.take_succ_cons,aX,List.getElem_cons_succ,this];omega
theorem Co (b : Bool) : lc b <= 1:=by unfold lc;split<;>omega
attribute [local irreducible] aX eO lc
theorem Q2 (t : List aM) (n : Int) (ht : t.length < 2000000) (hb : ∀ x ∈ t,x.ents.length < 2000000) : Fn 14 [aS t,i n] (i (aX t n : Nat)):=by
 refine ac aZ Tryz.func14 rfl (by kernel_rfl) ?_
 conv=>whnf
 repeat' (first
 | ((with_reducible refine aB (fun h=>?_) (fun h=>?_))<;>(try simp only [List.length_map] at h)<;>conv=>whnf)
 | ((with_reducible refine ak ?_);(first | refine aa (af (xs:=[_]) (Sz _) _) ?_);conv=>whnf)
 | ((with_reducible refine aO ?_);first | (refine ni (fun (m : Nat) (b : Nat)=>(t[k]'(by omega)).ents.length - m) (fun (m : Nat) (b : Nat)=>m <= (t[k]'(by omega)).ents.length /\ b = c + eO ((t[k]'(by omega)).ents.take m) n /\ b <= c + m) (fun (m : Nat) (b : Nat)=>[(0,.d (aS t)),(1,.d (i n)),(5,.d (i b)),(6,.d (i k)),(7,.d (i m))]) (fun (m : Nat) (b : Nat)=>[]) (0) (c) (by exact ⟨Nat.zero_le _,(by rw [List.take_zero];unfold eO;rfl),by omega⟩) ?_ (fun m b Cm hIm hCm=>?_);(exact ⟨[],rfl,rfl,⟨rfl,rfl,rfl,rfl,(by first | exact congrArg (D.int .i64) (by omega) ),trivial⟩,trivial⟩);all_goals (conv=>whnf)) | (refine ni (fun (k : Nat) (c : Nat)=>t.length - k) (fun (k : Nat) (c : Nat)=>k <= t.length /\ c = aX (t.take k) n /\ c <= 2000000 * k) (fun (k : Nat) (c : Nat)=>[(0,.d (aS t)),(1,.d (i n)),(5,.d (i c)),(6,.d (i k))]) (fun (k : Nat) (c : Nat)=>[]) (0) (0) (by exact ⟨Nat.zero_le _,(by unfold aX;rfl),by omega⟩) ?_ (fun k c C hI hC=>?_);(exact ⟨[],rfl,rfl,⟨rfl,rfl,(by first | exact congrArg (D.int .i64) (by omega) ),(by first | exact congrArg (D.int .i64) (by omega) ),trivial⟩,trivial⟩);all_goals (conv=>whnf)))
 | ((with_reducible show C _ _);first | (refine hC (k + 1) (b) _ _ ?_ (by omega) ?_;clear hC;rotate_left;(exact ⟨[],rfl,rfl,⟨rfl,rfl,rfl,(by first | exact congrArg (D.int .i64) (by omega) ),trivial⟩,trivial⟩);(exact ⟨by omega,by rw [kD t k (by omega),<- hI.2.1,hIm.2.1,List.take_of_length_le (by omega)],by have:=hb _ (List.getElem_mem (by omega : k < t.length));have:=hIm.2.2;have:=hI.2.2;omega⟩)))
 | ((with_reducible show Cm _ _);first | (refine hCm (m + 1) (b + lc (decide (((t[k]'(by omega)).ents[m]'(by omega)).node = n))) _ _ ?_ (by omega) ?_;clear hCm;rotate_left;(exact ⟨[],rfl,rfl,⟨rfl,rfl,(by first | exact congrArg (D.int .i64) (by omega) ),rfl,(by first | exact congrArg (D.int .i64) (by omega) ),trivial⟩,trivial⟩);(exact ⟨by omega,by rw [mh _ m (by omega),hIm.2.1];omega,by have:=Co (decide (((t[k]'(by omega)).ents[m]'(by omega)).node = n));have:=hIm.2.2;omega⟩)))
 | (refine bf (by omega) ?_;conv=>whnf)
 | (refine ax (by omega) ?_;conv=>whnf)
 | (refine ax (by have:=hb _ (List.getElem_mem (by omega : k < t.length));have:=Co (decide (((t[k]'(by omega)).ents[m]'(by omega)).node = n));have:=hIm.2.2;have:=hI.2.2;omega) ?_;conv=>whnf)
 | ((with_reducible refine ag ?_);first | (exact aD (congrArg i (by rw [hI.2.1,List.take_of_length_le (by omega)]));done))
  | fail
  )
end
section
def cM (t : List aM) : Prop:=∀ x ∈ t,∀ e ∈ x.ents,1 <= e.node /\ e.node <= (t.length : Int) - 1
inductive eo (t : List aM) (a : Nat) : Nat -> Prop
 | refl : eo t a a
 | step {b : Nat} {x : aM} {e : bm} : eo t a b -> t[b]? = some x -> e ∈ x.ents -> eo t a e.node.toNat
def fP (R : List Bool) (k : Nat) : Prop:=R[k]? = some true
def im (R : List Bool) (e : bm) : List Bool:=R.set e.node.toNat true
def lN (R : List Bool) (l : List bm) : List Bool:=l.foldl im R
def g8 (t : List aM) (R : List Bool) (k : Nat) : List Bool:=match t[k]? with
 | some x=>if R[k]? = some true then lN R x.ents else R
 | none=>R
def b8 (t : List aM) (R : List Bool) (k : Nat) : List Bool:=(List.range k).foldl (g8 t) R
def bU (t : List aM) (R : List Bool) : Nat -> List Bool
 | 0=>R
 | n + 1=>b8 t (bU t R n) t.length
def eD (t : List aM) (a : Nat) : List Bool:=(List.replicate t.length false).set a true
def fm (t : List aM) (a : Nat) : List Bool:=bU t (eD t a) t.length
theorem po (R : List Bool) (e : bm) : (im R e).length = R.length:=by simp [im]
theorem vk : ∀ (l : List bm) (R : List Bool),(lN R l).length = R.length
 | [],R=>rfl
 | e :: l,R=>by
  show (lN (im R e) l).length = _
  rw [vk l,po]
theorem BA (R : List Bool) (l : List bm) (e : bm) : lN R (l ++ [e]) = im (lN R l) e:=by simp [lN,List.foldl_append]
theorem jf {R : List Bool} {m k : Nat} : fP (R.set m true) k ↔ fP R k \/ (m = k /\ k < R.length):=by
 unfold fP
 rw [List.getElem?_set]
 by_cases h : m = k
 ·subst h
  by_cases h2 : m < R.length
  ·simp [h2]
  ·simp [h2]
 ·simp [h]
theorem G3 {R : List Bool} {k : Nat} (h : fP R k) : k < R.length:=(List.getElem?_eq_some_iff.1 h).1
theorem jW {k : Nat} : ∀ (l : List bm) (R : List Bool),fP (lN R l) k ↔ fP R k \/ (k < R.length /\ ∃ e ∈ l,e.node.toNat = k)
 | [],R=>by simp [lN]
 | e :: l,R=>by
  show fP (lN (im R e) l) k ↔ _
  rw [jW l,po]
  unfold im
  rw [jf]
  constructor
  ·rintro ((h | h) | h)
   ·exact .inl h
   ·exact .inr ⟨h.2,e,by simp,h.1⟩
   ·obtain ⟨h1, e', h2, h3⟩ := h
    exact .inr ⟨h1, e', by simp [h2], h3⟩
  ·rintro (h | ⟨h1, e', h2, h3⟩)
   ·exact .inl (.inl h)
   ·rcases List.mem_cons.1 h2 with rfl | h2
    ·exact .inl (.inr ⟨h3,h1⟩)
    ·exact .inr ⟨h1, e', h2, h3⟩
theorem EJ (t : List aM) (R : List Bool) (k : Nat) : (g8 t R k).length = R.length:=by
 unfold g8
 split
 ·split
  ·exact vk _ _
  ·rfl
 ·rfl
theorem BB {t : List aM} {R : List Bool} {k j : Nat} (h : fP R j) : fP (g8 t R k) j:=by
 unfold g8
 split
 ·split
  ·exact (jW _ _).2 (.inl h)
  ·exact h
 ·exact h
theorem gH (t : List aM) (R : List Bool) (k : Nat) : b8 t R (k + 1) = g8 t (b8 t R k) k:=by simp [b8,List.range_succ,List.foldl_append]
theorem iM (t : List aM) (R : List Bool) : ∀ k,(b8 t R k).length = R.length
 | 0=>rfl
 | k + 1=>by rw [gH,EJ,iM t R k]
theorem gG {t : List aM} {R : List Bool} {j m : Nat} (h : fP (b8 t R m) j) : ∀ k,m <= k -> fP (b8 t R k) j
  | 0, hk => by have : m = 0 := by omega
                subst this;exact h
  | k + 1,hk=>by
    by_cases e : m = k + 1
    . subst e;exact h
    . rw [gH];exact BB (gG h k (by omega))
theorem kL (t : List aM) (R : List Bool) : ∀ n,(bU t R n).length = R.length
 | 0=>rfl
 | n + 1=>by show (b8 t (bU t R n) t.length).length = _;rw [iM,kL t R n]
theorem zk {t : List aM} {R : List Bool} {a k : Nat} (h : ∀ j,fP R j -> eo t a j) : ∀ j,fP (g8 t R k) j -> eo t a j:=by
 intro j hj
 unfold g8 at hj
 split at hj
 ·rename_i x hx
  split at hj
  ·rename_i hk
   rcases (jW _ _).1 hj with hj | ⟨_,e,he,rfl⟩
   ·exact h j hj
   ·exact .step (h k hk) hx he
  ·exact h j hj
 ·exact h j hj
theorem pb {t : List aM} {R : List Bool} {a : Nat} (h : ∀ j,fP R j -> eo t a j) : ∀ k j,fP (b8 t R k) j -> eo t a j
 | 0=>h
 | k + 1=>by rw [gH];exact zk (pb h k)
theorem pf {t : List aM} {R : List Bool} {a : Nat} (h : ∀ j,fP R j -> eo t a j) : ∀ n j,fP (bU t R n) j -> eo t a j
 | 0=>h
 | n + 1=>pb (pf h n) t.length
theorem pq {t : List aM} {a j : Nat} : fP (eD t a) j ↔ a = j /\ j < t.length:=by
 unfold eD
 rw [jf]
 simp [fP,List.getElem?_replicate]
def AI (t : List aM) (R : List Bool) : Prop:=∀ k x,t[k]? = some x -> fP R k -> ∀ e ∈ x.ents,fP R e.node.toNat
theorem sg {t : List aM} {R : List Bool} {a : Nat} (hc : AI t R) (ha : fP R a) : ∀ j,eo t a j -> fP R j:=by
 intro j hj
 induction hj with
 | refl=>exact ha
 | step _ hx he ih=>exact hc _ _ hx ih _ he
theorem Bh {t : List aM} {R : List Bool} (hg : cM t) (hl : R.length = t.length) (hf : b8 t R t.length = R) : AI t R:=by
 intro k x hx hk e he
 have hkl : k < t.length:=(List.getElem?_eq_some_iff.1 hx).1
 have h1 : fP (b8 t R k) k:=gG (m:=0) hk k (by omega)
 have h2 : fP (b8 t R (k + 1)) e.node.toNat:=by
  rw [gH]
  unfold g8
  rw [hx]
  simp only
  rw [if_pos (show (b8 t R k)[k]? = some true from h1),jW]
  have:=hg x (List.mem_of_getElem? hx) e he
  exact .inr ⟨by rw [iM,hl];omega,e,he,rfl⟩
 have h3:=gG h2 t.length (by omega)
 rwa [hf] at h3
def eX (R : List Bool) : Nat:=R.countP id
theorem Gl : ∀ (R S : List Bool),R.length = S.length -> (∀ k,fP R k -> fP S k) -> eX R <= eX S /\ (eX R = eX S -> R = S)
 | [],[],_,_=>⟨Nat.le_refl _,fun _=>rfl⟩
 | [],_ :: _,h,_=>by simp at h
 | _ :: _,[],h,_=>by simp at h
 | a :: R,b :: S,h,hm=>by
  obtain ⟨h1,h2⟩:=Gl R S (by simpa using h) fun k hk=>by have:=hm (k + 1);simpa [fP] using this (by simpa [fP] using hk)
  have h0:=hm 0
  simp only [fP,List.getElem?_cons_zero,Option.some.injEq] at h0
  unfold eX at *
  simp only [List.countP_cons,id]
  cases a<;>cases b
  ·simp only [Bool.false_eq_true,if_false,Nat.add_zero];exact ⟨h1,fun e=>by rw [h2 e]⟩
  ·simp only [Bool.false_eq_true,if_false,if_true];exact ⟨by omega,fun e=>by omega⟩
  ·exact absurd (h0 rfl) (by simp)
  ·simp only [if_true];exact ⟨by omega,fun e=>by rw [h2 (by omega)]⟩
theorem wz (R : List Bool) : eX R <= R.length:=List.countP_le_length
theorem tI {t : List aM} {R : List Bool} (h1 : 1 <= eX R) : ∀ n,b8 t (bU t R n) t.length = bU t R n \/ n + 1 <= eX (bU t R n)
 | 0=>.inr h1
 | n + 1=>by
  have hm:=Gl (bU t R n) (b8 t (bU t R n) t.length) (iM _ _ _).symm fun k hk=>gG (m:=0) hk _ (by omega)
  rcases tI h1 n with h | h
  ·left
   show b8 t (b8 t (bU t R n) t.length) t.length = b8 t (bU t R n) t.length
   rw [h,h]
  ·by_cases e : b8 t (bU t R n) t.length = bU t R n
   ·left
    show b8 t (b8 t (bU t R n) t.length) t.length = b8 t (bU t R n) t.length
    rw [e,e]
   ·right
    show n + 1 + 1 <= eX (b8 t (bU t R n) t.length)
    have : eX (bU t R n) ≠ eX (b8 t (bU t R n) t.length):=fun h2=>e (hm.2 h2).symm
    omega
theorem mK (t : List aM) (a : Nat) : (eD t a).length = t.length:=by simp [eD]
theorem kJ (t : List aM) (a : Nat) : (fm t a).length = t.length:=by unfold fm;rw [kL,mK]
theorem xp {t : List aM} {a : Nat} (hg : cM t) (ha : a < t.length) (j : Nat) : fP (fm t a) j ↔ eo t a j:=by
 have h0 : fP (eD t a) a:=pq.2 ⟨rfl,ha⟩
 have hT : ∀ n,fP (bU t (eD t a) n) a:=by
  intro n
  induction n with
  | zero=>exact h0
  | succ n ih=>exact gG (m:=0) ih _ (by omega)
 constructor
 ·exact pf (fun j hj=>by obtain ⟨rfl,_⟩:=pq.1 hj;exact .refl) _ j
 ·have h1 : 1 <= eX (eD t a):=by
   have:=(List.getElem?_eq_some_iff.1 h0)
   exact List.countP_pos_iff.2 ⟨true,by obtain ⟨hl,e⟩:=this;rw [<- e];exact List.getElem_mem _,rfl⟩
  have hf : b8 t (fm t a) t.length = fm t a:=by
   rcases tI (t:=t) h1 t.length with h | h
   ·exact h
   ·have:=wz (bU t (eD t a) t.length)
    rw [kL,mK] at this
    omega
  exact sg (Bh hg (kJ t a) hf) (hT _) j
theorem D4 {R S : List Bool} (h : R.length = S.length) (hi : ∀ j,fP R j ↔ fP S j) : R = S:=by
 apply List.ext_getElem h
 intro k h1 h2
 have:=hi k
 unfold fP at this
 rw [List.getElem?_eq_getElem h1,List.getElem?_eq_getElem h2] at this
 simp only [Option.some.injEq] at this
 cases hr : R[k]<;>cases hs : S[k]<;>simp_all
theorem HI {t : List aM} {a : Nat} {R : List Bool} (hg : cM t) (ha : a < t.length) (hl : R.length = t.length) (h1 : fP R a) (h2 : ∀ j,fP R j -> eo t a j) (h3 : AI t R) : R = fm t a:=
 D4 (by rw [hl,kJ]) fun j=>⟨fun h=>(xp hg ha j).2 (h2 j h),fun h=>sg h3 h1 j ((xp hg ha j).1 h)⟩
end
section
structure Bf (t : List aM) (a : Nat) (R : List Bool) (Q : List Int) : Prop where
 len : R.length = t.length
 st : fP R a
 snd : ∀ j,fP R j -> eo t a j
 q : ∀ q ∈ Q,0 <= q /\ fP R q.toNat
 cl : ∀ k x,t[k]? = some x -> fP R k -> (k : Int) ∈ Q \/ ∀ e ∈ x.ents,fP R e.node.toNat
 n : Q.length <= eX R
theorem wA : ∀ (R : List Bool) (m : Nat),R[m]? = some false -> eX (R.set m true) = eX R + 1
 | [],m,h=>by simp at h
 | b :: R,0,h=>by
  simp only [List.getElem?_cons_zero,Option.some.injEq] at h
  subst h
  simp [eX]
 | b :: R,m + 1,h=>by
  have:=wA R m (by simpa using h)
  unfold eX at *
  simp only [List.set_cons_succ,List.countP_cons,this];omega
theorem QP {t : List aM} {a : Nat} (ha : a < t.length) : Bf t a (eD t a) [(a : Int)]:=by
 have h0 : fP (eD t a) a:=pq.2 ⟨rfl,ha⟩
 refine ⟨mK t a,h0,fun j hj=>by obtain ⟨rfl,_⟩:=pq.1 hj;exact .refl,fun q hq=>by rw [List.mem_singleton.1 hq];exact ⟨by omega,by simpa using h0⟩,fun k x _ hk=>.inl (by obtain ⟨rfl,_⟩:=pq.1 hk;simp),?_⟩
 obtain ⟨hl,e⟩:=List.getElem?_eq_some_iff.1 h0
 exact List.countP_pos_iff.2 ⟨true,by rw [<- e];exact List.getElem_mem _,rfl⟩
theorem Li {t : List aM} {a : Nat} {R : List Bool} {p : Int} {cur : List Int} {nd : aM} (h : Bf t a R (p :: cur)) (hd : t[p.toNat]? = some nd) (hm : ∀ e ∈ nd.ents,fP R e.node.toNat) : Bf t a R cur:=by
 refine ⟨h.len,h.st,h.snd,fun q hq=>h.q q (by simp [hq]),fun k x hx hk=>?_,by have:=h.n;simp only [List.length_cons] at this;omega⟩
 rcases h.cl k x hx hk with hh | hh
 ·rcases List.mem_cons.1 hh with e | hh
  ·right
   have : p.toNat = k:=by omega
   rw [this,hx] at hd
   cases hd
   exact hm
  ·exact .inl hh
 ·exact .inr hh
theorem Iz {t : List aM} {a : Nat} {R : List Bool} {p : Int} {cur : List Int} {nd : aM} {e : bm} (hg : cM t) (h : Bf t a R (p :: cur)) (hd : t[p.toNat]? = some nd) (he : e ∈ nd.ents) (hf : R[e.node.toNat]? = some false) : Bf t a (im R e) (p :: (cur ++ [e.node])):=by
 have hb:=hg nd (List.mem_of_getElem? hd) e he
 have hmo : ∀ j,fP R j -> fP (im R e) j:=fun j hj=>jf.2 (.inl hj)
 have hn : fP (im R e) e.node.toNat:=jf.2 (.inr ⟨rfl,by rw [h.len];omega⟩)
 refine ⟨by rw [po];exact h.len,hmo _ h.st,fun j hj=>?_,fun q hq=>?_,fun k x hx hk=>?_,?_⟩
 ·rcases jf.1 hj with hj | ⟨rfl,_⟩
  ·exact h.snd j hj
  ·exact .step (h.snd _ (h.q p (by simp)).2) hd he
 ·rw [<- List.cons_append] at hq
  rcases List.mem_append.1 hq with hq | hq
  ·exact ⟨(h.q q hq).1,hmo _ (h.q q hq).2⟩
  ·rw [List.mem_singleton.1 hq];exact ⟨by omega,hn⟩
 ·rcases jf.1 hk with hk | ⟨rfl,_⟩
  ·rcases h.cl k x hx hk with hh | hh
   ·left;rw [<- List.cons_append];exact List.mem_append_left _ hh
   ·exact .inr fun e' he'=>hmo _ (hh e' he')
  ·left
   rw [show ((e.node.toNat : Nat) : Int) = e.node by omega];simp
 ·unfold im
  rw [wA _ _ hf]
  have:=h.n
  simp only [List.length_cons,List.length_append,List.length_nil] at *;omega
theorem Lh {t : List aM} {a : Nat} {R : List Bool} (hg : cM t) (h : Bf t a R []) : R = fm t a:=
 HI hg (by have:=G3 h.st;rw [h.len] at this;exact this) h.len h.st h.snd fun k x hx hk=>(h.cl k x hx hk).resolve_left (by simp)
structure Bi (t : List aM) (a : Nat) (R : List Bool) (p : Int) (cur : List Int) (nd : aM) (m : Nat) (R0 : List Bool) (cur0 : List Int) : Prop where
 b : Bf t a R (p :: cur)
 ml : m <= nd.ents.length
 mrk : ∀ e ∈ nd.ents.take m,fP R e.node.toNat
 n : cur.length + eX R0 = cur0.length + eX R
 le : eX R0 <= eX R
theorem Nh {t : List aM} {a : Nat} {R : List Bool} {p : Int} {cur : List Int} {nd : aM} (h : Bf t a R (p :: cur)) : Bi t a R p cur nd 0 R cur:=
 ⟨h,Nat.zero_le _,fun e he=>by simp at he,rfl,Nat.le_refl _⟩
section
variable {t : List aM} {a : Nat} {R R0 : List Bool} {p : Int} {cur cur0 : List Int} {nd : aM} {m : Nat} (hg : cM t) (h : Bi t a R p cur nd m R0 cur0)
include h in
theorem Cn (hm : m < nd.ents.length) (ht : fP R nd.ents[m].node.toNat) : Bi t a R p cur nd (m + 1) R0 cur0:=by
 refine ⟨h.b,hm,fun e he=>?_,h.n,h.le⟩
 rw [List.take_succ_eq_append_getElem hm] at he
 rcases List.mem_append.1 he with he | he
 ·exact h.mrk e he
 ·rw [List.mem_singleton.1 he];exact ht
include hg h in
theorem Ck (hd : t[p.toNat]? = some nd) (hm : m < nd.ents.length) (hf : R[nd.ents[m].node.toNat]? = some false) : Bi t a (im R nd.ents[m]) p (cur ++ [nd.ents[m].node]) nd (m + 1) R0 cur0:=by
 have hb:=Iz hg h.b hd (List.getElem_mem hm) hf
 have hc : eX (im R nd.ents[m]) = eX R + 1:=wA _ _ hf
 refine ⟨hb,hm,fun e he=>?_,?_,?_⟩
 ·rw [List.take_succ_eq_append_getElem hm] at he
  rcases List.mem_append.1 he with he | he
  ·exact jf.2 (.inl (h.mrk e he))
  ·rw [List.mem_singleton.1 he]
   have:=hg nd (List.mem_of_getElem? hd) _ (List.getElem_mem hm)
   exact jf.2 (.inr ⟨rfl,by rw [h.b.len];omega⟩)
 ·have:=h.n
  rw [List.length_append,hc];simp only [List.length_cons,List.length_nil];omega
 ·have:=h.le
  omega
include h in
theorem wh (hd : t[p.toNat]? = some nd) (hm : nd.ents.length <= m) : Bf t a R cur /\ 2 * (t.length - eX R) + cur.length < 2 * (t.length - eX R0) + (p :: cur0).length:=by
 have hk:=h.mrk
 rw [List.take_of_length_le hm] at hk
 refine ⟨Li h.b hd hk,?_⟩
 have h1:=h.n
 have h2:=h.le
 have h3:=wz R
 rw [h.b.len] at h3
 simp only [List.length_cons];omega
include h in
theorem Lj : (p :: cur).length <= t.length:=by
 have h1:=h.b.n
 have h3:=wz R
 rw [h.b.len] at h3
 omega
end
end
section
set_option maxRecDepth 10000
attribute [local irreducible] bn
set_option maxHeartbeats 2000000
open Paths
attribute [local irreducible] am cut normal bp aF text aj glue bi ar
abbrev kM (R : List Bool) : List AV:=(R.map D.bool).map .d
abbrev b9 (l : List Int) : List AV:=(l.map i).map .d
theorem JO {pre q : List Int} {w : Int} {n : Nat} {K : AV -> Prop} (hn : n = pre.length) (k : K (.d (i w))) : cX (b9 (pre ++ w :: q)) n K:=by
 subst hn
 exact cj (x:=.d (i w)) (by simp [b9]) k
theorem HL (n : Nat) (b : Bool) : kM (List.replicate n b) = List.replicate n (.d (.bool b)):=by simp [kM]
theorem HM (n : Nat) (x : Int) : b9 (List.replicate n x) = List.replicate n (.d (i x)):=by simp [b9]
theorem mI {R : List Bool} {n m : Nat} {K : AV -> Prop} (e : n = m) (h : m < R.length) (k : K (.d (.bool R[m]))) : cX (kM R) n K:=by
 subst e
 exact cj (x:=.d (.bool R[n])) (by simp [kM,h]) k
theorem pg {R : List Bool} {n m : Nat} {K : List AV -> Prop} (e : n = m) (k : K (kM (R.set m true))) : fb (kM R) n (.d (.bool true)) K:=by
 subst e
 refine rC ?_
 have : (kM R).set n (.d (.bool true)) = kM (R.set n true):=by simp [kM,List.map_set]
 rw [this];exact k
theorem tc {t : List aM} {a m : Nat} {R R0 : List Bool} {p : Int} {cur cur0 : List Int} {nd : aM} (hg : cM t) (hd : t[p.toNat]? = some nd) (h : Bi t a R p cur nd m R0 cur0) (hm : m < nd.ents.length) : nd.ents[m].node.toNat < R.length /\ 1 <= nd.ents[m].node /\ nd.ents[m].node <= (t.length : Int) - 1:=by
 have:=hg nd (List.mem_of_getElem? hd) _ (List.getElem_mem hm)
 rw [h.b.len];omega
theorem FZ {t : List aM} {a m : Nat} {R R0 : List Bool} {p : Int} {cur cur0 : List Int} {nd : aM} (h : Bi t a R p cur nd m R0 cur0) (hl : t.length < 100000) : (p :: cur).length + 1 <= 10000000:=by
 have:=Lj h;omega
theorem xb {R : List Bool} {k : Nat} (h : k < R.length) (e : R[k] = true) : fP R k:=by unfold fP;rw [List.getElem?_eq_getElem h,e]
theorem sS {R : List Bool} {k : Nat} (h : k < R.length) (e : R[k] = false) : R[k]? = some false:=by rw [List.getElem?_eq_getElem h,e]
theorem O2 {t : List aM} {a : Nat} {R : List Bool} {p : Int} {cur : List Int} (h : Bf t a R (p :: cur)) : ∃ nd,t[p.toNat]? = some nd /\ 0 <= p:=by
 obtain ⟨h0,h1⟩:=h.q p (by simp)
 have:=G3 h1
 rw [h.len] at this
 exact ⟨t[p.toNat],List.getElem?_eq_getElem this,h0⟩
theorem vI (pre q : List Int) (w : Int) : b9 (pre ++ w :: q) = b9 ((pre ++ [w]) ++ q):=by simp
theorem vJ {μ : List Mu} {pre cur : List Int} {w x : Int} {n : Nat} (hn : n = pre.length) : io μ ((b9 (pre ++ w :: cur)).drop n ++ [.d (i x)]) (b9 ([] ++ w :: (cur ++ [x]))):=by
 subst hn
 have : (b9 (pre ++ w :: cur)).drop pre.length ++ [.d (i x)] = b9 ([] ++ w :: (cur ++ [x])):=by simp [b9]
 rw [this];exact em _ _
theorem BS {μ : List Mu} {pre cur : List Int} {w x : Int} {n k : Nat} (hn : n = pre.length) (hk : k = (w :: cur).length) : io μ (((b9 (pre ++ w :: cur)).drop n).take k ++ [.d (i x)]) (b9 ([] ++ w :: (cur ++ [x]))):=by
 have h:=vJ (μ:=μ) (cur:=cur) (w:=w) (x:=x) hn
 rw [List.take_of_length_le (by subst hn;rw [hk];simp [b9])]
 exact h
theorem xW {pre cur : List Int} {w : Int} : pre.length + (w :: cur).length = (b9 (pre ++ w :: cur)).length:=by simp [b9]
theorem Dk {n : Nat} {l : Int} {A : Prop} {h : ae} {F : Nat -> ae -> Prop} (hA : A) (hl : l = n) (hk : eR h ⟨kM (List.replicate n false),1,0⟩ F) : A /\ eR h ⟨List.replicate l.toNat (.d (.bool false)),1,0⟩ F:=by
 subst hl
 rw [HL] at hk
 exact ⟨hA,hk⟩
theorem Jw {n : Nat} {l : Int} {A : Prop} {h : ae} {F : Nat -> ae -> Prop} (hA : A) (hl : l = n) (hk : eR h ⟨b9 (List.replicate n 0),1,0⟩ F) : A /\ eR h ⟨List.replicate l.toNat (.d (i 0)),1,0⟩ F:=by
 subst hl
 rw [HM] at hk
 exact ⟨hA,hk⟩
attribute [local irreducible] cM fm eX
theorem Vc (t : List aM) (a : Nat) (hg : cM t) (ha : a < t.length) (hl : t.length < 100000) (hb : ∀ x ∈ t,x.ents.length < 2000000) : Fn 91 [aS t,i a] (.fs ((fm t a).map D.bool)):=by
 refine ac aZ Tryz.func91 rfl (by kernel_rfl) ?_
 conv=>whnf
 repeat' (first
 | ((with_reducible refine aJ ?_ ?_);(focus ((try simp only [List.length_map,List.length_cons,List.length_nil,List.length_append]);omega));conv=>whnf)
 | ((with_reducible refine bP ?_ ?_);(focus ((try simp only [List.length_map,List.length_cons,List.length_nil,List.length_append]);omega));conv=>whnf)
 | ((with_reducible refine aB (fun h=>?_) (fun h=>?_))<;>(try simp only [List.length_map] at h)<;>conv=>whnf)
 | ((with_reducible refine dj (fun h=>?_) (fun h=>?_))<;>conv=>whnf)
 | ((with_reducible refine aO ?_);first | (refine Di (fun (m : Nat) (R2 : List Bool) (pre2 : List Int) (cur2 : List Int) (fr2 : Bool)=>nd.ents.length - m) (fun (m : Nat) (R2 : List Bool) (pre2 : List Int) (cur2 : List Int) (fr2 : Bool)=>Bi t a R2 w cur2 nd m R cur) (fun (m : Nat) (R2 : List Bool) (pre2 : List Int) (cur2 : List Int) (fr2 : Bool)=>[(0,.d (aS t)),(5,.sl 0 0 t.length 1 (some t.length)),(6,.sl 1 pre2.length (w :: cur2).length 1 (pJ fr2 (w :: cur2).length)),(28,.d (.fs (nd.ents.map bm.enc))),(29,.d (i nd.ents.length)),(30,.d (i m))]) (fun (m : Nat) (R2 : List Bool) (pre2 : List Int) (cur2 : List Int) (fr2 : Bool)=>[⟨kM R2,1,0⟩,⟨b9 (pre2 ++ w :: cur2),1,0⟩]) (0) (R) (pre) (cur) (false) (by exact Nh hI) ?_ (fun m R2 pre2 cur2 fr2 Ci hIi hCi=>?_);(exact ⟨[.old 0,.old 1],rfl,rfl,⟨rfl,(by first | exact ⟨rfl,rfl,rfl,rfl,rfl⟩ ),⟨rfl,rfl,(by simp),rfl,(rh (fr:=false) (by simp))⟩,rfl,(congrArg (D.int .i64) (by simp only [List.length_map])),(by first | exact congrArg (D.int .i64) (by omega) ),trivial⟩,⟨⟨rfl,rfl,.inl ⟨_,rfl,rfl⟩⟩,⟨rfl,rfl,.inl ⟨_,rfl,rfl⟩⟩,trivial⟩⟩);cases fr2;all_goals (conv=>whnf)) | (refine Di (fun (m : Nat) (R2 : List Bool) (pre2 : List Int) (cur2 : List Int) (fr2 : Bool)=>nd.ents.length - m) (fun (m : Nat) (R2 : List Bool) (pre2 : List Int) (cur2 : List Int) (fr2 : Bool)=>Bi t a R2 w cur2 nd m R cur) (fun (m : Nat) (R2 : List Bool) (pre2 : List Int) (cur2 : List Int) (fr2 : Bool)=>[(0,.d (aS t)),(5,.sl 0 0 t.length 1 (some t.length)),(6,.sl 1 pre2.length (w :: cur2).length 1 (pJ fr2 (w :: cur2).length)),(28,.d (.fs (nd.ents.map bm.enc))),(29,.d (i nd.ents.length)),(30,.d (i m))]) (fun (m : Nat) (R2 : List Bool) (pre2 : List Int) (cur2 : List Int) (fr2 : Bool)=>[⟨kM R2,1,0⟩,⟨b9 (pre2 ++ w :: cur2),1,0⟩]) (0) (R) (pre) (cur) (true) (by exact Nh hI) ?_ (fun m R2 pre2 cur2 fr2 Ci hIi hCi=>?_);(exact ⟨[.old 0,.old 1],rfl,rfl,⟨rfl,(by first | exact ⟨rfl,rfl,rfl,rfl,rfl⟩ ),⟨rfl,rfl,(by simp),rfl,(rh (fr:=true) (by simp))⟩,rfl,(congrArg (D.int .i64) (by simp only [List.length_map])),(by first | exact congrArg (D.int .i64) (by omega) ),trivial⟩,⟨⟨rfl,rfl,.inl ⟨_,rfl,rfl⟩⟩,⟨rfl,rfl,.inl ⟨_,rfl,rfl⟩⟩,trivial⟩⟩);cases fr2;all_goals (conv=>whnf)) | (refine PB (fun (R : List Bool) (pre : List Int) (q : List Int) (fr : Bool)=>2 * (t.length - eX R) + q.length) (fun (R : List Bool) (pre : List Int) (q : List Int) (fr : Bool)=>Bf t a R q) (fun (R : List Bool) (pre : List Int) (q : List Int) (fr : Bool)=>[(0,.d (aS t)),(5,.sl 0 0 t.length 1 (some t.length)),(6,.sl 1 pre.length q.length 1 (pJ fr q.length))]) (fun (R : List Bool) (pre : List Int) (q : List Int) (fr : Bool)=>[⟨kM R,1,0⟩,⟨b9 (pre ++ q),1,0⟩]) (eD t a) ([]) ([(a : Int)]) (true) (by exact QP ha) ?_ (fun R pre q fr C hI hC=>?_);(exact ⟨[.old 0,.old 1],rfl,rfl,⟨rfl,⟨rfl,rfl,(by simp),rfl,(by simp)⟩,(by first | exact ⟨rfl,rfl,rfl,rfl,rfl⟩ ),trivial⟩,⟨⟨rfl,rfl,.inl ⟨_,rfl,rfl⟩⟩,⟨rfl,rfl,.inl ⟨_,rfl,rfl⟩⟩,trivial⟩⟩);(rcases q with (_ | ⟨w,cur⟩));(rotate_left;(obtain ⟨nd,hnd,hw0⟩:=O2 hI);rotate_right);all_goals cases fr;all_goals (conv=>whnf)))
 | ((with_reducible show C _ _);first | (refine hC (R2) (pre2 ++ [w]) (cur2) (false) _ _ ?_ (by exact (wh hIi hnd (by omega)).2) ?_;clear hC;rotate_left;(exact ⟨[.old 0,.old 1],rfl,rfl,⟨rfl,(by first | exact ⟨rfl,rfl,rfl,rfl,rfl⟩ ),⟨rfl,(by simp only [List.length_append,List.length_cons,List.length_nil]),Nat.add_sub_cancel _ 1,rfl,mg (fr:=false)⟩,trivial⟩,⟨⟨rfl,rfl,.inl ⟨_,rfl,rfl⟩⟩,⟨rfl,rfl,.inl ⟨_,rfl,(vI _ _ _).symm⟩⟩,trivial⟩⟩);(exact (wh hIi hnd (by omega)).1)) | (refine hC (R2) (pre2 ++ [w]) (cur2) (true) _ _ ?_ (by exact (wh hIi hnd (by omega)).2) ?_;clear hC;rotate_left;(exact ⟨[.old 0,.old 1],rfl,rfl,⟨rfl,(by first | exact ⟨rfl,rfl,rfl,rfl,rfl⟩ ),⟨rfl,(by simp only [List.length_append,List.length_cons,List.length_nil]),Nat.add_sub_cancel _ 1,rfl,mg (fr:=true)⟩,trivial⟩,⟨⟨rfl,rfl,.inl ⟨_,rfl,rfl⟩⟩,⟨rfl,rfl,.inl ⟨_,rfl,(vI _ _ _).symm⟩⟩,trivial⟩⟩);(exact (wh hIi hnd (by omega)).1)))
 | ((with_reducible show Ci _ _);first | (refine hCi (m + 1) (R2) (pre2) (cur2) (true) _ _ ?_ (by omega) ?_;clear hCi;rotate_left;(exact ⟨[.old 0,.old 1],rfl,rfl,⟨rfl,(by first | exact ⟨rfl,rfl,rfl,rfl,rfl⟩ ),(by first | exact ⟨rfl,rfl,rfl,rfl,rfl⟩ ),rfl,rfl,(by first | exact congrArg (D.int .i64) (by omega) ),trivial⟩,⟨⟨rfl,rfl,.inl ⟨_,rfl,rfl⟩⟩,⟨rfl,rfl,.inl ⟨_,rfl,rfl⟩⟩,trivial⟩⟩);(exact Cn hIi (by omega) (xb (tc hg hnd hIi (by omega)).1 (by assumption)))) | (refine hCi (m + 1) (R2) (pre2) (cur2) (false) _ _ ?_ (by omega) ?_;clear hCi;rotate_left;(exact ⟨[.old 0,.old 1],rfl,rfl,⟨rfl,(by first | exact ⟨rfl,rfl,rfl,rfl,rfl⟩ ),(by first | exact ⟨rfl,rfl,rfl,rfl,rfl⟩ ),rfl,rfl,(by first | exact congrArg (D.int .i64) (by omega) ),trivial⟩,⟨⟨rfl,rfl,.inl ⟨_,rfl,rfl⟩⟩,⟨rfl,rfl,.inl ⟨_,rfl,rfl⟩⟩,trivial⟩⟩);(exact Cn hIi (by omega) (xb (tc hg hnd hIi (by omega)).1 (by assumption)))) | (refine hCi (m + 1) (im R2 (nd.ents[m]'(by omega))) ([]) (cur2 ++ [(nd.ents[m]'(by omega)).node]) (false) _ _ ?_ (by omega) ?_;clear hCi;rotate_left;(exact ⟨[.old 0,.old 4],rfl,rfl,⟨rfl,(by first | exact ⟨rfl,rfl,rfl,rfl,rfl⟩ ),⟨rfl,rfl,(by simp),rfl,rfl⟩,rfl,rfl,(by first | exact congrArg (D.int .i64) (by omega) ),trivial⟩,⟨⟨rfl,rfl,.inl ⟨_,rfl,rfl⟩⟩,⟨rfl,rfl,.inr (vJ rfl)⟩,trivial⟩⟩);(exact Ck hg hIi hnd (by omega) (sS (tc hg hnd hIi (by omega)).1 (by assumption)))) | (refine hCi (m + 1) (im R2 (nd.ents[m]'(by omega))) ([]) (cur2 ++ [(nd.ents[m]'(by omega)).node]) (false) _ _ ?_ (by omega) ?_;clear hCi;rotate_left;(exact ⟨[.old 0,.old 4],rfl,rfl,⟨rfl,(by first | exact ⟨rfl,rfl,rfl,rfl,rfl⟩ ),⟨rfl,rfl,(by simp),rfl,rfl⟩,rfl,rfl,(by first | exact congrArg (D.int .i64) (by omega) ),trivial⟩,⟨⟨rfl,rfl,.inl ⟨_,rfl,rfl⟩⟩,⟨rfl,rfl,.inr (BS rfl rfl)⟩,trivial⟩⟩);(exact Ck hg hIi hnd (by omega) (sS (tc hg hnd hIi (by omega)).1 (by assumption)))) )
 | (refine bf (by omega) ?_;conv=>whnf)
 | (refine ax (by have:=hb nd (List.mem_of_getElem? hnd);omega) ?_;conv=>whnf)
 | (refine Dk (n:=t.length) (by rw [List.length_map];refine ⟨by omega,Int.le_refl _,by omega,?_⟩;show (t.length : Int) * ((1 : Nat) : Int) <= _;omega) (by rw [List.length_map]) ?_;conv=>whnf)
 | (refine ⟨⟨by omega,by (try simp only [List.length_map]);omega⟩,?_⟩;conv=>whnf)
 | (refine ⟨⟨by have:=tc hg hnd hIi (m:=m) (by omega);omega,by have:=tc hg hnd hIi (m:=m) (by omega);(try simp only [List.length_map]);omega⟩,?_⟩;conv=>whnf)
 | (refine mI (m:=a) ?_ ?_ ?_;(focus omega);(focus (simpa using ha));conv=>whnf)
 | (refine pg (m:=a) ?_ ?_;(focus omega);conv=>whnf)
 | (refine ⟨⟨by omega,by simp only [List.length_cons];omega⟩,?_⟩;conv=>whnf)
 | (refine mI (m:=(nd.ents[m]'(by omega)).node.toNat) ?_ (tc hg hnd hIi (by omega)).1 ?_;(focus omega);conv=>whnf)
 | (refine pg (m:=(nd.ents[m]'(by omega)).node.toNat) ?_ ?_;(focus omega);conv=>whnf)
 | ((with_reducible refine yv ?_);conv=>whnf)
 | (refine ⟨⟨xW,cm (FZ hIi hl) rfl⟩,?_⟩;conv=>whnf)
 | (refine ⟨⟨Nat.le_of_eq xW,cm (FZ hIi hl) rfl⟩,?_⟩;conv=>whnf)
 | (refine ⟨Nat.le_refl _,?_⟩;conv=>whnf)
 | (refine jH 1 ((w :: cur2).length) rfl rfl ⟨by simp only [List.length_cons];omega,Nat.le_refl _⟩ ?_;conv=>whnf)
 | (refine gD hw0 hnd ?_;conv=>whnf)
 | (refine JO (by first | rfl ) ?_;conv=>whnf)
 | ((with_reducible refine ag ?_);first | (exact aP (iu (f:=D.bool) (l:=R) hI.len.symm rfl (by decide)) (by rw [<- Lh hg hI]);done))
  | fail
  )
end
section
open Go Dw Paths
def CU (f : Nat -> Int) : Nat -> Nat -> Int × Int
 | 0,_=>(0,0)
 | n + 1,k=>if f k = 0 then CU f n (k + 1) else ((k : Int),f k)
def bq (f : Nat -> Int) (n k : Nat) : Int × Int:=CU f (n - k) k
theorem dU {f : Nat -> Int} {n k : Nat} (h : k < n) (e : ¬ f k = 0) : bq f n k = ((k : Int),f k):=by
 unfold bq
 rw [show n - k = (n - (k + 1)) + 1 by omega]
 simp only [CU,if_neg e]
theorem eQ {f : Nat -> Int} {n k : Nat} (h : k < n) (e : f k = 0) : bq f n k = bq f n (k + 1):=by
 unfold bq
 rw [show n - k = (n - (k + 1)) + 1 by omega]
 simp only [CU,if_pos e]
theorem br {f : Nat -> Int} {n k : Nat} (h : n <= k) : bq f n k = (0,0):=by
 unfold bq
 rw [show n - k = 0 by omega];rfl
theorem gr {f : Nat -> Int} {n : Nat} : ∀ (m k : Nat),m = n - k -> (bq f n k).2 = 0 -> ∀ j,k <= j -> j < n -> f j = 0
 | 0,k,hm,_,j,h1,h2=>by omega
 | m + 1,k,hm,h,j,h1,h2=>by
  by_cases e : f k = 0
  ·rw [eQ (by omega) e] at h
   by_cases hj : j = k
   ·subst hj;exact e
   ·exact gr m (k + 1) (by omega) h j (by omega) h2
  ·rw [dU (by omega) e] at h;exact absurd h e
def ed (t : List aM) (k : Nat) : Int:=match t[k]? with
 | some x=>dv t k x
 | none=>0
def fD (t : List aM) (R : List Bool) (k : Nat) : Int:=if k = 0 then 0 else match t[k]? with
 | some x=>if aX t k = 0 then 12 else if 1 < aX t k /\ x.kind ≠ 1 then 23 else if R[k]? = some true then 0 else 14
 | none=>0
def aW (t : List aM) : Int × Int:=if t.length = 0 then (0,10) else if 40 < t.length then (0,8) else if (bq (ed t) t.length 0).2 = 0 then bq (fD t (fm t 0)) t.length 0 else bq (ed t) t.length 0
theorem kt {t : List aM} {k : Nat} (h : k < t.length) : ed t k = dv t k t[k]:=by unfold ed;rw [List.getElem?_eq_getElem h]
theorem mV {p : Int × Int} {a b : Int} (h : p = (a,b)) : D.tup [i a,i b] = D.tup [i p.1,i p.2]:=by rw [h]
theorem KG {t : List aM} (h : t.length = 0) : aW t = (0,10):=if_pos h
theorem KH {t : List aM} (h : 40 < t.length) : aW t = (0,8):=by unfold aW;rw [if_neg (by omega),if_pos h]
section
variable {t : List aM} (h1 : ¬ t.length = 0) (h2 : ¬ 40 < t.length)
include h1 h2
theorem OH {k : Nat} (hf : bq (ed t) t.length 0 = bq (ed t) t.length k) (hk : k < t.length) (e : ¬ dv t k t[k] = 0) : aW t = ((k : Int),dv t k t[k]):=by
 have e' : ¬ ed t k = 0:=by rw [kt hk];exact e
 rw [dU hk e'] at hf
 unfold aW
 rw [if_neg h1, if_neg h2, hf, if_neg e', kt hk]
theorem Cz (hf : bq (ed t) t.length 0 = (0,0)) {k : Nat} {p : Int × Int} (hc : bq (fD t (fm t 0)) t.length 0 = bq (fD t (fm t 0)) t.length k) (hp : bq (fD t (fm t 0)) t.length k = p) : aW t = p:=by
 unfold aW
 rw [if_neg h1,if_neg h2,if_pos (by rw [hf]),hc,hp]
end
theorem mm {t : List aM} {R : List Bool} {k : Nat} (h0 : 1 <= k) (h : k < t.length) : fD t R k = if aX t k = 0 then 12 else if 1 < aX t k /\ t[k].kind ≠ 1 then 23 else if R[k]? = some true then 0 else 14:=by
 unfold fD
 rw [if_neg (by omega),List.getElem?_eq_getElem h]
section
variable {t : List aM} {R : List Bool} {k : Nat} (h0 : 1 <= k) (h : k < t.length)
include h0 h
theorem CL (e : aX t k = 0) : fD t R k = 12:=by rw [mm h0 h,if_pos e]
theorem CN (e : 1 < aX t k) (e2 : t[k].kind ≠ 1) : fD t R k = 23:=by rw [mm h0 h,if_neg (by omega),if_pos ⟨e,e2⟩]
theorem CM (e : ¬ aX t k = 0) (e2 : ¬ (1 < aX t k /\ t[k].kind ≠ 1)) (e3 : R[k]? = some false) : fD t R k = 14:=by rw [mm h0 h,if_neg e,if_neg e2,if_neg (by rw [e3];simp)]
theorem LT (e : ¬ aX t k = 0) (e2 : ¬ (1 < aX t k /\ t[k].kind ≠ 1)) (e3 : R[k]? = some true) : fD t R k = 0:=by rw [mm h0 h,if_neg e,if_neg e2,if_pos e3]
end
theorem uQ {len : Int} {l : List bm} : ∀ (n k : Nat),n = l.length - k -> dc len l n k = 0 -> ∀ j (h : j < l.length),k <= j -> 1 <= l[j].node /\ l[j].node <= len - 1
 | 0,k,hn,_,j,h,hk=>by omega
 | n + 1,k,hn,he,j,h,hk=>by
  have hkl : k < l.length:=by omega
  rw [fC hkl hn] at he
  by_cases e : iB len (l.take k) l[k] = 0
  ·rw [if_neg (by simpa using e)] at he
   by_cases hj : j = k
   ·subst hj
    unfold iB at e
    split at e
    ·rename_i h1;exact absurd e h1
    ·split at e
     ·exact absurd e (by decide)
     ·split at e
      ·rename_i h3
       simpa [ar] using h3
      ·exact absurd e (by decide)
   ·exact uQ (l.length - (k + 1)) (k + 1) rfl he j h (by omega)
  ·rw [if_pos e] at he;exact absurd he e
theorem Hk {t : List aM} {d : Int} {x : aM} (h : dv t d x = 0) : ∀ e ∈ x.ents,1 <= e.node /\ e.node <= (t.length : Int) - 1:=by
 unfold dv at h
 split at h
 ·exact absurd h (by decide)
 ·split at h
  ·exact absurd h (by decide)
  ·split at h
   ·exact absurd h (by decide)
   ·split at h
    ·rename_i h1;exact absurd h h1
    ·rename_i h1
     have h2:=Classical.not_not.1 h1
     intro e he
     obtain ⟨j,hj,rfl⟩:=List.getElem_of_mem he
     exact uQ _ 0 rfl h2 j hj (Nat.zero_le _)
theorem wX {t : List aM} (h : ∀ k,k < t.length -> ed t k = 0) : cM t:=by
 intro x hx
 obtain ⟨k,hk,rfl⟩:=List.getElem_of_mem hx
 have:=h k hk
 rw [kt hk] at this
 exact Hk this
structure Rd (t : List aM) (P : List Bool) (R : List Bool) (j k : Nat) : Prop where
 len : R.length = t.length
 kl : k <= ((t[j]?).map fun x=>x.ents.length).getD 0
 is : (k = 0 /\ R = P) \/ (fP P j /\ R = lN P ((((t[j]?).map fun x=>x.ents).getD []).take k))
theorem TF {t : List aM} {P : List Bool} {j : Nat} (h : P.length = t.length) : Rd t P P j 0:=⟨h,Nat.zero_le _,.inl ⟨rfl,rfl⟩⟩
section
variable {t : List aM} {P R : List Bool} {j k : Nat} (h : Rd t P R j k) (hj : j < t.length)
include h hj
theorem JI (hk : k < t[j].ents.length) (hT : fP R j) : Rd t P (im R t[j].ents[k]) j (k + 1):=by
 refine ⟨by rw [po];exact h.len,by rw [List.getElem?_eq_getElem hj];exact hk,.inr ?_⟩
 rw [List.getElem?_eq_getElem hj]
 simp only [Option.map_some,Option.getD_some]
 rw [List.take_succ_eq_append_getElem hk,BA]
 rcases h.is with ⟨rfl,rfl⟩ | ⟨h1,h2⟩
 ·exact ⟨hT,by simp [lN]⟩
 ·rw [List.getElem?_eq_getElem hj] at h2
  simp only [Option.map_some,Option.getD_some] at h2
  exact ⟨h1,by rw [h2]⟩
theorem Ms (hP : P.length = t.length) (hx : R[j]? = some false \/ t[j].ents.length <= k) : R = g8 t P j:=by
 unfold g8
 rw [List.getElem?_eq_getElem hj]
 simp only
 rcases h.is with ⟨rfl,rfl⟩ | ⟨h1,h2⟩
 ·split
  ·rename_i hT
   rcases hx with hx | hx
   ·rw [hx] at hT;simp at hT
   ·have : t[j].ents = []:=List.length_eq_zero_iff.1 (by omega)
    rw [this];rfl
  ·rfl
 ·rw [if_pos (show P[j]? = some true from h1)]
  rw [List.getElem?_eq_getElem hj] at h2
  simp only [Option.map_some,Option.getD_some] at h2
  rcases hx with hx | hx
  ·have : fP R j:=by rw [h2];exact (jW _ _).2 (.inl h1)
   unfold fP at this
   rw [hx] at this;simp at this
  ·rw [h2,List.take_of_length_le hx]
end
end
end Go.Proofs.YtogifnjnpljnfaaGreatDoor
