/-
  Own lemmas, no conditions: Da, Wa, Wb, Wc, Wd, We, Wf, Wg, Wh, Wi, Wj, Wk, Wl, Wm, Wn, Wo, Wp, Wq, Wr, Ws, Cl, Wu, Wx, Wy, Wz, Aw, Wv.
-/
import Derived.Test.YtkeeienjocbkbaaGreatDoorGrpI
import Derived.Test.YtkeeienjocbkbaaGreatDoorProg
set_option linter.unusedVariables false
set_option linter.unusedSimpArgs false
namespace Go.Proofs.YtkeeienjocbkbaaGreatDoor
open Go Dw
abbrev i (n : Int) : D:=.int .i64 n
structure Ref where
 r : Int
 s : Int
 deriving DecidableEq
def Ref.enc (x : Ref) : D:=.agg [i x.r,i x.s]
structure Chg where
 usn : Int
 file : Ref
 parent : Ref
 tick : Int
 reasons : Int
 name : List UInt8
 deriving DecidableEq
def Chg.enc (x : Chg) : D:=.agg [i x.usn,i x.file.r,i x.file.s,i x.parent.r,i x.parent.s,i x.tick,i x.reasons,.str x.name]
structure Opn where
 file : Ref
 reasons : Int
 deriving DecidableEq
def Opn.enc (x : Opn) : D:=.agg [i x.file.r,i x.file.s,i x.reasons]
structure Jrn where
 id : Int
 first : Int
 next : Int
 most : Int
 recs : List Chg
 opens : List Opn
 deriving DecidableEq
def Jrn.enc (x : Jrn) : D:=.agg [i x.id,i x.first,i x.next,i x.most,.fs (x.recs.map Chg.enc),.fs (x.opens.map Opn.enc)]
def within (n lo hi : Int) : Bool:=decide (lo ≤ n) && decide (n ≤ hi)
def refErr (x : Ref) : Int:=if within x.r 0 95 && within x.s 1 65535 then 0 else 2
def first : List Int → Int
 | []=>0
 | e :: l=>if e = 0 then first l else e
def has (a b : Int) : Bool:=decide (bitsOf0 a b = b)
where bitsOf0 (a b : Int) : Int:=IntKind.i64.wrap (BitVec.ofInt 64 a &&& BitVec.ofInt 64 b).toNat
def size (n : Nat) : Int:=((n : Int) + 39) / 8 * 8
def ctl (s : List UInt8) : Bool:=s.any (fun b=>decide ((b.toNat : Int) < 32))
def idx : List UInt8 → Nat → Int
 | [],_=>-1
 | b :: l,k=>if (b.toNat : Int) < 32 then k else idx l (k + 1)
def nameErr (s : List UInt8) : Int:=if within s.length 1 32 && !ctl s then 0 else 4
def cmp (a b : Int) : Int:=if a < b then -1 else if b < a then 1 else 0
def compare (a b : Ref) : Int:=first [cmp a.r b.r,cmp a.s b.s]
def recordErr (x : Chg) : Int:=first [refErr x.file,refErr x.parent,if within x.tick 0 1000000 && within x.reasons 1 4095 then 0 else 2,nameErr x.name]
def numbersErr (j : Jrn) : Int:=
 if within j.id 0 2147483647 && within j.first 0 2147483647 && within j.next 0 2147483647 then (if within j.most 128 8192 then 0 else 2) else 2
end Go.Proofs.YtkeeienjocbkbaaGreatDoor
namespace Go.Proofs.YtkeeienjocbkbaaGreatDoor
open Go Dw
set_option maxRecDepth 10000
def Fn (f : Nat) (xs : List D) (r : D) : Prop:=Run Tryz.prog f (xs.map .d) [] (.d r) []
theorem c55 (n lo hi : Int) : Fn 55 [i n,i lo,i hi] (.bool (decide (lo ≤ n) && decide (n ≤ hi))):=by
 refine run_walk eok Tryz.func55 rfl ?_
 conv=>whnf
 refine onBool_split (fun h=>?_) (fun h=>?_)
 ·conv=>whnf
  exact end_data (by simp [h])
 ·conv=>whnf
  exact end_data (by simp [h])
theorem c57 (a : Bool) (e : Int) : Fn 57 [.bool a,i e] (i (if a then 0 else e)):=by
 refine run_walk eok Tryz.func57 rfl ?_
 conv=>whnf
 refine onBool_split (fun h=>?_) (fun h=>?_)
 ·conv=>whnf
  exact end_data (by simp [h])
 ·conv=>whnf
  exact end_data (by simp [h])
theorem c85 (r : Ref) : Fn 85 [r.enc] (i (refErr r)):=by
 refine run_walk eok Tryz.func85 rfl ?_
 conv=>whnf
 refine ⟨_,_,run_view (c55 _ _ _) rfl rfl,?_⟩
 conv=>whnf
 refine onBool_split (fun h=>?_) (fun h=>?_)
 ·conv=>whnf
  refine ⟨_,_,run_view (c55 _ _ _) rfl rfl,?_⟩
  conv=>whnf
  refine ⟨_,_,run_view (c57 _ _) rfl rfl,?_⟩
  conv=>whnf
  exact end_data (by simp [h,refErr,within])
 ·conv=>whnf
  refine ⟨_,_,run_view (c57 _ _) rfl rfl,?_⟩
  conv=>whnf
  exact end_data (by simp [h,refErr,within])
theorem first_drop (l : List Int) (k : Nat) (x : Int) (h : l[k]? = some x) : first (l.drop k) = if x = 0 then first (l.drop (k + 1)) else x:=by
 obtain ⟨h1,rfl⟩:=List.getElem?_eq_some_iff.1 h
 rw [List.drop_eq_getElem_cons h1];rfl
theorem c56 (l : List Int) (hl : l.length < 1000000) : Fn 56 [.fs (l.map i)] (i (first l)):=by
 refine run_walk eok Tryz.func56 rfl ?_
 conv=>whnf
 refine loop_rule (σ:=Nat) (fun k=>l.length - k) (fun k=>k ≤ l.length ∧ first l = first (l.drop k))
  (fun k=>[.d (.fs (l.map i)),.junk,.d (i 0),.junk,.junk,.d (.fs (l.map i)),.d (i l.length),.d (i k),.junk,.junk,.junk,.junk,.junk,.junk,.junk]) (fun _=>[]) 0 ?_ ?_ ?_
 ·simp
 ·refine ⟨[],rfl,rfl,?_,trivial⟩
  simp [wks,wk]
 ·intro k C hI hC
  conv=>whnf
  refine onBool_split (fun h=>?_) (fun h=>?_)
  ·conv=>whnf
   have hk : k < l.length:=by simpa using h
   have hg : l[k]? = some l[k]:=List.getElem?_eq_getElem hk
   refine ⟨by omega,nthK_of (x:=i l[k]) (by show (l.map i)[k]? = _;simp [hk]) ?_⟩
   conv=>whnf
   have hf:=first_drop l k _ hg
   refine onBool_split (fun h2=>?_) (fun h2=>?_)
   ·conv=>whnf
    refine end_data ?_
    simp only [Bool.not_eq_true', decide_eq_false_iff_not] at h2
    rw [hI.2,hf,if_neg h2]
   ·conv=>whnf
    simp only [Bool.not_eq_false', decide_eq_true_eq] at h2
    refine hC (k + 1) _ _ ⟨hk,by rw [hI.2,hf,if_pos h2]⟩ (by omega) ⟨[],rfl,rfl,?_,trivial⟩
    simp [wks,wk]
    exact Go.IntWalk.i64_in _ (by omega)
  ·conv=>whnf
   have hk : ¬ k < l.length:=by simpa using h
   refine end_data ?_
   rw [hI.2,List.drop_eq_nil_of_le (by omega)]
   rfl
theorem c101 (l : List Int) (hl : l.length < 1000000) : Fn 101 [.fs (l.map i)] (i (first l)):=by
 refine run_walk eok Tryz.func101 rfl ?_
 conv=>whnf
 refine loop_rule (σ:=Nat) (fun k=>l.length - k) (fun k=>k ≤ l.length ∧ first l = first (l.drop k))
  (fun k=>[.d (.fs (l.map i)),.junk,.d (i 0),.d (i 0),.junk,.junk,.d (.fs (l.map i)),.d (i l.length),.d (i k),.junk,.junk,.junk,.junk,.junk,.junk,.junk,.junk,.junk]) (fun _=>[]) 0 ?_ ?_ ?_
 ·simp
 ·refine ⟨[],rfl,rfl,?_,trivial⟩
  simp [wks,wk]
 ·intro k C hI hC
  conv=>whnf
  refine onBool_split (fun h=>?_) (fun h=>?_)
  ·conv=>whnf
   have hk : k < l.length:=by simpa using h
   have hg : l[k]? = some l[k]:=List.getElem?_eq_getElem hk
   refine ⟨by omega,nthK_of (x:=i l[k]) (by show (l.map i)[k]? = _;simp [hk]) ?_⟩
   conv=>whnf
   have hf:=first_drop l k _ hg
   refine onBool_split (fun h2=>?_) (fun h2=>?_)
   ·conv=>whnf
    refine end_data ?_
    simp only [Bool.not_eq_true', decide_eq_false_iff_not] at h2
    rw [hI.2,hf,if_neg h2]
   ·conv=>whnf
    simp only [Bool.not_eq_false', decide_eq_true_eq] at h2
    refine hC (k + 1) _ _ ⟨hk,by rw [hI.2,hf,if_pos h2]⟩ (by omega) ⟨[],rfl,rfl,?_,trivial⟩
    simp [wks,wk]
    exact Go.IntWalk.i64_in _ (by omega)
  ·conv=>whnf
   have hk : ¬ k < l.length:=by simpa using h
   refine end_data ?_
   rw [hI.2,List.drop_eq_nil_of_le (by omega)]
   rfl
theorem size_wrap {n : Nat} (h : n < 1000000) : IntKind.i64.wrap (IntKind.i64.wrap ((IntKind.i64.wrap (IntKind.i64.wrap (IntKind.i64.wrap (32 + (n : Int)) + 8) - 1)).tdiv 8) * 8) = size n:=by
 have w:=Go.IntWalk.i64_in
 rw [w (32 + (n : Int)) (by omega),w (32 + (n : Int) + 8) (by omega),w (32 + (n : Int) + 8 - 1) (by omega),Int.tdiv_eq_ediv_of_nonneg (by omega),w ((32 + (n : Int) + 8 - 1) / 8) (by omega),w ((32 + (n : Int) + 8 - 1) / 8 * 8) (by omega)]
 unfold size
 omega
end Go.Proofs.YtkeeienjocbkbaaGreatDoor
namespace Go.Proofs.YtkeeienjocbkbaaGreatDoor
open Go Dw
set_option maxRecDepth 10000
theorem c58 (a b : Int) : Fn 58 [i a,i b] (.bool (has a b)):=by
 refine run_walk eok Tryz.func58 rfl ?_
 conv=>whnf
 repeat' (first
 | (refine onBool_split (fun h=>?_) (fun h=>?_)<;>conv=>whnf)
 | (refine ⟨rfl,?_⟩;conv=>whnf)
  | fail
  )
 all_goals (exact end_data rfl)
theorem c59 (x : Chg) (h : x.name.length < 1000000) : Fn 59 [x.enc] (i (size x.name.length)):=by
 refine run_walk eok Tryz.func59 rfl ?_
 conv=>whnf
 repeat' (first
 | (refine onBool_split (fun h=>?_) (fun h=>?_)<;>conv=>whnf)
 | (refine ⟨rfl,?_⟩;conv=>whnf)
  | fail
  )
 all_goals (exact end_data (congrArg i (size_wrap h)))
theorem c80 (a : Int) : Fn 80 [i a] (.bool false):=by
 refine run_walk eok Tryz.func80 rfl ?_
 conv=>whnf
 repeat' (first
 | (refine onBool_split (fun h=>?_) (fun h=>?_)<;>conv=>whnf)
 | (refine ⟨rfl,?_⟩;conv=>whnf)
  | fail
  )
 all_goals (exact end_data (by simp))
theorem c54 (a b : Int) : Fn 54 [i a,i b] (i (cmp a b)):=by
 refine run_walk eok Tryz.func54 rfl ?_
 conv=>whnf
 repeat' (first
 | (refine onBool_split (fun h=>?_) (fun h=>?_)<;>conv=>whnf)
 | (refine call_step (run_view (c80 _) rfl rfl) ?_;conv=>whnf)
 | (refine ⟨rfl,?_⟩;conv=>whnf)
  | fail
  )
 all_goals (exact end_data (by simp only [cmp];first | (simp_all;done) | (split<;>(try split)<;>simp_all<;>omega)))
theorem c86 (a b : Ref) : Fn 86 [a.enc,b.enc] (i (compare a b)):=by
 refine run_walk eok Tryz.func86 rfl ?_
 conv=>whnf
 repeat' (first
 | (refine onBool_split (fun h=>?_) (fun h=>?_)<;>conv=>whnf)
 | (refine call_step (run_view (c54 _ _) rfl rfl) ?_;conv=>whnf)
 | (refine call_step (run_view (c101 [_,_] (by simp)) rfl rfl) ?_;conv=>whnf)
 | (refine ⟨[],[(6,4),(8,4)],rfl,?_⟩;conv=>whnf)
 | (refine ⟨rfl,?_⟩;conv=>whnf)
  | fail
  )
 all_goals (exact end_data rfl)
end Go.Proofs.YtkeeienjocbkbaaGreatDoor
namespace Go.Proofs.YtkeeienjocbkbaaGreatDoor
open Go Dw
set_option maxRecDepth 10000
theorem c103 (b : UInt8) : Fn 103 [.int .u8 b.toNat] (.bool (decide ((b.toNat : Int) < 32))):=by
 refine run_walk eok Tryz.func103 rfl ?_
 conv=>whnf
 repeat' (first
 | (refine onBool_split (fun h=>?_) (fun h=>?_)<;>conv=>whnf)
 | (refine ⟨rfl,?_⟩;conv=>whnf)
  | fail
  )
 all_goals (exact end_data rfl)
theorem idx_drop (l : List UInt8) (k : Nat) (h : k < l.length) : idx (l.drop k) k = if (l[k].toNat : Int) < 32 then (k : Int) else idx (l.drop (k + 1)) (k + 1):=by
 rw [List.drop_eq_getElem_cons h];rfl
theorem idx_ctl : ∀ (l : List UInt8) (k : Nat),decide (0 ≤ idx l k) = ctl l
 | [],k=>rfl
 | b :: l,k=>by
  have ih:=idx_ctl l (k + 1)
  simp only [idx,ctl,List.any_cons] at ih ⊢
  by_cases h : (b.toNat : Int) < 32
  ·simp [h]
  ·simp only [h,if_false,ih,decide_false,Bool.false_or]
theorem c118 (l : List UInt8) (hl : l.length < 1000000) : Fn 118 [.fs (l.map fun b=>.int .u8 b.toNat),.fn 103 [] []] (i (idx l 0)):=by
 refine run_walk eok Tryz.func118 rfl ?_
 conv=>whnf
 refine loop_rule (σ:=Nat) (fun k=>l.length - k) (fun k=>k ≤ l.length ∧ idx l 0 = idx (l.drop k) k)
  (fun k=>[.d (.fs (l.map fun b=>.int .u8 b.toNat)),.d (.fn 103 [] []),.junk,.junk,.d (i 0),.junk,.d (.fs (l.map fun b=>.int .u8 b.toNat)),.d (i l.length),.d (i k),.junk,.junk,.junk,.junk,.junk,.junk,.junk,.junk,.junk,.junk]) (fun _=>[]) 0 ?_ ?_ ?_
 ·simp
 ·refine ⟨[],rfl,rfl,?_,trivial⟩
  simp [wks,wk]
 ·intro k C hI hC
  conv=>whnf
  refine onBool_split (fun h=>?_) (fun h=>?_)
  ·conv=>whnf
   have hk : k < l.length:=by simpa using h
   refine ⟨by omega,nthK_of (x:=.int .u8 l[k].toNat) (by show (l.map _)[k]? = _;simp [hk]) ?_⟩
   conv=>whnf
   refine ⟨_,_,run_view (c103 _) rfl rfl,?_⟩
   conv=>whnf
   have hf:=idx_drop l k hk
   refine onBool_split (fun h2=>?_) (fun h2=>?_)
   ·conv=>whnf
    refine end_data ?_
    rw [hI.2,hf,if_pos (by simpa using h2)]
   ·conv=>whnf
    refine hC (k + 1) _ _ ⟨hk,by rw [hI.2,hf,if_neg (by simpa using h2)]⟩ (by omega) ⟨[],rfl,rfl,?_,trivial⟩
    simp [wks,wk]
    exact Go.IntWalk.i64_in _ (by omega)
  ·conv=>whnf
   have hk : ¬ k < l.length:=by simpa using h
   refine end_data ?_
   rw [hI.2,List.drop_eq_nil_of_le (by omega)]
   rfl
theorem c102 (l : List UInt8) (hl : l.length < 1000000) : Fn 102 [.fs (l.map fun b=>.int .u8 b.toNat),.fn 103 [] []] (.bool (ctl l)):=by
 refine run_walk eok Tryz.func102 rfl ?_
 conv=>whnf
 repeat' (first
 | (refine onBool_split (fun h=>?_) (fun h=>?_)<;>conv=>whnf)
 | (refine call_step (run_view (c118 _ hl) rfl rfl) ?_;conv=>whnf)
 | (refine ⟨rfl,?_⟩;conv=>whnf)
  | fail
  )
 all_goals (exact end_data (by rw [← idx_ctl l 0]))
theorem c87 (s : List UInt8) (hs : s.length < 1000000) : Fn 87 [.str s] (i (nameErr s)):=by
 refine run_walk eok Tryz.func87 rfl ?_
 conv=>whnf
 repeat' (first
 | (refine onBool_split (fun h=>?_) (fun h=>?_)<;>conv=>whnf)
 | (refine call_step (run_view (c55 _ _ _) rfl rfl) ?_;conv=>whnf)
 | (refine call_step (run_view (c102 s hs) rfl (vl2 (view_bytes rfl (by decide)) rfl)) ?_;conv=>whnf)
 | (refine call_step (run_view (c57 _ _) rfl rfl) ?_;conv=>whnf)
 | (refine ⟨rfl,?_⟩;conv=>whnf)
  | fail
  )
 all_goals (exact end_data (by simp [*,nameErr,within]))
theorem c79 (x : Chg) (h0 : x.name.length < 1000000) : Fn 79 [x.enc] (i (recordErr x)):=by
 refine run_walk eok Tryz.func79 rfl ?_
 conv=>whnf
 repeat' (first
 | (refine onBool_split (fun h=>?_) (fun h=>?_)<;>conv=>whnf)
 | (refine call_step (run_view (c85 _) rfl rfl) ?_;conv=>whnf)
 | (refine call_step (run_view (c55 _ _ _) rfl rfl) ?_;conv=>whnf)
 | (refine call_step (run_view (c57 _ _) rfl rfl) ?_;conv=>whnf)
 | (refine call_step (run_view (c87 _ (by assumption)) rfl rfl) ?_;conv=>whnf)
 | (refine call_step (run_view (c56 [_,_] (by simp)) rfl rfl) ?_;conv=>whnf)
 | (refine call_step (run_view (c56 [_,_,_] (by simp)) rfl rfl) ?_;conv=>whnf)
 | (refine call_step (run_view (c56 [_,_,_,_] (by simp)) rfl rfl) ?_;conv=>whnf)
 | (refine ⟨[],[(4,2),(7,2),(16,2),(7,5),(16,5),(16,8),(16,12),(16,14)],rfl,?_⟩;conv=>whnf)
 | (refine ⟨rfl,?_⟩;conv=>whnf)
  | fail
  )
 all_goals (exact end_data (by simp [*,recordErr,within]))
end Go.Proofs.YtkeeienjocbkbaaGreatDoor
namespace Go.Proofs.YtkeeienjocbkbaaGreatDoor
open Go Dw
set_option maxRecDepth 10000
def recErr (x : Chg) (at_ : Int) : Int:=first [recordErr x,if x.usn = at_ then 0 else 9]
theorem c82 (k at_ : Int) (x : Chg) (h0 : x.name.length < 1000000) : Run Tryz.prog 82 [.d (i k),.d x.enc,.ptr 0 0 0] [⟨[.d (i at_)],1,0⟩] (.d (i (recErr x at_))) [⟨[.d (i (IntKind.i64.wrap (at_ + size x.name.length)))],1,0⟩]:=by
 refine run_walk eok Tryz.func82 rfl ?_
 conv=>whnf
 repeat' (first
 | (refine onBool_split (fun h=>?_) (fun h=>?_)<;>conv=>whnf)
 | (refine call_step (run_view (c79 _ (by assumption)) rfl rfl) ?_;conv=>whnf)
 | (refine call_step (run_view (c57 _ _) rfl rfl) ?_;conv=>whnf)
 | (refine call_step (run_view (c56 [_,_] (by simp)) rfl rfl) ?_;conv=>whnf)
 | (refine call_step (run_view (c56 [_,_,_] (by simp)) rfl rfl) ?_;conv=>whnf)
 | (refine call_step (run_view (c56 [_,_,_,_] (by simp)) rfl rfl) ?_;conv=>whnf)
 | (refine call_step (run_view (c59 _ (by assumption)) rfl rfl) ?_;conv=>whnf)
 | (refine ⟨[],[(3,1),(4,1)],rfl,?_⟩;conv=>whnf)
 | (refine ⟨[],[(0,2)],rfl,?_⟩;conv=>whnf)
 | (refine ⟨rfl,?_⟩;conv=>whnf)
  | fail
  )
 all_goals (exact end_old1 (l:=[_]) (by simp [recErr]) rfl rfl rfl rfl)
end Go.Proofs.YtkeeienjocbkbaaGreatDoor
namespace Go.Proofs.YtkeeienjocbkbaaGreatDoor
open Go Dw
set_option maxRecDepth 10000
theorem c21 (j : Jrn) : Fn 21 [j.enc] (i (numbersErr j)):=by
 refine run_walk eok Tryz.func21 rfl ?_
 conv=>whnf
 refine loop_rule (σ:=Nat) (fun k=>3 - k) (fun k=>k ≤ 3 ∧ (1 ≤ k → within j.id 0 2147483647 = true) ∧ (2 ≤ k → within j.first 0 2147483647 = true) ∧ (3 ≤ k → within j.next 0 2147483647 = true))
  (fun k=>[.junk,.ptr 0 0 0,.d (i 0),.junk,.junk,.junk,.junk,.junk,.junk,.junk,.junk,.agg [.d (i j.id),.d (i j.first),.d (i j.next)],.d (i k),.junk,.junk,.junk,.junk,.junk,.junk,.junk,.junk,.junk,.junk]) (fun _=>[⟨[.d j.enc],6,0⟩]) 0 ?_ ?_ ?_
 ·simp
 ·exact ⟨[.old 0],rfl,rfl,by simp [wks,wk],⟨⟨rfl,rfl,.inl ⟨[_],rfl,rfl⟩⟩,trivial⟩⟩
 ·intro k C hI hC
  by_cases hk : k < 3
  ·obtain ⟨_,h1,h2,h3⟩:=hI
   obtain rfl | rfl | rfl : k = 0 ∨ k = 1 ∨ k = 2:=by omega
   all_goals
    conv=>whnf
    refine ⟨⟨by decide,by decide⟩,?_⟩
    conv=>whnf
    refine ⟨_,_,run_view (c55 _ _ _) rfl rfl,?_⟩
    conv=>whnf
    refine onBool_split (fun h=>?_) (fun h=>?_)
   ·conv=>whnf
    refine end_data ?_
    simp only [Bool.not_eq_true'] at h
    simp [numbersErr,within,h]
   ·conv=>whnf
    simp only [Bool.not_eq_false'] at h
    refine hC 1 _ _ ⟨by omega,fun _=>h,by omega,by omega⟩ (by omega) ⟨[.old 0],rfl,rfl,by simp [wks,wk];rfl,⟨⟨rfl,rfl,.inl ⟨[_],rfl,rfl⟩⟩,trivial⟩⟩
   ·conv=>whnf
    refine end_data ?_
    simp only [Bool.not_eq_true'] at h
    simp [numbersErr,within,h]
   ·conv=>whnf
    simp only [Bool.not_eq_false'] at h
    refine hC 2 _ _ ⟨by omega,fun _=>h1 (by omega),fun _=>h,by omega⟩ (by omega) ⟨[.old 0],rfl,rfl,by simp [wks,wk];rfl,⟨⟨rfl,rfl,.inl ⟨[_],rfl,rfl⟩⟩,trivial⟩⟩
   ·conv=>whnf
    refine end_data ?_
    simp only [Bool.not_eq_true'] at h
    simp [numbersErr,within,h]
   ·conv=>whnf
    simp only [Bool.not_eq_false'] at h
    refine hC 3 _ _ ⟨by omega,fun _=>h1 (by omega),fun _=>h2 (by omega),fun _=>h⟩ (by omega) ⟨[.old 0],rfl,rfl,by simp [wks,wk];rfl,⟨⟨rfl,rfl,.inl ⟨[_],rfl,rfl⟩⟩,trivial⟩⟩
  ·have hk3 : k = 3:=by omega
   subst hk3
   obtain ⟨_,h1,h2,h3⟩:=hI
   conv=>whnf
   refine ⟨_,_,run_view (c55 _ _ _) rfl rfl,?_⟩
   conv=>whnf
   refine ⟨_,_,run_view (c57 _ _) rfl rfl,?_⟩
   conv=>whnf
   refine end_data ?_
   simp only [numbersErr,h1 (by omega),h2 (by omega),h3 (by omega)]
   rfl
theorem c5 (a b : Int) : Fn 5 [i a,i b] (let j : Jrn:=⟨a,0,0,b,[],[]⟩;.tup [if numbersErr j = 0 then j.enc else (⟨0,0,0,0,[],[]⟩ : Jrn).enc,i (numbersErr j)]):=by
 refine run_walk eok Tryz.func5 rfl ?_
 conv=>whnf
 repeat' (first
 | (refine onBool_split (fun h=>?_) (fun h=>?_)<;>conv=>whnf)
 | (refine call_step (run_view (c21 _) rfl rfl) ?_;conv=>whnf)
 | (refine call_step (run_view (c21 ⟨a,0,0,b,[],[]⟩) rfl rfl) ?_;conv=>whnf)
 | (refine ⟨rfl,?_⟩;conv=>whnf)
  | fail
  )
 all_goals (refine end_view rfl ?_; simp only [Bool.not_eq_true', Bool.not_eq_false', decide_eq_true_eq, decide_eq_false_iff_not] at h; simp only [h, if_true, if_false]; rfl)
end Go.Proofs.YtkeeienjocbkbaaGreatDoor
namespace Go.Proofs.YtkeeienjocbkbaaGreatDoor
open Go Dw
set_option maxRecDepth 10000
def eachRec : List Chg → Nat → Int → Int × Int × Int
 | [],_,at_=>(0,0,at_)
 | x :: l,k,at_=>if recErr x at_ = 0 then eachRec l (k + 1) (IntKind.i64.wrap (at_ + size x.name.length)) else (k,recErr x at_,IntKind.i64.wrap (at_ + size x.name.length))
theorem eachRec_drop (l : List Chg) (k : Nat) (a : Int) (h : k < l.length) : eachRec (l.drop k) k a = if recErr l[k] a = 0 then eachRec (l.drop (k + 1)) (k + 1) (IntKind.i64.wrap (a + size l[k].name.length)) else (k,recErr l[k] a,IntKind.i64.wrap (a + size l[k].name.length)):=by
 rw [List.drop_eq_getElem_cons h];rfl
theorem c81 (l : List Chg) (at0 : Int) (hl : l.length < 1000000) (hn : ∀ x ∈ l,x.name.length < 1000000) : Run Tryz.prog 81 [.d (.fs (l.map Chg.enc)),.fn 82 [] [.ptr 0 0 0]] [⟨[.d (i at0)],1,0⟩] (.d (.tup [i (eachRec l 0 at0).1,i (eachRec l 0 at0).2.1])) [⟨[.d (i (eachRec l 0 at0).2.2)],1,0⟩]:=by
 refine run_walk eok Tryz.func81 rfl ?_
 conv=>whnf
 refine loop_rule (σ:=Nat × Int) (fun s=>l.length - s.1) (fun s=>s.1 ≤ l.length ∧ eachRec l 0 at0 = eachRec (l.drop s.1) s.1 s.2)
  (fun s=>[.junk,.fn 82 [] [.ptr 0 0 0],.junk,.junk,.d (i 0),.d (i 0),.junk,.junk,.junk,.d (.fs (l.map Chg.enc)),.d (i l.length),.d (i s.1),.junk,.junk,.junk,.junk,.junk,.junk,.junk,.junk,.junk,.junk,.junk,.junk,.junk]) (fun s=>[⟨[.d (i s.2)],1,0⟩]) (0,at0) ?_ ?_ ?_
 ·simp
 ·exact ⟨[.old 0],rfl,rfl,by simp [wks,wk],⟨⟨rfl,rfl,.inl ⟨[_],rfl,rfl⟩⟩,trivial⟩⟩
 ·rintro ⟨k,a⟩ C hI hC
  simp only at hI hC
  conv=>whnf
  refine onBool_split (fun h=>?_) (fun h=>?_)
  ·conv=>whnf
   have hk : k < l.length:=by simpa using h
   refine ⟨by omega,nthK_of (x:=l[k].enc) (by show (l.map _)[k]? = _;simp [hk]) ?_⟩
   conv=>whnf
   refine ⟨.d (i (recErr l[k] a)),[⟨[.d (i (IntKind.i64.wrap (a + size l[k].name.length)))],1,0⟩,⟨[.d l[k].enc],8,0⟩],run_at (σ:=[0]) (F:=[]) (fl:=true) (c82 k a l[k] (hn _ (List.getElem_mem hk))) (by decide) (fun _ h=>by cases h) ⟨⟨rfl,fun _ h=>by cases h⟩,⟨rfl,fun _ h=>by cases h⟩,⟨rfl,rfl,rfl⟩,trivial⟩ ⟨⟨rfl,rfl,.inl ⟨[_],rfl,rfl⟩⟩,trivial⟩ (fun _=>⟨rfl,fun o ho=>by simp at ho;subst ho;exact ⟨rfl,fun h=>by cases h⟩⟩) rfl rfl,?_⟩
   conv=>whnf
   have he:=eachRec_drop l k a hk
   refine onBool_split (fun h2=>?_) (fun h2=>?_)
   ·conv=>whnf
    simp only [Bool.not_eq_true', decide_eq_false_iff_not] at h2
    have he2 : eachRec l 0 at0 = ((k : Int),recErr l[k] a,IntKind.i64.wrap (a + size l[k].name.length)):=by rw [hI.2,he,if_neg h2]
    rw [he2]
    exact .inl <| .inl ⟨[.old 0],rfl,rfl,⟨⟨rfl,rfl,rfl,trivial⟩,trivial⟩,⟨⟨rfl,rfl,.inl ⟨[_],rfl,rfl⟩⟩,trivial⟩⟩
   ·conv=>whnf
    simp only [Bool.not_eq_false', decide_eq_true_eq] at h2
    refine hC (k + 1,IntKind.i64.wrap (a + size l[k].name.length)) _ _ ⟨hk,by rw [hI.2,he,if_pos h2]⟩ (by show l.length - (k + 1) < l.length - k;omega) ⟨[.old 0],rfl,rfl,?_,⟨⟨rfl,rfl,.inl ⟨[_],rfl,rfl⟩⟩,trivial⟩⟩
    simp [wks,wk]
    exact Go.IntWalk.i64_in _ (by omega)
  ·conv=>whnf
   have hk : ¬ k < l.length:=by simpa using h
   have he : eachRec l 0 at0 = (0,0,a):=by rw [hI.2,List.drop_eq_nil_of_le (by omega)];rfl
   rw [he]
   exact .inl <| .inl ⟨[.old 0],rfl,rfl,⟨⟨rfl,rfl,rfl,trivial⟩,trivial⟩,⟨⟨rfl,rfl,.inl ⟨[_],rfl,rfl⟩⟩,trivial⟩⟩
end Go.Proofs.YtkeeienjocbkbaaGreatDoor
namespace Go.Proofs.YtkeeienjocbkbaaGreatDoor
open Go Dw
set_option maxRecDepth 10000
def opnErr (opens : List Opn) (k : Nat) (x : Opn) : Int:=
 first [refErr x.file,if within x.reasons 1 4095 && !has x.reasons 2048 then 0 else 2,if k = 0 then 0 else match opens[k - 1]? with | some p=>if compare p.file x.file < 0 then 0 else 9 | none=>0]
theorem prev_ix {k : Nat} (hk : decide ((k : Int) = 0) = false) (hb : k < 1000000) : goMax 0 (IntKind.i64.wrap ((k : Int) - 1)) = ((k - 1 : Nat) : Int):=by
 have hk' : (k : Int) ≠ 0:=by simpa using hk
 rw [Go.IntWalk.i64_in _ (by omega)]
 unfold goMax
 split<;>omega
theorem prev_get {k : Nat} {l : List Opn} {p : Opn} (hk : decide ((k : Int) = 0) = false) (hb : k < 1000000) (hp : k ≠ 0 → l[k - 1]? = some p) : (l.map Opn.enc)[(goMax 0 (IntKind.i64.wrap ((k : Int) - 1))).toNat]? = some p.enc:=by
 rw [prev_ix hk hb]
 have hk' : k ≠ 0:=by
  intro h;subst h;simp at hk
 simp [hp hk']
theorem c84 (j : Jrn) (k : Nat) (x p : Opn) (hb : k < 1000000) (hp : k ≠ 0 → j.opens[k - 1]? = some p) : Run Tryz.prog 84 [.d (i k),.d x.enc,.ptr 0 0 0] [⟨[.d j.enc],6,0⟩] (.d (i (opnErr j.opens k x))) [⟨[.d j.enc],6,0⟩]:=by
 refine run_walk eok Tryz.func84 rfl ?_
 conv=>whnf
 repeat' (first
 | (refine onBool_split (fun h=>?_) (fun h=>?_)<;>conv=>whnf)
 | (refine call_step (run_view (c55 _ _ _) rfl rfl) ?_;conv=>whnf)
 | (refine call_step (run_view (c58 _ _) rfl rfl) ?_;conv=>whnf)
 | (refine call_step (run_view (c85 _) rfl rfl) ?_;conv=>whnf)
 | (refine call_step (run_view (c57 _ _) rfl rfl) ?_;conv=>whnf)
 | (refine call_step (run_view (c86 _ _) rfl rfl) ?_;conv=>whnf)
 | (refine call_step (run_view (c56 [_,_] (by simp)) rfl rfl) ?_;conv=>whnf)
 | (refine call_step (run_view (c56 [_,_,_] (by simp)) rfl rfl) ?_;conv=>whnf)
 | (refine call_step (run_view (c56 [_,_,_,_] (by simp)) rfl rfl) ?_;conv=>whnf)
 | (refine ⟨[],[],rfl,?_⟩;conv=>whnf)
 | (refine ⟨by rw [prev_ix h hb];omega,nthK_of (x:=p.enc) (prev_get h hb hp) ?_⟩;conv=>whnf)
 | (refine ⟨rfl,?_⟩;conv=>whnf)
  | fail
  )
 all_goals (rename_i h0;have hw : within x.reasons 1 4095 = _:=h0;clear h0;refine end_old1 (l:=[_]) (congrArg i ?_) rfl rfl rfl rfl;simp_all [opnErr])
def eachOpn (all : List Opn) : List Opn → Nat → Int × Int
 | [],_=>(0,0)
 | x :: l,k=>if opnErr all k x = 0 then eachOpn all l (k + 1) else (k,opnErr all k x)
theorem eachOpn_drop (all l : List Opn) (k : Nat) (h : k < l.length) : eachOpn all (l.drop k) k = if opnErr all k l[k] = 0 then eachOpn all (l.drop (k + 1)) (k + 1) else (k,opnErr all k l[k]):=by
 rw [List.drop_eq_getElem_cons h];rfl
theorem c83 (j : Jrn) (hl : j.opens.length < 1000000) : Run Tryz.prog 83 [.d (.fs (j.opens.map Opn.enc)),.fn 84 [] [.ptr 0 0 0]] [⟨[.d j.enc],6,0⟩] (.d (.tup [i (eachOpn j.opens j.opens 0).1,i (eachOpn j.opens j.opens 0).2])) [⟨[.d j.enc],6,0⟩]:=by
 refine run_walk eok Tryz.func83 rfl ?_
 conv=>whnf
 refine loop_rule (σ:=Nat) (fun k=>j.opens.length - k) (fun k=>k ≤ j.opens.length ∧ eachOpn j.opens j.opens 0 = eachOpn j.opens (j.opens.drop k) k)
  (fun k=>[.junk,.fn 84 [] [.ptr 0 0 0],.junk,.junk,.d (i 0),.d (i 0),.junk,.junk,.junk,.d (.fs (j.opens.map Opn.enc)),.d (i j.opens.length),.d (i k),.junk,.junk,.junk,.junk,.junk,.junk,.junk,.junk,.junk,.junk,.junk,.junk,.junk]) (fun _=>[⟨[.d j.enc],6,0⟩]) 0 ?_ ?_ ?_
 ·simp
 ·exact ⟨[.old 0],rfl,rfl,by simp [wks,wk],⟨⟨rfl,rfl,.inl ⟨[_],rfl,rfl⟩⟩,trivial⟩⟩
 ·intro k C hI hC
  conv=>whnf
  refine onBool_split (fun h=>?_) (fun h=>?_)
  ·conv=>whnf
   have hk : k < j.opens.length:=by simpa using h
   refine ⟨by omega,nthK_of (x:=j.opens[k].enc) (by show (j.opens.map _)[k]? = _;simp [hk]) ?_⟩
   conv=>whnf
   have hp : k ≠ 0 → j.opens[k - 1]? = some (j.opens[k - 1]'(by omega)):=fun _=>List.getElem?_eq_getElem (by omega)
   refine ⟨.d (i (opnErr j.opens k j.opens[k])),[⟨[.d j.enc],6,0⟩,⟨[.d j.opens[k].enc],3,0⟩],run_at (σ:=[0]) (F:=[]) (fl:=false) (c84 j k j.opens[k] _ (by omega) hp) (by decide) (fun _ h=>by cases h) ⟨⟨rfl,fun _ h=>by cases h⟩,⟨rfl,fun _ h=>by cases h⟩,⟨rfl,rfl,rfl⟩,trivial⟩ ⟨⟨rfl,rfl,.inl ⟨[_],rfl,rfl⟩⟩,trivial⟩ (fun h=>by cases h) rfl rfl,?_⟩
   conv=>whnf
   have he:=eachOpn_drop j.opens j.opens k hk
   refine onBool_split (fun h2=>?_) (fun h2=>?_)
   ·conv=>whnf
    simp only [Bool.not_eq_true', decide_eq_false_iff_not] at h2
    have he2 : eachOpn j.opens j.opens 0 = ((k : Int),opnErr j.opens k j.opens[k]):=by rw [hI.2,he,if_neg h2]
    rw [he2]
    exact .inl <| .inl ⟨[.old 0],rfl,rfl,⟨⟨rfl,rfl,rfl,trivial⟩,trivial⟩,⟨⟨rfl,rfl,.inl ⟨[_],rfl,rfl⟩⟩,trivial⟩⟩
   ·conv=>whnf
    simp only [Bool.not_eq_false', decide_eq_true_eq] at h2
    refine hC (k + 1) _ _ ⟨hk,by rw [hI.2,he,if_pos h2]⟩ (by omega) ⟨[.old 0],rfl,rfl,?_,⟨⟨rfl,rfl,.inl ⟨[_],rfl,rfl⟩⟩,trivial⟩⟩
    simp [wks,wk]
    exact Go.IntWalk.i64_in _ (by omega)
  ·conv=>whnf
   have hk : ¬ k < j.opens.length:=by simpa using h
   have he : eachOpn j.opens j.opens 0 = (0,0):=by rw [hI.2,List.drop_eq_nil_of_le (by omega)];rfl
   rw [he]
   exact .inl <| .inl ⟨[.old 0],rfl,rfl,⟨⟨rfl,rfl,rfl,trivial⟩,trivial⟩,⟨⟨rfl,rfl,.inl ⟨[_],rfl,rfl⟩⟩,trivial⟩⟩
end Go.Proofs.YtkeeienjocbkbaaGreatDoor
namespace Go.Proofs.YtkeeienjocbkbaaGreatDoor
open Go Dw
set_option maxRecDepth 10000
def few (j : Jrn) : Bool:=decide ((j.recs.length : Int) ≤ 200) && decide ((j.opens.length : Int) ≤ 64)
def checkJ (j : Jrn) : Int × Int:=
 if first [numbersErr j,if few j then 0 else 8] ≠ 0 then (0,first [numbersErr j,if few j then 0 else 8])
 else if (eachRec j.recs 0 j.first).2.1 ≠ 0 then ((eachRec j.recs 0 j.first).1,(eachRec j.recs 0 j.first).2.1)
 else if j.next ≠ (eachRec j.recs 0 j.first).2.2 then (0,9)
 else eachOpn j.opens j.opens 0
theorem c62 (j : Jrn) (hr : j.recs.length < 1000000) (hn : ∀ x ∈ j.recs,x.name.length < 1000000) (ho : j.opens.length < 1000000) : Fn 62 [j.enc] (.tup [i (checkJ j).1,i (checkJ j).2]):=by
 refine run_walk eok Tryz.func62 rfl ?_
 conv=>whnf
 repeat' (first
 | (refine onBool_split (fun h=>?_) (fun h=>?_)<;>conv=>whnf)
 | (refine call_step (run_view (c21 _) rfl rfl) ?_;conv=>whnf)
 | (refine call_step (run_view (c57 _ _) rfl rfl) ?_;conv=>whnf)
 | (refine call_step (run_view (c56 [_,_] (by simp)) rfl rfl) ?_;conv=>whnf)
 | (refine call_step (run_view (c56 [_,_,_] (by simp)) rfl rfl) ?_;conv=>whnf)
 | (refine call_step (run_view (c56 [_,_,_,_] (by simp)) rfl rfl) ?_;conv=>whnf)
 | (refine ⟨.d (.tup [i (eachRec j.recs 0 j.first).1,i (eachRec j.recs 0 j.first).2.1]),[⟨[.d j.enc],6,0⟩,_,⟨[.d (i (eachRec j.recs 0 j.first).2.2)],1,0⟩],run_at (σ:=[2]) (F:=[]) (fl:=false) (c81 j.recs j.first hr hn) (by decide) (fun _ h=>by cases h) ⟨⟨rfl,fun _ h=>by cases h⟩,⟨rfl,trivial,⟨rfl,rfl,rfl⟩,trivial⟩,trivial⟩ ⟨⟨rfl,rfl,.inl ⟨[_],rfl,rfl⟩⟩,trivial⟩ (fun h=>by cases h) rfl rfl,?_⟩;conv=>whnf)
 | (refine ⟨.d (.tup [i (eachOpn j.opens j.opens 0).1,i (eachOpn j.opens j.opens 0).2]),[⟨[.d j.enc],6,0⟩,_,_],run_at (σ:=[0]) (F:=[]) (fl:=false) (c83 j ho) (by decide) (fun _ h=>by cases h) ⟨⟨rfl,fun _ h=>by cases h⟩,⟨rfl,trivial,⟨rfl,rfl,rfl⟩,trivial⟩,trivial⟩ ⟨⟨rfl,rfl,.inl ⟨[_],rfl,rfl⟩⟩,trivial⟩ (fun h=>by cases h) rfl rfl,?_⟩;conv=>whnf)
 | (refine ⟨rfl,?_⟩;conv=>whnf)
  | fail
  )
 all_goals (refine end_tup2 ?_;first | (simp_all [checkJ,few];done) | (simp_all [checkJ,few,-Int.not_lt,-Int.not_le,← Int.not_lt]))
end Go.Proofs.YtkeeienjocbkbaaGreatDoor
namespace Go.Proofs.YtkeeienjocbkbaaGreatDoor
open Go Dw
set_option maxRecDepth 10000
theorem c6 (n lo hi : Int) : Fn 24 [i n,i lo,i hi] (.bool (within n lo hi)):=by
 refine run_walk eok Tryz.func24 rfl ?_
 conv=>whnf
 repeat' (first
 | (refine onBool_split (fun h=>?_) (fun h=>?_)<;>conv=>whnf)
 | (refine ⟨rfl,?_⟩;conv=>whnf)
  | fail
  )
 all_goals (exact end_data (by simp [*,within]))
theorem c23 (n : Int) : Fn 23 [i n] (.bool (within n 0 1000000)):=by
 refine run_walk eok Tryz.func23 rfl ?_
 conv=>whnf
 repeat' (first
 | (refine onBool_split (fun h=>?_) (fun h=>?_)<;>conv=>whnf)
 | (refine call_step (run_view (c6 _ _ _) rfl rfl) ?_;conv=>whnf)
 | (refine ⟨rfl,?_⟩;conv=>whnf)
  | fail
  )
 all_goals (exact end_data rfl)
theorem c27 (r : Ref) : Fn 27 [r.enc] (i (refErr r)):=by
 refine run_walk eok Tryz.func27 rfl ?_
 conv=>whnf
 repeat' (first
 | (refine onBool_split (fun h=>?_) (fun h=>?_)<;>conv=>whnf)
 | (refine call_step (run_view (c6 _ _ _) rfl rfl) ?_;conv=>whnf)
 | (refine ⟨rfl,?_⟩;conv=>whnf)
  | fail
  )
 all_goals (exact end_data (by simp_all [refErr]))
theorem c22 (a b : Ref) : Fn 22 [a.enc,b.enc] (i (first [refErr a,refErr b])):=by
 refine run_walk eok Tryz.func22 rfl ?_
 conv=>whnf
 repeat' (first
 | (refine onBool_split (fun h=>?_) (fun h=>?_)<;>conv=>whnf)
 | (refine call_step (run_view (c27 _) rfl rfl) ?_;conv=>whnf)
 | (refine ⟨rfl,?_⟩;conv=>whnf)
  | fail
  )
 all_goals (exact end_data (by simp_all [first]))
def less (a b : Ref) : Bool:=decide (a.r < b.r) || (decide (a.r = b.r) && decide (a.s < b.s))
def hasR (a b : Int) : Bool:=decide ((IntKind.i64.wrap (a.tdiv b)).tmod 2 = 1)
theorem c25 (a b : Int) (hb : b ≠ 0) : Fn 25 [i a,i b] (.bool (hasR a b)):=by
 refine run_walk eok Tryz.func25 rfl ?_
 conv=>whnf
 repeat' (first
 | (refine onBool_split (fun h=>?_) (fun h=>?_)<;>conv=>whnf)
 | (refine onOk_of (by simp [hb]) ?_;conv=>whnf)
 | (refine ⟨rfl,?_⟩;conv=>whnf)
  | fail
  )
 all_goals (exact end_data rfl)
end Go.Proofs.YtkeeienjocbkbaaGreatDoor
namespace Go.Proofs.YtkeeienjocbkbaaGreatDoor
open Go Dw
set_option maxRecDepth 10000
theorem ctl_drop (s : List UInt8) (k : Nat) (h : k < s.length) : ctl (s.drop k) = (decide ((s[k].toNat : Int) < 32) || ctl (s.drop (k + 1))):=by
 unfold ctl;rw [List.drop_eq_getElem_cons h,List.any_cons]
theorem c26 (s : List UInt8) (hs : s.length < 1000000) : Fn 26 [.str s] (i (nameErr s)):=by
 refine run_walk eok Tryz.func26 rfl ?_
 conv=>whnf
 refine ⟨_,_,run_view (c6 _ _ _) rfl rfl,?_⟩
 conv=>whnf
 refine onBool_split (fun h0=>?_) (fun h0=>?_)
 ·conv=>whnf
  exact end_data (by simp_all [nameErr])
 ·conv=>whnf
  have hw : within s.length 1 32 = true:=by simpa using h0
  refine loop_rule (σ:=Nat) (fun k=>s.length - k) (fun k=>k ≤ s.length ∧ ctl s = ctl (s.drop k))
   (fun k=>[.d (.str s),.junk,.d (i 0),.d (i k),.junk,.junk,.junk,.junk,.junk,.junk,.junk,.junk,.junk,.junk,.junk,.junk,.junk,.junk]) (fun _=>[]) 0 ?_ ?_ ?_
  ·simp
  ·refine ⟨[],rfl,rfl,?_,trivial⟩
   simp [wks,wk]
  ·intro k C hI hC
   conv=>whnf
   refine onBool_split (fun h=>?_) (fun h=>?_)
   ·conv=>whnf
    have hk : k < s.length:=by simpa using h
    refine ⟨by omega,nthK_of (x:=s[k]) (by show s[k]? = _;simp [hk]) ?_⟩
    conv=>whnf
    have hf:=ctl_drop s k hk
    refine onBool_split (fun h2=>?_) (fun h2=>?_)
    ·conv=>whnf
     refine end_data ?_
     rw [h2] at hf
     simp [nameErr,hw,hI.2,hf]
    ·conv=>whnf
     rw [h2] at hf
     refine hC (k + 1) _ _ ⟨hk,by rw [hI.2,hf,Bool.false_or]⟩ (by omega) ⟨[],rfl,rfl,?_,trivial⟩
     simp [wks,wk]
     exact Go.IntWalk.i64_in _ (by omega)
   ·conv=>whnf
    have hk : ¬ k < s.length:=by simpa using h
    refine end_data ?_
    have : ctl s = false:=by rw [hI.2,List.drop_eq_nil_of_le (by omega)];rfl
    simp [nameErr,hw,this]
end Go.Proofs.YtkeeienjocbkbaaGreatDoor
namespace Go.Proofs.YtkeeienjocbkbaaGreatDoor
open Go Dw
set_option maxRecDepth 10000
attribute [local irreducible] Run
theorem hasR_has {a : Int} (h0 : 0 ≤ a) (h1 : a < 9223372036854775808) (n : Nat) (hn : n < 62) : hasR a ((2 ^ n : Nat) : Int) = has a ((2 ^ n : Nat) : Int):=by
 have hp : 2 ^ n < 9223372036854775808:=Nat.lt_of_lt_of_le (Nat.pow_lt_pow_right (by decide) hn) (by decide)
 have hq : 0 < 2 ^ n:=Nat.pow_pos (by decide)
 obtain ⟨m,rfl⟩ : ∃ m : Nat,a = m:=⟨a.toNat,by omega⟩
 have h2:=bits_and (a:=m) (b:=2 ^ n) (by omega) hp
 have h3 : has.bitsOf0 (m : Int) ((2 ^ n : Nat) : Int) = ((m &&& 2 ^ n : Nat) : Int):=h2
 have h4 : m / 2 ^ n ≤ m:=Nat.div_le_self _ _
 unfold has hasR
 rw [h3,Int.tdiv_eq_ediv_of_nonneg (by omega),← Int.natCast_ediv,i64_nat (Nat.lt_of_le_of_lt h4 (by omega)),Int.tmod_eq_emod_of_nonneg (Int.natCast_nonneg _),decide_eq_decide]
 have:=and_pow_iff m n
 omega
theorem compare_less (a b : Ref) : compare a b < 0 ↔ less a b = true:=by
 simp only [compare,first,cmp,less,Bool.or_eq_true,Bool.and_eq_true,decide_eq_true_eq]
 grind
theorem first_nil : first [] = 0:=rfl
theorem first_cons (e : Int) (l : List Int) : first (e :: l) = if e = 0 then first l else e:=rfl
end Go.Proofs.YtkeeienjocbkbaaGreatDoor
namespace Go.Proofs.YtkeeienjocbkbaaGreatDoor
open Go Dw
set_option maxRecDepth 10000
attribute [local irreducible] Run
theorem c28 (j : Jrn) (hr : j.recs.length < 1000000) (hn : ∀ x ∈ j.recs,x.name.length < 1000000) (ho : j.opens.length < 1000000) : Fn 28 [j.enc] (i (checkJ j).2):=by
 refine run_walkF eok Tryz.func28 rfl (by kernel_rfl) ?_
 conv=>whnf
 repeat' (first
 | ((with_reducible refine on_dec_f ?_ ?_);(focus ((try simp only [List.length_map,List.length_cons,List.length_nil,List.length_append]);omega));conv=>whnf)
 | ((with_reducible refine on_dec_t ?_ ?_);(focus ((try simp only [List.length_map,List.length_cons,List.length_nil,List.length_append]);omega));conv=>whnf)
 | ((with_reducible refine on_dec (fun h=>?_) (fun h=>?_))<;>(try simp only [List.length_map] at h)<;>conv=>whnf)
 | ((with_reducible refine on_ndec (fun h=>?_) (fun h=>?_))<;>(try simp only [List.length_map] at h)<;>conv=>whnf)
 | ((with_reducible refine on_not (fun h=>?_) (fun h=>?_))<;>conv=>whnf)
 | ((with_reducible refine onBool_split (fun h=>?_) (fun h=>?_))<;>conv=>whnf)
 | (refine call_step (run_view (c62 _ hr hn ho) rfl rfl) ?_;conv=>whnf)
 | (refine ⟨⟨(by first | rfl | (simp;done)),cap_ok (by simp only [List.length_map,List.length_cons,List.length_nil,List.length_append];omega) rfl⟩,?_⟩;conv=>whnf)
 | (refine ⟨mem_one ⟨rfl,rfl⟩,?_⟩;conv=>whnf)
 | (refine ⟨(by intro y hy;obtain ⟨x,_,rfl⟩:=List.mem_map.1 hy;first | rfl | exact ⟨rfl,rfl⟩),?_⟩;conv=>whnf)
 | (refine ⟨cap_ok (by first | omega | (simp only [List.length_map];omega)) rfl,?_⟩;conv=>whnf)
 | (refine ix_map (by omega) ?_;conv=>whnf)
 | (refine ix_str (by omega) ?_;conv=>whnf)
 | (refine wrap64 (by omega) ?_;conv=>whnf)
 | (exfalso;simp only [List.length_map,List.length_cons,List.length_nil,List.length_append] at h;omega)
 | (exact endx rfl;done)
 | (refine ⟨rfl,?_⟩;conv=>whnf)
  | fail
  )
theorem c31 (l : List Chg) (hl : l.length < 1000000) : Fn 31 [.fs (l.map Chg.enc)] (.fs (l.map Chg.enc)):=by
 refine run_walkF eok Tryz.func31 rfl (by kernel_rfl) ?_
 conv=>whnf
 repeat' (first
 | ((with_reducible refine on_dec_f ?_ ?_);(focus ((try simp only [List.length_map,List.length_cons,List.length_nil,List.length_append]);omega));conv=>whnf)
 | ((with_reducible refine on_dec_t ?_ ?_);(focus ((try simp only [List.length_map,List.length_cons,List.length_nil,List.length_append]);omega));conv=>whnf)
 | ((with_reducible refine on_dec (fun h=>?_) (fun h=>?_))<;>(try simp only [List.length_map] at h)<;>conv=>whnf)
 | ((with_reducible refine on_ndec (fun h=>?_) (fun h=>?_))<;>(try simp only [List.length_map] at h)<;>conv=>whnf)
 | ((with_reducible refine on_not (fun h=>?_) (fun h=>?_))<;>conv=>whnf)
 | ((with_reducible refine onBool_split (fun h=>?_) (fun h=>?_))<;>conv=>whnf)
 | (refine ⟨⟨(by first | rfl | (simp;done)),cap_ok (by simp only [List.length_map,List.length_cons,List.length_nil,List.length_append];omega) rfl⟩,?_⟩;conv=>whnf)
 | (refine ⟨mem_one ⟨rfl,rfl⟩,?_⟩;conv=>whnf)
 | (refine ⟨(by intro y hy;obtain ⟨x,_,rfl⟩:=List.mem_map.1 hy;first | rfl | exact ⟨rfl,rfl⟩),?_⟩;conv=>whnf)
 | (refine ⟨cap_ok (by first | omega | (simp only [List.length_map];omega)) rfl,?_⟩;conv=>whnf)
 | (refine ix_map (by omega) ?_;conv=>whnf)
 | (refine ix_str (by omega) ?_;conv=>whnf)
 | (refine wrap64 (by omega) ?_;conv=>whnf)
 | (exfalso;simp only [List.length_map,List.length_cons,List.length_nil,List.length_append] at h;omega)
 | (exact endxv (view_new rfl (by decide)) rfl;done)
 | (refine ⟨rfl,?_⟩;conv=>whnf)
  | fail
  )
structure Evt where
 file : Ref
 parent : Ref
 tick : Int
 reasons : Int
 name : List UInt8
 np : Ref
 nn : List UInt8
 deriving DecidableEq
def Evt.enc (x : Evt) : D:=.agg [i x.file.r,i x.file.s,i x.parent.r,i x.parent.s,i x.tick,i x.reasons,.str x.name,i x.np.r,i x.np.s,.str x.nn]
theorem on_ref {a b : Ref} {A B : Prop} (ht : a = b → A) (hf : a ≠ b → B) : onBool (cellsEq [i a.r,i a.s] [i b.r,i b.s]) A B:=by
 refine onBool_split (fun h=>ht ?_) (fun h=>hf ?_)
 ·simp only [cellsEq,cellEq,Bool.and_true,Bool.and_eq_true,decide_eq_true_eq] at h
  cases a;cases b;simp_all
 ·rintro rfl;simp [cellsEq,cellEq] at h
theorem chg_cells (x y : Chg) : cellsEq [i x.usn,i x.file.r,i x.file.s,i x.parent.r,i x.parent.s,i x.tick,i x.reasons,.str x.name] [i y.usn,i y.file.r,i y.file.s,i y.parent.r,i y.parent.s,i y.tick,i y.reasons,.str y.name] = decide (x = y):=by
 rcases x with ⟨a, ⟨b, c⟩, ⟨d, e⟩, f, g, h⟩; rcases y with ⟨a', ⟨b', c'⟩, ⟨d', e'⟩, f', g', h'⟩
 rw [Bool.eq_iff_iff]
 simp [cellsEq,cellEq,and_assoc]
theorem on_chg {a b : Chg} {A B : Prop} (ht : a = b → A) (hf : a ≠ b → B) : onBool (cellsEq [i a.usn,i a.file.r,i a.file.s,i a.parent.r,i a.parent.s,i a.tick,i a.reasons,.str a.name] [i b.usn,i b.file.r,i b.file.s,i b.parent.r,i b.parent.s,i b.tick,i b.reasons,.str b.name]) A B:=by
 rw [chg_cells];exact on_dec ht hf
theorem on_chgn {a b : Chg} {A B : Prop} (ht : a ≠ b → A) (hf : a = b → B) : onBool (!cellsEq [i a.usn,i a.file.r,i a.file.s,i a.parent.r,i a.parent.s,i a.tick,i a.reasons,.str a.name] [i b.usn,i b.file.r,i b.file.s,i b.parent.r,i b.parent.s,i b.tick,i b.reasons,.str b.name]) A B:=by
 rw [chg_cells];exact on_ndec ht hf
theorem opn_cells (x y : Opn) : cellsEq [i x.file.r,i x.file.s,i x.reasons] [i y.file.r,i y.file.s,i y.reasons] = decide (x = y):=by
 rcases x with ⟨⟨b, c⟩, d⟩; rcases y with ⟨⟨b', c'⟩, d'⟩
 rw [Bool.eq_iff_iff]
 simp [cellsEq,cellEq,and_assoc]
theorem on_opnn {a b : Opn} {A B : Prop} (ht : a ≠ b → A) (hf : a = b → B) : onBool (!cellsEq [i a.file.r,i a.file.s,i a.reasons] [i b.file.r,i b.file.s,i b.reasons]) A B:=by
 rw [opn_cells];exact on_ndec ht hf
theorem c51 (a b : List Chg) (ha : a.length < 1000000) (hb : b.length < 1000000) : Fn 51 [.fs (a.map Chg.enc),.fs (b.map Chg.enc)] (.bool (decide (a = b))):=by
 refine run_walkF eok Tryz.func51 rfl (by kernel_rfl) ?_
 conv=>whnf
 repeat' (first
 | (refine on_chg (fun h=>?_) (fun h=>?_)<;>conv=>whnf)
 | (refine on_chgn (fun h=>?_) (fun h=>?_)<;>conv=>whnf)
 | (refine on_opnn (fun h=>?_) (fun h=>?_)<;>conv=>whnf)
 | (refine on_ref (fun h=>?_) (fun h=>?_)<;>conv=>whnf)
 | ((with_reducible refine on_dec_f ?_ ?_);(focus ((try simp only [List.length_map,List.length_cons,List.length_nil,List.length_append]);omega));conv=>whnf)
 | ((with_reducible refine on_dec_t ?_ ?_);(focus ((try simp only [List.length_map,List.length_cons,List.length_nil,List.length_append]);omega));conv=>whnf)
 | ((with_reducible refine on_dec (fun h=>?_) (fun h=>?_))<;>(try simp only [List.length_map] at h)<;>conv=>whnf)
 | ((with_reducible refine on_ndec (fun h=>?_) (fun h=>?_))<;>(try simp only [List.length_map] at h)<;>conv=>whnf)
 | ((with_reducible refine on_not (fun h=>?_) (fun h=>?_))<;>conv=>whnf)
 | ((with_reducible refine onBool_split (fun h=>?_) (fun h=>?_))<;>conv=>whnf)
 | (refine ⟨[],[],(by decide +kernel),?_⟩;conv=>whnf)
 | (refine loop1 (fun (k : Nat)=>a.length - k) (fun (k : Nat)=>a.length = b.length ∧ k ≤ a.length ∧ a.take k = b.take k) (fun (k : Nat)=>[(0,.d (.fs (a.map Chg.enc))),(1,.d (.fs (b.map Chg.enc))),(5,.d (i k))]) (fun (k : Nat)=>[]) (0) (by exact ⟨by omega,by omega,rfl⟩) ?_ (fun k C hI hC=>?_);(exact ⟨[],rfl,rfl,⟨(by first | exact congrArg (D.int .i64) (by omega) | exact ⟨rfl,rfl,rfl⟩ | exact ⟨rfl,rfl,rfl,rfl,rfl⟩ | (show (_ : D) = _;with_reducible rfl)),(by first | exact congrArg (D.int .i64) (by omega) | exact ⟨rfl,rfl,rfl⟩ | exact ⟨rfl,rfl,rfl,rfl,rfl⟩ | (show (_ : D) = _;with_reducible rfl)),(by first | exact congrArg (D.int .i64) (by omega) | exact ⟨rfl,rfl,rfl⟩ | exact ⟨rfl,rfl,rfl,rfl,rfl⟩ | (show (_ : D) = _;with_reducible rfl)),trivial⟩,trivial⟩);all_goals (conv=>whnf))
 | (refine hC (k + 1) _ _ ?_ (by omega) ?_;clear hC;rotate_left;(exact ⟨[],rfl,rfl,⟨(by first | exact congrArg (D.int .i64) (by omega) | exact ⟨rfl,rfl,rfl⟩ | exact ⟨rfl,rfl,rfl,rfl,rfl⟩ | (show (_ : D) = _;with_reducible rfl)),(by first | exact congrArg (D.int .i64) (by omega) | exact ⟨rfl,rfl,rfl⟩ | exact ⟨rfl,rfl,rfl,rfl,rfl⟩ | (show (_ : D) = _;with_reducible rfl)),(by first | exact congrArg (D.int .i64) (by omega) | exact ⟨rfl,rfl,rfl⟩ | exact ⟨rfl,rfl,rfl,rfl,rfl⟩ | (show (_ : D) = _;with_reducible rfl)),trivial⟩,trivial⟩);(exact ⟨hI.1,by omega,take_eq_succ (by omega) (by omega) hI.2.2 h⟩))
 | (refine ⟨⟨(by first | rfl | (simp;done)),cap_ok (by simp only [List.length_map,List.length_cons,List.length_nil,List.length_append];omega) rfl⟩,?_⟩;conv=>whnf)
 | (refine ⟨mem_one ⟨rfl,rfl⟩,?_⟩;conv=>whnf)
 | (refine ⟨(by intro y hy;obtain ⟨x,_,rfl⟩:=List.mem_map.1 hy;first | rfl | exact ⟨rfl,rfl⟩),?_⟩;conv=>whnf)
 | (refine ⟨cap_ok (by first | omega | (simp only [List.length_map];omega)) rfl,?_⟩;conv=>whnf)
 | (refine ix_map (by omega) ?_;conv=>whnf)
 | (refine ix_str (by omega) ?_;conv=>whnf)
 | (refine wrap64 (by omega) ?_;conv=>whnf)
 | (exfalso;simp only [List.length_map,List.length_cons,List.length_nil,List.length_append] at h;omega)
 | (exact endx (congrArg D.bool (decide_eq_true (eq_of_take hI.1 (by omega) hI.2.2)).symm);done)
 | (exact endx (congrArg D.bool (decide_eq_false (fun e=>by subst e;first | exact h rfl | exact absurd rfl h | omega)).symm);done)
 | (refine ⟨rfl,?_⟩;conv=>whnf)
  | fail
  )
end Go.Proofs.YtkeeienjocbkbaaGreatDoor
namespace Go.Proofs.YtkeeienjocbkbaaGreatDoor
open Go Dw
set_option maxRecDepth 10000
attribute [local irreducible] Run
theorem on_refn {a b : Ref} {A B : Prop} (ht : a ≠ b → A) (hf : a = b → B) : onBool (!cellsEq [i a.r,i a.s] [i b.r,i b.s]) A B:=by
 have:=on_ref (a:=a) (b:=b) hf ht
 cases h : cellsEq [i a.r,i a.s] [i b.r,i b.s]<;>rw [h] at this<;>exact this
theorem jrn_eq {a b : Jrn} (h1 : a.id = b.id) (h2 : a.first = b.first) (h3 : a.next = b.next) (h4 : a.most = b.most) (h5 : a.opens = b.opens) : decide (a.recs = b.recs) = decide (a = b):=by
 cases a;cases b;simp_all
theorem c16 (a b : Jrn) (ha : a.recs.length < 1000000) (hb : b.recs.length < 1000000) (ha2 : a.opens.length < 1000000) (hb2 : b.opens.length < 1000000) : Fn 16 [a.enc,b.enc] (.bool (decide (a = b))):=by
 refine run_walkF eok Tryz.func16 rfl (by kernel_rfl) ?_
 conv=>whnf
 repeat' (first
 | (refine on_chg (fun h=>?_) (fun h=>?_)<;>conv=>whnf)
 | (refine on_chgn (fun h=>?_) (fun h=>?_)<;>conv=>whnf)
 | (refine on_opnn (fun h=>?_) (fun h=>?_)<;>conv=>whnf)
 | (refine on_ref (fun h=>?_) (fun h=>?_)<;>conv=>whnf)
 | (refine on_refn (fun h=>?_) (fun h=>?_)<;>conv=>whnf)
 | ((with_reducible refine on_dec_f ?_ ?_);(focus ((try simp only [List.length_map,List.length_cons,List.length_nil,List.length_append]);omega));conv=>whnf)
 | ((with_reducible refine on_dec_t ?_ ?_);(focus ((try simp only [List.length_map,List.length_cons,List.length_nil,List.length_append]);omega));conv=>whnf)
 | ((with_reducible refine on_dec (fun h=>?_) (fun h=>?_))<;>(try simp only [List.length_map] at h)<;>conv=>whnf)
 | ((with_reducible refine on_ndec (fun h=>?_) (fun h=>?_))<;>(try simp only [List.length_map] at h)<;>conv=>whnf)
 | ((with_reducible refine on_not (fun h=>?_) (fun h=>?_))<;>conv=>whnf)
 | ((with_reducible refine onBool_split (fun h=>?_) (fun h=>?_))<;>conv=>whnf)
 | (refine call_step (run_view (c51 _ _ (by omega) (by omega)) rfl rfl) ?_;conv=>whnf)
 | (refine ⟨[],[],(by decide +kernel),?_⟩;conv=>whnf)
 | (refine loop1 (fun (k : Nat)=>a.opens.length - k) (fun (k : Nat)=>k ≤ a.opens.length ∧ a.opens.take k = b.opens.take k) (fun (k : Nat)=>[(2,.ptr 0 0 0),(3,.ptr 1 0 0),(5,.d (i k))]) (fun (k : Nat)=>[⟨[.d a.enc],6,0⟩,⟨[.d b.enc],6,0⟩]) (0) (by exact ⟨by omega,rfl⟩) ?_ (fun k C hI hC=>?_);(exact ⟨[.old 0,.old 1],rfl,rfl,⟨(by first | exact congrArg (D.int .i64) (by omega) | exact ⟨rfl,rfl,rfl⟩ | exact ⟨rfl,rfl,rfl,rfl,rfl⟩ | (show (_ : D) = _;with_reducible rfl)),(by first | exact congrArg (D.int .i64) (by omega) | exact ⟨rfl,rfl,rfl⟩ | exact ⟨rfl,rfl,rfl,rfl,rfl⟩ | (show (_ : D) = _;with_reducible rfl)),(by first | exact congrArg (D.int .i64) (by omega) | exact ⟨rfl,rfl,rfl⟩ | exact ⟨rfl,rfl,rfl,rfl,rfl⟩ | (show (_ : D) = _;with_reducible rfl)),trivial⟩,⟨⟨rfl,rfl,.inl ⟨[_],rfl,rfl⟩⟩,⟨rfl,rfl,.inl ⟨[_],rfl,rfl⟩⟩,trivial⟩⟩);all_goals (conv=>whnf))
 | (refine hC (k + 1) _ _ ?_ (by omega) ?_;clear hC;rotate_left;(exact ⟨[.old 0,.old 1],rfl,rfl,⟨(by first | exact congrArg (D.int .i64) (by omega) | exact ⟨rfl,rfl,rfl⟩ | exact ⟨rfl,rfl,rfl,rfl,rfl⟩ | (show (_ : D) = _;with_reducible rfl)),(by first | exact congrArg (D.int .i64) (by omega) | exact ⟨rfl,rfl,rfl⟩ | exact ⟨rfl,rfl,rfl,rfl,rfl⟩ | (show (_ : D) = _;with_reducible rfl)),(by first | exact congrArg (D.int .i64) (by omega) | exact ⟨rfl,rfl,rfl⟩ | exact ⟨rfl,rfl,rfl,rfl,rfl⟩ | (show (_ : D) = _;with_reducible rfl)),trivial⟩,⟨⟨rfl,rfl,.inl ⟨[_],rfl,rfl⟩⟩,⟨rfl,rfl,.inl ⟨[_],rfl,rfl⟩⟩,trivial⟩⟩);(exact ⟨by omega,take_eq_succ (by omega) (by omega) hI.2 h⟩))
 | (refine ⟨⟨(by first | rfl | (simp;done)),cap_ok (by simp only [List.length_map,List.length_cons,List.length_nil,List.length_append];omega) rfl⟩,?_⟩;conv=>whnf)
 | (refine ⟨mem_one ⟨rfl,rfl⟩,?_⟩;conv=>whnf)
 | (refine ⟨(by intro y hy;obtain ⟨x,_,rfl⟩:=List.mem_map.1 hy;first | rfl | exact ⟨rfl,rfl⟩),?_⟩;conv=>whnf)
 | (refine ⟨cap_ok (by first | omega | (simp only [List.length_map];omega)) rfl,?_⟩;conv=>whnf)
 | (refine ix_map (by omega) ?_;conv=>whnf)
 | (refine ix_str (by omega) ?_;conv=>whnf)
 | (refine wrap64 (by omega) ?_;conv=>whnf)
 | (exfalso;simp only [List.length_map,List.length_cons,List.length_nil,List.length_append] at h;omega)
 | (exact endx (congrArg D.bool (jrn_eq (by assumption) (by assumption) (by assumption) (by assumption) (eq_of_take (by omega) (by omega) hI.2)));done)
 | (exact endx (congrArg D.bool (decide_eq_false (fun e=>by subst e;first | exact h rfl | exact absurd rfl h | omega)).symm);done)
 | (refine ⟨rfl,?_⟩;conv=>whnf)
  | fail
  )
def woI (a b : Int) : Int:=(andn a.toNat b.toNat : Nat)
def withI (a b : Int) : Int:=(a.toNat ||| b.toNat : Nat)
theorem woI_bd {a b : Int} (ha : 0 ≤ a ∧ a ≤ 4095) : 0 ≤ woI a b ∧ woI a b ≤ a:=by
 have:=andn_le a.toNat b.toNat
 unfold woI;omega
theorem withI_bd {a b : Int} (ha : 0 ≤ a ∧ a ≤ 4095) (hb : 0 ≤ b ∧ b ≤ 4095) : 0 ≤ withI a b ∧ withI a b ≤ 4095:=by
 have : a.toNat ||| b.toNat < 2 ^ 12:=Nat.or_lt_two_pow (by omega) (by omega)
 unfold withI;omega
def openR : List Opn → Ref → Int
 | [],_=>0
 | o :: l,f=>if o.file = f then o.reasons else openR l f
def fewB (j : Jrn) : Bool:=decide (j.recs.length ≤ 210) && decide (j.opens.length ≤ 70) && j.recs.all (fun x=>decide (x.name.length ≤ 40))
def shortB (e : Evt) : Bool:=decide (e.name.length ≤ 40) && decide (e.nn.length ≤ 40)
def Jrn.wr (j : Jrn) (x : Chg) : Jrn:={ j with recs:=j.recs ++ [{ x with usn:=j.next }],next:=IntKind.i64.wrap (j.next + size x.name.length) }
end Go.Proofs.YtkeeienjocbkbaaGreatDoor
namespace Go.Proofs.YtkeeienjocbkbaaGreatDoor
open Go Dw
set_option maxRecDepth 10000
attribute [local irreducible] Run
def trimR (next most : Int) : Int → List Chg → Int × List Chg
 | f,[]=>(f,[])
 | f,x :: l=>if most < IntKind.i64.wrap (next - f) then trimR next most (IntKind.i64.wrap (f + size x.name.length)) l else (f,x :: l)
def Jrn.trim (j : Jrn) : Jrn:={ j with first:=(trimR j.next j.most j.first j.recs).1,recs:=(trimR j.next j.most j.first j.recs).2 }
end Go.Proofs.YtkeeienjocbkbaaGreatDoor
namespace Go.Proofs.YtkeeienjocbkbaaGreatDoor
open Go Dw
set_option maxRecDepth 10000
attribute [local irreducible] Run
set_option maxHeartbeats 4000000
def eventErr (e : Evt) : Int:=
 if first [refErr e.file,refErr e.parent,if within e.tick 0 1000000 && within e.reasons 1 4095 then 0 else 2,if has e.reasons 512 = has e.reasons 1024 then 0 else 10,nameErr e.name] ≠ 0 then
  first [refErr e.file,refErr e.parent,if within e.tick 0 1000000 && within e.reasons 1 4095 then 0 else 2,if has e.reasons 512 = has e.reasons 1024 then 0 else 10,nameErr e.name]
 else if has e.reasons 1024 then first [refErr e.np,nameErr e.nn] else if e.np = ⟨0,0⟩ ∧ e.nn = [] then 0 else 3
theorem hasR_512 {x : Int} (h : within x 1 4095 = true) : hasR x 512 = has x 512:=by
 simp only [within,Bool.and_eq_true,decide_eq_true_eq] at h
 exact hasR_has (by omega) (by omega) 9 (by omega)
theorem hasR_1024 {x : Int} (h : within x 1 4095 = true) : hasR x 1024 = has x 1024:=by
 simp only [within,Bool.and_eq_true,decide_eq_true_eq] at h
 exact hasR_has (by omega) (by omega) 10 (by omega)
theorem within_eq (n lo hi : Int) : (decide (lo ≤ n) && decide (n ≤ hi)) = within n lo hi:=rfl
theorem c7 (e : Evt) (h0 : e.name.length < 1000000) (h1 : e.nn.length < 1000000) : Fn 7 [e.enc] (i (eventErr e)):=by
 refine run_walkF eok Tryz.func7 rfl (by kernel_rfl) ?_
 conv=>whnf
 repeat' (first
 | (refine on_ref (b:=⟨0,0⟩) (fun h=>?_) (fun h=>?_)<;>conv=>whnf)
 | (refine on_refn (b:=⟨0,0⟩) (fun h=>?_) (fun h=>?_)<;>conv=>whnf)
 | ((with_reducible refine on_dec_f ?_ ?_);(focus ((try simp only [List.length_map,List.length_cons,List.length_nil,List.length_append]);omega));conv=>whnf)
 | ((with_reducible refine on_dec_t ?_ ?_);(focus ((try simp only [List.length_map,List.length_cons,List.length_nil,List.length_append]);omega));conv=>whnf)
 | ((with_reducible refine on_dec (fun h=>?_) (fun h=>?_))<;>(try simp only [List.length_map] at h)<;>conv=>whnf)
 | ((with_reducible refine on_ndec (fun h=>?_) (fun h=>?_))<;>(try simp only [List.length_map] at h)<;>conv=>whnf)
 | ((with_reducible refine on_not (fun h=>?_) (fun h=>?_))<;>conv=>whnf)
 | ((with_reducible refine onBool_split (fun h=>?_) (fun h=>?_))<;>conv=>whnf)
 | (refine call_step (run_view (c22 _ _) rfl rfl) ?_;conv=>whnf)
 | (refine call_step (run_view (c23 _) rfl rfl) ?_;conv=>whnf)
 | (refine call_step (run_view (c6 _ _ _) rfl rfl) ?_;conv=>whnf)
 | (refine call_step (run_view (c25 _ _ (by decide)) rfl rfl) ?_;conv=>whnf)
 | (refine call_step (run_view (c26 _ (by assumption)) rfl rfl) ?_;conv=>whnf)
 | (refine call_step (run_view (c27 _) rfl rfl) ?_;conv=>whnf)
 | (refine ⟨[],[(4,2)],(by decide +kernel),?_⟩;conv=>whnf)
 | (refine ⟨⟨(by first | rfl | (simp;done)),cap_ok (by simp only [List.length_map,List.length_cons,List.length_nil,List.length_append];omega) rfl⟩,?_⟩;conv=>whnf)
 | (refine ⟨mem_one ⟨rfl,rfl⟩,?_⟩;conv=>whnf)
 | (refine ⟨(by intro y hy;obtain ⟨x,_,rfl⟩:=List.mem_map.1 hy;first | rfl | exact ⟨rfl,rfl⟩),?_⟩;conv=>whnf)
 | (refine ⟨cap_ok (by first | omega | (simp only [List.length_map];omega)) rfl,?_⟩;conv=>whnf)
 | (refine ix_map (by omega) ?_;conv=>whnf)
 | (refine ix_str (by omega) ?_;conv=>whnf)
 | (refine wrap64 (by omega) ?_;conv=>whnf)
 | (exfalso;simp only [List.length_map,List.length_cons,List.length_nil,List.length_append] at h;omega)
 | (refine endx (congrArg i ?_);simp only [eventErr];grind [first_cons,first_nil,hasR_512,hasR_1024];done)
 | (refine ⟨rfl,?_⟩;conv=>whnf)
  | fail
  )
theorem c65 (e : Evt) (h0 : e.name.length < 1000000) (h1 : e.nn.length < 1000000) : Fn 65 [e.enc] (i (eventErr e)):=by
 refine run_walkF eok Tryz.func65 rfl (by kernel_rfl) ?_
 conv=>whnf
 repeat' (first
 | (refine on_ref (b:=⟨0,0⟩) (fun h=>?_) (fun h=>?_)<;>conv=>whnf)
 | (refine on_refn (b:=⟨0,0⟩) (fun h=>?_) (fun h=>?_)<;>conv=>whnf)
 | ((with_reducible refine on_dec_f ?_ ?_);(focus ((try simp only [List.length_map,List.length_cons,List.length_nil,List.length_append]);omega));conv=>whnf)
 | ((with_reducible refine on_dec_t ?_ ?_);(focus ((try simp only [List.length_map,List.length_cons,List.length_nil,List.length_append]);omega));conv=>whnf)
 | ((with_reducible refine on_dec (fun h=>?_) (fun h=>?_))<;>(try simp only [List.length_map] at h)<;>conv=>whnf)
 | ((with_reducible refine on_ndec (fun h=>?_) (fun h=>?_))<;>(try simp only [List.length_map] at h)<;>conv=>whnf)
 | ((with_reducible refine on_not (fun h=>?_) (fun h=>?_))<;>conv=>whnf)
 | ((with_reducible refine onBool_split (fun h=>?_) (fun h=>?_))<;>conv=>whnf)
 | (refine call_step (run_view (c58 _ _) rfl rfl) ?_;conv=>whnf)
 | (refine call_step (run_view (c85 _) rfl rfl) ?_;conv=>whnf)
 | (refine call_step (run_view (c55 _ _ _) rfl rfl) ?_;conv=>whnf)
 | (refine call_step (run_view (c57 _ _) rfl rfl) ?_;conv=>whnf)
 | (refine call_step (run_view (c87 _ (by assumption)) rfl rfl) ?_;conv=>whnf)
 | (refine call_step (run_view (c56 [_,_] (by simp)) rfl rfl) ?_;conv=>whnf)
 | (refine call_step (run_view (c56 [_,_,_] (by simp)) rfl rfl) ?_;conv=>whnf)
 | (refine call_step (run_view (c56 [_,_,_,_] (by simp)) rfl rfl) ?_;conv=>whnf)
 | (refine call_step (run_view (c56 [_,_,_,_,_] (by simp)) rfl rfl) ?_;conv=>whnf)
 | (refine ⟨[],[(4,2)],(by decide +kernel),?_⟩;conv=>whnf)
 | (refine ⟨[],[(4,2),(7,2),(20,2),(7,5),(20,5),(20,8),(20,12),(20,14),(20,18)],(by decide +kernel),?_⟩;conv=>whnf)
 | (refine ⟨⟨(by first | rfl | (simp;done)),cap_ok (by simp only [List.length_map,List.length_cons,List.length_nil,List.length_append];omega) rfl⟩,?_⟩;conv=>whnf)
 | (refine ⟨mem_one ⟨rfl,rfl⟩,?_⟩;conv=>whnf)
 | (refine ⟨(by intro y hy;obtain ⟨x,_,rfl⟩:=List.mem_map.1 hy;first | rfl | exact ⟨rfl,rfl⟩),?_⟩;conv=>whnf)
 | (refine ⟨cap_ok (by first | omega | (simp only [List.length_map];omega)) rfl,?_⟩;conv=>whnf)
 | (refine ix_map (by omega) ?_;conv=>whnf)
 | (refine ix_str (by omega) ?_;conv=>whnf)
 | (refine wrap64 (by omega) ?_;conv=>whnf)
 | (exfalso;simp only [List.length_map,List.length_cons,List.length_nil,List.length_append] at h;omega)
 | (refine endx (congrArg i ?_);simp only [eventErr,within_eq] at *;grind [first_cons,first_nil];done)
 | (refine ⟨rfl,?_⟩;conv=>whnf)
  | fail
  )
end Go.Proofs.YtkeeienjocbkbaaGreatDoor
namespace Go.Proofs.YtkeeienjocbkbaaGreatDoor
open Go Dw
set_option maxRecDepth 10000
attribute [local irreducible] Run
set_option maxHeartbeats 2000000
def openGo (f : Ref) (r : Int) : List Opn → Bool → List Opn → List Opn
 | [],d,out=>if d then out else out ++ [⟨f,r⟩]
 | o :: l,d,out=>openGo f r l (d || less f o.file)
   (if o.file = f then (if !d && less f o.file then out ++ [⟨f,r⟩] else out) else (if !d && less f o.file then out ++ [⟨f,r⟩] else out) ++ [o])
def Jrn.opened (j : Jrn) (f : Ref) (r : Int) : Jrn:={ j with opens:=openGo f r j.opens (decide (r = 0)) [] }
end Go.Proofs.YtkeeienjocbkbaaGreatDoor
namespace Go.Proofs.YtkeeienjocbkbaaGreatDoor
open Go Dw
set_option maxRecDepth 10000
attribute [local irreducible] Run
set_option maxHeartbeats 4000000
attribute [local irreducible] woI withI hasR
theorem woI_r12 {a b : Int} (ha : 0 ≤ a ∧ a ≤ 4095) : 0 ≤ woI a b ∧ woI a b ≤ 4095:=by
 have:=woI_bd (b:=b) ha;omega
theorem wr_names {j : Jrn} {x : Chg} (h : ∀ y ∈ j.recs,y.name.length < 1000000) (hx : x.name.length < 1000000) : ∀ y ∈ (j.wr x).recs,y.name.length < 1000000:=by
 intro y hy
 simp only [Jrn.wr,List.mem_append,List.mem_singleton] at hy
 rcases hy with hy | rfl
 ·exact h y hy
 ·exact hx
theorem opened_names {j : Jrn} {f : Ref} {r : Int} (h : ∀ y ∈ j.recs,y.name.length < 1000000) : ∀ y ∈ (j.opened f r).recs,y.name.length < 1000000:=h
def aft1 (j : Jrn) (e : Evt) : Int × Jrn:=
 if woI (woI e.reasons 3584) (openR j.opens e.file) = 0 then (openR j.opens e.file,j)
 else (withI (openR j.opens e.file) (woI e.reasons 3584),j.wr ⟨0,e.file,e.parent,e.tick,withI (openR j.opens e.file) (woI e.reasons 3584),e.name⟩)
def aft2 (e : Evt) (p : Int × Jrn) : Int × Jrn:=
 if hasR e.reasons 512 then (withI (woI p.1 512) 1024,(p.2.wr ⟨0,e.file,e.parent,e.tick,withI p.1 512,e.name⟩).wr ⟨0,e.file,e.np,e.tick,withI (woI p.1 512) 1024,e.nn⟩) else p
def aft3 (e : Evt) (p : Int × Jrn) : Int × Jrn:=
 if hasR e.reasons 2048 && !decide (p.1 = 0) then (0,p.2.wr (if hasR e.reasons 512 then ⟨0,e.file,e.np,e.tick,withI p.1 2048,e.nn⟩ else ⟨0,e.file,e.parent,e.tick,withI p.1 2048,e.name⟩)) else p
def after (j : Jrn) (e : Evt) : Jrn:=((aft3 e (aft2 e (aft1 j e))).2.opened e.file (aft3 e (aft2 e (aft1 j e))).1).trim
end Go.Proofs.YtkeeienjocbkbaaGreatDoor
namespace Go.Proofs.YtkeeienjocbkbaaGreatDoor
open Go Dw
set_option maxRecDepth 10000
attribute [local irreducible] Run
attribute [local irreducible] woI withI hasR
theorem eachRec_ok : ∀ (l : List Chg) (k : Nat) (a : Int),(eachRec l k a).2.1 = 0 → ∀ x ∈ l,recordErr x = 0
 | [],_,_,_,x,hx=>by cases hx
 | y :: l,k,a,h,x,hx=>by
  simp only [eachRec] at h
  by_cases hy : recErr y a = 0
  ·rw [if_pos hy] at h
   rcases List.mem_cons.1 hx with rfl | hx
   ·unfold recErr at hy
    rw [first_cons] at hy
    by_cases h2 : recordErr x = 0
    ·exact h2
    ·rw [if_neg h2] at hy;exact hy
   ·exact eachRec_ok l _ _ h x hx
  ·rw [if_neg hy] at h
   exact absurd h hy
theorem eachOpn_ok (m : List Opn) : ∀ (l : List Opn) (k : Nat),(eachOpn m l k).2 = 0 → ∀ x ∈ l,refErr x.file = 0 ∧ within x.reasons 1 4095 = true
 | [],_,_,x,hx=>by cases hx
 | y :: l,k,h,x,hx=>by
  simp only [eachOpn] at h
  by_cases hy : opnErr m k y = 0
  ·rw [if_pos hy] at h
   rcases List.mem_cons.1 hx with rfl | hx
   ·unfold opnErr at hy
    rw [first_cons] at hy
    by_cases h2 : refErr x.file = 0
    ·rw [if_pos h2,first_cons] at hy
     refine ⟨h2,?_⟩
     by_cases h3 : within x.reasons 1 4095 = true
     ·exact h3
     ·simp [h3] at hy
    ·rw [if_neg h2] at hy;exact absurd hy h2
   ·exact eachOpn_ok m l _ h x hx
  ·rw [if_neg hy] at h
   exact absurd h hy
theorem within_iff {n lo hi : Int} : within n lo hi = true ↔ lo ≤ n ∧ n ≤ hi:=by
 simp only [within,Bool.and_eq_true,decide_eq_true_eq]
theorem recordErr_ok {x : Chg} (h : recordErr x = 0) : refErr x.file = 0 ∧ refErr x.parent = 0 ∧ (0 ≤ x.tick ∧ x.tick ≤ 1000000) ∧ (1 ≤ x.reasons ∧ x.reasons ≤ 4095) ∧ nameErr x.name = 0:=by
 simp only [recordErr,first_cons,first_nil] at h
 by_cases h1 : refErr x.file = 0<;>by_cases h2 : refErr x.parent = 0<;>by_cases h3 : (within x.tick 0 1000000 && within x.reasons 1 4095) = true<;>by_cases h4 : nameErr x.name = 0<;>simp [h1,h2,h3,h4] at h
 rw [Bool.and_eq_true] at h3
 exact ⟨h1,h2,within_iff.1 h3.1,within_iff.1 h3.2,h4⟩
theorem nameErr_ok {s : List UInt8} (h : nameErr s = 0) : 1 ≤ s.length ∧ s.length ≤ 32 ∧ ctl s = false:=by
 unfold nameErr at h
 by_cases h1 : (within (s.length : Int) 1 32 && !ctl s) = true
 ·rw [Bool.and_eq_true] at h1
  have:=within_iff.1 h1.1
  exact ⟨by omega,by omega,by simpa using h1.2⟩
 ·rw [if_neg h1] at h;omega
structure Valid (j : Jrn) : Prop where
 nums : (0 ≤ j.id ∧ j.id ≤ 2147483647) ∧ (0 ≤ j.first ∧ j.first ≤ 2147483647) ∧ (0 ≤ j.next ∧ j.next ≤ 2147483647) ∧ (128 ≤ j.most ∧ j.most ≤ 8192)
 recs : j.recs.length ≤ 200
 opens : j.opens.length ≤ 64
 recOk : ∀ x ∈ j.recs,recordErr x = 0
 opnOk : ∀ x ∈ j.opens,refErr x.file = 0 ∧ 1 ≤ x.reasons ∧ x.reasons ≤ 4095
 each : (eachRec j.recs 0 j.first).2.1 = 0 ∧ j.next = (eachRec j.recs 0 j.first).2.2
 eachO : (eachOpn j.opens j.opens 0).2 = 0
theorem numbersErr_ok {j : Jrn} (h : numbersErr j = 0) : (0 ≤ j.id ∧ j.id ≤ 2147483647) ∧ (0 ≤ j.first ∧ j.first ≤ 2147483647) ∧ (0 ≤ j.next ∧ j.next ≤ 2147483647) ∧ (128 ≤ j.most ∧ j.most ≤ 8192):=by
 unfold numbersErr at h
 split at h
 ·rename_i h1
  split at h
  ·rename_i h2
   simp only [Bool.and_eq_true] at h1
   exact ⟨within_iff.1 h1.1.1,within_iff.1 h1.1.2,within_iff.1 h1.2,within_iff.1 h2⟩
  ·omega
 ·omega
theorem valid_of {j : Jrn} (h : (checkJ j).2 = 0) : Valid j:=by
 have c1 : first [numbersErr j,if few j then 0 else 8] = 0:=Classical.byContradiction fun c=>by
  unfold checkJ at h;rw [if_pos c] at h;exact c h
 unfold checkJ at h
 rw [if_neg (fun c=>c c1)] at h
 have c2 : (eachRec j.recs 0 j.first).2.1 = 0:=Classical.byContradiction fun c=>by
  rw [if_pos c] at h;exact c h
 rw [if_neg (fun c=>c c2)] at h
 have c3 : j.next = (eachRec j.recs 0 j.first).2.2:=Classical.byContradiction fun c=>by
  rw [if_pos c] at h;exact absurd h (by decide)
 rw [if_neg (fun c=>c c3)] at h
 rw [first_cons] at c1
 by_cases hn : numbersErr j = 0
 ·rw [if_pos hn,first_cons] at c1
  by_cases hf : few j = true
  ·simp only [few,Bool.and_eq_true,decide_eq_true_eq] at hf
   exact ⟨numbersErr_ok hn,by omega,by omega,eachRec_ok _ _ _ c2,fun x hx=>⟨(eachOpn_ok _ _ _ h x hx).1,within_iff.1 (eachOpn_ok _ _ _ h x hx).2⟩,⟨c2,c3⟩,h⟩
  ·simp [hf] at c1
 ·rw [if_neg hn] at c1;exact absurd c1 hn
theorem valid_openR {j : Jrn} (h : Valid j) (f : Ref) : 0 ≤ openR j.opens f ∧ openR j.opens f ≤ 4095:=by
 have key : ∀ (l : List Opn),(∀ x ∈ l,refErr x.file = 0 ∧ 1 ≤ x.reasons ∧ x.reasons ≤ 4095) → 0 ≤ openR l f ∧ openR l f ≤ 4095:=by
  intro l
  induction l with
  | nil=>intro _;simp [openR]
  | cons o l ih=>
   intro hl
   simp only [openR]
   have:=hl o (by simp)
   split
   ·omega
   ·exact ih fun x hx=>hl x (by simp [hx])
 exact key _ h.opnOk
theorem eventErr_ok {e : Evt} (h : eventErr e = 0) : refErr e.file = 0 ∧ refErr e.parent = 0 ∧ (0 ≤ e.tick ∧ e.tick ≤ 1000000) ∧ (1 ≤ e.reasons ∧ e.reasons ≤ 4095) ∧ has e.reasons 512 = has e.reasons 1024 ∧ nameErr e.name = 0 ∧ (has e.reasons 1024 = true → refErr e.np = 0 ∧ nameErr e.nn = 0) ∧ (has e.reasons 1024 = false → e.np = ⟨0,0⟩ ∧ e.nn = []):=by
 have h1 : first [refErr e.file,refErr e.parent,if within e.tick 0 1000000 && within e.reasons 1 4095 then 0 else 2,if has e.reasons 512 = has e.reasons 1024 then 0 else 10,nameErr e.name] = 0:=Classical.byContradiction fun c=>by
  unfold eventErr at h;rw [if_pos c] at h;exact c h
 unfold eventErr at h
 rw [if_neg (fun c=>c h1)] at h
 simp only [first_cons,first_nil] at h1
 by_cases g1 : refErr e.file = 0<;>by_cases g2 : refErr e.parent = 0<;>by_cases g3 : (within e.tick 0 1000000 && within e.reasons 1 4095) = true<;>by_cases g4 : has e.reasons 512 = has e.reasons 1024<;>by_cases g5 : nameErr e.name = 0<;>simp [g1,g2,g3,g4,g5] at h1
 rw [Bool.and_eq_true] at g3
 refine ⟨g1,g2,within_iff.1 g3.1,within_iff.1 g3.2,g4,g5,fun hb=>?_,fun hb=>?_⟩
 ·rw [if_pos hb] at h
  simp only [first_cons,first_nil] at h
  by_cases k1 : refErr e.np = 0<;>by_cases k2 : nameErr e.nn = 0<;>simp [k1,k2] at h
  exact ⟨k1,k2⟩
 ·rw [if_neg (by simp [hb])] at h
  by_cases k : e.np = ⟨0,0⟩ ∧ e.nn = []
  ·exact k
  ·rw [if_neg k] at h;exact absurd h (by decide)
def zeroJ : Jrn:=⟨0,0,0,0,[],[]⟩
def full (j : Jrn) : Bool:=decide ((64 : Int) < j.opens.length) || decide (2147483647 < j.next) || decide ((200 : Int) < j.recs.length)
def noted (j : Jrn) (e : Evt) : Jrn × Int:=
 if (checkJ j).2 ≠ 0 then (zeroJ,(checkJ j).2) else if eventErr e ≠ 0 then (zeroJ,eventErr e) else if full (after j e) then (zeroJ,16) else (after j e,0)
def allGo (n : Int) : List Evt → Nat → Jrn → Jrn × Int × Int
 | [],_,j=>(j,n,0)
 | e :: l,k,j=>if (noted j e).2 ≠ 0 then (zeroJ,k,(noted j e).2) else allGo n l (k + 1) (noted j e).1
def allR (j : Jrn) (l : List Evt) : Jrn × Int × Int:=
 if (checkJ j).2 ≠ 0 then (zeroJ,0,(checkJ j).2) else if (200 : Int) < l.length then (zeroJ,0,8) else allGo l.length l 0 j
end Go.Proofs.YtkeeienjocbkbaaGreatDoor
namespace Go.Proofs.YtkeeienjocbkbaaGreatDoor
open Go Dw
set_option maxRecDepth 10000
attribute [local irreducible] Run
set_option maxHeartbeats 1000000
attribute [local irreducible] woI withI hasR compare cmp
structure Qry where
 id : Int
 pos : Int
 reasons : Int
 only : Bool
 count : Int
 deriving DecidableEq
def Qry.enc (q : Qry) : D:=.agg [i q.id,i q.pos,i q.reasons,.bool q.only,i q.count]
def bsAt {α : Type} (c : α → Int) (l : List α) (k : Nat) : Int:=match l[k]? with
 | some x=>c x
 | none=>0
theorem bsAt_eq {α : Type} {c : α → Int} {l : List α} {k : Nat} (h : k < l.length) : bsAt c l k = c l[k]:=by
 simp only [bsAt,List.getElem?_eq_getElem h]
def bsGo {α : Type} (c : α → Int) (l : List α) : Nat → Nat → Nat → Nat
 | 0,a,_=>a
 | n + 1,a,b=>if a < b then (if bsAt c l ((a + b) / 2) < 0 then bsGo c l n ((a + b) / 2 + 1) b else bsGo c l n a ((a + b) / 2)) else a
def bsR {α : Type} (c : α → Int) (l : List α) : Nat × Bool:=
 (bsGo c l l.length 0 l.length,match l[bsGo c l l.length 0 l.length]? with | some x=>decide (c x = 0) | none=>false)
theorem bs_lt {α : Type} {c : α → Int} {l : List α} {n a b : Nat} (hn : b - a ≤ n) (h : a < b) (hl : (a + b) / 2 < l.length) (hc : c l[(a + b) / 2] < 0) : 0 < n ∧ bsGo c l n a b = bsGo c l (n - 1) ((a + b) / 2 + 1) b:=by
 cases n with
 | zero=>omega
 | succ n=>exact ⟨by omega,by simp only [bsGo,if_pos h,bsAt_eq hl,if_pos hc,Nat.add_sub_cancel]⟩
theorem bs_ge {α : Type} {c : α → Int} {l : List α} {n a b : Nat} (hn : b - a ≤ n) (h : a < b) (hl : (a + b) / 2 < l.length) (hc : ¬ c l[(a + b) / 2] < 0) : 0 < n ∧ bsGo c l n a b = bsGo c l (n - 1) a ((a + b) / 2):=by
 cases n with
 | zero=>omega
 | succ n=>exact ⟨by omega,by simp only [bsGo,if_pos h,bsAt_eq hl,if_neg hc,Nat.add_sub_cancel]⟩
theorem bsR_at {α : Type} {c : α → Int} {l : List α} {k : Nat} (h : bsGo c l l.length 0 l.length = k) (hk : k < l.length) : bsR c l = (k,decide (c l[k] = 0)):=by
 simp only [bsR,h,List.getElem?_eq_getElem hk]
theorem bsR_none {α : Type} {c : α → Int} {l : List α} {k : Nat} (h : bsGo c l l.length 0 l.length = k) (hk : ¬ k < l.length) : bsR c l = (k,false):=by
 simp only [bsR,h,List.getElem?_eq_none (Nat.le_of_not_lt hk)]
theorem bs_end {α : Type} {c : α → Int} {l : List α} {n a b : Nat} (h : ¬ a < b) : bsGo c l n a b = a:=by
 cases n<;>simp [bsGo,h]
theorem c53 (x : Chg) (p : Int) : Fn 53 [x.enc,i p] (i (cmp x.usn p)):=by
 refine run_walkF eok Tryz.func53 rfl (by kernel_rfl) ?_
 conv=>whnf
 repeat' (first
 | ((with_reducible refine on_dec_f ?_ ?_);(focus ((try simp only [List.length_map,List.length_cons,List.length_nil,List.length_append]);omega));conv=>whnf)
 | ((with_reducible refine on_dec_t ?_ ?_);(focus ((try simp only [List.length_map,List.length_cons,List.length_nil,List.length_append]);omega));conv=>whnf)
 | ((with_reducible refine on_dec (fun h=>?_) (fun h=>?_))<;>(try simp only [List.length_map] at h)<;>conv=>whnf)
 | ((with_reducible refine on_ndec (fun h=>?_) (fun h=>?_))<;>(try simp only [List.length_map] at h)<;>conv=>whnf)
 | ((with_reducible refine on_not (fun h=>?_) (fun h=>?_))<;>conv=>whnf)
 | ((with_reducible refine onBool_split (fun h=>?_) (fun h=>?_))<;>conv=>whnf)
 | (refine call_step (run_view (c54 _ _) rfl rfl) ?_;conv=>whnf)
 | (refine ⟨⟨(by first | rfl | (simp;done)),cap_ok (by simp only [List.length_map,List.length_cons,List.length_nil,List.length_append];omega) rfl⟩,?_⟩;conv=>whnf)
 | (refine ⟨mem_one ⟨rfl,rfl⟩,?_⟩;conv=>whnf)
 | (refine ⟨(by intro y hy;obtain ⟨x,_,rfl⟩:=List.mem_map.1 hy;first | rfl | exact ⟨rfl,rfl⟩),?_⟩;conv=>whnf)
 | (refine ⟨cap_ok (by first | omega | (simp only [List.length_map];omega)) rfl,?_⟩;conv=>whnf)
 | (refine ix_map (by omega) ?_;conv=>whnf)
 | (refine ix_str (by omega) ?_;conv=>whnf)
 | (refine wrap64 (by omega) ?_;conv=>whnf)
 | (exfalso;simp only [List.length_map,List.length_cons,List.length_nil,List.length_append] at h;omega)
 | (exact endx rfl;done)
 | (refine ⟨rfl,?_⟩;conv=>whnf)
  | fail
  )
theorem c120 (x : Opn) (f : Ref) : Fn 120 [x.enc,f.enc] (i (compare x.file f)):=by
 refine run_walkF eok Tryz.func120 rfl (by kernel_rfl) ?_
 conv=>whnf
 repeat' (first
 | ((with_reducible refine on_dec_f ?_ ?_);(focus ((try simp only [List.length_map,List.length_cons,List.length_nil,List.length_append]);omega));conv=>whnf)
 | ((with_reducible refine on_dec_t ?_ ?_);(focus ((try simp only [List.length_map,List.length_cons,List.length_nil,List.length_append]);omega));conv=>whnf)
 | ((with_reducible refine on_dec (fun h=>?_) (fun h=>?_))<;>(try simp only [List.length_map] at h)<;>conv=>whnf)
 | ((with_reducible refine on_ndec (fun h=>?_) (fun h=>?_))<;>(try simp only [List.length_map] at h)<;>conv=>whnf)
 | ((with_reducible refine on_not (fun h=>?_) (fun h=>?_))<;>conv=>whnf)
 | ((with_reducible refine onBool_split (fun h=>?_) (fun h=>?_))<;>conv=>whnf)
 | (refine call_step (run_view (c86 _ _) rfl rfl) ?_;conv=>whnf)
 | (refine ⟨⟨(by first | rfl | (simp;done)),cap_ok (by simp only [List.length_map,List.length_cons,List.length_nil,List.length_append];omega) rfl⟩,?_⟩;conv=>whnf)
 | (refine ⟨mem_one ⟨rfl,rfl⟩,?_⟩;conv=>whnf)
 | (refine ⟨(by intro y hy;obtain ⟨x,_,rfl⟩:=List.mem_map.1 hy;first | rfl | exact ⟨rfl,rfl⟩),?_⟩;conv=>whnf)
 | (refine ⟨cap_ok (by first | omega | (simp only [List.length_map];omega)) rfl,?_⟩;conv=>whnf)
 | (refine ix_map (by omega) ?_;conv=>whnf)
 | (refine ix_str (by omega) ?_;conv=>whnf)
 | (refine wrap64 (by omega) ?_;conv=>whnf)
 | (exfalso;simp only [List.length_map,List.length_cons,List.length_nil,List.length_append] at h;omega)
 | (exact endx rfl;done)
 | (refine ⟨rfl,?_⟩;conv=>whnf)
  | fail
  )
theorem c52 (l : List Chg) (p : Int) (hl : l.length < 1000000) : Fn 52 [.fs (l.map Chg.enc),i p,.fn 53 [] []] (.tup [i (bsR (fun x=>cmp x.usn p) l).1,.bool (bsR (fun x=>cmp x.usn p) l).2]):=by
 refine run_walkF eok Tryz.func52 rfl (by kernel_rfl) ?_
 conv=>whnf
 repeat' (first
 | ((with_reducible refine on_dec_f ?_ ?_);(focus ((try simp only [List.length_map,List.length_cons,List.length_nil,List.length_append]);omega));conv=>whnf)
 | ((with_reducible refine on_dec_t ?_ ?_);(focus ((try simp only [List.length_map,List.length_cons,List.length_nil,List.length_append]);omega));conv=>whnf)
 | ((with_reducible refine on_dec (fun h=>?_) (fun h=>?_))<;>(try simp only [List.length_map] at h)<;>conv=>whnf)
 | ((with_reducible refine on_ndec (fun h=>?_) (fun h=>?_))<;>(try simp only [List.length_map] at h)<;>conv=>whnf)
 | ((with_reducible refine on_not (fun h=>?_) (fun h=>?_))<;>conv=>whnf)
 | ((with_reducible refine onBool_split (fun h=>?_) (fun h=>?_))<;>conv=>whnf)
 | (refine loop3 (fun (n : Nat) (a : Nat) (b : Nat)=>b - a) (fun (n : Nat) (a : Nat) (b : Nat)=>a ≤ b ∧ b ≤ l.length ∧ b - a ≤ n ∧ bsGo (fun x=>cmp x.usn p) l l.length 0 l.length = bsGo (fun x=>cmp x.usn p) l n a b) (fun (n : Nat) (a : Nat) (b : Nat)=>[(0,.d (.fs (l.map Chg.enc))),(1,.d (i p)),(2,.d (.fn 53 [] [])),(8,.d (i l.length)),(9,.d (i a)),(10,.d (i b))]) (fun (n : Nat) (a : Nat) (b : Nat)=>[]) (l.length) (0) (l.length) (by exact ⟨by omega,by omega,by omega,rfl⟩) ?_ (fun n a b C hI hC=>?_);(exact ⟨[],rfl,rfl,⟨(by first | exact congrArg (D.int .i64) (by omega) | exact ⟨rfl,rfl,rfl⟩ | exact congrArg (D.int .i64) (by simp) | (show (_ : D) = _;with_reducible rfl)),(by first | exact congrArg (D.int .i64) (by omega) | exact ⟨rfl,rfl,rfl⟩ | exact congrArg (D.int .i64) (by simp) | (show (_ : D) = _;with_reducible rfl)),(by first | exact congrArg (D.int .i64) (by omega) | exact ⟨rfl,rfl,rfl⟩ | exact congrArg (D.int .i64) (by simp) | (show (_ : D) = _;with_reducible rfl)),(by first | exact congrArg (D.int .i64) (by omega) | exact ⟨rfl,rfl,rfl⟩ | exact congrArg (D.int .i64) (by simp) | (show (_ : D) = _;with_reducible rfl)),(by first | exact congrArg (D.int .i64) (by omega) | exact ⟨rfl,rfl,rfl⟩ | exact congrArg (D.int .i64) (by simp) | (show (_ : D) = _;with_reducible rfl)),(by first | exact congrArg (D.int .i64) (by omega) | exact ⟨rfl,rfl,rfl⟩ | exact congrArg (D.int .i64) (by simp) | (show (_ : D) = _;with_reducible rfl)),trivial⟩,trivial⟩);all_goals (conv=>whnf))
 | (refine hC (n - 1) ((a + b) / 2 + 1) (b) _ _ ?_ (by omega) ?_;clear hC;rotate_left;(exact ⟨[],rfl,rfl,⟨(by first | exact congrArg (D.int .i64) (by omega) | exact ⟨rfl,rfl,rfl⟩ | exact congrArg (D.int .i64) (by simp) | (show (_ : D) = _;with_reducible rfl)),(by first | exact congrArg (D.int .i64) (by omega) | exact ⟨rfl,rfl,rfl⟩ | exact congrArg (D.int .i64) (by simp) | (show (_ : D) = _;with_reducible rfl)),(by first | exact congrArg (D.int .i64) (by omega) | exact ⟨rfl,rfl,rfl⟩ | exact congrArg (D.int .i64) (by simp) | (show (_ : D) = _;with_reducible rfl)),(by first | exact congrArg (D.int .i64) (by omega) | exact ⟨rfl,rfl,rfl⟩ | exact congrArg (D.int .i64) (by simp) | (show (_ : D) = _;with_reducible rfl)),(by first | exact congrArg (D.int .i64) (by omega) | exact ⟨rfl,rfl,rfl⟩ | exact congrArg (D.int .i64) (by simp) | (show (_ : D) = _;with_reducible rfl)),(by first | exact congrArg (D.int .i64) (by omega) | exact ⟨rfl,rfl,rfl⟩ | exact congrArg (D.int .i64) (by simp) | (show (_ : D) = _;with_reducible rfl)),trivial⟩,trivial⟩);(exact (by have he:=bs_lt (c:=fun x=>cmp x.usn p) (l:=l) (n:=n) (a:=a) (b:=b) hI.2.2.1 (by omega) (by omega) h;exact ⟨by omega,by omega,by omega,by rw [hI.2.2.2,he.2]⟩)))
 | (refine hC (n - 1) (a) ((a + b) / 2) _ _ ?_ (by omega) ?_;clear hC;rotate_left;(exact ⟨[],rfl,rfl,⟨(by first | exact congrArg (D.int .i64) (by omega) | exact ⟨rfl,rfl,rfl⟩ | exact congrArg (D.int .i64) (by simp) | (show (_ : D) = _;with_reducible rfl)),(by first | exact congrArg (D.int .i64) (by omega) | exact ⟨rfl,rfl,rfl⟩ | exact congrArg (D.int .i64) (by simp) | (show (_ : D) = _;with_reducible rfl)),(by first | exact congrArg (D.int .i64) (by omega) | exact ⟨rfl,rfl,rfl⟩ | exact congrArg (D.int .i64) (by simp) | (show (_ : D) = _;with_reducible rfl)),(by first | exact congrArg (D.int .i64) (by omega) | exact ⟨rfl,rfl,rfl⟩ | exact congrArg (D.int .i64) (by simp) | (show (_ : D) = _;with_reducible rfl)),(by first | exact congrArg (D.int .i64) (by omega) | exact ⟨rfl,rfl,rfl⟩ | exact congrArg (D.int .i64) (by simp) | (show (_ : D) = _;with_reducible rfl)),(by first | exact congrArg (D.int .i64) (by omega) | exact ⟨rfl,rfl,rfl⟩ | exact congrArg (D.int .i64) (by simp) | (show (_ : D) = _;with_reducible rfl)),trivial⟩,trivial⟩);(exact (by have he:=bs_ge (c:=fun x=>cmp x.usn p) (l:=l) (n:=n) (a:=a) (b:=b) hI.2.2.1 (by omega) (by omega) h;exact ⟨by omega,by omega,by omega,by rw [hI.2.2.2,he.2]⟩)))
 | (refine ⟨⟨(by first | rfl | (simp;done)),cap_ok (by simp only [List.length_map,List.length_cons,List.length_nil,List.length_append];omega) rfl⟩,?_⟩;conv=>whnf)
 | (refine ⟨mem_one ⟨rfl,rfl⟩,?_⟩;conv=>whnf)
 | (refine ⟨(by intro y hy;obtain ⟨x,_,rfl⟩:=List.mem_map.1 hy;first | rfl | exact ⟨rfl,rfl⟩),?_⟩;conv=>whnf)
 | (refine ⟨cap_ok (by first | omega | (simp only [List.length_map];omega)) rfl,?_⟩;conv=>whnf)
 | (refine ix_map (by omega) ?_;conv=>whnf)
 | (refine ix_str (by omega) ?_;conv=>whnf)
 | (refine wrap64 (by omega) ?_;conv=>whnf)
 | (refine call_step (run_view (c53 _ _) rfl rfl) ?_;conv=>whnf)
 | (refine wrapU64 (by omega) ?_;conv=>whnf)
 | (refine shr_at 2 ?_ ?_ ?_ ?_;(rfl);(rfl);(rfl);conv=>whnf)
 | (refine ix_at ((a + b) / 2) (by omega) (by omega) ?_;conv=>whnf)
 | (refine ix_at a (by omega) (by omega) ?_;conv=>whnf)
 | (exfalso;simp only [List.length_map,List.length_cons,List.length_nil,List.length_append] at h;omega)
 | (have he:=bs_end (c:=fun x=>cmp x.usn p) (l:=l) (n:=n) (a:=a) (b:=b) (by omega);first | (have hb:=bsR_at (c:=fun x=>cmp x.usn p) (l:=l) (k:=a) (by rw [hI.2.2.2,he]) (by omega);exact endx2 (by rw [hb])) | (have hb:=bsR_none (c:=fun x=>cmp x.usn p) (l:=l) (k:=a) (by rw [hI.2.2.2,he]) (by omega);exact endx2 (by rw [hb]));done)
 | (refine ⟨rfl,?_⟩;conv=>whnf)
  | fail
  )
theorem c119 (l : List Opn) (p : Ref) (hl : l.length < 1000000) : Fn 119 [.fs (l.map Opn.enc),p.enc,.fn 120 [] []] (.tup [i (bsR (fun x=>compare x.file p) l).1,.bool (bsR (fun x=>compare x.file p) l).2]):=by
 refine run_walkF eok Tryz.func119 rfl (by kernel_rfl) ?_
 conv=>whnf
 repeat' (first
 | ((with_reducible refine on_dec_f ?_ ?_);(focus ((try simp only [List.length_map,List.length_cons,List.length_nil,List.length_append]);omega));conv=>whnf)
 | ((with_reducible refine on_dec_t ?_ ?_);(focus ((try simp only [List.length_map,List.length_cons,List.length_nil,List.length_append]);omega));conv=>whnf)
 | ((with_reducible refine on_dec (fun h=>?_) (fun h=>?_))<;>(try simp only [List.length_map] at h)<;>conv=>whnf)
 | ((with_reducible refine on_ndec (fun h=>?_) (fun h=>?_))<;>(try simp only [List.length_map] at h)<;>conv=>whnf)
 | ((with_reducible refine on_not (fun h=>?_) (fun h=>?_))<;>conv=>whnf)
 | ((with_reducible refine onBool_split (fun h=>?_) (fun h=>?_))<;>conv=>whnf)
 | (refine ⟨[],[],(by decide +kernel),?_⟩;conv=>whnf)
 | (refine loop3 (fun (n : Nat) (a : Nat) (b : Nat)=>b - a) (fun (n : Nat) (a : Nat) (b : Nat)=>a ≤ b ∧ b ≤ l.length ∧ b - a ≤ n ∧ bsGo (fun x=>compare x.file p) l l.length 0 l.length = bsGo (fun x=>compare x.file p) l n a b) (fun (n : Nat) (a : Nat) (b : Nat)=>[(0,.d (.fs (l.map Opn.enc))),(2,.d (.fn 120 [] [])),(4,.ptr 0 0 0),(8,.d (i l.length)),(9,.d (i a)),(10,.d (i b))]) (fun (n : Nat) (a : Nat) (b : Nat)=>[⟨[.d p.enc],2,0⟩]) (l.length) (0) (l.length) (by exact ⟨by omega,by omega,by omega,rfl⟩) ?_ (fun n a b C hI hC=>?_);(exact ⟨[.old 0],rfl,rfl,⟨(by first | exact congrArg (D.int .i64) (by omega) | exact ⟨rfl,rfl,rfl⟩ | exact congrArg (D.int .i64) (by simp) | (show (_ : D) = _;with_reducible rfl)),(by first | exact congrArg (D.int .i64) (by omega) | exact ⟨rfl,rfl,rfl⟩ | exact congrArg (D.int .i64) (by simp) | (show (_ : D) = _;with_reducible rfl)),(by first | exact congrArg (D.int .i64) (by omega) | exact ⟨rfl,rfl,rfl⟩ | exact congrArg (D.int .i64) (by simp) | (show (_ : D) = _;with_reducible rfl)),(by first | exact congrArg (D.int .i64) (by omega) | exact ⟨rfl,rfl,rfl⟩ | exact congrArg (D.int .i64) (by simp) | (show (_ : D) = _;with_reducible rfl)),(by first | exact congrArg (D.int .i64) (by omega) | exact ⟨rfl,rfl,rfl⟩ | exact congrArg (D.int .i64) (by simp) | (show (_ : D) = _;with_reducible rfl)),(by first | exact congrArg (D.int .i64) (by omega) | exact ⟨rfl,rfl,rfl⟩ | exact congrArg (D.int .i64) (by simp) | (show (_ : D) = _;with_reducible rfl)),trivial⟩,⟨⟨rfl,rfl,.inl ⟨[_],rfl,rfl⟩⟩,trivial⟩⟩);all_goals (conv=>whnf))
 | (refine hC (n - 1) ((a + b) / 2 + 1) (b) _ _ ?_ (by omega) ?_;clear hC;rotate_left;(exact ⟨[.old 0],rfl,rfl,⟨(by first | exact congrArg (D.int .i64) (by omega) | exact ⟨rfl,rfl,rfl⟩ | exact congrArg (D.int .i64) (by simp) | (show (_ : D) = _;with_reducible rfl)),(by first | exact congrArg (D.int .i64) (by omega) | exact ⟨rfl,rfl,rfl⟩ | exact congrArg (D.int .i64) (by simp) | (show (_ : D) = _;with_reducible rfl)),(by first | exact congrArg (D.int .i64) (by omega) | exact ⟨rfl,rfl,rfl⟩ | exact congrArg (D.int .i64) (by simp) | (show (_ : D) = _;with_reducible rfl)),(by first | exact congrArg (D.int .i64) (by omega) | exact ⟨rfl,rfl,rfl⟩ | exact congrArg (D.int .i64) (by simp) | (show (_ : D) = _;with_reducible rfl)),(by first | exact congrArg (D.int .i64) (by omega) | exact ⟨rfl,rfl,rfl⟩ | exact congrArg (D.int .i64) (by simp) | (show (_ : D) = _;with_reducible rfl)),(by first | exact congrArg (D.int .i64) (by omega) | exact ⟨rfl,rfl,rfl⟩ | exact congrArg (D.int .i64) (by simp) | (show (_ : D) = _;with_reducible rfl)),trivial⟩,⟨⟨rfl,rfl,.inl ⟨[_],rfl,rfl⟩⟩,trivial⟩⟩);(exact (by have he:=bs_lt (c:=fun x=>compare x.file p) (l:=l) (n:=n) (a:=a) (b:=b) hI.2.2.1 (by omega) (by omega) h;exact ⟨by omega,by omega,by omega,by rw [hI.2.2.2,he.2]⟩)))
 | (refine hC (n - 1) (a) ((a + b) / 2) _ _ ?_ (by omega) ?_;clear hC;rotate_left;(exact ⟨[.old 0],rfl,rfl,⟨(by first | exact congrArg (D.int .i64) (by omega) | exact ⟨rfl,rfl,rfl⟩ | exact congrArg (D.int .i64) (by simp) | (show (_ : D) = _;with_reducible rfl)),(by first | exact congrArg (D.int .i64) (by omega) | exact ⟨rfl,rfl,rfl⟩ | exact congrArg (D.int .i64) (by simp) | (show (_ : D) = _;with_reducible rfl)),(by first | exact congrArg (D.int .i64) (by omega) | exact ⟨rfl,rfl,rfl⟩ | exact congrArg (D.int .i64) (by simp) | (show (_ : D) = _;with_reducible rfl)),(by first | exact congrArg (D.int .i64) (by omega) | exact ⟨rfl,rfl,rfl⟩ | exact congrArg (D.int .i64) (by simp) | (show (_ : D) = _;with_reducible rfl)),(by first | exact congrArg (D.int .i64) (by omega) | exact ⟨rfl,rfl,rfl⟩ | exact congrArg (D.int .i64) (by simp) | (show (_ : D) = _;with_reducible rfl)),(by first | exact congrArg (D.int .i64) (by omega) | exact ⟨rfl,rfl,rfl⟩ | exact congrArg (D.int .i64) (by simp) | (show (_ : D) = _;with_reducible rfl)),trivial⟩,⟨⟨rfl,rfl,.inl ⟨[_],rfl,rfl⟩⟩,trivial⟩⟩);(exact (by have he:=bs_ge (c:=fun x=>compare x.file p) (l:=l) (n:=n) (a:=a) (b:=b) hI.2.2.1 (by omega) (by omega) h;exact ⟨by omega,by omega,by omega,by rw [hI.2.2.2,he.2]⟩)))
 | (refine ⟨⟨(by first | rfl | (simp;done)),cap_ok (by simp only [List.length_map,List.length_cons,List.length_nil,List.length_append];omega) rfl⟩,?_⟩;conv=>whnf)
 | (refine ⟨mem_one ⟨rfl,rfl⟩,?_⟩;conv=>whnf)
 | (refine ⟨(by intro y hy;obtain ⟨x,_,rfl⟩:=List.mem_map.1 hy;first | rfl | exact ⟨rfl,rfl⟩),?_⟩;conv=>whnf)
 | (refine ⟨cap_ok (by first | omega | (simp only [List.length_map];omega)) rfl,?_⟩;conv=>whnf)
 | (refine ix_map (by omega) ?_;conv=>whnf)
 | (refine ix_str (by omega) ?_;conv=>whnf)
 | (refine wrap64 (by omega) ?_;conv=>whnf)
 | (refine call_step (run_view (c120 _ p) rfl rfl) ?_;conv=>whnf)
 | (refine wrapU64 (by omega) ?_;conv=>whnf)
 | (refine shr_at 2 ?_ ?_ ?_ ?_;(rfl);(rfl);(rfl);conv=>whnf)
 | (refine ix_at ((a + b) / 2) (by omega) (by omega) ?_;conv=>whnf)
 | (refine ix_at a (by omega) (by omega) ?_;conv=>whnf)
 | (exfalso;simp only [List.length_map,List.length_cons,List.length_nil,List.length_append] at h;omega)
 | (have he:=bs_end (c:=fun x=>compare x.file p) (l:=l) (n:=n) (a:=a) (b:=b) (by omega);first | (have hb:=bsR_at (c:=fun x=>compare x.file p) (l:=l) (k:=a) (by rw [hI.2.2.2,he]) (by omega);exact endx2 (by rw [hb])) | (have hb:=bsR_none (c:=fun x=>compare x.file p) (l:=l) (k:=a) (by rw [hI.2.2.2,he]) (by omega);exact endx2 (by rw [hb]));done)
 | (refine ⟨rfl,?_⟩;conv=>whnf)
  | fail
  )
end Go.Proofs.YtkeeienjocbkbaaGreatDoor
namespace Go.Proofs.YtkeeienjocbkbaaGreatDoor
open Go Dw
set_option maxRecDepth 10000
attribute [local irreducible] Run
theorem cl63 : ClSpec Tryz.prog 63 8:=by
 refine clSpec_of (fun a c=>?_) (fun x l hl hk=>?_)
 ·cases a<;>(refine run_walkF eok Tryz.func63 rfl (by kernel_rfl) ?_;conv=>whnf)
  ·refine endX_of (.inl ⟨[.void 8],rfl,rfl,⟨⟨rfl,rfl,rfl,rfl⟩,trivial⟩,⟨rfl,rfl,by decide,rfl⟩,trivial⟩)
  ·refine ⟨by decide,?_⟩;conv=>whnf
   refine endX_of (.inl ⟨[.old 0],rfl,rfl,⟨⟨rfl,rfl,rfl,rfl,rfl⟩,trivial⟩,⟨rfl,rfl,.inr (wksd _ [])⟩,trivial⟩)
 ·refine run_walkF eok Tryz.func63 rfl (by kernel_rfl) ?_
  conv=>whnf
  refine ⟨hk,?_⟩;conv=>whnf
  refine ⟨cap_ok (by simp only [List.length_map];omega) rfl,?_⟩;conv=>whnf
  refine endX_of (.inl ⟨[.old 0],rfl,rfl,⟨⟨rfl,rfl,?_,rfl,rfl⟩,trivial⟩,⟨rfl,rfl,.inr (wksd _ _)⟩,trivial⟩)
  simp only [List.length_map]
theorem cl64 : ClSpec Tryz.prog 64 3:=by
 refine clSpec_of (fun a c=>?_) (fun x l hl hk=>?_)
 ·cases a<;>(refine run_walkF eok Tryz.func64 rfl (by kernel_rfl) ?_;conv=>whnf)
  ·refine endX_of (.inl ⟨[.void 3],rfl,rfl,⟨⟨rfl,rfl,rfl,rfl⟩,trivial⟩,⟨rfl,rfl,by decide,rfl⟩,trivial⟩)
  ·refine ⟨by decide,?_⟩;conv=>whnf
   refine endX_of (.inl ⟨[.old 0],rfl,rfl,⟨⟨rfl,rfl,rfl,rfl,rfl⟩,trivial⟩,⟨rfl,rfl,.inr (wksd _ [])⟩,trivial⟩)
 ·refine run_walkF eok Tryz.func64 rfl (by kernel_rfl) ?_
  conv=>whnf
  refine ⟨hk,?_⟩;conv=>whnf
  refine ⟨cap_ok (by simp only [List.length_map];omega) rfl,?_⟩;conv=>whnf
  refine endX_of (.inl ⟨[.old 0],rfl,rfl,⟨⟨rfl,rfl,?_,rfl,rfl⟩,trivial⟩,⟨rfl,rfl,.inr (wksd _ _)⟩,trivial⟩)
  simp only [List.length_map]
def orc24 (f : Nat) : Option Nat:=match Nat.beq f 63 with
 | true=>some 8
 | false=>match Nat.beq f 64 with
  | true=>some 3
  | false=>none
theorem horc24 : ∀ f k,orc24 f = some k → ClSpec Tryz.prog f k:=by
 intro f k h
 unfold orc24 at h
 split at h
 ·rename_i h1;cases h;rw [Nat.eq_of_beq_eq_true h1];exact cl63
 ·split at h
  ·rename_i h1;cases h;rw [Nat.eq_of_beq_eq_true h1];exact cl64
  ·cases h
end Go.Proofs.YtkeeienjocbkbaaGreatDoor
namespace Go.Proofs.YtkeeienjocbkbaaGreatDoor
open Go Dw
set_option maxRecDepth 10000
attribute [local irreducible] Run
set_option maxHeartbeats 4000000
theorem bsGo_le {α : Type} {c : α → Int} {l : List α} : ∀ (n a b : Nat),a ≤ b → bsGo c l n a b ≤ b
 | 0,a,b,h=>h
 | n + 1,a,b,h=>by
  simp only [bsGo]
  split
  ·split
   ·exact bsGo_le n _ _ (by omega)
   ·exact Nat.le_trans (bsGo_le n _ _ (by omega)) (by omega)
  ·exact h
def Rd.skip (q : Qry) (x : Chg) : Bool:=decide (bitsOf .and .i64 x.reasons q.reasons = 0) || (q.only && !has x.reasons 2048)
def rfGo (q : Qry) (nx : Int) : List Chg → List Chg → List Chg × Int
 | [],out=>(out,nx)
 | x :: l,out=>if Rd.skip q x then rfGo q nx l out else if ((out.length + 1 : Nat) : Int) = q.count then (out ++ [x],IntKind.i64.wrap (x.usn + size x.name.length)) else rfGo q nx l (out ++ [x])
theorem rfGo_drop {q : Qry} {nx : Int} {l : List Chg} {k : Nat} {out : List Chg} (h : k < l.length) : rfGo q nx (l.drop k) out =
  if Rd.skip q l[k] then rfGo q nx (l.drop (k + 1)) out else if ((out.length + 1 : Nat) : Int) = q.count then (out ++ [l[k]],IntKind.i64.wrap (l[k].usn + size l[k].name.length)) else rfGo q nx (l.drop (k + 1)) (out ++ [l[k]]):=by
 rw [List.drop_eq_getElem_cons h];rfl
theorem rfGo_end {q : Qry} {nx : Int} {l : List Chg} {k : Nat} {out : List Chg} (h : l.length ≤ k) : rfGo q nx (l.drop k) out = (out,nx):=by
 rw [List.drop_eq_nil_of_le h];rfl
def rdAt (j : Jrn) (q : Qry) : Nat × Bool:=bsR (fun x=>cmp x.usn q.pos) j.recs
def rdFrom (j : Jrn) (q : Qry) : List Chg:=(j.recs.take j.recs.length).drop (rdAt j q).1
theorem rdAt_le (j : Jrn) (q : Qry) : (rdAt j q).1 ≤ j.recs.length:=bsGo_le _ _ _ (Nat.zero_le _)
def rdErr (j : Jrn) (q : Qry) : Int:=first [(checkJ j).2,if decide (q.id = j.id) && decide (j.first ≤ q.pos) then 0 else 32,if decide (q.pos ≤ j.next) && (within q.reasons 0 4095 && within q.count 1 200) then 0 else 2,if (rdAt j q).2 || decide (q.pos = j.next) then 0 else 14]
def readF (j : Jrn) (q : Qry) : List Chg × Int × Int:=
 if rdErr j q ≠ 0 then ([],0,rdErr j q) else ((rfGo q j.next (rdFrom j q) []).1,(rfGo q j.next (rdFrom j q) []).2,0)
theorem rdFrom_len (j : Jrn) (q : Qry) : (rdFrom j q).length ≤ j.recs.length:=by
 simp only [rdFrom,List.length_drop,List.length_take];omega
theorem rdFrom_mem (j : Jrn) (q : Qry) : ∀ x ∈ rdFrom j q,x ∈ j.recs:=fun x hx=>List.mem_of_mem_take (List.mem_of_mem_drop hx)
theorem c52q (j : Jrn) (q : Qry) (hr : j.recs.length < 1000000) : Fn 52 [.fs (j.recs.map Chg.enc),i q.pos,.fn 53 [] []] (.tup [i (rdAt j q).1,.bool (rdAt j q).2]):=c52 _ _ hr
theorem c55u (n lo hi : Int) : Fn 55 [i n,i lo,i hi] (.bool (within n lo hi)):=c55 n lo hi
theorem skip_eq (q : Qry) (x : Chg) : Rd.skip q x = (decide (bitsOf .and .i64 x.reasons q.reasons = 0) || (q.only && !has x.reasons 2048)):=rfl
theorem rdErr_eq (j : Jrn) (q : Qry) : rdErr j q = first [(checkJ j).2,if decide (q.id = j.id) && decide (j.first ≤ q.pos) then 0 else 32,if decide (q.pos ≤ j.next) && (within q.reasons 0 4095 && within q.count 1 200) then 0 else 2,if (rdAt j q).2 || decide (q.pos = j.next) then 0 else 14]:=rfl
theorem rdErr_ok {j : Jrn} {q : Qry} (h : rdErr j q = 0) : (checkJ j).2 = 0 ∧ q.id = j.id ∧ j.first ≤ q.pos ∧ q.pos ≤ j.next ∧ within q.reasons 0 4095 = true ∧ within q.count 1 200 = true ∧ ((rdAt j q).2 = true ∨ q.pos = j.next):=by
 rw [rdErr_eq] at h
 by_cases h1 : (checkJ j).2 = 0
 ·rw [first_cons,if_pos h1] at h
  by_cases h2 : (decide (q.id = j.id) && decide (j.first ≤ q.pos)) = true
  ·rw [if_pos h2,first_cons,if_pos rfl] at h
   by_cases h3 : (decide (q.pos ≤ j.next) && (within q.reasons 0 4095 && within q.count 1 200)) = true
   ·rw [if_pos h3,first_cons,if_pos rfl] at h
    by_cases h4 : ((rdAt j q).2 || decide (q.pos = j.next)) = true
    ·simp only [Bool.and_eq_true,Bool.or_eq_true,decide_eq_true_eq] at h2 h3 h4
     exact ⟨h1,h2.1,h2.2,h3.1,h3.2.1,h3.2.2,h4⟩
    ·rw [if_neg h4,first_cons,if_neg (by decide)] at h;exact absurd h (by decide)
   ·rw [if_neg h3,first_cons,if_neg (by decide)] at h;exact absurd h (by decide)
  ·rw [if_neg h2,first_cons,if_neg (by decide)] at h;exact absurd h (by decide)
 ·rw [first_cons,if_neg h1] at h;exact absurd h h1
attribute [local irreducible] has within size rfGo Rd.skip compare cmp rdAt rdErr
theorem c17e (j : Jrn) (q : Qry) (hr : j.recs.length < 1000000) (hn : ∀ x ∈ j.recs,x.name.length < 1000000) (ho : j.opens.length < 1000000) (hne : rdErr j q ≠ 0) : Fn 17 [j.enc,q.enc] (.tup [.fs [],i 0,i (rdErr j q)]):=by
 refine run_walkF eok Tryz.func17 rfl (by kernel_rfl) ?_
 conv=>whnf
 repeat' (first
 | ((with_reducible refine on_dec_f ?_ ?_);(focus ((try simp only [List.length_map,List.length_cons,List.length_nil,List.length_append]);omega));conv=>whnf)
 | ((with_reducible refine on_dec_t ?_ ?_);(focus ((try simp only [List.length_map,List.length_cons,List.length_nil,List.length_append]);omega));conv=>whnf)
 | ((with_reducible refine on_dec (fun h=>?_) (fun h=>?_))<;>(try simp only [List.length_map] at h)<;>conv=>whnf)
 | ((with_reducible refine on_ndec (fun h=>?_) (fun h=>?_))<;>(try simp only [List.length_map] at h)<;>conv=>whnf)
 | ((with_reducible refine on_not (fun h=>?_) (fun h=>?_))<;>conv=>whnf)
 | ((with_reducible refine onBool_split (fun h=>?_) (fun h=>?_))<;>conv=>whnf)
 | ((with_reducible refine call_go ?_);(first | refine call_step (run_view (c52q j q hr) rfl rfl) ?_ | refine call_step (run_view (c55u _ _ _) rfl rfl) ?_ | refine call_step (run_view (c28 _ hr hn ho) rfl rfl) ?_ | refine call_step (run_view (c57 _ _) rfl rfl) ?_ | refine call_step (run_view (c56 [_,_,_,_] (by simp)) rfl rfl) ?_ | refine call_step (run_view (c58 _ _) rfl rfl) ?_ | refine call_step (run_view (c59 (rdFrom j q)[k] (hn _ (rdFrom_mem _ _ _ (List.getElem_mem _)))) rfl rfl) ?_);conv=>whnf)
 | (refine ⟨[],[(3,1),(5,1)],(by decide +kernel),?_⟩;conv=>whnf)
 | (refine ⟨[],[(2,4)],(by decide +kernel),?_⟩;conv=>whnf)
 | (refine ⟨[],[],(by decide +kernel),?_⟩;conv=>whnf)
 | (refine ⟨⟨(by first | rfl | (simp;done)),cap_ok (by simp only [List.length_map,List.length_cons,List.length_nil,List.length_append];omega) rfl⟩,?_⟩;conv=>whnf)
 | (refine ⟨mem_one ⟨rfl,rfl⟩,?_⟩;conv=>whnf)
 | (refine ⟨(by intro y hy;obtain ⟨x,_,rfl⟩:=List.mem_map.1 hy;first | rfl | exact ⟨rfl,rfl⟩),?_⟩;conv=>whnf)
 | (refine ⟨cap_ok (by first | omega | (simp only [List.length_map];omega)) rfl,?_⟩;conv=>whnf)
 | (refine ix_map (by omega) ?_;conv=>whnf)
 | (refine ix_str (by omega) ?_;conv=>whnf)
 | (refine wrap64 (by omega) ?_;conv=>whnf)
 | ((with_reducible have hz : first (_ :: _) = 0:=h);refine absurd (Eq.trans ?_ hz) hne;rw [rdErr_eq];clear h hne hz;simp [*])
 | (refine wrap64 (by omega) ?_;conv=>whnf)
 | (exfalso;simp only [List.length_map,List.length_cons,List.length_nil,List.length_append] at h;omega)
 | ((with_reducible refine endx_go ?_);first | (refine endxv (view_tup (vlc rfl (vlc rfl (vlc rfl vln)))) ?_;refine congrArg (fun e=>D.tup [D.fs [],i 0,i e]) ?_;rw [rdErr_eq];clear h hne;simp [*];done))
 | (refine ⟨rfl,?_⟩;conv=>whnf)
  | fail
  )
theorem c17a (j : Jrn) (q : Qry) (hr : j.recs.length < 1000000) (hn : ∀ x ∈ j.recs,x.name.length < 1000000) (ho : j.opens.length < 1000000) (he0 : rdErr j q = 0) (hf : (rdAt j q).2 = true) : Fn 17 [j.enc,q.enc] (.tup [.fs ((readF j q).1.map Chg.enc),i (readF j q).2.1,i (readF j q).2.2]):=by
 obtain ⟨g1,g2,g3,g4,g5,g6,g7⟩:=rdErr_ok he0
 refine run_walkF eok Tryz.func17 rfl (by kernel_rfl) ?_
 conv=>whnf
 repeat' (first
 | ((with_reducible refine on_dec_t (by assumption) ?_);conv=>whnf)
 | ((with_reducible refine onBool_t (by assumption) ?_);conv=>whnf)
 | ((with_reducible refine onBool_f (by assumption) ?_);conv=>whnf)
 | ((with_reducible have hz : ¬ first (_ :: _) = 0:=h);refine absurd (Eq.trans ?_ he0) hz;rw [rdErr_eq];clear h hz he0;simp [*])
 | ((with_reducible refine on_dec_f ?_ ?_);(focus ((try simp only [List.length_map,List.length_cons,List.length_nil,List.length_append]);omega));conv=>whnf)
 | ((with_reducible refine on_dec_t ?_ ?_);(focus ((try simp only [List.length_map,List.length_cons,List.length_nil,List.length_append]);omega));conv=>whnf)
 | ((with_reducible refine on_dec (fun h=>?_) (fun h=>?_))<;>(try simp only [List.length_map] at h)<;>conv=>whnf)
 | ((with_reducible refine on_ndec (fun h=>?_) (fun h=>?_))<;>(try simp only [List.length_map] at h)<;>conv=>whnf)
 | ((with_reducible refine on_not (fun h=>?_) (fun h=>?_))<;>conv=>whnf)
 | ((with_reducible refine onBool_split (fun h=>?_) (fun h=>?_))<;>conv=>whnf)
 | ((with_reducible refine call_go ?_);(first | refine call_step (run_view (c52q j q hr) rfl rfl) ?_ | refine call_step (run_view (c55u _ _ _) rfl rfl) ?_ | refine call_step (run_view (c28 _ hr hn ho) rfl rfl) ?_ | refine call_step (run_view (c57 _ _) rfl rfl) ?_ | refine call_step (run_view (c56 [_,_,_,_] (by simp)) rfl rfl) ?_ | refine call_step (run_view (c58 _ _) rfl rfl) ?_ | refine call_step (run_view (c59 (rdFrom j q)[k] (hn _ (rdFrom_mem _ _ _ (List.getElem_mem _)))) rfl rfl) ?_);conv=>whnf)
 | (refine ⟨[],[(3,1),(5,1)],(by decide +kernel),?_⟩;conv=>whnf)
 | (refine ⟨[],[(2,4)],(by decide +kernel),?_⟩;conv=>whnf)
 | (refine ⟨[],[],(by decide +kernel),?_⟩;conv=>whnf)
 | ((with_reducible refine loop_go ?_);first | (refine loop2 (fun (k : Nat) (out : List Chg)=>(rdFrom j q).length - k) (fun (k : Nat) (out : List Chg)=>k ≤ (rdFrom j q).length ∧ out.length ≤ k ∧ rfGo q j.next (rdFrom j q) [] = rfGo q j.next ((rdFrom j q).drop k) out) (fun (k : Nat) (out : List Chg)=>[(2,.ptr 0 0 0),(3,.ptr 1 0 0),(11,.sl 2 0 out.length 8 none),(71,.d (.fs ((rdFrom j q).map Chg.enc))),(72,.d (i (rdFrom j q).length)),(73,.d (i k))]) (fun (k : Nat) (out : List Chg)=>[⟨[.d j.enc],6,0⟩,⟨[.d q.enc],5,0⟩,⟨(out.map Chg.enc).map .d,8,0⟩]) (0) ([]) (by exact ⟨by omega,by simp,rfl⟩) ?_ (fun k out C hI hC=>?_);(exact ⟨[.old 0,.old 1,.void 8],rfl,rfl,⟨⟨rfl,rfl,rfl⟩,⟨rfl,rfl,rfl⟩,⟨rfl,rfl,rfl,rfl⟩,rfl,(congrArg (D.int .i64) (by (rw [List.length_map])<;>rfl)),rfl,trivial⟩,⟨⟨rfl,rfl,.inl ⟨[_],rfl,rfl⟩⟩,⟨rfl,rfl,.inl ⟨[_],rfl,rfl⟩⟩,⟨rfl,rfl,(by decide),rfl⟩,trivial⟩⟩);have hlen:=rdFrom_len j q;all_goals (conv=>whnf)))
 | ((with_reducible show C _ _);first | (refine hC (k + 1) (out) _ _ ?_ (by omega) ?_;clear hC;rotate_left;(exact ⟨[.old 0,.old 1,.old 2],rfl,rfl,⟨⟨rfl,rfl,rfl⟩,⟨rfl,rfl,rfl⟩,⟨rfl,rfl,(by simp),rfl,rfl⟩,(by first | (show (_ : D) = _;with_reducible rfl) | exact rfl),(by first | (show (_ : D) = _;with_reducible rfl) | exact congrArg (D.int .i64) (by omega)),(by first | (show (_ : D) = _;with_reducible rfl) | exact congrArg (D.int .i64) (by omega)),trivial⟩,⟨⟨rfl,rfl,.inl ⟨[_],rfl,rfl⟩⟩,⟨rfl,rfl,.inl ⟨[_],rfl,rfl⟩⟩,⟨rfl,rfl,.inr (wksd _ _)⟩,trivial⟩⟩);(exact ⟨by omega,by omega,by rw [hI.2.2,rfGo_drop (by omega),if_pos (by rw [skip_eq];simp [*])]⟩)) | (refine hC (k + 1) (out ++ [((rdFrom j q)[k]'(by omega))]) _ _ ?_ (by omega) ?_;clear hC;rotate_left;(exact ⟨[.old 0,.old 1,.old 5],rfl,rfl,⟨⟨rfl,rfl,rfl⟩,⟨rfl,rfl,rfl⟩,⟨rfl,rfl,(by simp),rfl,rfl⟩,(by first | (show (_ : D) = _;with_reducible rfl) | exact rfl),(by first | (show (_ : D) = _;with_reducible rfl) | exact congrArg (D.int .i64) (by omega)),(by first | (show (_ : D) = _;with_reducible rfl) | exact congrArg (D.int .i64) (by omega)),trivial⟩,⟨⟨rfl,rfl,.inl ⟨[_],rfl,rfl⟩⟩,⟨rfl,rfl,.inl ⟨[_],rfl,rfl⟩⟩,⟨rfl,rfl,.inr (wks_add (wksd _ _) rfl)⟩,trivial⟩⟩);(exact ⟨by omega,(by simp;omega),by rw [hI.2.2,rfGo_drop (by omega),if_neg (by rw [skip_eq];simp [*]),if_neg (by simpa using h)]⟩)))
 | (refine ⟨⟨(by first | rfl | (simp;done)),cap_ok (by simp only [List.length_map,List.length_cons,List.length_nil,List.length_append];omega) rfl⟩,?_⟩;conv=>whnf)
 | (refine ⟨mem_one ⟨rfl,rfl⟩,?_⟩;conv=>whnf)
 | (refine ⟨(by intro y hy;obtain ⟨x,_,rfl⟩:=List.mem_map.1 hy;first | rfl | exact ⟨rfl,rfl⟩),?_⟩;conv=>whnf)
 | (refine ⟨cap_ok (by first | omega | (simp only [List.length_map];omega)) rfl,?_⟩;conv=>whnf)
 | (refine ix_map (by omega) ?_;conv=>whnf)
 | (refine ix_str (by omega) ?_;conv=>whnf)
 | (refine wrap64 (by omega) ?_;conv=>whnf)
 | (refine wrap_raw ?_;conv=>whnf)
 | (refine bit_raw ?_;conv=>whnf)
 | (refine sl_map (f:=Chg.enc) (l:=j.recs) (rdAt j q).1 j.recs.length ?_ ?_ ?_ ?_ ?_;(rfl);(simp);(exact ⟨rdAt_le j q,Nat.le_refl _⟩);(exact fun x=>rfl);conv=>whnf)
 | (refine ⟨(by simp),?_⟩;conv=>whnf)
 | (exfalso;simp only [List.length_map,List.length_cons,List.length_nil,List.length_append] at h;omega)
 | ((with_reducible refine endx_go ?_);first | (refine endxv (view_tup (vlc (view_snoc rfl Nat.two_pos rfl) (vlc rfl (vlc rfl vln)))) ?_;(have hd:=rfGo_drop (q:=q) (nx:=j.next) (l:=rdFrom j q) (k:=k) (out:=out) (by omega));rw [if_neg (by rw [skip_eq];simp [*]),if_pos (by simpa using h)] at hd;rw [show readF j q = (_,_,0) from (by rw [readF,if_neg (fun c=>c he0),hI.2.2,hd])];simp only [List.map_append,List.map_cons,List.map_nil]<;>rfl;done) | (refine endxv (view_tup (vlc (view_map rfl Nat.two_pos) (vlc rfl (vlc rfl vln)))) ?_;(have hd:=rfGo_end (q:=q) (nx:=j.next) (l:=rdFrom j q) (k:=k) (out:=out) (by omega));(rw [show readF j q = (out,j.next,0) from (by rw [readF,if_neg (fun c=>c he0),hI.2.2,hd])])<;>rfl;done))
 | (refine ⟨rfl,?_⟩;conv=>whnf)
  | fail
  )
theorem c17b (j : Jrn) (q : Qry) (hr : j.recs.length < 1000000) (hn : ∀ x ∈ j.recs,x.name.length < 1000000) (ho : j.opens.length < 1000000) (he0 : rdErr j q = 0) (hf : (rdAt j q).2 = false) (hx : q.pos = j.next) : Fn 17 [j.enc,q.enc] (.tup [.fs ((readF j q).1.map Chg.enc),i (readF j q).2.1,i (readF j q).2.2]):=by
 obtain ⟨g1,g2,g3,g4,g5,g6,g7⟩:=rdErr_ok he0
 refine run_walkF eok Tryz.func17 rfl (by kernel_rfl) ?_
 conv=>whnf
 repeat' (first
 | ((with_reducible refine on_dec_t (by assumption) ?_);conv=>whnf)
 | ((with_reducible refine onBool_t (by assumption) ?_);conv=>whnf)
 | ((with_reducible refine onBool_f (by assumption) ?_);conv=>whnf)
 | ((with_reducible have hz : ¬ first (_ :: _) = 0:=h);refine absurd (Eq.trans ?_ he0) hz;rw [rdErr_eq];clear h hz he0;simp [*])
 | ((with_reducible refine on_dec_f ?_ ?_);(focus ((try simp only [List.length_map,List.length_cons,List.length_nil,List.length_append]);omega));conv=>whnf)
 | ((with_reducible refine on_dec_t ?_ ?_);(focus ((try simp only [List.length_map,List.length_cons,List.length_nil,List.length_append]);omega));conv=>whnf)
 | ((with_reducible refine on_dec (fun h=>?_) (fun h=>?_))<;>(try simp only [List.length_map] at h)<;>conv=>whnf)
 | ((with_reducible refine on_ndec (fun h=>?_) (fun h=>?_))<;>(try simp only [List.length_map] at h)<;>conv=>whnf)
 | ((with_reducible refine on_not (fun h=>?_) (fun h=>?_))<;>conv=>whnf)
 | ((with_reducible refine onBool_split (fun h=>?_) (fun h=>?_))<;>conv=>whnf)
 | ((with_reducible refine call_go ?_);(first | refine call_step (run_view (c52q j q hr) rfl rfl) ?_ | refine call_step (run_view (c55u _ _ _) rfl rfl) ?_ | refine call_step (run_view (c28 _ hr hn ho) rfl rfl) ?_ | refine call_step (run_view (c57 _ _) rfl rfl) ?_ | refine call_step (run_view (c56 [_,_,_,_] (by simp)) rfl rfl) ?_ | refine call_step (run_view (c58 _ _) rfl rfl) ?_ | refine call_step (run_view (c59 (rdFrom j q)[k] (hn _ (rdFrom_mem _ _ _ (List.getElem_mem _)))) rfl rfl) ?_);conv=>whnf)
 | (refine ⟨[],[(3,1),(5,1)],(by decide +kernel),?_⟩;conv=>whnf)
 | (refine ⟨[],[(2,4)],(by decide +kernel),?_⟩;conv=>whnf)
 | (refine ⟨[],[],(by decide +kernel),?_⟩;conv=>whnf)
 | ((with_reducible refine loop_go ?_);first | (refine loop2 (fun (k : Nat) (out : List Chg)=>(rdFrom j q).length - k) (fun (k : Nat) (out : List Chg)=>k ≤ (rdFrom j q).length ∧ out.length ≤ k ∧ rfGo q j.next (rdFrom j q) [] = rfGo q j.next ((rdFrom j q).drop k) out) (fun (k : Nat) (out : List Chg)=>[(2,.ptr 0 0 0),(3,.ptr 1 0 0),(11,.sl 2 0 out.length 8 none),(71,.d (.fs ((rdFrom j q).map Chg.enc))),(72,.d (i (rdFrom j q).length)),(73,.d (i k))]) (fun (k : Nat) (out : List Chg)=>[⟨[.d j.enc],6,0⟩,⟨[.d q.enc],5,0⟩,⟨(out.map Chg.enc).map .d,8,0⟩]) (0) ([]) (by exact ⟨by omega,by simp,rfl⟩) ?_ (fun k out C hI hC=>?_);(exact ⟨[.old 0,.old 1,.void 8],rfl,rfl,⟨⟨rfl,rfl,rfl⟩,⟨rfl,rfl,rfl⟩,⟨rfl,rfl,rfl,rfl⟩,rfl,(congrArg (D.int .i64) (by (rw [List.length_map])<;>rfl)),rfl,trivial⟩,⟨⟨rfl,rfl,.inl ⟨[_],rfl,rfl⟩⟩,⟨rfl,rfl,.inl ⟨[_],rfl,rfl⟩⟩,⟨rfl,rfl,(by decide),rfl⟩,trivial⟩⟩);have hlen:=rdFrom_len j q;all_goals (conv=>whnf)))
 | ((with_reducible show C _ _);first | (refine hC (k + 1) (out) _ _ ?_ (by omega) ?_;clear hC;rotate_left;(exact ⟨[.old 0,.old 1,.old 2],rfl,rfl,⟨⟨rfl,rfl,rfl⟩,⟨rfl,rfl,rfl⟩,⟨rfl,rfl,(by simp),rfl,rfl⟩,(by first | (show (_ : D) = _;with_reducible rfl) | exact rfl),(by first | (show (_ : D) = _;with_reducible rfl) | exact congrArg (D.int .i64) (by omega)),(by first | (show (_ : D) = _;with_reducible rfl) | exact congrArg (D.int .i64) (by omega)),trivial⟩,⟨⟨rfl,rfl,.inl ⟨[_],rfl,rfl⟩⟩,⟨rfl,rfl,.inl ⟨[_],rfl,rfl⟩⟩,⟨rfl,rfl,.inr (wksd _ _)⟩,trivial⟩⟩);(exact ⟨by omega,by omega,by rw [hI.2.2,rfGo_drop (by omega),if_pos (by rw [skip_eq];simp [*])]⟩)) | (refine hC (k + 1) (out ++ [((rdFrom j q)[k]'(by omega))]) _ _ ?_ (by omega) ?_;clear hC;rotate_left;(exact ⟨[.old 0,.old 1,.old 5],rfl,rfl,⟨⟨rfl,rfl,rfl⟩,⟨rfl,rfl,rfl⟩,⟨rfl,rfl,(by simp),rfl,rfl⟩,(by first | (show (_ : D) = _;with_reducible rfl) | exact rfl),(by first | (show (_ : D) = _;with_reducible rfl) | exact congrArg (D.int .i64) (by omega)),(by first | (show (_ : D) = _;with_reducible rfl) | exact congrArg (D.int .i64) (by omega)),trivial⟩,⟨⟨rfl,rfl,.inl ⟨[_],rfl,rfl⟩⟩,⟨rfl,rfl,.inl ⟨[_],rfl,rfl⟩⟩,⟨rfl,rfl,.inr (wks_add (wksd _ _) rfl)⟩,trivial⟩⟩);(exact ⟨by omega,(by simp;omega),by rw [hI.2.2,rfGo_drop (by omega),if_neg (by rw [skip_eq];simp [*]),if_neg (by simpa using h)]⟩)))
 | (refine ⟨⟨(by first | rfl | (simp;done)),cap_ok (by simp only [List.length_map,List.length_cons,List.length_nil,List.length_append];omega) rfl⟩,?_⟩;conv=>whnf)
 | (refine ⟨mem_one ⟨rfl,rfl⟩,?_⟩;conv=>whnf)
 | (refine ⟨(by intro y hy;obtain ⟨x,_,rfl⟩:=List.mem_map.1 hy;first | rfl | exact ⟨rfl,rfl⟩),?_⟩;conv=>whnf)
 | (refine ⟨cap_ok (by first | omega | (simp only [List.length_map];omega)) rfl,?_⟩;conv=>whnf)
 | (refine ix_map (by omega) ?_;conv=>whnf)
 | (refine ix_str (by omega) ?_;conv=>whnf)
 | (refine wrap64 (by omega) ?_;conv=>whnf)
 | (refine wrap_raw ?_;conv=>whnf)
 | (refine bit_raw ?_;conv=>whnf)
 | (refine sl_map (f:=Chg.enc) (l:=j.recs) (rdAt j q).1 j.recs.length ?_ ?_ ?_ ?_ ?_;(rfl);(simp);(exact ⟨rdAt_le j q,Nat.le_refl _⟩);(exact fun x=>rfl);conv=>whnf)
 | (refine ⟨(by simp),?_⟩;conv=>whnf)
 | (exfalso;simp only [List.length_map,List.length_cons,List.length_nil,List.length_append] at h;omega)
 | ((with_reducible refine endx_go ?_);first | (refine endxv (view_tup (vlc (view_snoc rfl Nat.two_pos rfl) (vlc rfl (vlc rfl vln)))) ?_;(have hd:=rfGo_drop (q:=q) (nx:=j.next) (l:=rdFrom j q) (k:=k) (out:=out) (by omega));rw [if_neg (by rw [skip_eq];simp [*]),if_pos (by simpa using h)] at hd;rw [show readF j q = (_,_,0) from (by rw [readF,if_neg (fun c=>c he0),hI.2.2,hd])];simp only [List.map_append,List.map_cons,List.map_nil]<;>rfl;done) | (refine endxv (view_tup (vlc (view_map rfl Nat.two_pos) (vlc rfl (vlc rfl vln)))) ?_;(have hd:=rfGo_end (q:=q) (nx:=j.next) (l:=rdFrom j q) (k:=k) (out:=out) (by omega));(rw [show readF j q = (out,j.next,0) from (by rw [readF,if_neg (fun c=>c he0),hI.2.2,hd])])<;>rfl;done))
 | (refine ⟨rfl,?_⟩;conv=>whnf)
  | fail
  )
theorem c17 (j : Jrn) (q : Qry) (hr : j.recs.length < 1000000) (hn : ∀ x ∈ j.recs,x.name.length < 1000000) (ho : j.opens.length < 1000000) : Fn 17 [j.enc,q.enc] (.tup [.fs ((readF j q).1.map Chg.enc),i (readF j q).2.1,i (readF j q).2.2]):=by
 by_cases he : rdErr j q = 0
 ·obtain ⟨g1,g2,g3,g4,g5,g6,g7⟩:=rdErr_ok he
  cases hf : (rdAt j q).2 with
  | true=>exact c17a j q hr hn ho he hf
  | false=>exact c17b j q hr hn ho he hf (by rw [hf] at g7;simpa using g7)
 ·have:=c17e j q hr hn ho he
  rw [show readF j q = ([],0,rdErr j q) from by rw [readF,if_pos he]]
  exact this
end Go.Proofs.YtkeeienjocbkbaaGreatDoor
namespace Go.Proofs.YtkeeienjocbkbaaGreatDoor
open Go Dw
set_option maxRecDepth 10000
attribute [local irreducible] Run
set_option maxHeartbeats 2000000
theorem leB4 (n : Nat) : leB n 4 = leB (n % 65536) 2 ++ leB (n / 65536) 2:=by
 simp only [leB,List.cons_append,List.nil_append]
 congr 1
 ·congr 1;omega
 ·congr 1
  ·congr 1;omega
  ·congr 1
   ·congr 1;omega
   ·congr 1;congr 1;omega
theorem leB4_map (n : Nat) : (leB n 4).map byteV = (leB (n % 65536) 2).map byteV ++ [.d (.int .u8 (n / 65536 % 256 : Nat)),.d (.int .u8 (n / 16777216 % 256 : Nat))]:=by
 rw [leB4,List.map_append,leB2_map (n / 65536),Nat.div_div_eq_div_mul]
theorem c33 (l : List UInt8) (x : Int) (hx : 0 ≤ x ∧ x < 65536) (hl : l.length < 3000000) : BufTo Tryz.prog 33 [.int .u16 x] l (leB x.toNat 2):=by
 obtain ⟨n,rfl⟩:=Int.eq_ofNat_of_zero_le hx.1;rw [Int.toNat_natCast];unfold BufTo
 refine run_walkV eok Tryz.func33 rfl (by kernel_rfl) [0] (by rfl) [] ?_
 conv=>whnf
 repeat' (first
 | ((with_reducible refine on_dec_f ?_ ?_);(focus ((try simp only [List.length_map,List.length_cons,List.length_nil,List.length_append]);omega));conv=>whnf)
 | ((with_reducible refine on_dec_t ?_ ?_);(focus ((try simp only [List.length_map,List.length_cons,List.length_nil,List.length_append]);omega));conv=>whnf)
 | ((with_reducible refine on_dec (fun h=>?_) (fun h=>?_))<;>(try simp only [List.length_map] at h)<;>conv=>whnf)
 | ((with_reducible refine on_ndec (fun h=>?_) (fun h=>?_))<;>(try simp only [List.length_map] at h)<;>conv=>whnf)
 | ((with_reducible refine on_not (fun h=>?_) (fun h=>?_))<;>conv=>whnf)
 | ((with_reducible refine onBool_split (fun h=>?_) (fun h=>?_))<;>conv=>whnf)
 | (refine ⟨⟨(by first | rfl | (simp;done)),cap_ok (by simp only [List.length_map,List.length_cons,List.length_nil,List.length_append];omega) rfl⟩,?_⟩;conv=>whnf)
 | (refine ⟨mem_one ⟨rfl,rfl⟩,?_⟩;conv=>whnf)
 | (refine ⟨(by intro y hy;obtain ⟨x,_,rfl⟩:=List.mem_map.1 hy;first | rfl | exact ⟨rfl,rfl⟩),?_⟩;conv=>whnf)
 | (refine ⟨cap_ok (by first | omega | (simp only [List.length_map];omega)) rfl,?_⟩;conv=>whnf)
 | (refine ix_map (by omega) ?_;conv=>whnf)
 | (refine ix_str (by omega) ?_;conv=>whnf)
 | (refine wrap64 (by omega) ?_;conv=>whnf)
 | (refine wrapU32 (by omega) ?_;conv=>whnf)
 | (refine wrapU16 (by omega) ?_;conv=>whnf)
 | (refine wrapU8n ?_;conv=>whnf)
 | (refine wrapU16n ?_;conv=>whnf)
 | (refine shr_n 256 rfl rfl ?_;conv=>whnf)
 | (refine shr_n 65536 rfl rfl ?_;conv=>whnf)
 | (refine shr_n 16777216 rfl rfl ?_;conv=>whnf)
 | (refine ⟨Nat.le_refl _,?_⟩;conv=>whnf)
 | (refine ⟨⟨(by simp only [List.length_map,List.length_append];omega),cap_ok (by simp only [List.length_map,List.length_cons,List.length_nil,List.length_append,leB_length];omega) rfl⟩,?_⟩;conv=>whnf)
 | (refine ⟨cap_ok (by simp only [List.length_map,List.length_cons,List.length_nil,List.length_append,leB_length];omega) rfl,?_⟩;conv=>whnf)
 | (exfalso;simp only [List.length_map,List.length_cons,List.length_nil,List.length_append] at h;omega)
 | ((with_reducible refine endx_go ?_);first | (refine endX_of (.inl ⟨[.dead,.old 2],rfl,rfl,⟨⟨rfl,rfl,?_,rfl,rfl⟩,trivial⟩,⟨rfl,wkO_bytes (l ++ leB n 2) rfl rfl rfl ?_ rfl,trivial⟩⟩);(simp only [List.length_append,leB_length];rfl);(simp only [List.map_append,leB2_map];rfl);done))
 | (refine ⟨rfl,?_⟩;conv=>whnf)
  | fail
  )
theorem c33n (x : Int) (hx : 0 ≤ x ∧ x < 65536) : BufNil Tryz.prog 33 [.int .u16 x] (leB x.toNat 2):=by
 obtain ⟨n,rfl⟩:=Int.eq_ofNat_of_zero_le hx.1;rw [Int.toNat_natCast];unfold BufNil
 refine run_walkV eok Tryz.func33 rfl (by kernel_rfl) [] (by rfl) [] ?_
 conv=>whnf
 repeat' (first
 | ((with_reducible refine on_dec_f ?_ ?_);(focus ((try simp only [List.length_map,List.length_cons,List.length_nil,List.length_append]);omega));conv=>whnf)
 | ((with_reducible refine on_dec_t ?_ ?_);(focus ((try simp only [List.length_map,List.length_cons,List.length_nil,List.length_append]);omega));conv=>whnf)
 | ((with_reducible refine on_dec (fun h=>?_) (fun h=>?_))<;>(try simp only [List.length_map] at h)<;>conv=>whnf)
 | ((with_reducible refine on_ndec (fun h=>?_) (fun h=>?_))<;>(try simp only [List.length_map] at h)<;>conv=>whnf)
 | ((with_reducible refine on_not (fun h=>?_) (fun h=>?_))<;>conv=>whnf)
 | ((with_reducible refine onBool_split (fun h=>?_) (fun h=>?_))<;>conv=>whnf)
 | (refine ⟨⟨(by first | rfl | (simp;done)),cap_ok (by simp only [List.length_map,List.length_cons,List.length_nil,List.length_append];omega) rfl⟩,?_⟩;conv=>whnf)
 | (refine ⟨mem_one ⟨rfl,rfl⟩,?_⟩;conv=>whnf)
 | (refine ⟨(by intro y hy;obtain ⟨x,_,rfl⟩:=List.mem_map.1 hy;first | rfl | exact ⟨rfl,rfl⟩),?_⟩;conv=>whnf)
 | (refine ⟨cap_ok (by first | omega | (simp only [List.length_map];omega)) rfl,?_⟩;conv=>whnf)
 | (refine ix_map (by omega) ?_;conv=>whnf)
 | (refine ix_str (by omega) ?_;conv=>whnf)
 | (refine wrap64 (by omega) ?_;conv=>whnf)
 | (refine wrapU32 (by omega) ?_;conv=>whnf)
 | (refine wrapU16 (by omega) ?_;conv=>whnf)
 | (refine wrapU8n ?_;conv=>whnf)
 | (refine wrapU16n ?_;conv=>whnf)
 | (refine shr_n 256 rfl rfl ?_;conv=>whnf)
 | (refine shr_n 65536 rfl rfl ?_;conv=>whnf)
 | (refine shr_n 16777216 rfl rfl ?_;conv=>whnf)
 | (refine ⟨Nat.le_refl _,?_⟩;conv=>whnf)
 | (refine ⟨⟨(by simp only [List.length_map,List.length_append];omega),cap_ok (by simp only [List.length_map,List.length_cons,List.length_nil,List.length_append,leB_length];omega) rfl⟩,?_⟩;conv=>whnf)
 | (refine ⟨cap_ok (by simp only [List.length_map,List.length_cons,List.length_nil,List.length_append,leB_length];omega) rfl,?_⟩;conv=>whnf)
 | (exfalso;simp only [List.length_map,List.length_cons,List.length_nil,List.length_append] at h;omega)
 | ((with_reducible refine endx_go ?_);first | (refine endX_of (.inl ⟨[.old 1],rfl,rfl,⟨⟨rfl,rfl,?_,rfl,rfl⟩,trivial⟩,⟨wkO_bytes (leB n 2) rfl rfl rfl ?_ rfl,trivial⟩⟩);(simp only [List.length_append,leB_length];rfl);(simp only [List.map_append,leB2_map];rfl);done))
 | (refine ⟨rfl,?_⟩;conv=>whnf)
  | fail
  )
theorem c32 (l : List UInt8) (x : Int) (hx : 0 ≤ x ∧ x < 4294967296) (hl : l.length < 2500000) : BufTo Tryz.prog 32 [.int .u32 x] l (leB x.toNat 4):=by
 obtain ⟨n,rfl⟩:=Int.eq_ofNat_of_zero_le hx.1;rw [Int.toNat_natCast];unfold BufTo
 refine run_walkV eok Tryz.func32 rfl (by kernel_rfl) [0] (by rfl) [] ?_
 conv=>whnf
 repeat' (first
 | ((with_reducible refine on_dec_f ?_ ?_);(focus ((try simp only [List.length_map,List.length_cons,List.length_nil,List.length_append]);omega));conv=>whnf)
 | ((with_reducible refine on_dec_t ?_ ?_);(focus ((try simp only [List.length_map,List.length_cons,List.length_nil,List.length_append]);omega));conv=>whnf)
 | ((with_reducible refine on_dec (fun h=>?_) (fun h=>?_))<;>(try simp only [List.length_map] at h)<;>conv=>whnf)
 | ((with_reducible refine on_ndec (fun h=>?_) (fun h=>?_))<;>(try simp only [List.length_map] at h)<;>conv=>whnf)
 | ((with_reducible refine on_not (fun h=>?_) (fun h=>?_))<;>conv=>whnf)
 | ((with_reducible refine onBool_split (fun h=>?_) (fun h=>?_))<;>conv=>whnf)
 | ((with_reducible refine call_go ?_);(first | refine call_step (run_buf (c33 l _ (by omega) (by omega)) rfl rfl rfl rfl) ?_);conv=>whnf)
 | (refine ⟨⟨(by first | rfl | (simp;done)),cap_ok (by simp only [List.length_map,List.length_cons,List.length_nil,List.length_append];omega) rfl⟩,?_⟩;conv=>whnf)
 | (refine ⟨mem_one ⟨rfl,rfl⟩,?_⟩;conv=>whnf)
 | (refine ⟨(by intro y hy;obtain ⟨x,_,rfl⟩:=List.mem_map.1 hy;first | rfl | exact ⟨rfl,rfl⟩),?_⟩;conv=>whnf)
 | (refine ⟨cap_ok (by first | omega | (simp only [List.length_map];omega)) rfl,?_⟩;conv=>whnf)
 | (refine ix_map (by omega) ?_;conv=>whnf)
 | (refine ix_str (by omega) ?_;conv=>whnf)
 | (refine wrap64 (by omega) ?_;conv=>whnf)
 | (refine wrapU32 (by omega) ?_;conv=>whnf)
 | (refine wrapU16 (by omega) ?_;conv=>whnf)
 | (refine wrapU8n ?_;conv=>whnf)
 | (refine wrapU16n ?_;conv=>whnf)
 | (refine shr_n 256 rfl rfl ?_;conv=>whnf)
 | (refine shr_n 65536 rfl rfl ?_;conv=>whnf)
 | (refine shr_n 16777216 rfl rfl ?_;conv=>whnf)
 | (refine ⟨Nat.le_refl _,?_⟩;conv=>whnf)
 | (refine ⟨⟨(by simp only [List.length_map,List.length_append];omega),cap_ok (by simp only [List.length_map,List.length_cons,List.length_nil,List.length_append,leB_length];omega) rfl⟩,?_⟩;conv=>whnf)
 | (refine ⟨cap_ok (by simp only [List.length_map,List.length_cons,List.length_nil,List.length_append,leB_length];omega) rfl,?_⟩;conv=>whnf)
 | (exfalso;simp only [List.length_map,List.length_cons,List.length_nil,List.length_append] at h;omega)
 | ((with_reducible refine endx_go ?_);first | (refine endX_of (.inl ⟨[.dead,.old 3],rfl,rfl,⟨⟨rfl,rfl,?_,rfl,rfl⟩,trivial⟩,⟨rfl,wkO_bytes (l ++ leB n 4) rfl rfl rfl ?_ rfl,trivial⟩⟩);(simp only [List.length_append,leB_length];rfl);(simp only [List.map_append,leB4_map,← List.append_assoc];rfl);done))
 | (refine ⟨rfl,?_⟩;conv=>whnf)
  | fail
  )
theorem c32n (x : Int) (hx : 0 ≤ x ∧ x < 4294967296) : BufNil Tryz.prog 32 [.int .u32 x] (leB x.toNat 4):=by
 obtain ⟨n,rfl⟩:=Int.eq_ofNat_of_zero_le hx.1;rw [Int.toNat_natCast];unfold BufNil
 refine run_walkV eok Tryz.func32 rfl (by kernel_rfl) [] (by rfl) [] ?_
 conv=>whnf
 repeat' (first
 | ((with_reducible refine on_dec_f ?_ ?_);(focus ((try simp only [List.length_map,List.length_cons,List.length_nil,List.length_append]);omega));conv=>whnf)
 | ((with_reducible refine on_dec_t ?_ ?_);(focus ((try simp only [List.length_map,List.length_cons,List.length_nil,List.length_append]);omega));conv=>whnf)
 | ((with_reducible refine on_dec (fun h=>?_) (fun h=>?_))<;>(try simp only [List.length_map] at h)<;>conv=>whnf)
 | ((with_reducible refine on_ndec (fun h=>?_) (fun h=>?_))<;>(try simp only [List.length_map] at h)<;>conv=>whnf)
 | ((with_reducible refine on_not (fun h=>?_) (fun h=>?_))<;>conv=>whnf)
 | ((with_reducible refine onBool_split (fun h=>?_) (fun h=>?_))<;>conv=>whnf)
 | ((with_reducible refine call_go ?_);(first | refine call_step (run_bufn (c33n _ (by omega)) rfl rfl) ?_);conv=>whnf)
 | (refine ⟨⟨(by first | rfl | (simp;done)),cap_ok (by simp only [List.length_map,List.length_cons,List.length_nil,List.length_append];omega) rfl⟩,?_⟩;conv=>whnf)
 | (refine ⟨mem_one ⟨rfl,rfl⟩,?_⟩;conv=>whnf)
 | (refine ⟨(by intro y hy;obtain ⟨x,_,rfl⟩:=List.mem_map.1 hy;first | rfl | exact ⟨rfl,rfl⟩),?_⟩;conv=>whnf)
 | (refine ⟨cap_ok (by first | omega | (simp only [List.length_map];omega)) rfl,?_⟩;conv=>whnf)
 | (refine ix_map (by omega) ?_;conv=>whnf)
 | (refine ix_str (by omega) ?_;conv=>whnf)
 | (refine wrap64 (by omega) ?_;conv=>whnf)
 | (refine wrapU32 (by omega) ?_;conv=>whnf)
 | (refine wrapU16 (by omega) ?_;conv=>whnf)
 | (refine wrapU8n ?_;conv=>whnf)
 | (refine wrapU16n ?_;conv=>whnf)
 | (refine shr_n 256 rfl rfl ?_;conv=>whnf)
 | (refine shr_n 65536 rfl rfl ?_;conv=>whnf)
 | (refine shr_n 16777216 rfl rfl ?_;conv=>whnf)
 | (refine ⟨Nat.le_refl _,?_⟩;conv=>whnf)
 | (refine ⟨⟨(by simp only [List.length_map,List.length_append];omega),cap_ok (by simp only [List.length_map,List.length_cons,List.length_nil,List.length_append,leB_length];omega) rfl⟩,?_⟩;conv=>whnf)
 | (refine ⟨cap_ok (by simp only [List.length_map,List.length_cons,List.length_nil,List.length_append,leB_length];omega) rfl,?_⟩;conv=>whnf)
 | (exfalso;simp only [List.length_map,List.length_cons,List.length_nil,List.length_append] at h;omega)
 | ((with_reducible refine endx_go ?_);first | (refine endX_of (.inl ⟨[.old 2],rfl,rfl,⟨⟨rfl,rfl,?_,rfl,rfl⟩,trivial⟩,⟨wkO_bytes (leB n 4) rfl rfl rfl ?_ rfl,trivial⟩⟩);(simp only [List.length_append,leB_length];rfl);(simp only [List.map_append,leB4_map,← List.append_assoc];rfl);done))
 | (refine ⟨rfl,?_⟩;conv=>whnf)
  | fail
  )
def refB (r : Ref) : List UInt8:=leB r.r.toNat 4 ++ leB r.s.toNat 2
theorem refB_length (r : Ref) : (refB r).length = 6:=by simp [refB,leB_length]
theorem c34 (l : List UInt8) (r : Ref) (hr : 0 ≤ r.r ∧ r.r < 4294967296) (hs : 0 ≤ r.s ∧ r.s < 65536) (hl : l.length < 2000000) : BufTo Tryz.prog 34 [r.enc] l (refB r):=by
 unfold BufTo
 refine run_walkV eok Tryz.func34 rfl (by kernel_rfl) [0] (by rfl) [] ?_
 conv=>whnf
 repeat' (first
 | ((with_reducible refine on_dec_f ?_ ?_);(focus ((try simp only [List.length_map,List.length_cons,List.length_nil,List.length_append]);omega));conv=>whnf)
 | ((with_reducible refine on_dec_t ?_ ?_);(focus ((try simp only [List.length_map,List.length_cons,List.length_nil,List.length_append]);omega));conv=>whnf)
 | ((with_reducible refine on_dec (fun h=>?_) (fun h=>?_))<;>(try simp only [List.length_map] at h)<;>conv=>whnf)
 | ((with_reducible refine on_ndec (fun h=>?_) (fun h=>?_))<;>(try simp only [List.length_map] at h)<;>conv=>whnf)
 | ((with_reducible refine on_not (fun h=>?_) (fun h=>?_))<;>conv=>whnf)
 | ((with_reducible refine onBool_split (fun h=>?_) (fun h=>?_))<;>conv=>whnf)
 | ((with_reducible refine call_go ?_);(first | refine call_step (run_buf (c32 l _ (by omega) (by omega)) rfl rfl rfl rfl) ?_ | refine call_step (run_buf (c33 (l ++ leB r.r.toNat 4) _ (by omega) (by simp only [List.length_append,leB_length];omega)) rfl rfl rfl (by simp only [List.length_append])) ?_);conv=>whnf)
 | (refine ⟨[],[(6,4)],(by decide +kernel),?_⟩;conv=>whnf)
 | (refine ⟨⟨(by first | rfl | (simp;done)),cap_ok (by simp only [List.length_map,List.length_cons,List.length_nil,List.length_append];omega) rfl⟩,?_⟩;conv=>whnf)
 | (refine ⟨mem_one ⟨rfl,rfl⟩,?_⟩;conv=>whnf)
 | (refine ⟨(by intro y hy;obtain ⟨x,_,rfl⟩:=List.mem_map.1 hy;first | rfl | exact ⟨rfl,rfl⟩),?_⟩;conv=>whnf)
 | (refine ⟨cap_ok (by first | omega | (simp only [List.length_map];omega)) rfl,?_⟩;conv=>whnf)
 | (refine ix_map (by omega) ?_;conv=>whnf)
 | (refine ix_str (by omega) ?_;conv=>whnf)
 | (refine wrap64 (by omega) ?_;conv=>whnf)
 | (refine wrapU32 (by omega) ?_;conv=>whnf)
 | (refine wrapU16 (by omega) ?_;conv=>whnf)
 | (refine wrapU8n ?_;conv=>whnf)
 | (refine wrapU16n ?_;conv=>whnf)
 | (refine shr_n 256 rfl rfl ?_;conv=>whnf)
 | (refine shr_n 65536 rfl rfl ?_;conv=>whnf)
 | (refine shr_n 16777216 rfl rfl ?_;conv=>whnf)
 | (refine ⟨Nat.le_refl _,?_⟩;conv=>whnf)
 | (refine ⟨⟨(by simp only [List.length_map,List.length_append];omega),cap_ok (by simp only [List.length_map,List.length_cons,List.length_nil,List.length_append,leB_length,refB_length];omega) rfl⟩,?_⟩;conv=>whnf)
 | (refine ⟨cap_ok (by simp only [List.length_map,List.length_cons,List.length_nil,List.length_append,leB_length,refB_length];omega) rfl,?_⟩;conv=>whnf)
 | (exfalso;simp only [List.length_map,List.length_cons,List.length_nil,List.length_append] at h;omega)
 | ((with_reducible refine endx_go ?_);first | (refine endX_of (.inl ⟨[.dead,.old 3],rfl,rfl,⟨⟨rfl,rfl,?_,rfl,rfl⟩,trivial⟩,⟨rfl,wkO_bytes (l ++ refB r) rfl rfl rfl ?_ rfl,trivial⟩⟩);(simp only [leB_length,refB_length]<;>omega);(simp only [refB,← List.append_assoc];done);done))
 | (refine ⟨rfl,?_⟩;conv=>whnf)
  | fail
  )
end Go.Proofs.YtkeeienjocbkbaaGreatDoor
namespace Go.Proofs.YtkeeienjocbkbaaGreatDoor
open Go Dw
set_option maxRecDepth 10000
attribute [local irreducible] Run
set_option maxHeartbeats 2000000
theorem refErr_bd {r : Ref} (h : refErr r = 0) : (0 ≤ r.r ∧ r.r ≤ 95) ∧ 1 ≤ r.s ∧ r.s ≤ 65535:=by
 unfold refErr at h
 split at h
 ·rename_i h1
  simp only [Bool.and_eq_true] at h1
  exact ⟨within_iff.1 h1.1,within_iff.1 h1.2⟩
 ·exact absurd h (by decide)
def sz (x : Chg) : Nat:=(size x.name.length).toNat
def encH (x : Chg) : List UInt8:=leB (sz x) 4 ++ leB x.usn.toNat 4 ++ refB x.file ++ refB x.parent ++ leB x.tick.toNat 4 ++ leB x.reasons.toNat 2 ++ leB x.name.length 2
def encB (x : Chg) : List UInt8:=encH x ++ [0,0,0,0] ++ x.name ++ List.replicate (sz x - 32 - x.name.length) 0
theorem encH_length (x : Chg) : (encH x).length = 28:=by simp [encH,leB_length,refB_length]
attribute [local irreducible] leB refB size sz
def encA (x : Chg) : List UInt8:=encH x ++ [0,0,0,0] ++ x.name
theorem encA_length (x : Chg) : (encA x).length = 32 + x.name.length:=by simp only [encA,List.length_append,encH_length,List.length_cons,List.length_nil]
theorem encB_eq (x : Chg) : encB x = encA x ++ List.replicate (sz x - 32 - x.name.length) 0:=rfl
theorem rep_byteV (n : Nat) : List.replicate n (AV.d (.int .u8 0)) = (List.replicate n (0 : UInt8)).map byteV:=by
 simp [byteV]
theorem c35 (x : Chg) (hu : 0 ≤ x.usn ∧ x.usn ≤ 2147483647) (hv : recordErr x = 0) : Fn 35 [x.enc] (.str (encB x)):=by
 obtain ⟨v1,v2,v3,v4,v5⟩:=recordErr_ok hv;have v6:=nameErr_ok v5;have v7:=refErr_bd v1;have v8:=refErr_bd v2;have v9 : 32 + (x.name.length : Int) ≤ size x.name.length ∧ size x.name.length ≤ 72:=(by unfold size;omega);have hB : encB x = encA x ++ List.replicate (size x.name.length - ((32 + x.name.length : Nat) : Int)).toNat 0:=(by rw [encB_eq];congr 2;unfold sz;omega)
 refine run_walkV eok Tryz.func35 rfl (by kernel_rfl) [] (by rfl) [9] ?_
 conv=>whnf
 repeat' (first
 | ((with_reducible refine on_dec_f ?_ ?_);(focus ((try simp only [List.length_map,List.length_cons,List.length_nil,List.length_append]);omega));conv=>whnf)
 | ((with_reducible refine on_dec_t ?_ ?_);(focus ((try simp only [List.length_map,List.length_cons,List.length_nil,List.length_append]);omega));conv=>whnf)
 | ((with_reducible refine on_dec (fun h=>?_) (fun h=>?_))<;>(try simp only [List.length_map] at h)<;>conv=>whnf)
 | ((with_reducible refine on_ndec (fun h=>?_) (fun h=>?_))<;>(try simp only [List.length_map] at h)<;>conv=>whnf)
 | ((with_reducible refine on_not (fun h=>?_) (fun h=>?_))<;>conv=>whnf)
 | ((with_reducible refine onBool_split (fun h=>?_) (fun h=>?_))<;>conv=>whnf)
 | ((with_reducible refine call_go ?_);(first | refine call_step (run_view (c59 x (by omega)) rfl rfl) ?_ | refine call_step (run_bufn (c32n _ (by omega)) rfl rfl) ?_ | refine call_step (run_buf (c32 (leB (size x.name.length).toNat 4) _ (by omega) (by simp only [List.length_append,leB_length,refB_length];omega)) rfl rfl rfl rfl) ?_ | refine call_step (run_buf (c32 (leB (size x.name.length).toNat 4 ++ leB x.usn.toNat 4 ++ refB x.file ++ refB x.parent) _ (by omega) (by simp only [List.length_append,leB_length,refB_length];omega)) rfl rfl rfl (by simp only [List.length_append])) ?_ | refine call_step (run_buf (c34 (leB (size x.name.length).toNat 4 ++ leB x.usn.toNat 4) _ (by omega) (by omega) (by simp only [List.length_append,leB_length,refB_length];omega)) rfl rfl rfl (by simp only [List.length_append])) ?_ | refine call_step (run_buf (c34 (leB (size x.name.length).toNat 4 ++ leB x.usn.toNat 4 ++ refB x.file) _ (by omega) (by omega) (by simp only [List.length_append,leB_length,refB_length];omega)) rfl rfl rfl (by simp only [List.length_append])) ?_ | refine call_step (run_buf (c33 (leB (size x.name.length).toNat 4 ++ leB x.usn.toNat 4 ++ refB x.file ++ refB x.parent ++ leB x.tick.toNat 4) _ (by omega) (by simp only [List.length_append,leB_length,refB_length];omega)) rfl rfl rfl (by simp only [List.length_append])) ?_ | refine call_step (run_buf (c33 (leB (size x.name.length).toNat 4 ++ leB x.usn.toNat 4 ++ refB x.file ++ refB x.parent ++ leB x.tick.toNat 4 ++ leB x.reasons.toNat 2) _ (by omega) (by simp only [List.length_append,leB_length,refB_length];omega)) rfl rfl rfl (by simp only [List.length_append])) ?_);conv=>whnf)
 | (refine ⟨[],[(5,3)],(by decide +kernel),?_⟩;conv=>whnf)
 | (refine ⟨[],[(4,1),(4,2)],(by decide +kernel),?_⟩;conv=>whnf)
 | (refine ⟨⟨(by first | rfl | (simp;done)),cap_ok (by simp only [List.length_map,List.length_cons,List.length_nil,List.length_append];omega) rfl⟩,?_⟩;conv=>whnf)
 | (refine ⟨mem_one ⟨rfl,rfl⟩,?_⟩;conv=>whnf)
 | (refine ⟨(by intro y hy;obtain ⟨x,_,rfl⟩:=List.mem_map.1 hy;first | rfl | exact ⟨rfl,rfl⟩),?_⟩;conv=>whnf)
 | (refine ⟨cap_ok (by first | omega | (simp only [List.length_map];omega)) rfl,?_⟩;conv=>whnf)
 | (refine ix_map (by omega) ?_;conv=>whnf)
 | (refine ix_str (by omega) ?_;conv=>whnf)
 | (refine wrap64 (by omega) ?_;conv=>whnf)
 | (refine wrapU32 (by omega) ?_;conv=>whnf)
 | (refine wrapU16 (by omega) ?_;conv=>whnf)
 | (refine wrapU8n ?_;conv=>whnf)
 | (refine wrapU16n ?_;conv=>whnf)
 | (refine shr_n 256 rfl rfl ?_;conv=>whnf)
 | (refine shr_n 65536 rfl rfl ?_;conv=>whnf)
 | (refine shr_n 16777216 rfl rfl ?_;conv=>whnf)
 | (refine ⟨Nat.le_refl _,?_⟩;conv=>whnf)
 | (refine ⟨⟨(by simp only [List.length_map,List.length_append];omega),cap_ok (by simp only [List.length_map,List.length_cons,List.length_nil,List.length_append,leB_length,refB_length];omega) rfl⟩,?_⟩;conv=>whnf)
 | (refine ⟨cap_ok (by simp only [List.length_map,List.length_cons,List.length_nil,List.length_append,leB_length,refB_length];omega) rfl,?_⟩;conv=>whnf)
 | (refine wrap64 (by first | omega | (simp only [encA_length,List.length_map,List.length_append,List.length_replicate];omega)) ?_;conv=>whnf)
 | (refine ⟨capI (by first | omega | (simp only [encA_length,List.length_map,List.length_append,List.length_replicate];omega)) rfl,?_⟩;conv=>whnf)
 | (refine ⟨⟨(by first | omega | (simp only [encA_length,List.length_map,List.length_append,List.length_replicate];omega)),cap_ok (by first | omega | (simp only [encA_length,List.length_map,List.length_append,List.length_replicate];omega)) rfl⟩,?_⟩;conv=>whnf)
 | (refine ⟨[(3,.d (i (size x.name.length))),(4,.sl 0 0 (32 + x.name.length) 1 none)],[⟨(encA x).map byteV,1,0⟩],⟨[.old 10],rfl,rfl,⟨rfl,⟨rfl,rfl,?_,rfl,rfl⟩,trivial⟩,⟨wkO_bytes (encA x) rfl rfl rfl ?_ rfl,trivial⟩⟩,?_⟩;rotate_left 2;conv=>whnf)
 | ((simp only [leB_length,refB_length,List.length_map,List.length_cons,List.length_nil]<;>omega);done)
 | (refine ⟨_,zeros1 (encA x) _ _ h (encA_length x).symm,?_⟩;conv=>whnf)
 | (refine ⟨_,zeros2 (encA x) _ _ (encA_length x).symm,?_⟩;conv=>whnf)
 | ((simp only [encA,encH,sz,Int.toNat_natCast,List.map_append];rfl);done)
 | (exfalso;simp only [List.length_map,List.length_cons,List.length_nil,List.length_append] at h;omega)
 | ((with_reducible refine endx_go ?_);first | (exact endx (congrArg D.str hB.symm);done))
 | (refine ⟨rfl,?_⟩;conv=>whnf)
  | fail
  )
end Go.Proofs.YtkeeienjocbkbaaGreatDoor
namespace Go.Proofs.YtkeeienjocbkbaaGreatDoor
open Go Dw
set_option maxRecDepth 10000
attribute [local irreducible] Run
set_option maxHeartbeats 2000000
def cbErr (x : Chg) : Int:=first [if within x.usn 0 2147483647 then 0 else 2,recordErr x]
theorem cbErr_ok {x : Chg} (h : cbErr x = 0) : (0 ≤ x.usn ∧ x.usn ≤ 2147483647) ∧ recordErr x = 0:=by
 unfold cbErr at h
 by_cases hw : within x.usn 0 2147483647 = true
 ·rw [if_pos hw,first_cons,if_pos rfl,first_cons] at h
  by_cases hr : recordErr x = 0
  ·exact ⟨within_iff.1 hw,hr⟩
  ·rw [if_neg hr] at h;exact absurd h hr
 ·rw [if_neg hw,first_cons,if_neg (by decide)] at h
  exact absurd h (by decide)
attribute [local irreducible] leB refB size sz
attribute [local irreducible] encH
def opnB (x : Opn) : List UInt8:=refB x.file ++ leB x.reasons.toNat 2
def hdB (j : Jrn) : List UInt8:=leB j.id.toNat 4 ++ leB j.first.toNat 4 ++ leB j.next.toNat 4 ++ leB j.most.toNat 4 ++ leB j.opens.length 2
def jrnB (j : Jrn) : List UInt8:=hdB j ++ j.opens.flatMap opnB ++ j.recs.flatMap encB
theorem opnB_length (x : Opn) : (opnB x).length = 8:=by simp [opnB,leB_length,refB_length]
theorem hdB_length (j : Jrn) : (hdB j).length = 18:=by simp [hdB,leB_length]
theorem opnsB_length : ∀ (l : List Opn),(l.flatMap opnB).length = 8 * l.length
 | []=>rfl
 | x :: l=>by simp only [List.flatMap_cons,List.length_append,opnB_length,opnsB_length l,List.length_cons];omega
theorem encB_length {x : Chg} (hv : recordErr x = 0) : (encB x).length ≤ 72:=by
 have v6:=nameErr_ok (recordErr_ok hv).2.2.2.2
 have v9 : size x.name.length ≤ 72:=by unfold size;omega
 rw [encB_eq,List.length_append,encA_length,List.length_replicate]
 unfold sz;omega
theorem recsB_length : ∀ (l : List Chg),(∀ x ∈ l,recordErr x = 0) → (l.flatMap encB).length ≤ 72 * l.length
 | [],_=>by simp
 | x :: l,h=>by
  have h1:=encB_length (h x (by simp))
  have h2:=recsB_length l fun y hy=>h y (by simp [hy])
  simp only [List.flatMap_cons,List.length_append,List.length_cons];omega
theorem flat_take {α β : Type} {f : α → List β} {l : List α} {k : Nat} (h : k < l.length) : (l.take (k + 1)).flatMap f = (l.take k).flatMap f ++ f l[k]:=by
 rw [List.take_succ_eq_append_getElem h,List.flatMap_append];simp
end Go.Proofs.YtkeeienjocbkbaaGreatDoor
namespace Go.Proofs.YtkeeienjocbkbaaGreatDoor
open Go Dw
set_option maxRecDepth 100000
theorem names_ok : Tryz.prog.funcs.toList.all (fun fn => !(fn.name == "runtime.NumGoroutine")) = true := by kernel_rfl
def dm24 (f : Nat) : Bool:=[28,56,57,55,58,59,85,86,87,79,21,65,54,80,101,102,103,118,120,53,52,119,62].any (Nat.beq f)
end Go.Proofs.YtkeeienjocbkbaaGreatDoor
namespace Go.Proofs.YtkeeienjocbkbaaGreatDoor
open Go Dw
set_option maxRecDepth 10000
attribute [local irreducible] Run
set_option maxHeartbeats 2000000
attribute [local irreducible] fewB checkJ within nameErr size
end Go.Proofs.YtkeeienjocbkbaaGreatDoor
