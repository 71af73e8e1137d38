/-
  Own lemmas, no conditions: Dt, Da, Pa, Pb, Pc, Pd, Pe, Pf, Jn, Or, Wa, Wb, Wc, Wd, We, Wf, Wg, Wy, Wp.
-/
import Derived.Test.YtogifnjnpljnfaaGreatDoorGrpI
import Derived.Lib.Bytealg
import Derived.Lib.Split
import Derived.Shelf.Strings.OnBuilder
import Derived.Shelf.Sort.Plain
import Derived.Shelf.Slices.In.SortNone
set_option linter.unusedVariables false
set_option linter.unusedSimpArgs false
namespace Go.Proofs.YtogifnjnpljnfaaGreatDoor
open Go Dw
section
abbrev Bs:=List UInt8
abbrev i (n : Int) : D:=.int .i64 n
def Fn (f : Nat) (xs : List D) (r : D) : Prop:=bn Tryz.prog f (xs.map .d) [] (.d r) []
structure bm where
 name : Bs
 node : Int
 deriving DecidableEq
def bm.enc (x : bm) : D:=.agg [.str x.name,i x.node]
structure aM where
 kind : Int
 ents : List bm
 target : Bs
 deriving DecidableEq
def aM.enc (x : aM) : D:=.agg [i x.kind,.fs (x.ents.map bm.enc),.str x.target]
def aS (t : List aM) : D:=.fs (t.map aM.enc)
abbrev cR:=Int × Bs
def Kj (w : cR) : D:=.agg [i w.1,.str w.2]
def Ih (w : cR) : List D:=[i w.1,.str w.2]
def ED (t : List aM) (w : cR) : Option (List cR):=if 0 <= w.1 then (t[w.1.toNat]?).map (fun n=>n.ents.map fun e=>(e.node,w.2 ++ [47] ++ e.name)) else none
def pF (t : List aM) : Nat -> List cR -> Option (List cR)
 | _,[]=>some []
 | 0,_ :: _=>none
 | n + 1,w :: q=>match ED t w with
  | none=>none
  | some ks=>match pF t n (q ++ ks) with
   | none=>none
   | some r=>some (ks ++ r)
theorem FX {t : List aM} {n : Nat} {w : cR} {q r : List cR} (h : pF t n (w :: q) = some r) : ∃ m nd r', n = m + 1 /\ 0 <= w.1 /\ t[w.1.toNat]? = some nd /\ pF t m (q ++ nd.ents.map fun e => (e.node, w.2 ++ [47] ++ e.name)) = some r' /\ r = (nd.ents.map fun e => (e.node, w.2 ++ [47] ++ e.name)) ++ r' := by
 cases n with
 | zero=>simp [pF] at h
 | succ m=>
  simp only [pF] at h
  cases hk : ED t w with
  | none=>simp [hk] at h
  | some ks=>
   simp only [hk] at h
   cases hb : pF t m (q ++ ks) with
   | none=>simp [hb] at h
   | some r'=>
    simp only [hb,Option.some.injEq] at h
    unfold ED at hk
    split at hk
    ·rename_i h0
     cases hn : t[w.1.toNat]? with
     | none=>simp [hn] at hk
     | some nd=>
      simp only [hn,Option.map_some,Option.some.injEq] at hk
      subst hk
      exact ⟨m, nd, r', rfl, h0, rfl, hb, h.symm⟩
    ·cases hk
theorem wg {t : List aM} {n : Nat} {r : List cR} (h : pF t n [] = some r) : r = []:=by
 cases n<;>simp [pF] at h<;>exact h
end
section
set_option maxRecDepth 10000
theorem Oe (s : Bs) (c : Int) : Fn 311 [.str s,.int .u8 c] (i (Lib.indexByte s c.toNat.toUInt8)):=
 tP fun w=>by
  rw [run_callFunc_extern Tryz.func311 (by kernel_rfl) (by kernel_rfl) (by kernel_rfl) (e:=Extern.BytealgIndexByte.indexByte) (by kernel_rfl),Lib.run_indexByteString]
  rfl
theorem Oc (s : Bs) (c : Int) : Fn 282 [.str s,.int .u8 c] (i (Lib.countByte s c.toNat.toUInt8)):=
 tP fun w=>by
  rw [run_callFunc_extern Tryz.func282 (by kernel_rfl) (by kernel_rfl) (by kernel_rfl) (e:=Extern.BytealgCount.count) (by kernel_rfl),Lib.run_countString]
  rfl
end
namespace Paths
abbrev Bs:=List UInt8
def cut (c : UInt8) : Bs -> List Bs
 | []=>[[]]
 | x :: s=>if x = c then [] :: cut c s else match cut c s with
  | p :: l=>(x :: p) :: l
  | []=>[[x]]
theorem bv (c : UInt8) : ∀ s,cut c s ≠ []
 | []=>by simp [cut]
 | x :: s=>by
  unfold cut
  split
  ·simp
  ·cases h : cut c s<;>simp
theorem iA {c : UInt8} : ∀ {s : Bs},c ∉ s -> cut c s = [s]
 | [],_=>rfl
 | x :: s,h=>by
  have h1 : x ≠ c:=fun e=>h (by simp [e])
  rw [cut,if_neg h1,iA fun m=>h (by simp [m])]
theorem wB {c : UInt8} : ∀ {a : Bs} (b : Bs),c ∉ a -> cut c (a ++ c :: b) = a :: cut c b
 | [],b,_=>by simp [cut]
 | x :: a,b,h=>by
  have h1 : x ≠ c:=fun e=>h (by simp [e])
  rw [List.cons_append,cut,if_neg h1,wB b fun m=>h (by simp [m])]
structure nY (c : UInt8) (s : Bs) (out : List Bs) (a i : Nat) : Prop where
 le : a <= i
 out : out ++ cut c (s.drop a) = cut c s
 no : ∀ k,a <= k -> k < i -> ∀ h : k < s.length,s[k] ≠ c
theorem nY.zero (c : UInt8) (s : Bs) : nY c s [] 0 0:=⟨Nat.le_refl _,rfl,fun k _ h=>by omega⟩
theorem tj {c : UInt8} {s : Bs} {a i : Nat} (no : ∀ k,a <= k -> k < i -> ∀ h : k < s.length,s[k] ≠ c) : c ∉ (s.take i).drop a:=by
 intro h
 obtain ⟨j,hj,e⟩:=List.getElem_of_mem h
 simp only [List.length_drop,List.length_take] at hj
 rw [List.getElem_drop,List.getElem_take] at e
 exact no (a + j) (by omega) (by omega) (by omega) e
theorem nY.hit {c : UInt8} {s : Bs} {out : List Bs} {a i : Nat} (I : nY c s out a i) (h : i < s.length) (e : s[i] = c) : nY c s (out ++ [(s.take i).drop a]) (i + 1) (i + 1):=by
 refine ⟨Nat.le_refl _,?_,fun k h1 h2=>by omega⟩
 have hs : s.drop a = (s.take i).drop a ++ c :: s.drop (i + 1):=by
  rw [<- e,<- List.drop_eq_getElem_cons h]
  conv=>lhs;rw [<- List.take_append_drop i s]
  rw [List.drop_append_of_le_length (by rw [List.length_take];have:=I.le;omega)]
 rw [<- I.out,hs,wB _ (tj I.no),List.append_assoc];rfl
theorem nY.miss {c : UInt8} {s : Bs} {out : List Bs} {a i : Nat} (I : nY c s out a i) (h : i < s.length) (e : s[i] ≠ c) : nY c s out a (i + 1):=by
 refine ⟨by have:=I.le;omega,I.out,fun k h1 h2 hk=>?_⟩
 by_cases d : k = i
 ·subst d;exact e
 ·exact I.no k h1 (by omega) hk
theorem nY.done {c : UInt8} {s : Bs} {out : List Bs} {a i : Nat} (I : nY c s out a i) (h : s.length <= i) : out ++ [s.drop a] = cut c s:=by
 rw [<- I.out,iA]
 have:=tj (i:=i) I.no
 rwa [List.take_of_length_le h] at this
theorem df (c : UInt8) : ∀ s : Bs,(cut c s).length = s.count c + 1
 | []=>rfl
 | x :: s=>by
  have ih:=df c s
  unfold cut
  by_cases h : x = c
  ·subst h;simp [ih]
  ·rw [if_neg h,List.count_cons_of_ne h]
   cases e : cut c s with
   | nil=>exact absurd e (bv c s)
   | cons p l=>rw [e] at ih;simpa using ih
theorem dp {c : UInt8} : ∀ {s p : Bs},p ∈ cut c s -> c ∉ p /\ p.length <= s.length
 | [],p,h=>by simp [cut] at h;subst h;simp
 | x :: s,p,h=>by
  unfold cut at h
  by_cases e : x = c
  ·rw [if_pos e] at h
   rcases List.mem_cons.1 h with rfl | h
   ·simp
   ·have:=dp h;exact ⟨this.1,by simp;omega⟩
  ·rw [if_neg e] at h
   cases d : cut c s with
   | nil=>exact absurd d (bv c s)
   | cons q l=>
    rw [d] at h
    simp only [List.mem_cons] at h
    rcases h with rfl | h
    ·have:=dp (c:=c) (s:=s) (p:=q) (by rw [d];simp)
     exact ⟨by simp [Ne.symm e,this.1],by simp;omega⟩
    ·have:=dp (c:=c) (s:=s) (p:=p) (by rw [d];simp [h])
     exact ⟨this.1,by simp;omega⟩
def glue (c : UInt8) : List Bs -> Bs
 | []=>[]
 | [p]=>p
 | p :: q :: l=>p ++ c :: glue c (q :: l)
theorem oJ (c : UInt8) : ∀ s : Bs,glue c (cut c s) = s
 | []=>rfl
 | x :: s=>by
  have ih:=oJ c s
  unfold cut
  by_cases e : x = c
  ·rw [if_pos e]
   cases d : cut c s with
   | nil=>exact absurd d (bv c s)
   | cons q l=>rw [d] at ih;rw [glue,ih,e];rfl
  ·rw [if_neg e]
   cases d : cut c s with
   | nil=>exact absurd d (bv c s)
   | cons q l=>
    rw [d] at ih
    cases l with
    | nil=>rw [glue] at ih;simp [glue,ih]
    | cons r l=>rw [glue] at ih;simp [glue,<- ih]
theorem yt {c : UInt8} : ∀ {l : List Bs},l ≠ [] -> (∀ p ∈ l,c ∉ p) -> cut c (glue c l) = l
 | [],h,_=>absurd rfl h
 | [p],_,h=>iA (h p (by simp))
 | p :: q :: l,_,h=>by
  rw [glue,wB _ (h p (by simp)),yt (by simp) fun r hr=>h r (by simp [hr])]
end Paths
namespace Paths
def jm : Bs:=[34,42,47,58,60,62,63,92,124]
def bD (c : UInt8) : Bool:=decide (32 <= c.toNat) && decide (c.toNat <= 126) && !jm.contains c
def bp (s : Bs) : Bool:=decide (s = [46]) || decide (s = [46,46])
def am (s : Bs) : Int:=
 if 32 < s.length then 8 else if s = [] \/ bp s = true \/ s.getLast? = some 32 \/ s.getLast? = some 46 then 4 else if s.all bD then 0 else 4
def d9 (c : UInt8) : UInt8:=if 97 <= c.toNat /\ c.toNat <= 122 then c - 32 else c
def bi (s : Bs) : Bs:=s.map d9
structure PP where
 abs : Bool
 parts : List Bs
 stream : Bs
deriving DecidableEq
def aF (s : Bs) : Int:=if bp s then 0 else am s
def aI : List Int -> Int
 | []=>0
 | e :: l=>if e = 0 then aI l else e
def gO (l : List Bs) : Option (List Bs × Bs):=
 match cut 58 (l.getLastD []) with
 | [_]=>some (l,[])
 | [a,b]=>if bp a = true \/ b = [] then none else some (l.dropLast ++ [a],b)
 | _=>none
def bo (l : List Bs) : Bool:=l.all fun p=>!decide (p = []) && !p.contains 58
def ay (s : Bs) : Bs:=if s.head? = some 47 then s.tail else s
def dI (s : Bs) : Bool:=decide (s.head? = some 47)
def fz : PP:=⟨false,[],[]⟩
def cP (l : List Bs) (t : Bs) : Int:=
 aI [aI (l.map aF),if t = [] then 0 else am t,if 16 < l.length then 8 else 0]
def aj (s : Bs) : PP × Int:=
 if 200 < s.length then (fz,8)
 else if s = [] then (fz,7)
 else if s = [47] then (⟨true,[],[]⟩,0)
 else match gO (cut 47 (ay s)) with
  | none=>(fz,7)
  | some (l,t)=>if bo l = false then (fz,7) else if cP l t ≠ 0 then (fz,cP l t) else (⟨dI s,l,t⟩,0)
def text (p : PP) : Bs:=(if p.abs then [47] else []) ++ glue 47 p.parts ++ (if p.stream = [] then [] else 58 :: p.stream)
def bb (abs : Bool) (out : List Bs) (s : Bs) : List Bs:=
 if s = [46] then out
 else if s ≠ [46,46] then out ++ [s]
 else if out ≠ [] /\ out.getLast? ≠ some [46,46] then out.dropLast
 else if abs then out else out ++ [s]
def normal (p : PP) : PP:=
 let l:=p.parts.foldl (bb p.abs) []
 ⟨p.abs,if l = [] /\ p.abs = false then [[46]] else l,p.stream⟩
def iK (p : PP) : Int:=if p.abs = false \/ (normal p).parts ≠ p.parts \/ p.stream ≠ [] then 3 else 0
theorem lL {s : Bs} (h : am s = 0) : 47 ∉ s /\ 58 ∉ s /\ s ≠ [] /\ s.length <= 32:=by
 unfold am at h
 split at h
 ·cases h
 ·rename_i h1
  split at h
  ·cases h
  ·rename_i h2
   split at h
   ·rename_i h3
    rw [List.all_eq_true] at h3
    refine ⟨fun m=>?_,fun m=>?_,fun e=>h2 (.inl e),by omega⟩
    ·have:=h3 _ m;revert this;decide
    ·have:=h3 _ m;revert this;decide
   ·cases h
theorem IY {s : Bs} (h : bp s = true) : 47 ∉ s /\ 58 ∉ s /\ s ≠ [] /\ s.length <= 32:=by
 unfold bp at h
 rw [Bool.or_eq_true,decide_eq_true_eq,decide_eq_true_eq] at h
 rcases h with rfl | rfl<;>decide
theorem ry {s : Bs} (h : aF s = 0) : 47 ∉ s /\ 58 ∉ s /\ s ≠ [] /\ s.length <= 32:=by
 unfold aF at h
 by_cases d : bp s = true
 ·exact IY d
 ·rw [if_neg d] at h;exact lL h
theorem kx : ∀ {l : List Int},aI l = 0 -> ∀ e ∈ l,e = 0
 | [],_,e,h=>by cases h
 | x :: l,h,e,hm=>by
  unfold aI at h
  by_cases c : x = 0
  ·rw [if_pos c] at h
   rcases List.mem_cons.1 hm with rfl | hm
   ·exact c
   ·exact kx h e hm
  ·rw [if_neg c] at h;exact absurd h c
end Paths
namespace Paths
theorem uZ (c : UInt8) (p q : Bs) : ∀ l : List Bs,glue c (l ++ [p ++ q]) = glue c (l ++ [p]) ++ q
 | []=>rfl
 | [x]=>by simp [glue]
 | x :: y :: l=>by
  have ih:=uZ c p q (y :: l)
  simp only [List.cons_append] at ih ⊢
  rw [glue,glue,ih];simp
theorem tH (s : Bs) : (if dI s then [47] else []) ++ ay s = s:=by
 unfold dI ay
 cases s with
 | nil=>rfl
 | cons x s=>
  by_cases h : x = 47
  ·subst h;rfl
  ·have : ¬ (some x = some (47 : UInt8)):=fun e=>h (Option.some.inj e)
   simp [h]
theorem yo {l l' : List Bs} {t : Bs} (hl : l ≠ []) (h : gO l = some (l', t)) :
  (l' = l /\ t = []) \/ ∃ a,cut 58 (l.getLastD []) = [a,t] /\ l' = l.dropLast ++ [a] /\ l = l.dropLast ++ [a ++ 58 :: t] /\ t ≠ []:=by
 unfold gO at h
 split at h
 ·cases h;exact .inl ⟨rfl,rfl⟩
 ·rename_i a b e
  split at h
  ·cases h
  ·rename_i hd
   cases h
   refine .inr ⟨a,e,rfl,?_,fun e=>hd (.inr e)⟩
   have hg:=oJ 58 (l.getLastD [])
   rw [e] at hg
   simp only [glue] at hg
   rw [hg,List.getLastD_eq_getLast?,List.getLast?_eq_some_getLast hl,Option.getD_some,List.dropLast_concat_getLast]
 ·cases h
theorem nX {s : Bs} (h : (aj s).2 = 0) : text (aj s).1 = s:=by
 unfold aj at h ⊢
 split at h
 ·cases h
 ·rename_i h1
  rw [if_neg h1]
  split at h
  ·cases h
  ·rename_i h2
   rw [if_neg h2]
   split at h
   ·rename_i h3
    rw [if_pos h3,h3];rfl
   ·rename_i h3
    rw [if_neg h3]
    split at h
    ·cases h
    ·rename_i l t hc
     split at h
     ·cases h
     ·rename_i h4
      rw [if_neg h4]
      split at h
      ·rename_i h5;exact absurd h h5
      ·rename_i h5
       rw [if_neg h5]
       unfold text
       dsimp only
       rcases yo (bv 47 _) hc with ⟨rfl,rfl⟩ | ⟨a,e,rfl,el,ht⟩
       ·rw [oJ,if_pos rfl,List.append_nil];exact tH s
       ·rw [if_neg ht,List.append_assoc,<- uZ,<- el,oJ];exact tH s
end Paths
namespace Paths
def cM (p : Bs) : Prop:=47 ∉ p /\ 58 ∉ p /\ p ≠ []
theorem BI (p : PP) : (normal p).abs = p.abs /\ (normal p).stream = p.stream:=⟨rfl,rfl⟩
theorem ge {s : Bs} (h : (aj s).2 = 0) : (∀ x ∈ (aj s).1.parts,cM x /\ aF x = 0) /\ (aj s).1.parts.length <= 16:=by
 unfold aj at h ⊢
 split at h
 ·cases h
 ·rename_i h1
  rw [if_neg h1]
  split at h
  ·cases h
  ·rename_i h2
   rw [if_neg h2]
   split at h
   ·rename_i h3
    rw [if_pos h3]
    exact ⟨fun x hx=>by simp at hx,by simp⟩
   ·rename_i h3
    rw [if_neg h3]
    split at h
    ·cases h
    ·rename_i l t hc
     split at h
     ·cases h
     ·rename_i h4
      rw [if_neg h4]
      split at h
      ·rename_i h5;exact absurd h h5
      ·rename_i h5
       rw [if_neg h5]
       have h6:=kx (Classical.not_not.1 h5)
       have h7:=kx (h6 (aI (l.map aF)) (by simp))
       refine ⟨fun x hx=>?_,?_⟩
       ·have h8:=h7 (aF x) (List.mem_map_of_mem hx)
        have:=ry h8
        exact ⟨⟨this.1,this.2.1,this.2.2.1⟩,h8⟩
       ·have h9:=h6 (if 16 < l.length then 8 else 0) (by simp)
        by_cases c : 16 < l.length
        ·rw [if_pos c] at h9;cases h9
        ·exact Nat.le_of_not_lt c
end Paths
namespace Paths
def nt (s : Bs) : Bool:=decide (s = []) || s.contains 58
def gW (s : Bs) : Bs:=s.take (s.idxOf 58)
def fk (s : Bs) : Bs:=s.drop (s.idxOf 58 + 1)
def bG (l : List Bs) : Bs:=l.getLastD []
def ci (s : Bs) : PP × Bool:=
 if ay s = [] then (⟨dI s,[],[]⟩,dI s)
 else if (bG (cut 47 (ay s))).contains 58 then
  (⟨dI s,(cut 47 (ay s)).dropLast ++ [gW (bG (cut 47 (ay s)))],fk (bG (cut 47 (ay s)))⟩,
   !((cut 47 (ay s)).dropLast ++ [gW (bG (cut 47 (ay s)))]).any nt && (!nt (fk (bG (cut 47 (ay s)))) && !bp (gW (bG (cut 47 (ay s))))))
 else (⟨dI s,cut 47 (ay s),[]⟩,!(cut 47 (ay s)).any nt)
def dL (s : Bs) : Int:=if s = [] then 0 else am s
def ut (s : Bs) : Int:=aI [if (ci s).2 = true then 0 else 7,aI ((ci s).1.parts.map aF),dL (ci s).1.stream,if (ci s).1.parts.length <= 16 then 0 else 8]
def tA (s : Bs) : PP × Int:=
 if 200 < s.length then (fz,8) else if ut s = 0 then ((ci s).1,0) else (fz,ut s)
theorem yZ {c : UInt8} : ∀ {s : Bs} {j : Nat} (h : j < s.length),s[j] = c -> s.idxOf c <= j
 | x :: s,0,h,e=>by
  simp only [List.getElem_cons_zero] at e
  simp [List.idxOf_cons,e]
 | x :: s,j + 1,h,e=>by
  simp only [List.getElem_cons_succ] at e
  have ih:=yZ (s:=s) (j:=j) (by simpa using h) e
  rw [List.idxOf_cons]
  cases x == c<;>simp<;>omega
theorem nw {c : UInt8} {s : Bs} (h : c ∈ s) : cut c s = s.take (s.idxOf c) :: cut c (s.drop (s.idxOf c + 1)):=by
 have hi:=List.idxOf_lt_length_iff.2 h
 have e : s = s.take (s.idxOf c) ++ c :: s.drop (s.idxOf c + 1):=by
  conv=>lhs;rw [<- List.take_append_drop (s.idxOf c) s]
  rw [List.drop_eq_getElem_cons hi,List.getElem_idxOf]
 have hn : c ∉ s.take (s.idxOf c):=by
  intro m
  obtain ⟨j,hj,ej⟩:=List.getElem_of_mem m
  simp only [List.length_take] at hj
  rw [List.getElem_take] at ej
  have hj2 : j < s.length:=by omega
  have h1 : s.idxOf c <= j:=yZ hj2 ej
  omega
 conv=>lhs;rw [e]
 exact wB _ hn
theorem Cf (l : List Bs) : bo l = !l.any nt:=by
 unfold bo nt
 induction l with
 | nil=>rfl
 | cons x l ih=>simp only [List.all_cons,List.any_cons,ih,Bool.not_or]
theorem GO (l : List Int) : aI (0 :: l) = aI l:=rfl
theorem Af {s : Bs} (hr : ay s ≠ []) (hc : (bG (cut 47 (ay s))).contains 58 = true) : ci s =
  (⟨dI s,(cut 47 (ay s)).dropLast ++ [gW (bG (cut 47 (ay s)))],fk (bG (cut 47 (ay s)))⟩,
   !((cut 47 (ay s)).dropLast ++ [gW (bG (cut 47 (ay s)))]).any nt && (!nt (fk (bG (cut 47 (ay s)))) && !bp (gW (bG (cut 47 (ay s)))))):=by
 unfold ci;rw [if_neg hr,if_pos hc]
theorem Ag {s : Bs} (hr : ay s ≠ []) (hc : ¬ (bG (cut 47 (ay s))).contains 58 = true) : ci s = (⟨dI s,cut 47 (ay s),[]⟩,!(cut 47 (ay s)).any nt):=by
 unfold ci;rw [if_neg hr,if_neg hc]
theorem tB (s : Bs) : tA s = aj s:=by
 unfold tA aj
 by_cases h1 : 200 < s.length
 ·rw [if_pos h1,if_pos h1]
 rw [if_neg h1,if_neg h1]
 by_cases h2 : s = []
 ·subst h2;rfl
 rw [if_neg h2]
 by_cases h3 : s = [47]
 ·subst h3;rfl
 rw [if_neg h3]
 have hr : ay s ≠ []:=by
  intro e
  have:=tH s
  rw [e] at this
  unfold dI at this
  split at this
  ·exact h3 this.symm
  ·exact h2 this.symm
 have hne:=bv 47 (ay s)
 have key : ∀ (ok : Bool) (p : PP),ci s = (p,ok) -> p.abs = dI s -> ((if ut s = 0 then ((ci s).1,0) else (fz,ut s)) = if ok = false then (fz,(7 : Int)) else if cP p.parts p.stream ≠ 0 then (fz,cP p.parts p.stream) else (⟨dI s,p.parts,p.stream⟩,0)):=by
  intro ok p e ha
  unfold ut
  rw [e]
  cases ok with
  | false=>rfl
  | true=>
   simp only [if_true,GO,Bool.true_eq_false,if_false]
   have e2 : aI [aI (p.parts.map aF),dL p.stream,if p.parts.length <= 16 then 0 else 8] = cP p.parts p.stream:=by
    unfold cP dL
    by_cases hl : p.parts.length <= 16
    ·rw [if_pos hl,if_neg (show ¬ 16 < p.parts.length by omega)]
    ·rw [if_neg hl,if_pos (show 16 < p.parts.length by omega)]
   rw [e2]
   by_cases h0 : cP p.parts p.stream = 0
   ·rw [if_pos h0,if_neg (fun h=>h h0),<- ha]
   ·rw [if_neg h0,if_pos h0]
 by_cases hc : 58 ∈ bG (cut 47 (ay s))
 ·have hcc : (bG (cut 47 (ay s))).contains 58 = true:=by simpa using hc
  rw [key _ _ (Af hr hcc) rfl]
  unfold gO
  rw [show (cut 47 (ay s)).getLastD [] = bG (cut 47 (ay s)) from rfl,nw hc]
  by_cases h5 : 58 ∈ fk (bG (cut 47 (ay s)))
  ·have hb : nt (fk (bG (cut 47 (ay s)))) = true:=by unfold nt;simp [h5]
   rw [hb]
   rw [show List.drop (List.idxOf 58 (bG (cut 47 (ay s))) + 1) (bG (cut 47 (ay s))) = fk (bG (cut 47 (ay s))) from rfl,nw h5]
   cases h6 : cut 58 (List.drop (List.idxOf 58 (fk (bG (cut 47 (ay s)))) + 1) (fk (bG (cut 47 (ay s))))) with
   | nil=>exact absurd h6 (bv _ _)
   | cons x l=>simp
  ·rw [show List.drop (List.idxOf 58 (bG (cut 47 (ay s))) + 1) (bG (cut 47 (ay s))) = fk (bG (cut 47 (ay s))) from rfl,iA h5]
   rw [show List.take (List.idxOf 58 (bG (cut 47 (ay s)))) (bG (cut 47 (ay s))) = gW (bG (cut 47 (ay s))) from rfl]
   generalize fk (bG (cut 47 (ay s))) = t at *
   generalize gW (bG (cut 47 (ay s))) = a at *
   have hb : nt t = decide (t = []):=by unfold nt;simp [h5]
   rw [hb]
   by_cases h7 : bp a = true \/ t = []
   ·simp only [if_pos h7]
    have : (!decide (t = []) && !bp a) = false:=by rcases h7 with h | h<;>simp [h]
    rw [this];simp
   ·simp only [if_neg h7]
    have : (!decide (t = []) && !bp a) = true:=by
     have h8 : t ≠ []:=fun h=>h7 (.inr h)
     have h9 : bp a = false:=by cases h : bp a<;>simp_all
     simp [h8,h9]
    rw [this,Bool.and_true,<- Cf]
 ·have hcc : ¬ (bG (cut 47 (ay s))).contains 58 = true:=by simpa using hc
  rw [key _ _ (Ag hr hcc) rfl]
  unfold gO
  rw [show (cut 47 (ay s)).getLastD [] = bG (cut 47 (ay s)) from rfl,iA hc]
  simp only [<- Cf]
end Paths
namespace Paths
def jl (s : Bs) : List Bs:=(aj s).1.parts
def LY (filter action : Int) : Bool:=!decide (filter.tdiv action % 2 = 0)
def HZ (a b : List Bs) : Bool:=decide (a.map bi = (b.take a.length).map bi)
def below (wp : Bs) (deep : Bool) (filter : Int) (action : Int) (path : Bs) : Bs × Bool:=
 if LY filter action = false \/ (jl path).length <= (jl wp).length \/ (deep = false /\ (jl wp).length + 1 < (jl path).length) then ([],false)
 else if HZ (jl wp) (jl path) = true then (glue 47 ((jl path).drop (jl wp).length),true) else ([],false)
theorem Ai {out : List Bs} {s : Bs} (h : ∀ x ∈ out,bp x = false) : ∀ x ∈ bb true out s,bp x = false:=by
 intro x hx
 unfold bb at hx
 split at hx
 ·exact h x hx
 ·rename_i h1
  split at hx
  ·rename_i h2
   rcases List.mem_append.1 hx with hx | hx
   ·exact h x hx
   ·rw [List.mem_singleton] at hx;subst hx
    unfold bp;simp [h1,h2]
  ·split at hx
   ·exact h x ((List.dropLast_sublist out).mem hx)
   ·rw [if_pos rfl] at hx;exact h x hx
end Paths
section
open Go Go.Shelf
def qH : Go.Shelf.Ren:=⟨fun | 156=>68 | 165=>133 | 166=>134 | 169=>135 | 240=>216 | 241=>217 | 276=>259 | 277=>260 | n=>n,fun | 31=>51 | 9=>9 | 3=>3 | 4=>4 | 0=>0 | 20=>20 | 72=>196 | 76=>200 | 70=>193 | 37=>194 | 75=>199 | 127=>260 | 164=>296 | 5=>5 | 80=>202 | n=>n,fun | n=>n⟩
theorem C9 : Go.Proofs.Lays.n156 Tryz.prog qH:={
 mixed:=by kernel_rfl
 f156:=Tryz.func68.trans (congrArg some (by kernel_rfl))
 f165:=Tryz.func133.trans (congrArg some (by kernel_rfl))
 f166:=Tryz.func134.trans (congrArg some (by kernel_rfl))
 f169:=Tryz.func135.trans (congrArg some (by kernel_rfl))
 f240:=Tryz.func216.trans (congrArg some (by kernel_rfl))
 f241:=Tryz.func217.trans (congrArg some (by kernel_rfl))
 f276:=Tryz.func259.trans (congrArg some (by kernel_rfl))
 f277:=Tryz.func260.trans (congrArg some (by kernel_rfl))
 t0:=Tryz.underlying0
 a0:=Tryz.isAgg0
 z0:=Tryz.sizeOf0
 v0:=Tryz.zeroValue0
 t3:=Tryz.underlying3
 a3:=Tryz.isAgg3
 z3:=Tryz.sizeOf3
 v3:=Tryz.zeroValue3
 t4:=Tryz.underlying4
 a4:=Tryz.isAgg4
 z4:=Tryz.sizeOf4
 v4:=Tryz.zeroValue4
 t9:=Tryz.underlying9
 a9:=Tryz.isAgg9
 z9:=Tryz.sizeOf9
 v9:=Tryz.zeroValue9
 t20:=Tryz.underlying20
 a20:=Tryz.isAgg20
 z20:=Tryz.sizeOf20
 v20:=Tryz.zeroValue20
 t31:=Tryz.underlying51
 a31:=Tryz.isAgg51
 z31:=Tryz.sizeOf51
 v31:=Tryz.zeroValue51
 t37:=Tryz.underlying194
 a37:=Tryz.isAgg194
 z37:=Tryz.sizeOf194
 v37:=Tryz.zeroValue194
 t70:=Tryz.underlying193
 a70:=Tryz.isAgg193
 z70:=Tryz.sizeOf193
 v70:=Tryz.zeroValue193
 t72:=Tryz.underlying196
 a72:=Tryz.isAgg196
 z72:=Tryz.sizeOf196
 v72:=Tryz.zeroValue196
 t75:=Tryz.underlying199
 a75:=Tryz.isAgg199
 z75:=Tryz.sizeOf199
 v75:=Tryz.zeroValue199
 t76:=Tryz.underlying200
 a76:=Tryz.isAgg200
 z76:=Tryz.sizeOf200
 v76:=Tryz.zeroValue200
 t127:=Tryz.underlying260
 a127:=Tryz.isAgg260
 z127:=Tryz.sizeOf260
 v127:=Tryz.zeroValue260
 t164:=Tryz.underlying296
 a164:=Tryz.isAgg296
 z164:=Tryz.sizeOf296
 v164:=Tryz.zeroValue296 }
theorem rV : Builder.Extra Tryz.prog qH:={
 sizeBuilder:=by kernel_rfl
 liesBuilder:=by kernel_rfl
 t5:=Tryz.underlying5
 a5:=Tryz.isAgg5
 z5:=Tryz.sizeOf5
 v5:=Tryz.zeroValue5
 infoByte:=by kernel_rfl
 cellsByte:=by kernel_rfl
 sizeByte:=by kernel_rfl
 neB5:=by decide }
def zf : Go.Shelf.Ren:=⟨fun | 190=>63 | 125=>122 | 258=>121 | 128=>206 | 129=>207 | 302=>197 | 303=>198 | 304=>199 | 305=>200 | 306=>201 | 307=>202 | 308=>203 | 309=>204 | 310=>205 | 333=>246 | 329=>247 | 330=>248 | 334=>249 | 335=>250 | 336=>251 | 344=>279 | n=>n,fun | 31=>51 | 9=>9 | 3=>3 | 46=>182 | 0=>0 | 51=>254 | 53=>256 | 4=>4 | 183=>247 | 182=>246 | 131=>251 | 5=>5 | 218=>287 | 222=>291 | 228=>312 | 229=>105 | n=>n,fun | n=>n⟩
theorem Db : Go.Proofs.Lays.n190 Tryz.prog zf:={
 mixed:=by kernel_rfl
 f125:=Tryz.func122.trans (congrArg some (by kernel_rfl))
 f128:=Tryz.func206.trans (congrArg some (by kernel_rfl))
 f129:=Tryz.func207.trans (congrArg some (by kernel_rfl))
 f190:=Tryz.func63.trans (congrArg some (by kernel_rfl))
 f258:=Tryz.func121.trans (congrArg some (by kernel_rfl))
 f302:=Tryz.func197.trans (congrArg some (by kernel_rfl))
 f303:=Tryz.func198.trans (congrArg some (by kernel_rfl))
 f304:=Tryz.func199.trans (congrArg some (by kernel_rfl))
 f305:=Tryz.func200.trans (congrArg some (by kernel_rfl))
 f306:=Tryz.func201.trans (congrArg some (by kernel_rfl))
 f307:=Tryz.func202.trans (congrArg some (by kernel_rfl))
 f308:=Tryz.func203.trans (congrArg some (by kernel_rfl))
 f309:=Tryz.func204.trans (congrArg some (by kernel_rfl))
 f310:=Tryz.func205.trans (congrArg some (by kernel_rfl))
 f329:=Tryz.func247.trans (congrArg some (by kernel_rfl))
 f330:=Tryz.func248.trans (congrArg some (by kernel_rfl))
 f333:=Tryz.func246.trans (congrArg some (by kernel_rfl))
 f334:=Tryz.func249.trans (congrArg some (by kernel_rfl))
 f335:=Tryz.func250.trans (congrArg some (by kernel_rfl))
 f336:=Tryz.func251.trans (congrArg some (by kernel_rfl))
 f344:=Tryz.func279.trans (congrArg some (by kernel_rfl))
 t0:=Tryz.underlying0
 a0:=Tryz.isAgg0
 z0:=Tryz.sizeOf0
 v0:=Tryz.zeroValue0
 t3:=Tryz.underlying3
 a3:=Tryz.isAgg3
 z3:=Tryz.sizeOf3
 v3:=Tryz.zeroValue3
 t4:=Tryz.underlying4
 a4:=Tryz.isAgg4
 z4:=Tryz.sizeOf4
 v4:=Tryz.zeroValue4
 t5:=Tryz.underlying5
 a5:=Tryz.isAgg5
 z5:=Tryz.sizeOf5
 v5:=Tryz.zeroValue5
 t9:=Tryz.underlying9
 a9:=Tryz.isAgg9
 z9:=Tryz.sizeOf9
 v9:=Tryz.zeroValue9
 t31:=Tryz.underlying51
 a31:=Tryz.isAgg51
 z31:=Tryz.sizeOf51
 v31:=Tryz.zeroValue51
 t46:=Tryz.underlying182
 a46:=Tryz.isAgg182
 z46:=Tryz.sizeOf182
 v46:=Tryz.zeroValue182
 t51:=Tryz.underlying254
 a51:=Tryz.isAgg254
 z51:=Tryz.sizeOf254
 v51:=Tryz.zeroValue254
 t53:=Tryz.underlying256
 a53:=Tryz.isAgg256
 z53:=Tryz.sizeOf256
 v53:=Tryz.zeroValue256
 t131:=Tryz.underlying251
 a131:=Tryz.isAgg251
 z131:=Tryz.sizeOf251
 v131:=Tryz.zeroValue251
 t182:=Tryz.underlying246
 a182:=Tryz.isAgg246
 z182:=Tryz.sizeOf246
 v182:=Tryz.zeroValue246
 t183:=Tryz.underlying247
 a183:=Tryz.isAgg247
 z183:=Tryz.sizeOf247
 v183:=Tryz.zeroValue247
 t218:=Tryz.underlying287
 a218:=Tryz.isAgg287
 z218:=Tryz.sizeOf287
 v218:=Tryz.zeroValue287
 t222:=Tryz.underlying291
 a222:=Tryz.isAgg291
 z222:=Tryz.sizeOf291
 v222:=Tryz.zeroValue291
 t228:=Tryz.underlying312
 a228:=Tryz.isAgg312
 z228:=Tryz.sizeOf312
 v228:=Tryz.zeroValue312
 t229:=Tryz.underlying105
 a229:=Tryz.isAgg105
 z229:=Tryz.sizeOf105
 v229:=Tryz.zeroValue105 }
open Dw Go.RowKit
set_option maxRecDepth 100000
theorem Gz : ∀ vs w,(callFunc 68 vs).run Tryz.prog w = .ok (.enter 68 vs) w:=enters_of Tryz.func68 (by kernel_rfl) rfl
theorem qd (c : UInt8) : ∀ xs : List Bs,Lib.join xs [c] = Paths.glue c xs
 | []=>rfl
 | [x]=>Lib.join_one x [c]
 | x :: y :: r=>by
  have ih:=qd c (y :: r)
  rw [Lib.join_cons,Lib.joinTail] at ih ⊢
  rw [Paths.glue,<- ih];simp
theorem T8 (st : List Bs) (c : UInt8) (h1 : st.length <= 2000000) (h2 : (Paths.glue c st).length <= 100000000) : Fn 68 [.fs (st.map .str),.str [c]] (.str (Paths.glue c st)):=by
 refine vK Gz fun B W w s vs hw ha=>?_
 simp only [List.map_cons,List.map_nil,cS,aC,cC,AV.isAgg] at ha
 obtain ⟨v,r,us,rfl,hv,⟨a,k0,rfl,hc,hmem⟩,v2,r2,us2,rfl,hv2,rfl,rfl⟩:=ha
 simp only [Bool.false_eq_true,if_false,List.cons.injEq,and_true] at hv hv2
 subst hv;subst hv2
 refine ⟨.string ⟨(Paths.glue c st).toArray⟩,fun w'=>⟨[.string ⟨(Paths.glue c st).toArray⟩],rfl,rfl⟩,?_⟩
 rw [List.length_map] at hc ⊢
 cases hst : st with
 | nil=>
  subst hst
  refine (Any.strings_Join_none C9 rV a k0 ⟨#[c]⟩ w).mono ?_
  rintro e w' ⟨h,rfl⟩
  exact ⟨h,Below.refl _ _⟩
 | cons x0 r0=>
  obtain ⟨b,o,k,rfl,hS,hk,hels⟩:=hmem (by rw [hst];simp)
  rw [eV] at hels
  have hk1 : k = 1:=by
   obtain ⟨us,e1,e2,_⟩:=hels 0 (.str x0) (by rw [hst];rfl)
   simp only [cC] at e2
   rw [e2] at e1;simp at e1;exact e1.symm
  subst hk1
  have hxs : (st.map fun s=>(⟨s.toArray⟩ : ByteArray)).map (fun z=>z.data.toList) = st:=by
   rw [List.map_map];simp [Function.comp_def]
  have:=Any.strings_Join C9 rV b o k0 (st.map fun s=>(⟨s.toArray⟩ : ByteArray)) ⟨#[c]⟩ w (fun j x hx=>by
   rw [List.getElem?_map] at hx
   cases hj : st[j]? with
   | none=>rw [hj] at hx;cases hx
   | some y=>
    rw [hj] at hx;cases hx
    obtain ⟨us,_,e2,e3⟩:=hels j (.str y) (by rw [List.getElem?_map,hj];rfl)
    simp only [cC] at e2
    subst e2
    rw [Nat.mul_one] at e3
    exact e3.1) (hw.stab b hS) (by rw [List.length_map];omega) (by rw [List.length_map];exact hc) (by
     rw [hxs]
     have : (⟨#[c]⟩ : ByteArray).data.toList = [c]:=rfl
     rw [this,qd];omega)
  rw [hxs,List.length_map] at this
  have e0 : (⟨#[c]⟩ : ByteArray).data.toList = [c]:=rfl
  rw [e0,qd] at this
  rw [<- hst]
  exact this
def iN (l : List Bs) : List Bs:=l.mergeSort fun x y=>decide (x <= y)
theorem pp (l : List Bs) : (iN l).length = l.length:=List.length_mergeSort _
theorem Fr : iN [] = []:=by simp [iN]
theorem vP (x : Bs) : iN [x] = [x]:=by simp [iN]
theorem yB : ∀ vs w,(callFunc 63 vs).run Tryz.prog w = .ok (.enter 63 vs) w:=enters_of Tryz.func63 (by kernel_rfl) rfl
theorem UT (l : List Bs) (h0 : l ≠ []) (hl : l.length < 2000000) (c : Option Nat) (bJ : List AV) :
  bn Tryz.prog 63 [.sl 0 0 l.length 1 c] [{ elems:=l.map (fun x=>.d (.str x)) ++ bJ,k:=1,st:=0 }] (.tup []) [{ elems:=(iN l).map (fun x=>.d (.str x)) ++ bJ,k:=1,st:=0 }]:=
 Fj encStr D.str (fun _ _ x us=>ML x us) yB l (iN l) (pp l) h0 (fun blk off cap w hH hb=>Any.slices_Sort_string Db blk off cap l w hH hb (by omega)) c bJ
theorem SU : bn Tryz.prog 63 [.sl 0 0 0 1 none] [⟨[],1,0⟩] (.tup []) [⟨[],1,0⟩]:=
 vK yB fun B W w s vs hw ha=>by
  simp only [cS] at ha
  obtain ⟨v,r,us,rfl,h2,h3,rfl⟩:=ha
  obtain ⟨a,c,rfl,_⟩:=eT.1 ⟨us,h2,h3⟩
  refine ⟨.tuple #[],fun w'=>cw rfl (by simp [aC,cS]),(Any.slices_Sort_string_none Db a c w).mono ?_⟩
  rintro e w' ⟨h,rfl⟩
  exact ⟨h,Below.refl _ _⟩
theorem Oq (l : List Bs) (hl : l.length < 2000000) : bn Tryz.prog 63 (.sl 0 0 l.length 1 none :: ([] : List D).map .d) [⟨(l.map D.str).map .d,1,0⟩] (.tup []) [⟨((iN l).map D.str).map .d,1,0⟩]:=by
 by_cases h0 : l = []
 ·subst h0;rw [Fr];exact SU
 ·have:=UT l h0 hl none []
  simpa [List.map_map,Function.comp_def] using this
end
section
set_option maxRecDepth 10000
def OX : List D -> Option D
 | [.str s,.int .u8 c]=>GX (Lib.indexByte s c.toNat.toUInt8) fun n=>some (i n)
 | _=>none
def OW : List D -> Option D
 | [.str s,.int .u8 c]=>I7 (Lib.countByte s c.toNat.toUInt8) fun n=>some (i n)
 | _=>none
def t7 : List D -> Option (List Bs)
 | []=>some []
 | .str s :: l=>(match t7 l with
  | some r=>some (s :: r)
  | none=>none)
 | _=>none
theorem vS : ∀ {l : List D} {r : List Bs},t7 l = some r -> l = r.map .str
 | [],r,h=>by simp only [t7,Option.some.injEq] at h;subst h;rfl
 | x :: l,r,h=>by
  cases x<;>simp only [t7,reduceCtorEq] at h
  split at h
  ·rename_i r' hr;cases h;rw [vS hr];rfl
  ·cases h
def Ui : List D -> Option D
 | [.fs l,.str [c]]=>(match t7 l with
  | some r=>if decide (r.length <= 100000 /\ (Paths.glue c r).length <= 100000) then some (.str (Paths.glue c r)) else none
  | none=>none)
 | _=>none
def jk (f : Nat) : Option M0:=if Nat.beq f 311 then some (.fn OX) else if Nat.beq f 282 then some (.fn OW) else if Nat.beq f 68 then some (.fn Ui) else none
theorem gV : B6 Tryz.prog jk:=by
 intro f o h
 unfold jk at h
 split at h
 ·rename_i h1;cases h;rw [Nat.eq_of_beq_eq_true h1]
  intro xs y e
  unfold OX at e
  split at e
  ·rw [wW] at e;cases e;exact Oe _ _
  ·cases e
 split at h
 ·rename_i h1;cases h;rw [Nat.eq_of_beq_eq_true h1]
  intro xs y e
  unfold OW at e
  split at e
  ·rw [CT] at e;cases e;exact Oc _ _
  ·cases e
 split at h
 ·rename_i h1;cases h;rw [Nat.eq_of_beq_eq_true h1]
  intro xs y e
  unfold Ui at e
  split at e
  ·split at e
   ·rename_i r hr
    split at e
    ·rename_i h2;cases e;rw [vS hr]
     have:=of_decide_eq_true h2
     exact T8 r _ (by omega) (by omega)
    ·cases e
   ·cases e
  ·cases e
 ·cases h
theorem d7 : Tryz.prog.funcs.toList.all (fun fn => !(fn.name == "runtime.NumGoroutine")) = true := by kernel_rfl
end
section
set_option maxRecDepth 10000
attribute [local irreducible] bn
set_option maxHeartbeats 4000000
open Paths
abbrev u8 (b : UInt8) : D:=.int .u8 b.toNat
def ar (n lo hi : Int) : Bool:=decide (lo <= n) && decide (n <= hi)
theorem fX : aI [] = 0:=rfl
theorem ce (e : Int) (l : List Int) : aI (e :: l) = if e = 0 then aI l else e:=rfl
theorem ja (l : List Int) (k : Nat) (h : k < l.length) : aI (l.drop k) = if l[k] = 0 then aI (l.drop (k + 1)) else l[k]:=by
 rw [List.drop_eq_getElem_cons h];rfl
theorem kz (c : UInt8) : ∀ s : Bs,Lib.indexByte s c = if c ∈ s then (s.idxOf c : Int) else -1
 | []=>rfl
 | b :: s=>by
  have ih:=kz c s
  rw [Lib.indexByte,ih,List.idxOf_cons]
  by_cases h : b = c
  ·subst h;simp
  ·have h2 : (b == c) = false:=by simp [h]
   rw [h2]
   simp only [Bool.false_eq_true,if_false,cond_false]
   by_cases h3 : c ∈ s
   ·have h4 : c ∈ b :: s:=by simp [h3]
    have h5 : ((s.idxOf c : Int) == -1) = false:=by rw [beq_eq_false_iff_ne];omega
    rw [if_pos h3,if_pos h4,h5];rfl
   ·have h4 : ¬ c ∈ b :: s:=by
     intro m
     rcases List.mem_cons.1 m with m | m
     ·exact h m.symm
     ·exact h3 m
    rw [if_neg h3,if_neg h4];rfl
def mX : Bs -> Nat -> Int
 | [],_=>-1
 | b :: l,k=>if bD b = true then mX l (k + 1) else (k : Int)
theorem rS {l : Bs} {k : Nat} (h : k < l.length) : mX (l.drop k) k = if bD l[k] = true then mX (l.drop (k + 1)) (k + 1) else (k : Int):=by
 rw [List.drop_eq_getElem_cons h];rfl
theorem D0 {l : Bs} {k : Nat} (h : l.length <= k) : mX (l.drop k) k = -1:=by
 rw [List.drop_eq_nil_of_le h];rfl
theorem uI : ∀ (l : Bs) (k : Nat),(!decide (0 <= mX l k)) = l.all bD
 | [],k=>rfl
 | b :: l,k=>by
  have ih:=uI l (k + 1)
  rw [mX,List.all_cons,<- ih]
  by_cases h : bD b = true
  ·rw [if_pos h,h,Bool.true_and]
  ·rw [if_neg h];simp [h]
theorem ve (b : UInt8) : bD b = (decide ((32 : Int) <= b.toNat) && (decide ((b.toNat : Int) <= 126) && decide (Lib.indexByte jm (b.toNat : Int).toNat.toUInt8 < 0))):=by
 rw [show (b.toNat : Int).toNat.toUInt8 = b by simp,kz]
 unfold bD
 rw [<- Bool.and_assoc]
 congr 1
 ·congr 1<;>rw [decide_eq_decide]<;>omega
 ·by_cases h : b ∈ jm
  ·rw [if_pos h];simp [h]
  ·rw [if_neg h];simp [h]
def s6 (s : Bs) : Bool:=!decide (s = []) && (decide (s.length <= 32) && (s.all bD && (!decide (s = [46,46]) && (!decide (s.getLast? = some 32) && !decide (s.getLast? = some 46)))))
theorem BD (s : Bs) : am s = aI [if decide (s.length <= 32) = true then 0 else 8,if s6 s = true then 0 else 4]:=by
 unfold am s6
 simp only [ce,fX,decide_eq_true_eq]
 by_cases h : 32 < s.length
 ·have h' : ¬ s.length <= 32:=by omega
  simp [h,h']
 ·have h' : s.length <= 32:=by omega
  rw [if_neg h, if_pos h', if_pos rfl]
  by_cases h1 : s = []
  ·subst h1;simp
  ·by_cases h2 : s = [46]
   ·subst h2;decide
   ·by_cases h3 : s = [46,46]
    ·subst h3;decide
    ·by_cases h4 : s.getLast? = some 32
     ·simp [h4]
     ·by_cases h5 : s.getLast? = some 46
      ·simp [h5]
      ·have hd : bp s = false:=by unfold bp;simp [h2,h3]
       cases ha : s.all bD<;>simp [h1,hd,h3,h4,h5,h']
theorem J1 (s : Bs) (c : UInt8) (h : 1 <= s.length) : decide (s.drop (s.length - 1) = [c]) = decide (s.getLast? = some c):=by
 rw [decide_eq_decide]
 rcases List.eq_nil_or_concat s with rfl | ⟨l,x,rfl⟩
 ·simp at h
 ·simp
attribute [local irreducible] s6 am
theorem Cu (n lo hi : Int) : Fn 10 [i n,i lo,i hi] (.bool (ar n lo hi)):=by
 refine ac aZ Tryz.func10 rfl (by kernel_rfl) ?_
 conv=>whnf
 repeat' (first
 | ((with_reducible refine aB (fun h=>?_) (fun h=>?_))<;>(try simp only [List.length_map] at h)<;>conv=>whnf)
 | ((with_reducible refine ag ?_);first | (exact aD (congrArg D.bool (by simp [ar, *]));done))
  | fail
  )
theorem Ip (a : Bool) (e : Int) : Fn 39 [.bool a,i e] (i (if a then 0 else e)):=by
 refine ac aZ Tryz.func39 rfl (by kernel_rfl) ?_
 conv=>whnf
 repeat' (first
 | ((with_reducible refine ao (fun h=>?_) (fun h=>?_))<;>conv=>whnf)
 | ((with_reducible refine ag ?_);first | (exact aD (congrArg i (by simp [h]));done))
  | fail
  )
theorem RN (a : Bool) (e : Int) : Fn 214 [.bool a,i e] (i (if a then 0 else e)):=by
 refine ac aZ Tryz.func214 rfl (by kernel_rfl) ?_
 conv=>whnf
 repeat' (first
 | ((with_reducible refine ao (fun h=>?_) (fun h=>?_))<;>conv=>whnf)
 | ((with_reducible refine ag ?_);first | (exact aD (congrArg i (by simp [h]));done))
  | fail
  )
theorem Cw (l : List Int) (hl : l.length < 2000000) : Fn 29 [.fs (l.map i)] (i (aI l)):=by
 refine ac aZ Tryz.func29 rfl (by kernel_rfl) ?_
 conv=>whnf
 repeat' (first
 | ((with_reducible refine aB (fun h=>?_) (fun h=>?_))<;>(try simp only [List.length_map] at h)<;>conv=>whnf)
 | ((with_reducible refine bu (fun h=>?_) (fun h=>?_))<;>(try simp only [List.length_map] at h)<;>conv=>whnf)
 | ((with_reducible refine aO ?_);first | (refine bh (fun (k : Nat)=>l.length - k) (fun (k : Nat)=>k <= l.length /\ aI l = aI (l.drop k)) (fun (k : Nat)=>[(5,.d (.fs (l.map i))),(6,.d (i l.length)),(7,.d (i k))]) (fun (k : Nat)=>[]) (0) (by first | (simp;done) ) ?_ (fun k C hI hC=>?_);(exact ⟨[],rfl,rfl,⟨rfl,(by first | exact congrArg (D.int .i64) (by simp only [List.length_map]) ),(by first | exact congrArg (D.int .i64) (by omega) ),trivial⟩,trivial⟩);all_goals (conv=>whnf)))
 | ((with_reducible show C _ _);first | (refine hC (k + 1) _ _ ?_ (by omega) ?_;clear hC;rotate_left;(exact ⟨[],rfl,rfl,⟨rfl,rfl,(by first | exact congrArg (D.int .i64) (by omega) ),trivial⟩,trivial⟩);(exact ⟨by omega,by rw [hI.2,ja _ _ (by omega),if_pos h]⟩)))
 | (refine bf (by omega) ?_;conv=>whnf)
 | (refine ax (by omega) ?_;conv=>whnf)
 | ((with_reducible refine ag ?_);first | (exact aD (congrArg i (by rw [hI.2,ja _ _ (by omega),if_neg h]));done) | (exact aD (congrArg i (by rw [hI.2,List.drop_eq_nil_of_le (by omega),fX]));done))
  | fail
  )
theorem RM (l : List Int) (hl : l.length < 2000000) : Fn 213 [.fs (l.map i)] (i (aI l)):=by
 refine ac aZ Tryz.func213 rfl (by kernel_rfl) ?_
 conv=>whnf
 repeat' (first
 | ((with_reducible refine aB (fun h=>?_) (fun h=>?_))<;>(try simp only [List.length_map] at h)<;>conv=>whnf)
 | ((with_reducible refine bu (fun h=>?_) (fun h=>?_))<;>(try simp only [List.length_map] at h)<;>conv=>whnf)
 | ((with_reducible refine aO ?_);first | (refine bh (fun (k : Nat)=>l.length - k) (fun (k : Nat)=>k <= l.length /\ aI l = aI (l.drop k)) (fun (k : Nat)=>[(5,.d (.fs (l.map i))),(6,.d (i l.length)),(7,.d (i k))]) (fun (k : Nat)=>[]) (0) (by first | (simp;done) ) ?_ (fun k C hI hC=>?_);(exact ⟨[],rfl,rfl,⟨rfl,(by first | exact congrArg (D.int .i64) (by simp only [List.length_map]) ),(by first | exact congrArg (D.int .i64) (by omega) ),trivial⟩,trivial⟩);all_goals (conv=>whnf)))
 | ((with_reducible show C _ _);first | (refine hC (k + 1) _ _ ?_ (by omega) ?_;clear hC;rotate_left;(exact ⟨[],rfl,rfl,⟨rfl,rfl,(by first | exact congrArg (D.int .i64) (by omega) ),trivial⟩,trivial⟩);(exact ⟨by omega,by rw [hI.2,ja _ _ (by omega),if_pos h]⟩)))
 | (refine bf (by omega) ?_;conv=>whnf)
 | (refine ax (by omega) ?_;conv=>whnf)
 | ((with_reducible refine ag ?_);first | (exact aD (congrArg i (by rw [hI.2,ja _ _ (by omega),if_neg h]));done) | (exact aD (congrArg i (by rw [hI.2,List.drop_eq_nil_of_le (by omega),fX]));done))
  | fail
  )
theorem Od (s : Bs) (c : Int) : Fn 283 [.str s,.int .u8 c] (i (Lib.indexByte s c.toNat.toUInt8)):=by
 refine ac aZ Tryz.func283 rfl (by kernel_rfl) ?_
 conv=>whnf
 repeat' (first
 | ((with_reducible refine ak ?_);(first | refine aa (ah (Oe _ _) rfl rfl) ?_);conv=>whnf)
 | ((with_reducible refine ag ?_);first | (exact aD rfl;done))
  | fail
  )
theorem Sl (s : Bs) (c : Int) : Fn 289 [.str s,.int .u8 c] (i (Lib.indexByte s c.toNat.toUInt8)):=by
 refine ac aZ Tryz.func289 rfl (by kernel_rfl) ?_
 conv=>whnf
 repeat' (first
 | ((with_reducible refine ak ?_);(first | refine aa (ah (Od _ _) rfl rfl) ?_);conv=>whnf)
 | ((with_reducible refine ag ?_);first | (exact aD rfl;done))
  | fail
  )
theorem R1 (b : UInt8) : Fn 257 [u8 b] (.bool (bD b)):=by
 refine ac aZ Tryz.func257 rfl (by kernel_rfl) ?_
 conv=>whnf
 repeat' (first
 | ((with_reducible refine aB (fun h=>?_) (fun h=>?_))<;>(try simp only [List.length_map] at h)<;>conv=>whnf)
 | ((with_reducible refine ak ?_);(first | refine aa (ah (Sl _ _) rfl rfl) ?_);conv=>whnf)
 | ((with_reducible refine ag ?_);first | (refine aD (congrArg D.bool ?_);rw [ve];simp_all [jm];done;done) | (refine aD (congrArg D.bool ?_);rw [ve];simp_all [jm];intros;omega;done))
  | fail
  )
theorem Sk (b : UInt8) : Fn 288 [u8 b,.fp (.fn 257 [] []) 0] (.bool (!bD b)):=by
 refine ac aZ Tryz.func288 rfl (by kernel_rfl) ?_
 conv=>whnf
 repeat' (first
 | ((with_reducible refine ak ?_);(first | refine aa (ah (R1 _) rfl rfl) ?_);conv=>whnf)
 | ((with_reducible refine ag ?_);first | (exact aD rfl;done))
  | fail
  )
theorem Ss (s : Bs) (hs : s.length < 2000000) : Fn 313 [.fs (s.map u8),.fn 288 [] [.fp (.fn 257 [] []) 0]] (i (mX s 0)):=by
 refine ac aZ Tryz.func313 rfl (by kernel_rfl) ?_
 conv=>whnf
 repeat' (first
 | ((with_reducible refine aB (fun h=>?_) (fun h=>?_))<;>(try simp only [List.length_map] at h)<;>conv=>whnf)
 | ((with_reducible refine dj (fun h=>?_) (fun h=>?_))<;>conv=>whnf)
 | ((with_reducible refine ak ?_);(first | refine aa (ah (Sk _) rfl rfl) ?_);conv=>whnf)
 | ((with_reducible refine aO ?_);first | (refine bh (fun (k : Nat)=>s.length - k) (fun (k : Nat)=>k <= s.length /\ mX s 0 = mX (s.drop k) k) (fun (k : Nat)=>[(0,.d (.fs (s.map u8))),(1,.d (.fn 288 [] [.fp (.fn 257 [] []) 0])),(7,.d (i s.length)),(8,.d (i k))]) (fun (k : Nat)=>[]) (0) (by first | (simp;done) ) ?_ (fun k C hI hC=>?_);(exact ⟨[],rfl,rfl,⟨rfl,rfl,(by first | exact congrArg (D.int .i64) (by simp only [List.length_map]) ),(by first | exact congrArg (D.int .i64) (by omega) ),trivial⟩,trivial⟩);all_goals (conv=>whnf)))
 | ((with_reducible show C _ _);first | (refine hC (k + 1) _ _ ?_ (by omega) ?_;clear hC;rotate_left;(exact ⟨[],rfl,rfl,⟨rfl,rfl,rfl,(by first | exact congrArg (D.int .i64) (by omega) ),trivial⟩,trivial⟩);(exact ⟨by omega,by rw [hI.2,rS (by omega),if_pos (by simpa using h)]⟩)))
 | (refine bf (by omega) ?_;conv=>whnf)
 | (refine ax (by omega) ?_;conv=>whnf)
 | ((with_reducible refine ag ?_);first | (exact aD (congrArg i (by rw [hI.2,rS (by omega),if_neg (by simpa using h)]));done) | (exact aD (congrArg i (by rw [hI.2,D0 (by omega)]));done))
  | fail
  )
theorem Sj (s : Bs) (hs : s.length < 2000000) : Fn 287 [.fs (s.map u8),.fn 288 [] [.fp (.fn 257 [] []) 0]] (.bool (decide (0 <= mX s 0))):=by
 refine ac aZ Tryz.func287 rfl (by kernel_rfl) ?_
 conv=>whnf
 repeat' (first
 | ((with_reducible refine ak ?_);(first | refine aa (ah (Ss s hs) rfl rfl) ?_);conv=>whnf)
 | ((with_reducible refine ag ?_);first | (exact aD rfl;done))
  | fail
  )
theorem RZ (s : Bs) (hs : s.length < 2000000) : Fn 256 [.str s,.fn 257 [] []] (.bool (s.all bD)):=by
 refine ac aZ Tryz.func256 rfl (by kernel_rfl) ?_
 conv=>whnf
 repeat' (first
 | ((with_reducible refine ak ?_);(first | refine aa (ah (Sj s hs) rfl (TN (B0 rfl (by decide)) rfl)) ?_);conv=>whnf)
 | ((with_reducible refine ag ?_);first | (exact aD (congrArg D.bool (uI s 0));done))
  | fail
  )
theorem Sn (s : Bs) (c : UInt8) (hs : s.length < 2000000) : Fn 290 [.str s,.str [c]] (.bool (decide (s.getLast? = some c))):=by
 refine ac aZ Tryz.func290 rfl (by kernel_rfl) ?_
 conv=>whnf
 repeat' (first
 | ((with_reducible refine aB (fun h=>?_) (fun h=>?_))<;>(try simp only [List.length_map] at h)<;>conv=>whnf)
 | (refine ax (by omega) ?_;conv=>whnf)
 | (refine eh (s.length - 1) s.length (by simp only [List.length_cons,List.length_nil] at h ⊢;omega) (by omega) (by omega) ?_;conv=>whnf)
 | ((with_reducible refine ag ?_);first | (exact aD (congrArg D.bool (by rw [List.take_length];exact J1 s c (by simp only [List.length_cons,List.length_nil] at h;omega)));done) | (exact aD (congrArg D.bool (by have h0 : s.length = 0:=(by simp only [List.length_cons,List.length_nil] at h;omega);rw [List.length_eq_zero_iff] at h0;subst h0;rfl));done))
  | fail
  )
theorem R3 (s : Bs) (c : UInt8) (hs : s.length < 2000000) : Fn 258 [.str s,.str [c]] (.bool (decide (s.getLast? = some c))):=by
 refine ac aZ Tryz.func258 rfl (by kernel_rfl) ?_
 conv=>whnf
 repeat' (first
 | ((with_reducible refine ak ?_);(first | refine aa (ah (Sn s _ hs) rfl rfl) ?_);conv=>whnf)
 | ((with_reducible refine ag ?_);first | (exact aD rfl;done))
  | fail
  )
theorem RO (s : Bs) (hs : s.length < 2000000) : Fn 215 [.str s] (.bool (s6 s)):=by
 refine ac aZ Tryz.func215 rfl (by kernel_rfl) ?_
 conv=>whnf
 repeat' (first
 | ((with_reducible refine aB (fun h=>?_) (fun h=>?_))<;>(try simp only [List.length_map] at h)<;>conv=>whnf)
 | ((with_reducible refine bu (fun h=>?_) (fun h=>?_))<;>(try simp only [List.length_map] at h)<;>conv=>whnf)
 | ((with_reducible refine dj (fun h=>?_) (fun h=>?_))<;>conv=>whnf)
 | ((with_reducible refine ao (fun h=>?_) (fun h=>?_))<;>conv=>whnf)
 | ((with_reducible refine ak ?_);(first | refine aa (ah (RZ s (by omega)) rfl rfl) ?_ | refine aa (ah (R3 s _ hs) rfl rfl) ?_);conv=>whnf)
 | ((with_reducible refine ag ?_);first | (exact aD (congrArg D.bool (by unfold s6;grind));done))
  | fail
  )
theorem D6 (s : Bs) (hs : s.length < 2000000) : Fn 132 [.str s] (i (am s)):=by
 refine ac aZ Tryz.func132 rfl (by kernel_rfl) ?_
 conv=>whnf
 repeat' (first
 | ((with_reducible refine ak ?_);(first | refine aa (ah (RN _ _) rfl rfl) ?_ | refine aa (ah (RO s hs) rfl rfl) ?_ | refine aa (ah (RM [_,_] (by simp)) rfl rfl) ?_ );conv=>whnf)
 | ((with_reducible refine ag ?_);first | (exact aD (congrArg i (by rw [BD,show decide ((s.length : Int) <= 32) = decide (s.length <= 32) by rw [decide_eq_decide];omega]));done))
  | fail
  )
end
section
set_option maxRecDepth 10000
attribute [local irreducible] bn
set_option maxHeartbeats 4000000
open Paths
attribute [local irreducible] am
def kf : Bs:=(List.range 128).map fun n=>d9 n.toUInt8
theorem FG : kf.length = 128:=rfl
theorem FF {b : UInt8} (h : b.toNat < 128) (h2 : b.toNat < kf.length) : kf[b.toNat] = d9 b:=by
 have : kf[b.toNat]? = some (d9 b):=by
  unfold kf
  rw [List.getElem?_map,List.getElem?_range h];simp
 rw [List.getElem?_eq_getElem h2] at this
 exact Option.some.inj this
def DG (k : Nat) : Bs:=(List.range k).map (fun n=>d9 n.toUInt8) ++ List.replicate (128 - k) 0
theorem DH {k : Nat} (h : k <= 128) : (DG k).length = 128:=by unfold DG;simp;omega
theorem DI {k : Nat} {b : UInt8} (h : k < 128) (hb : b = d9 k.toUInt8) : (DG k).set k b = DG (k + 1):=by
 subst hb
 have e : List.replicate (128 - k) (0 : UInt8) = 0 :: List.replicate (128 - (k + 1)) 0:=by
  rw [show 128 - k = (128 - (k + 1)) + 1 by omega];rfl
 unfold DG
 rw [e,List.set_append_right _ _ (by simp),List.range_succ]
 simp
theorem MO : ∀ k < 128,¬ (97 <= k /\ k <= 122) -> k.toUInt8 = d9 k.toUInt8:=by decide +kernel
theorem MN : ∀ k < 128,97 <= k -> k <= 122 -> (k - 97 + 65).toUInt8 = d9 k.toUInt8:=by decide +kernel
theorem J4 : DG 128 = kf:=by unfold DG kf;simp
theorem Qw {k : Nat} (h : k < 256) {z : Int} (hz : z = k) : (D.int .u8 z) = u8 k.toUInt8:=by
 subst hz
 show D.int .u8 _ = D.int .u8 _
 congr 1
 simp
 omega
theorem H1 {l : Bs} {n k : Nat} {z : Int} (hn : n = k) (hk : k < 128) {K : List AV -> Prop} (c : Nat) (hc : c < 256) (hz : z = c) (h : K (((l.set k c.toUInt8).map u8).map .d)) : fb ((l.map u8).map AV.d) n (.d (.int .u8 z)) K:=by
 subst hn
 refine rC ?_
 rw [Qw hc hz]
 have : ((l.map u8).map AV.d).set n (.d (u8 c.toUInt8)) = ((l.set n c.toUInt8).map u8).map .d:=by rw [List.map_set,List.map_set]
 rw [this];exact h
theorem MX {k : IntKind} {x : Int} {K : Int -> Prop} (h : K (k.wrap x)) : la k x K:=by rw [kg];exact h
theorem DK {x : Int} {c : Nat} (hx : x = c) (hc : c < 256) : IntKind.u8.wrap x = c:=by subst hx;exact IntWalk.u8_in _ (by omega)
section
attribute [local irreducible] DG
theorem R9 : Fn 265 [] (.str kf):=by
 have hlu:=fun k (h : k <= 128)=>DH h
 refine ac aZ Tryz.func265 rfl (by kernel_rfl) ?_
 conv=>whnf
 repeat' (first
 | ((with_reducible refine aB (fun h=>?_) (fun h=>?_))<;>(try simp only [List.length_map] at h)<;>conv=>whnf)
 | ((with_reducible refine aO ?_);first | (refine bh (fun (k : Nat)=>128 - k) (fun (k : Nat)=>k <= 128) (fun (k : Nat)=>[(1,.sl 0 0 128 1 (some 128)),(5,.d (i 128)),(6,.d (i k))]) (fun (k : Nat)=>[⟨((DG k).map u8).map .d,1,0⟩]) (0) (by exact Nat.zero_le _) ?_ (fun k C hI hC=>?_);(exact ⟨[.old 0],rfl,rfl,⟨(by first | exact ⟨rfl,rfl,rfl,rfl,rfl⟩ ),(by first | exact congrArg (D.int .i64) (by omega) ),(by first | exact congrArg (D.int .i64) (by omega) ),trivial⟩,⟨⟨rfl,rfl,.inl ⟨((DG 0).map u8),(by unfold DG;rfl),rfl⟩⟩,trivial⟩⟩);all_goals (conv=>whnf)))
 | ((with_reducible show C _ _);first | (refine hC (k + 1) _ _ ?_ (by omega) ?_;clear hC;rotate_left;(exact ⟨[.old 0],rfl,rfl,⟨(by first | exact ⟨rfl,rfl,rfl,rfl,rfl⟩ ),rfl,(by first | exact congrArg (D.int .i64) (by omega) ),trivial⟩,⟨⟨rfl,rfl,.inl ⟨_,(by rw [DI (by omega) (MO k (by omega) (by omega))]),rfl⟩⟩,trivial⟩⟩);(exact by omega)) | (refine hC (k + 1) _ _ ?_ (by omega) ?_;clear hC;rotate_left;(exact ⟨[.old 0],rfl,rfl,⟨(by first | exact ⟨rfl,rfl,rfl,rfl,rfl⟩ ),rfl,(by first | exact congrArg (D.int .i64) (by omega) ),trivial⟩,⟨⟨rfl,rfl,.inl ⟨_,(by rw [List.set_set,DI (by omega) (MN k (by omega) (by omega) (by omega))]),rfl⟩⟩,trivial⟩⟩);(exact by omega)))
 | (refine ax (by omega) ?_;conv=>whnf)
 | (refine bF (l:=DG k) k (by omega) (by rw [hlu k hI];omega) ?_;conv=>whnf)
 | (refine bF (l:=(DG k).set k k.toUInt8) k (by omega) (by rw [List.length_set,hlu k hI];omega) ?_;conv=>whnf)
 | (refine ⟨⟨by decide,by decide,by decide,by decide⟩,?_⟩;conv=>whnf)
 | (refine ⟨⟨by omega,by omega⟩,?_⟩;conv=>whnf)
 | (refine H1 (k:=k) (by omega) (by omega) k (by omega) (DK rfl (by omega)) ?_;conv=>whnf)
 | (refine H1 (k:=k) (by omega) (by omega) (k - 97 + 65) (by omega) (DK (by omega) (by omega)) ?_;conv=>whnf)
 | (refine MX ?_;conv=>whnf)
 | (refine ⟨DG 128,⟨(by rw [List.length_map,List.length_map];rw [hlu k hI];omega),(by rw [show k = 128 by omega,List.drop_zero,List.take_of_length_le (by simp only [List.length_map];rw [DH (by omega)];omega),List.map_map];rfl)⟩,?_⟩;conv=>whnf)
 | ((with_reducible refine ag ?_);first | (exact aD (congrArg D.str J4);done))
  | fail
  )
end
def uD (s : Bs) (k : Nat) : Bs:=(s.take k).map d9 ++ s.drop k
theorem Ke (s : Bs) (k : Nat) : (uD s k).length = s.length:=by
 unfold uD;rw [List.length_append,List.length_map,List.length_take,List.length_drop];omega
theorem Ib (s : Bs) : uD s 0 = s:=rfl
theorem DL {s : Bs} {k : Nat} (h : k < s.length) (h2 : k < (uD s k).length) : (uD s k)[k] = s[k]:=by
 have e : ((s.take k).map d9).length = k:=by rw [List.length_map,List.length_take];omega
 have : (uD s k)[k]? = some s[k]:=by
  unfold uD
  rw [List.getElem?_append_right (by omega),e,Nat.sub_self,List.getElem?_drop,Nat.add_zero,List.getElem?_eq_getElem h]
 rw [List.getElem?_eq_getElem h2] at this
 exact Option.some.inj this
theorem Kf {s : Bs} {k : Nat} (h : k < s.length) : (uD s k).set k (d9 s[k]) = uD s (k + 1):=by
 unfold uD
 have e : ((s.take k).map d9).length = k:=by rw [List.length_map,List.length_take];omega
 rw [List.set_append_right _ _ (by omega),e,Nat.sub_self,List.drop_eq_getElem_cons h,List.set_cons_zero,List.take_succ_eq_append_getElem h,List.map_append,List.append_assoc]
 rfl
theorem Kd (s : Bs) {k : Nat} (h : s.length <= k) : uD s k = s.map d9:=by
 unfold uD;rw [List.take_of_length_le h,List.drop_eq_nil_of_le h,List.append_nil]
theorem EG {s : Bs} (h : am s = 0) : ∀ b ∈ s,b.toNat < 128:=by
 intro b hb
 unfold am at h
 split at h
 ·cases h
 ·split at h
  ·cases h
  ·split at h
   ·rename_i h3
    have:=List.all_eq_true.1 h3 b hb
    unfold bD at this
    simp only [Bool.and_eq_true,decide_eq_true_eq] at this
    omega
   ·cases h
theorem Kg {s : Bs} (hb : ∀ b ∈ s,b.toNat < 128) (k : Nat) (h : k < s.length) (h1 : k < (uD s k).length) (h2 : (uD s k)[k].toNat < kf.length) : (uD s k).set k kf[(uD s k)[k].toNat] = uD s (k + 1):=by
 have e:=DL h h1
 have e2 : kf[(uD s k)[k].toNat] = d9 s[k]:=by
  rw [FF (by rw [e];exact hb _ (List.getElem_mem _)),e]
 rw [e2,Kf h]
theorem Sa (s : Bs) (hs : s.length < 2000000) (hb : ∀ b ∈ s,b.toNat < 128) : Fn 266 [.str kf,.str s] (.str (s.map d9)):=by
 have hlu:=Ke s;have hix : ∀ k : Nat,0 + ((k : Int)).toNat = k:=(fun k=>by omega);have hset:=Kg hb
 refine ac aZ Tryz.func266 rfl (by kernel_rfl) ?_
 conv=>whnf
 repeat' (first
 | ((with_reducible refine aB (fun h=>?_) (fun h=>?_))<;>(try simp only [List.length_map] at h)<;>conv=>whnf)
 | ((with_reducible refine aO ?_);first | (refine bh (fun (k : Nat)=>s.length - k) (fun (k : Nat)=>k <= s.length) (fun (k : Nat)=>[(0,.d (.str kf)),(5,.sl 0 0 s.length 1 none),(10,.sl 0 0 s.length 1 none),(11,.d (i s.length)),(12,.d (i k))]) (fun (k : Nat)=>[⟨((uD s k).map u8).map .d,1,0⟩]) (0) (by exact Nat.zero_le _) ?_ (fun k C hI hC=>?_);(exact ⟨[.old 0],rfl,rfl,⟨rfl,(by first | exact ⟨rfl,rfl,rfl,rfl,rfl⟩ ),(by first | exact ⟨rfl,rfl,rfl,rfl,rfl⟩ ),rfl,(by first | exact congrArg (D.int .i64) (by omega) ),trivial⟩,⟨⟨rfl,rfl,.inl ⟨_,(by rw [Ib,List.map_map];rfl),rfl⟩⟩,trivial⟩⟩);all_goals (conv=>whnf)))
 | ((with_reducible show C _ _);first | (refine hC (k + 1) _ _ ?_ (by omega) ?_;clear hC;rotate_left;(exact ⟨[.old 0],rfl,rfl,⟨rfl,(by first | exact ⟨rfl,rfl,rfl,rfl,rfl⟩ ),(by first | exact ⟨rfl,rfl,rfl,rfl,rfl⟩ ),rfl,(by first | exact congrArg (D.int .i64) (by omega) ),trivial⟩,⟨⟨rfl,rfl,.inl ⟨_,(by rw [hix,Dv,hset _ (by omega)]),rfl⟩⟩,trivial⟩⟩);(exact (by omega : k + 1 <= s.length))))
 | (refine ax (by omega) ?_;conv=>whnf)
 | (refine bF (l:=uD s k) k (by omega) (by rw [hlu];omega) ?_;conv=>whnf)
 | (refine qc (by rw [FG,DL (by omega)];exact hb _ (List.getElem_mem _)) ?_;conv=>whnf)
 | (refine rC ?_;conv=>whnf)
 | (refine ⟨⟨by omega,by omega⟩,?_⟩;conv=>whnf)
 | (refine ⟨uD s k,⟨(by simp only [List.length_map,hlu];omega),(by rw [List.drop_zero,List.take_of_length_le (by simp only [List.length_map,hlu];omega),List.map_map];rfl)⟩,?_⟩;conv=>whnf)
 | ((with_reducible refine ag ?_);first | (exact aD (congrArg D.str (by rw [Kd s (by omega)]));done))
  | fail
  )
theorem F1 (s : Bs) (hs : s.length < 2000000) (h0 : am s = 0) : Fn 223 [.str s] (.tup [.str (bi s),i 0]):=by
 refine ac aZ Tryz.func223 rfl (by kernel_rfl) ?_
 conv=>whnf
 repeat' (first
 | ((with_reducible refine cY (by first | assumption ) ?_);conv=>whnf)
 | ((with_reducible refine ak ?_);(first | refine aa (ah (D6 s hs) rfl rfl) ?_ | refine aa (ah R9 rfl rfl) ?_ | refine aa (ah (Sa s hs (EG (by assumption))) rfl rfl) ?_);conv=>whnf)
 | ((with_reducible refine ag ?_);first | (exact dy rfl;done))
  | fail
  )
theorem Cv (s : Bs) (hs : s.length < 2000000) (h0 : ¬ am s = 0) : Fn 223 [.str s] (.tup [.str [],i (am s)]):=by
 refine ac aZ Tryz.func223 rfl (by kernel_rfl) ?_
 conv=>whnf
 repeat' (first
 | ((with_reducible refine co (by assumption) ?_);conv=>whnf)
 | ((with_reducible refine ak ?_);(first | refine aa (ah (D6 s hs) rfl rfl) ?_ );conv=>whnf)
 | ((with_reducible refine ag ?_);first | (exact dy rfl;done))
  | fail
  )
theorem Hn {s : Bs} {c : UInt8} {k : Nat} (h : c ∉ s.take k) (hk : k < s.length) (e : s[k] ≠ c) : c ∉ s.take (k + 1):=by
 rw [List.take_succ_eq_append_getElem hk]
 intro m
 rcases List.mem_append.1 m with m | m
 ·exact h m
 ·rw [List.mem_singleton] at m;exact e m.symm
theorem iR {a b : UInt8} (h : (a.toNat : Int) = (b.toNat : Int)) : a = b:=UInt8.toNat_inj.1 (by omega)
theorem UU (c : UInt8) (s : Bs) (hs : s.length < 2000000) : Fn 64 [u8 c,.str s] (.bool (s.contains c)):=by
 refine ac aZ Tryz.func64 rfl (by kernel_rfl) ?_
 conv=>whnf
 repeat' (first
 | ((with_reducible refine aB (fun h=>?_) (fun h=>?_))<;>(try simp only [List.length_map] at h)<;>conv=>whnf)
 | ((with_reducible refine aO ?_);first | (refine bh (fun (k : Nat)=>s.length - k) (fun (k : Nat)=>k <= s.length /\ c ∉ s.take k) (fun (k : Nat)=>[(0,.d (u8 c)),(1,.d (.str s)),(5,.d (i k))]) (fun (k : Nat)=>[]) (0) (by first | (simp;done) ) ?_ (fun k C hI hC=>?_);(exact ⟨[],rfl,rfl,⟨rfl,rfl,(by first | exact congrArg (D.int .i64) (by omega) ),trivial⟩,trivial⟩);all_goals (conv=>whnf)))
 | ((with_reducible show C _ _);first | (refine hC (k + 1) _ _ ?_ (by omega) ?_;clear hC;rotate_left;(exact ⟨[],rfl,rfl,⟨rfl,rfl,(by first | exact congrArg (D.int .i64) (by omega) ),trivial⟩,trivial⟩);(exact ⟨by omega,Hn hI.2 (by omega) (by intro e;apply h;rw [e])⟩)))
 | (refine qc (by omega) ?_;conv=>whnf)
 | (refine ax (by omega) ?_;conv=>whnf)
 | ((with_reducible refine ag ?_);first | (refine aD (congrArg D.bool ?_);have e:=iR h;symm;rw [List.contains_iff_mem];rw [<- e];exact List.getElem_mem _;done) | (refine aD (congrArg D.bool ?_);have:=hI.2;rw [List.take_of_length_le (by omega)] at this;symm;simpa using this;done))
  | fail
  )
theorem FT {p : UInt8 -> Bool} {s : Bs} {k : Nat} (h : (s.take k).all p = true) (hk : k < s.length) (e : p s[k] = true) : (s.take (k + 1)).all p = true:=by
 rw [List.take_succ_eq_append_getElem hk,List.all_append,h];simp [e]
theorem Br (b : UInt8) : bD b = (ar b.toNat 32 126 && !jm.contains b):=by
 unfold bD ar
 congr 1;congr 1<;>rw [decide_eq_decide]<;>omega
theorem Js {b : UInt8} (h : ar b.toNat 32 126 = true) (h2 : jm.contains b = false) : bD b = true:=by rw [Br,h,h2];rfl
theorem G7 {b : UInt8} (h : ar b.toNat 32 126 = false) : bD b = false:=by rw [Br,h];rfl
theorem G8 {b : UInt8} (h2 : jm.contains b = true) : bD b = false:=by rw [Br,h2];simp
theorem qJ {s : Bs} {k : Nat} (h32 : ¬ ((32 : Int) < s.length)) (hk : k < s.length) (h : bD s[k] = false) : am s = 4:=by
 have h9 : s.all bD = false:=by rw [List.all_eq_false];exact ⟨s[k],List.getElem_mem _,by simp [h]⟩
 unfold am
 rw [if_neg (by omega)]
 split
 ·rfl
 ·rw [h9];rfl
theorem Jm {s : Bs} {K : UInt8 -> Prop} (h : s ≠ []) (hk : K (s.getLast h)) : 0 <= (s.length : Int) - 1 /\ cX s ((s.length : Int) - 1).toNat K:=by
 have hp:=List.length_pos_iff.2 h
 refine ⟨by omega,cj (x:=s.getLast h) ?_ hk⟩
 rw [List.getLast_eq_getElem,List.getElem?_eq_getElem (by omega)]
 congr 2;omega
theorem C8 {s : Bs} (h : s ≠ []) (c : UInt8) (n : Int) (e : n = c.toNat) : ((s.getLast h).toNat : Int) = n ↔ s.getLast? = some c:=by
 subst e
 rw [List.getLast?_eq_some_getLast h,Option.some.injEq]
 exact ⟨iR,fun e=>by rw [e]⟩
attribute [local irreducible] bD ar
theorem SA (s : Bs) (hs : s.length < 2000000) (h0 : s ≠ []) : Fn 35 [.str s] (i (am s)):=by
 have e1:=C8 h0 32 32 rfl;have e2:=C8 h0 46 46 rfl
 refine ac aZ Tryz.func35 rfl (by kernel_rfl) ?_
 conv=>whnf
 repeat' (first
 | ((with_reducible refine aB (fun h=>?_) (fun h=>?_))<;>(try simp only [List.length_map] at h)<;>conv=>whnf)
 | ((with_reducible refine dj (fun h=>?_) (fun h=>?_))<;>conv=>whnf)
 | ((with_reducible refine ao (fun h=>?_) (fun h=>?_))<;>conv=>whnf)
 | ((with_reducible refine ak ?_);(first | refine aa (ah (Cu _ _ _) rfl rfl) ?_ | refine aa (ah (UU _ _ (by decide)) rfl rfl) ?_);conv=>whnf)
 | ((with_reducible refine aO ?_);first | (refine bh (fun (k : Nat)=>s.length - k) (fun (k : Nat)=>k <= s.length /\ (s.take k).all bD = true) (fun (k : Nat)=>[(0,.d (.str s)),(3,.d (i k))]) (fun (k : Nat)=>[]) (0) (by first | (simp;done) ) ?_ (fun k C hI hC=>?_);(exact ⟨[],rfl,rfl,⟨rfl,(by first | exact congrArg (D.int .i64) (by omega) ),trivial⟩,trivial⟩);all_goals (conv=>whnf)))
 | ((with_reducible show C _ _);first | (refine hC (k + 1) _ _ ?_ (by omega) ?_;clear hC;rotate_left;(exact ⟨[],rfl,rfl,⟨rfl,(by first | exact congrArg (D.int .i64) (by omega) ),trivial⟩,trivial⟩);(exact ⟨by omega,FT hI.2 (by omega) (Js (by assumption) h)⟩)))
 | (refine qc (by omega) ?_;conv=>whnf)
 | (refine ax (by omega) ?_;conv=>whnf)
 | (refine Jm h0 ?_;conv=>whnf)
 | (refine AA ?_;conv=>whnf)
 | ((with_reducible refine ag ?_);first | (exact absurd (of_decide_eq_true h) h0;done) | (refine aD (congrArg i ?_);exact (qJ (by omega) (by omega) (G7 h)).symm;done) | (refine aD (congrArg i ?_);exact (qJ (by omega) (by omega) (G8 h)).symm;done) | (refine aD (congrArg i ?_);unfold am bp;simp_all;done;done) | (refine aD (congrArg i ?_);unfold am bp;grind;done))
  | fail
  )
theorem SB : Fn 35 [.str []] (i (am [])):=by
 refine ac aZ Tryz.func35 rfl (by kernel_rfl) ?_
 conv=>whnf
 repeat' (first
 | ((with_reducible refine ag ?_);first | (exact aD (congrArg i (by unfold am;rfl));done) )
  | fail
  )
theorem KD (s : Bs) (hs : s.length < 2000000) : Fn 35 [.str s] (i (am s)):=by
 by_cases h : s = []
 ·subst h;exact SB
 ·exact SA s hs h
theorem KC (s : Bs) : Fn 34 [.str s] (.bool (bp s)):=by
 refine ac aZ Tryz.func34 rfl (by kernel_rfl) ?_
 conv=>whnf
 repeat' (first
 | ((with_reducible refine aB (fun h=>?_) (fun h=>?_))<;>(try simp only [List.length_map] at h)<;>conv=>whnf)
 | ((with_reducible refine ag ?_);first | (refine aD (congrArg D.bool ?_);(unfold bp;simp_all;done);done))
  | fail
  )
theorem Nq (s : Bs) : Fn 129 [.str s] (.bool (bp s)):=by
 refine ac aZ Tryz.func129 rfl (by kernel_rfl) ?_
 conv=>whnf
 repeat' (first
 | ((with_reducible refine aB (fun h=>?_) (fun h=>?_))<;>(try simp only [List.length_map] at h)<;>conv=>whnf)
 | ((with_reducible refine ag ?_);first | (refine aD (congrArg D.bool ?_);(unfold bp;simp_all;done);done))
  | fail
  )
theorem EY (l : Bs) : 0 + l.length <= ((l.map u8).map AV.d).length /\ (((l.map u8).map AV.d).drop 0).take l.length = l.map fR:=by
 refine ⟨by simp only [List.length_map];omega,?_⟩
 rw [List.drop_zero,List.take_of_length_le (by simp only [List.length_map];omega),List.map_map];rfl
theorem Ia {s : Bs} {k : Nat} (h : k < s.length) : (s.take (k + 1)).map d9 = (s.take k).map d9 ++ [d9 s[k]]:=by
 rw [List.take_succ_eq_append_getElem h,List.map_append];rfl
theorem Kc (s : Bs) (k : Nat) (h : k <= s.length) : ((s.take k).map d9).length = k:=by rw [List.length_map,List.length_take];omega
theorem Qx {b : UInt8} (h : ar b.toNat 97 122 = true) : u8 (d9 b) = .int .u8 ((b.toNat : Int) - 97 + 65):=by
 unfold ar at h
 simp only [Bool.and_eq_true,decide_eq_true_eq] at h
 unfold d9
 rw [if_pos (by omega)]
 have e:=UInt8.toNat_sub_of_le b 32 (by rw [UInt8.le_iff_toNat_le];show 32 <= b.toNat;omega)
 show D.int .u8 ((b - 32).toNat : Int) = _
 rw [e];congr 1;show ((b.toNat - 32 : Nat) : Int) = _;omega
theorem MU {b : UInt8} (h : ar b.toNat 97 122 = false) : u8 (d9 b) = u8 b:=by
 unfold ar at h
 unfold d9
 rw [if_neg]
 intro hc
 have : (decide ((97 : Int) <= b.toNat) && decide ((b.toNat : Int) <= 122)) = true:=by
  simp only [Bool.and_eq_true,decide_eq_true_eq];omega
 rw [h] at this;cases this
theorem Lv (s : Bs) (hs : s.length < 2000000) : Fn 141 [.str s] (.str (bi s)):=by
 have hut:=Kc s
 refine ac aZ Tryz.func141 rfl (by kernel_rfl) ?_
 conv=>whnf
 repeat' (first
 | ((with_reducible refine aJ ?_ ?_);(focus ((try simp only [List.length_map,List.length_cons,List.length_nil,List.length_append]);omega));conv=>whnf)
 | ((with_reducible refine aB (fun h=>?_) (fun h=>?_))<;>(try simp only [List.length_map] at h)<;>conv=>whnf)
 | ((with_reducible refine ao (fun h=>?_) (fun h=>?_))<;>conv=>whnf)
 | ((with_reducible refine ak ?_);(first | refine aa (ah (Cu _ _ _) rfl rfl) ?_);conv=>whnf)
 | ((with_reducible refine aO ?_);first | (refine bh (fun (k : Nat)=>s.length - k) (fun (k : Nat)=>k <= s.length) (fun (k : Nat)=>[(0,.d (.str s)),(3,.sl 0 0 ((s.take k).map d9).length 1 none),(4,.d (i k))]) (fun (k : Nat)=>[⟨(((s.take k).map d9).map u8).map .d,1,0⟩]) (0) (by exact Nat.zero_le _) ?_ (fun k C hI hC=>?_);(exact ⟨[.void 1],rfl,rfl,⟨rfl,⟨rfl,rfl,rfl,rfl⟩,rfl,trivial⟩,⟨⟨rfl,rfl,(by decide),rfl⟩,trivial⟩⟩);all_goals (conv=>whnf)))
 | ((with_reducible show C _ _);first | (refine hC (k + 1) _ _ ?_ (by omega) ?_;clear hC;rotate_left;(exact ⟨[.old 2],rfl,rfl,⟨rfl,⟨rfl,rfl,(by rw [hut k (by omega),hut (k + 1) (by omega)];rfl),rfl,rfl⟩,(by first | exact congrArg (D.int .i64) (by omega) ),trivial⟩,⟨⟨rfl,rfl,.inr (by rw [Ia (by omega)];exact fg (em _ _) (by first | exact (Qx h).symm | exact (MU h).symm))⟩,trivial⟩⟩);(exact (by omega : k + 1 <= s.length))))
 | (refine qc (by omega) ?_;conv=>whnf)
 | (refine ax (by omega) ?_;conv=>whnf)
 | (refine ⟨Nat.le_refl _,?_⟩;conv=>whnf)
 | (refine ⟨⟨(by simp only [List.length_map,List.length_append];omega),cm (by have:=List.length_take_le k s;simp only [List.length_map,List.length_cons,List.length_nil,List.length_append];omega) rfl⟩,?_⟩;conv=>whnf)
 | (refine ⟨_,EY _,?_⟩;conv=>whnf)
 | (refine AA ?_;conv=>whnf)
 | (refine MW (by unfold ar at h;simp only [Bool.and_eq_true,decide_eq_true_eq] at h;omega) ?_;conv=>whnf)
 | ((with_reducible refine ag ?_);first | (refine aD (congrArg D.str ?_);(rw [List.take_of_length_le (by omega)];rfl);done))
  | fail
  )
theorem RR (a b : Bs) (ha : a.length < 2000000) (hb : b.length < 2000000) : Fn 221 [.str a,.str b] (.bool (decide (bi a = bi b))):=by
 refine ac aZ Tryz.func221 rfl (by kernel_rfl) ?_
 conv=>whnf
 repeat' (first
 | ((with_reducible refine ak ?_);(first | refine aa (ah (Lv _ (by omega)) rfl rfl) ?_);conv=>whnf)
 | ((with_reducible refine ag ?_);first | (exact aD rfl;done))
  | fail
  )
attribute [local irreducible] cut
theorem QC (s : Bs) (c : UInt8) (hs : s.length < 2000000) : Fn 33 [.str s,u8 c] (.fs ((cut c s).map .str)):=by
 refine ac aZ Tryz.func33 rfl (by kernel_rfl) ?_
 conv=>whnf
 repeat' (first
 | ((with_reducible refine aJ ?_ ?_);(focus ((try simp only [List.length_map,List.length_cons,List.length_nil,List.length_append]);omega));conv=>whnf)
 | ((with_reducible refine aB (fun h=>?_) (fun h=>?_))<;>(try simp only [List.length_map] at h)<;>conv=>whnf)
 | ((with_reducible refine aO ?_);first | (refine Dh (fun (out : List Bs) (a : Nat) (k : Nat)=>s.length - k) (fun (out : List Bs) (a : Nat) (k : Nat)=>k <= s.length /\ a <= k /\ out.length <= k /\ nY c s out a k) (fun (out : List Bs) (a : Nat) (k : Nat)=>[(0,.d (.str s)),(1,.d (u8 c)),(5,.sl 0 0 out.length 1 none),(6,.d (i a)),(7,.d (i k))]) (fun (out : List Bs) (a : Nat) (k : Nat)=>[⟨(out.map D.str).map .d,1,0⟩]) ([]) (0) (0) (by exact ⟨Nat.zero_le _,Nat.le_refl _,Nat.le_refl _,nY.zero _ _⟩) ?_ (fun out a k C hI hC=>?_);(exact ⟨[.void 1],rfl,rfl,⟨rfl,rfl,⟨rfl,rfl,rfl,rfl⟩,rfl,rfl,trivial⟩,⟨⟨rfl,rfl,(by decide),rfl⟩,trivial⟩⟩);all_goals (conv=>whnf)))
 | ((with_reducible show C _ _);first | (refine hC (out ++ [(s.take k).drop a]) (k + 1) (k + 1) _ _ ?_ (by omega) ?_;clear hC;rotate_left;(exact ⟨[.old 2],rfl,rfl,⟨rfl,rfl,⟨rfl,rfl,(by simp),rfl,rfl⟩,(by first | exact congrArg (D.int .i64) (by omega) ),(by first | exact congrArg (D.int .i64) (by omega) ),trivial⟩,⟨⟨rfl,rfl,.inr (fg (em _ _) rfl)⟩,trivial⟩⟩);(exact ⟨by omega,by omega,by simp;omega,hI.2.2.2.hit (by omega) (iR h)⟩)) | (refine hC (out) (a) (k + 1) _ _ ?_ (by omega) ?_;clear hC;rotate_left;(exact ⟨[.old 0],rfl,rfl,⟨rfl,rfl,(by first | exact ⟨rfl,rfl,rfl,rfl,rfl⟩ ),rfl,(by first | exact congrArg (D.int .i64) (by omega) ),trivial⟩,⟨⟨rfl,rfl,.inr (em _ _)⟩,trivial⟩⟩);(exact ⟨by omega,by omega,by omega,hI.2.2.2.miss (by omega) (fun e=>h (by rw [e]))⟩)))
 | (refine ⟨⟨(by first | (simp;done)),cm (by simp only [List.length_map,List.length_cons,List.length_nil,List.length_append];omega) rfl⟩,?_⟩;conv=>whnf)
 | (refine qc (by omega) ?_;conv=>whnf)
 | (refine ax (by omega) ?_;conv=>whnf)
 | (refine eh a s.length (by omega) (by omega) (by omega) ?_;conv=>whnf)
 | (refine eh a k (by omega) (by omega) (by omega) ?_;conv=>whnf)
 | (refine ⟨Nat.le_refl _,?_⟩;conv=>whnf)
 | ((with_reducible refine ag ?_);first | (exact aP (FH rfl Nat.two_pos rfl) (congrArg D.fs (by rw [<- hI.2.2.2.done (by omega)];simp));done))
  | fail
  )
end
section
set_option maxRecDepth 10000
attribute [local irreducible] bn
set_option maxHeartbeats 4000000
open Paths
attribute [local irreducible] am cut
def js (p : PP) : D:=.agg [.bool p.abs,.fs (p.parts.map .str),.str p.stream]
theorem TB (c : UInt8) : ({ data:=#[c] } : ByteArray).data.toList.length = 1:=rfl
theorem t6 (p : PP) : p.stream.length <= (text p).length:=by
 unfold text
 by_cases h : p.stream = []
 ·rw [h];simp
 ·rw [if_neg h];simp only [List.length_append,List.length_cons];omega
end
section
set_option maxRecDepth 10000
attribute [local irreducible] bn
set_option maxHeartbeats 4000000
open Paths
attribute [local irreducible] am cut
theorem fu {l out : List Bs} {ab : Bool} {k : Nat} (h : k < l.length) : (l.drop k).foldl (bb ab) out = (l.drop (k + 1)).foldl (bb ab) (bb ab out l[k]):=by
 rw [List.drop_eq_getElem_cons h];rfl
theorem xC {ab : Bool} {out : List Bs} {s : Bs} (h : s = [46]) : bb ab out s = out:=if_pos h
theorem xB {ab : Bool} {out : List Bs} {s : Bs} (h : ¬ s = [46]) (h2 : ¬ s = [46,46]) : bb ab out s = out ++ [s]:=by
 unfold bb;rw [if_neg h,if_pos h2]
theorem C7 {out : List Bs} (h : 0 < out.length) (x : Bs) : out.getLast? = some x ↔ out[out.length - 1]'(by omega) = x:=by
 rw [List.getLast?_eq_some_getLast (by intro e;subst e;simp at h),List.getLast_eq_getElem,Option.some.injEq]
theorem xD {ab : Bool} {out : List Bs} {s : Bs} (h : s = [46,46]) (h2 : 0 < out.length) (h3 : ¬ out[out.length - 1]'(by omega) = [46,46]) : bb ab out s = out.dropLast:=by
 subst h
 unfold bb
 rw [if_neg (by decide),if_neg (by simp),if_pos ⟨by intro e;subst e;simp at h2,fun e=>h3 ((C7 h2 _).1 e)⟩]
theorem HC {out : List Bs} (h : 0 < out.length) : (out.map D.str).map AV.d = (out.dropLast.map D.str).map AV.d ++ [.d (.str (out[out.length - 1]'(by omega)))]:=by
 have e : out = out.dropLast ++ [out[out.length - 1]'(by omega)]:=by
  conv=>lhs;rw [<- List.dropLast_concat_getLast (l:=out) (by intro e;subst e;simp at h)]
  rw [List.getLast_eq_getElem]
 conv=>lhs;rw [e]
 simp only [List.map_append,List.map_cons,List.map_nil]
theorem zr {p : PP} {out : List Bs} {k : Nat} (hk : ¬ ((k : Int) < p.parts.length)) (h : p.parts.foldl (bb p.abs) [] = (p.parts.drop k).foldl (bb p.abs) out) (hne : out.length ≠ 0 \/ p.abs = true) : D.agg [.bool p.abs,.fs (out.map .str),.str p.stream] = js (normal p):=by
 rw [List.drop_eq_nil_of_le (by omega),List.foldl_nil] at h
 unfold js normal
 simp only [h]
 rw [if_neg]
 rintro ⟨e1,e2⟩
 rcases hne with hne | hne
 ·exact hne (by rw [e1];rfl)
 ·rw [e2] at hne;cases hne
theorem EP {p : PP} {out : List Bs} {k : Nat} (hk : ¬ ((k : Int) < p.parts.length)) (h : p.parts.foldl (bb p.abs) [] = (p.parts.drop k).foldl (bb p.abs) out) (hne : out.length = 0) (hab : p.abs = false) : D.agg [.bool p.abs,.fs [.str [46]],.str p.stream] = js (normal p):=by
 rw [List.drop_eq_nil_of_le (by omega),List.foldl_nil] at h
 have e : out = []:=List.length_eq_zero_iff.1 hne
 unfold js normal
 simp only [h]
 rw [if_pos ⟨e,hab⟩];rfl
theorem xE {ab : Bool} {out : List Bs} {s : Bs} (h : s = [46,46]) (h2 : ¬ 0 < out.length \/ ∃ h : 0 < out.length,out[out.length - 1]'(by omega) = [46,46]) : bb ab out s = if ab then out else out ++ [s]:=by
 subst h
 unfold bb
 rw [if_neg (by decide),if_neg (by simp),if_neg]
 rintro ⟨e1,e2⟩
 rcases h2 with h2 | ⟨h2,h3⟩
 ·exact e1 (by cases out with | nil=>rfl | cons x l=>simp at h2)
 ·exact e2 ((C7 h2 _).2 h3)
theorem Hl (p : PP) : (normal p).parts.length <= p.parts.length + 1:=by
 have key : ∀ (l out : List Bs),(l.foldl (bb p.abs) out).length <= l.length + out.length:=by
  intro l
  induction l with
  | nil=>intro out;simp
  | cons s l ih=>
   intro out
   have h1:=ih (bb p.abs out s)
   have h2 : (bb p.abs out s).length <= out.length + 1:=by
    unfold bb
    split
    ·omega
    ·split
     ·simp
     ·split
      ·simp;omega
      ·split<;>simp
   simp only [List.foldl_cons,List.length_cons];omega
 have h:=key p.parts []
 unfold normal
 simp only
 split
 ·simp
 ·simp only [List.length_nil] at h;omega
attribute [local irreducible] normal
end
section
set_option maxRecDepth 10000
attribute [local irreducible] bn
set_option maxHeartbeats 4000000
open Paths
attribute [local irreducible] am cut normal
theorem du {l : List Bs} (h : l ≠ []) : l.length - 1 < l.length:=by have:=List.length_pos_iff.2 h;omega
theorem CD {c : UInt8} {x : Bs} : (cut c x).length <= 1 ↔ x.contains c = false:=by
 rw [df]
 have:=List.count_eq_zero (a:=c) (l:=x)
 constructor
 ·intro h
  have : x.count c = 0:=by omega
  rw [List.count_eq_zero] at this;simpa using this
 ·intro h
  have h2 : ¬ c ∈ x:=by simpa using h
  rw [List.count_eq_zero.2 h2];exact Nat.le_refl _
theorem rG {l : List Bs} {k : Nat} (h : bo (l.take k) = true) (hk : k < l.length) (h1 : ¬ l[k] = []) (h2 : ¬ (1 : Int) < (cut 58 l[k]).length) : bo (l.take (k + 1)) = true:=by
 unfold bo at h ⊢
 rw [List.take_succ_eq_append_getElem hk,List.all_append,h]
 have:=CD (c:=58) (x:=l[k])
 have h3 : l[k].contains 58 = false:=this.1 (by omega)
 have h4 : ¬ 58 ∈ l[k]:=by simpa using h3
 simp [h1,h4]
theorem xH {l : List Bs} {k : Nat} (hk : k < l.length) (h : l[k] = [] \/ (1 : Int) < (cut 58 l[k]).length) : bo l = false:=by
 unfold bo
 rw [List.all_eq_false]
 refine ⟨l[k],List.getElem_mem _,?_⟩
 rcases h with h | h
 ·simp [h]
 ·have:=CD (c:=58) (x:=l[k])
  cases hc : l[k].contains 58
  ·have:=this.2 hc;omega
  ·have h4 : 58 ∈ l[k]:=by simpa using hc
   simp [h4]
theorem oY {l : List Bs} {k : Nat} (hk : k < l.length) : aI ((l.drop k).map aF) = if aF l[k] = 0 then aI ((l.drop (k + 1)).map aF) else aF l[k]:=by
 rw [List.drop_eq_getElem_cons hk,List.map_cons,ce]
theorem oX {x : Bs} (h : bp x = true) : aF x = 0:=if_pos h
theorem mE {x : Bs} (h : bp x = false) : aF x = am x:=if_neg (by rw [h];decide)
theorem d8 (x : UInt8) (r : Bs) : ay (x :: r) = if x = 47 then r else x :: r:=by
 unfold ay
 by_cases h : x = 47
 ·rw [if_pos (by rw [h];rfl),if_pos h];rfl
 ·rw [if_neg (by simpa using h),if_neg h]
theorem CY (x : UInt8) (r : Bs) : dI (x :: r) = decide ((x.toNat : Int) = 47):=by
 unfold dI
 rw [decide_eq_decide]
 show some x = some 47 ↔ _
 constructor
 ·intro h;cases h;rfl
 ·intro h;rw [iR (a:=x) (b:=47) (by rw [h];rfl)]
attribute [local irreducible] bo aF ay dI
theorem jP (s : Bs) (c : UInt8) (l : List Bs) (hl : cut c s = l) (hs : s.length < 2000000) : bn Tryz.prog 33 [.d (.str s),.d (u8 c)] [] (.sl 0 0 l.length 1 none) [⟨(l.map D.str).map .d,1,0⟩]:=by
 refine cd aZ Tryz.func33 rfl (by kernel_rfl) [] (by rfl) [] ?_
 conv=>whnf
 repeat' (first
 | ((with_reducible refine aJ ?_ ?_);(focus ((try simp only [List.length_map,List.length_cons,List.length_nil,List.length_append]);omega));conv=>whnf)
 | ((with_reducible refine aB (fun h=>?_) (fun h=>?_))<;>(try simp only [List.length_map] at h)<;>conv=>whnf)
 | ((with_reducible refine aO ?_);first | (refine Dh (fun (out : List Bs) (a : Nat) (k : Nat)=>s.length - k) (fun (out : List Bs) (a : Nat) (k : Nat)=>k <= s.length /\ a <= k /\ out.length <= k /\ nY c s out a k) (fun (out : List Bs) (a : Nat) (k : Nat)=>[(0,.d (.str s)),(1,.d (u8 c)),(5,.sl 0 0 out.length 1 none),(6,.d (i a)),(7,.d (i k))]) (fun (out : List Bs) (a : Nat) (k : Nat)=>[⟨(out.map D.str).map .d,1,0⟩]) ([]) (0) (0) (by exact ⟨Nat.zero_le _,Nat.le_refl _,Nat.le_refl _,nY.zero _ _⟩) ?_ (fun out a k C hI hC=>?_);(exact ⟨[.void 1],rfl,rfl,⟨rfl,rfl,⟨rfl,rfl,rfl,rfl⟩,rfl,rfl,trivial⟩,⟨⟨rfl,rfl,(by decide),rfl⟩,trivial⟩⟩);all_goals (conv=>whnf)))
 | ((with_reducible show C _ _);first | (refine hC (out ++ [(s.take k).drop a]) (k + 1) (k + 1) _ _ ?_ (by omega) ?_;clear hC;rotate_left;(exact ⟨[.old 2],rfl,rfl,⟨rfl,rfl,⟨rfl,rfl,(by simp),rfl,rfl⟩,(by first | exact congrArg (D.int .i64) (by omega) ),(by first | exact congrArg (D.int .i64) (by omega) ),trivial⟩,⟨⟨rfl,rfl,.inr (fg (em _ _) rfl)⟩,trivial⟩⟩);(exact ⟨by omega,by omega,by simp;omega,hI.2.2.2.hit (by omega) (iR h)⟩)) | (refine hC (out) (a) (k + 1) _ _ ?_ (by omega) ?_;clear hC;rotate_left;(exact ⟨[.old 0],rfl,rfl,⟨rfl,rfl,(by first | exact ⟨rfl,rfl,rfl,rfl,rfl⟩ ),rfl,(by first | exact congrArg (D.int .i64) (by omega) ),trivial⟩,⟨⟨rfl,rfl,.inr (em _ _)⟩,trivial⟩⟩);(exact ⟨by omega,by omega,by omega,hI.2.2.2.miss (by omega) (fun e=>h (by rw [e]))⟩)))
 | (refine ⟨⟨(by first | (simp;done)),cm (by simp only [List.length_map,List.length_cons,List.length_nil,List.length_append];omega) rfl⟩,?_⟩;conv=>whnf)
 | (refine qc (by omega) ?_;conv=>whnf)
 | (refine ax (by omega) ?_;conv=>whnf)
 | (refine eh a s.length (by omega) (by omega) (by omega) ?_;conv=>whnf)
 | (refine eh a k (by omega) (by omega) (by omega) ?_;conv=>whnf)
 | (refine ⟨Nat.le_refl _,?_⟩;conv=>whnf)
 | ((with_reducible refine ag ?_);first | (refine bR (.inl ⟨[.old 2],rfl,rfl,⟨⟨rfl,rfl,?_,rfl,rfl⟩,trivial⟩,⟨⟨rfl,rfl,.inr ?_⟩,trivial⟩⟩);(focus (rw [<- hl,<- hI.2.2.2.done (by omega)];simp));rw [<- hl,<- hI.2.2.2.done (by omega)];exact fg (em _ _) (congrArg D.str (by rw [List.take_length]));done))
  | fail
  )
theorem rD {l L : List Bs} {n m : Nat} {a : Bs} {K : List AV -> Prop} (e : n = m) (hL : l.set m a = L) (hk : K ((L.map D.str).map .d)) : fb ((l.map D.str).map AV.d) n (.d (.str a)) K:=by
 subst e;subst hL
 rw [aU,Dv];exact hk
def uz (ab : Bool) (L : List Bs) (T : Bs) : PP × Int:=if bo L = false then (fz,7) else if cP L T ≠ 0 then (fz,cP L T) else (⟨ab,L,T⟩,0)
theorem xJ (l : List Bs) : bo (l.take 0) = true:=by rw [List.take_zero];unfold bo;rfl
theorem xI {l : List Bs} {k : Nat} (h : bo (l.take k) = true) (hk : ¬ ((k : Int) < l.length)) : bo l = true:=by
 rwa [List.take_of_length_le (by omega)] at h
theorem rB {ab : Bool} {L : List Bs} {T : Bs} (h : bo L = false) : D.tup [js fz,i 7] = .tup [js (uz ab L T).1,i (uz ab L T).2]:=by
 unfold uz;rw [if_pos h]
theorem gx {ab : Bool} {L : List Bs} {T : Bs} {e : Int} (h : bo L = true) (h2 : cP L T = e) (h3 : ¬ e = 0) : D.tup [js fz,i e] = .tup [js (uz ab L T).1,i (uz ab L T).2]:=by
 unfold uz;rw [if_neg (by rw [h];decide),if_pos (by rw [h2];exact h3),h2]
theorem xr {ab : Bool} {L : List Bs} {T : Bs} (h : bo L = true) (h2 : cP L T = 0) : D.tup [js ⟨ab,L,T⟩,i 0] = .tup [js (uz ab L T).1,i (uz ab L T).2]:=by
 unfold uz;rw [if_neg (by rw [h];decide),if_neg (by rw [h2];simp)]
theorem rz {L : List Bs} {T : Bs} {k : Nat} (hk : k < L.length) (hi : aI (L.map aF) = aI ((L.drop k).map aF)) (hd : bp L[k] = false) (hn : ¬ am L[k] = 0) : cP L T = am L[k]:=by
 unfold cP
 rw [hi,oY hk,mE hd,if_neg hn,ce,if_neg hn]
theorem fa {L : List Bs} {T : Bs} {k : Nat} (hk : ¬ ((k : Int) < L.length)) (hi : aI (L.map aF) = aI ((L.drop k).map aF)) : cP L T = aI [if T = [] then 0 else am T,if 16 < L.length then 8 else 0]:=by
 unfold cP
 rw [hi,List.drop_eq_nil_of_le (by omega),List.map_nil,fX,ce,if_pos rfl]
theorem rA {L : List Bs} {T : Bs} (h : ¬ ((16 : Int) < L.length)) (hT : T = [] \/ am T = 0) : aI [if T = [] then 0 else am T,if 16 < L.length then 8 else 0] = 0:=by
 rw [if_neg (show ¬ 16 < L.length by omega)]
 rcases hT with hT | hT
 ·rw [if_pos hT];rfl
 ·rw [hT];simp [ce,fX]
theorem mF {L : List Bs} {T : Bs} (h : (16 : Int) < L.length) (hT : T = [] \/ am T = 0) : aI [if T = [] then 0 else am T,if 16 < L.length then 8 else 0] = 8:=by
 rw [if_pos (show 16 < L.length by omega)]
 rcases hT with hT | hT
 ·rw [if_pos hT];rfl
 ·rw [hT];simp [ce,fX]
theorem vE {L : List Bs} {T : Bs} (hT : ¬ T = []) (hn : ¬ am T = 0) : aI [if T = [] then 0 else am T,if 16 < L.length then 8 else 0] = am T:=by
 rw [if_neg hT,ce,if_neg hn]
theorem vM {l L : List Bs} {m : Nat} {a : Bs} (hL : l.set m a = L) (h : ∀ y ∈ l,y.length < 1000) (ha : a.length < 1000) : ∀ y ∈ L,y.length < 1000:=by
 intro y hy
 rw [<- hL] at hy
 rcases List.mem_or_eq_of_mem_set hy with hy | rfl
 ·exact h y hy
 ·exact ha
theorem mi {c : UInt8} {s y : Bs} {l : List Bs} (h : cut c s = l) (hs : s.length < 1000) (hy : y ∈ l) : y.length < 1000:=by
 rw [<- h] at hy
 have:=(dp hy).2;omega
theorem bj (x : UInt8) (r : Bs) : (ay (x :: r)).length <= r.length + 1:=by
 rw [d8];split<;>simp
theorem NA (x : UInt8) (r q : Bs) (l cs : List Bs) (hlen : r.length <= 199) (h47 : ¬ x :: r = [47]) (hq : ay (x :: r) = q) (hl : cut 47 q = l) (hcs : cut 58 (l[l.length - 1]'(du (by rw [<- hl];exact bv _ _))) = cs) (hx : (x.toNat : Int) = 47) (h2 : 2 < cs.length) : Fn 15 [.str (x :: r)] (.tup [js fz,i 7]):=by
 have hl0 : 0 < l.length:=List.length_pos_iff.2 (by rw [<- hl];exact bv _ _);have hll : l.length < 1000:=(by rw [<- hl,df];have:=List.count_le_length (a:=47) (l:=q);have:=bj x r;rw [hq] at this;omega);have kX : ∀ x ∈ l,x.length < 1000:=(by intro y hy;rw [<- hl] at hy;have:=(dp hy).2;have:=bj x r;rw [hq] at this;omega);have h97t : ((x :: r).take (r.length + 1)).drop 1 = q:=(by rw [<- hq,d8,if_pos (iR (b:=47) hx)];simp);have hql : q.length <= 200:=(by have:=bj x r;rw [hq] at this;omega)
 refine ac aZ Tryz.func15 rfl (by kernel_rfl) ?_
 conv=>whnf
 repeat' (first
 | ((with_reducible refine bP (by assumption) ?_);conv=>whnf)
 | ((with_reducible refine aJ (by assumption) ?_);conv=>whnf)
 | ((with_reducible refine aJ ?_ ?_);(focus ((try simp only [List.length_map,List.length_cons,List.length_nil,List.length_append]);omega));conv=>whnf)
 | ((with_reducible refine bP ?_ ?_);(focus ((try simp only [List.length_map,List.length_cons,List.length_nil,List.length_append]);omega));conv=>whnf)
 | ((with_reducible refine ak ?_);(first | refine aa (cI (l:=l) (jP (((x :: r).take (r.length + 1)).drop 1) 47 l (by rw [h97t,hl]) (by rw [h97t];omega)) (fun _=>rfl) rfl) ?_ | refine aa (cI (l:=cs) (jP (l[l.length - 1]'(by omega)) 58 cs hcs (by have:=kX _ (List.getElem_mem (l:=l) (n:=l.length - 1) (by omega));omega)) (fun _=>rfl) rfl) ?_ );conv=>whnf)
 | (refine ax (by omega) ?_;conv=>whnf)
 | (refine eh 1 (r.length + 1) (by omega) (by simp) (by simp) ?_;conv=>whnf)
 | (refine ⟨Int.le_refl 0,?_⟩;conv=>whnf)
 | (refine ⟨⟨by omega,by first | omega | (simp;done)⟩,?_⟩;conv=>whnf)
 | (refine bF (l:=l) (l.length - 1) (by omega) (by omega) ?_;conv=>whnf)
 | ((with_reducible refine ag ?_);first | (exact aP rfl rfl;done))
  | fail
  )
theorem NC (x : UInt8) (r q : Bs) (l : List Bs) (a b : Bs) (hlen : r.length <= 199) (h47 : ¬ x :: r = [47]) (hq : ay (x :: r) = q) (hl : cut 47 q = l) (hcs : cut 58 (l[l.length - 1]'(du (by rw [<- hl];exact bv _ _))) = [a,b]) (hx : (x.toNat : Int) = 47) (h2 : bp a = true) : Fn 15 [.str (x :: r)] (.tup [js fz,i 7]):=by
 have hl0 : 0 < l.length:=List.length_pos_iff.2 (by rw [<- hl];exact bv _ _);have hll : l.length < 1000:=(by rw [<- hl,df];have:=List.count_le_length (a:=47) (l:=q);have:=bj x r;rw [hq] at this;omega);have kX : ∀ x ∈ l,x.length < 1000:=(by intro y hy;rw [<- hl] at hy;have:=(dp hy).2;have:=bj x r;rw [hq] at this;omega);have h97t : ((x :: r).take (r.length + 1)).drop 1 = q:=(by rw [<- hq,d8,if_pos (iR (b:=47) hx)];simp);have hql : q.length <= 200:=(by have:=bj x r;rw [hq] at this;omega)
 refine ac aZ Tryz.func15 rfl (by kernel_rfl) ?_
 conv=>whnf
 repeat' (first
 | ((with_reducible refine bP (by assumption) ?_);conv=>whnf)
 | ((with_reducible refine aJ (by assumption) ?_);conv=>whnf)
 | ((with_reducible refine bO (by assumption) ?_);conv=>whnf)
 | ((with_reducible refine aJ ?_ ?_);(focus ((try simp only [List.length_map,List.length_cons,List.length_nil,List.length_append]);omega));conv=>whnf)
 | ((with_reducible refine ak ?_);(first | refine aa (cI (l:=l) (jP (((x :: r).take (r.length + 1)).drop 1) 47 l (by rw [h97t,hl]) (by rw [h97t];omega)) (fun _=>rfl) rfl) ?_ | refine aa (cI (l:=[a,b]) (jP (l[l.length - 1]'(by omega)) 58 [a,b] hcs (by have:=kX _ (List.getElem_mem (l:=l) (n:=l.length - 1) (by omega));omega)) (fun _=>rfl) rfl) ?_ | refine aa (ah (KC _) rfl rfl) ?_);conv=>whnf)
 | (refine ax (by omega) ?_;conv=>whnf)
 | (refine eh 1 (r.length + 1) (by omega) (by simp) (by simp) ?_;conv=>whnf)
 | (refine ⟨Int.le_refl 0,?_⟩;conv=>whnf)
 | (refine ⟨⟨by omega,by first | omega | (simp;done)⟩,?_⟩;conv=>whnf)
 | (refine bF (l:=l) (l.length - 1) (by omega) (by omega) ?_;conv=>whnf)
 | ((with_reducible refine ag ?_);first | (exact aP rfl rfl;done))
  | fail
  )
theorem NE (x : UInt8) (r q : Bs) (l : List Bs) (a b : Bs) (hlen : r.length <= 199) (h47 : ¬ x :: r = [47]) (hq : ay (x :: r) = q) (hl : cut 47 q = l) (hcs : cut 58 (l[l.length - 1]'(du (by rw [<- hl];exact bv _ _))) = [a,b]) (hx : (x.toNat : Int) = 47) (h2 : bp a = false) (h3 : b = []) : Fn 15 [.str (x :: r)] (.tup [js fz,i 7]):=by
 have hl0 : 0 < l.length:=List.length_pos_iff.2 (by rw [<- hl];exact bv _ _);have hll : l.length < 1000:=(by rw [<- hl,df];have:=List.count_le_length (a:=47) (l:=q);have:=bj x r;rw [hq] at this;omega);have kX : ∀ x ∈ l,x.length < 1000:=(by intro y hy;rw [<- hl] at hy;have:=(dp hy).2;have:=bj x r;rw [hq] at this;omega);have h97t : ((x :: r).take (r.length + 1)).drop 1 = q:=(by rw [<- hq,d8,if_pos (iR (b:=47) hx)];simp);have hql : q.length <= 200:=(by have:=bj x r;rw [hq] at this;omega)
 refine ac aZ Tryz.func15 rfl (by kernel_rfl) ?_
 conv=>whnf
 repeat' (first
 | ((with_reducible refine bP (by assumption) ?_);conv=>whnf)
 | ((with_reducible refine aJ (by assumption) ?_);conv=>whnf)
 | ((with_reducible refine bA (by assumption) ?_);conv=>whnf)
 | ((with_reducible refine aJ ?_ ?_);(focus ((try simp only [List.length_map,List.length_cons,List.length_nil,List.length_append]);omega));conv=>whnf)
 | ((with_reducible refine ao (fun h=>?_) (fun h=>?_))<;>conv=>whnf)
 | ((with_reducible refine ak ?_);(first | refine aa (cI (l:=l) (jP (((x :: r).take (r.length + 1)).drop 1) 47 l (by rw [h97t,hl]) (by rw [h97t];omega)) (fun _=>rfl) rfl) ?_ | refine aa (cI (l:=[a,b]) (jP (l[l.length - 1]'(by omega)) 58 [a,b] hcs (by have:=kX _ (List.getElem_mem (l:=l) (n:=l.length - 1) (by omega));omega)) (fun _=>rfl) rfl) ?_ | refine aa (ah (KC _) rfl rfl) ?_);conv=>whnf)
 | (refine ⟨[],[],(by decide +kernel),?_⟩;conv=>whnf)
 | (refine ax (by omega) ?_;conv=>whnf)
 | (exact absurd h3 (of_decide_eq_false h))
 | (refine eh 1 (r.length + 1) (by omega) (by simp) (by simp) ?_;conv=>whnf)
 | (refine ⟨Int.le_refl 0,?_⟩;conv=>whnf)
 | (refine ⟨⟨by omega,by first | omega | (simp;done)⟩,?_⟩;conv=>whnf)
 | (refine bF (l:=l) (l.length - 1) (by omega) (by omega) ?_;conv=>whnf)
 | ((with_reducible refine ag ?_);first | (exact aP rfl rfl;done) )
  | fail
  )
theorem Nz (x : UInt8) (r q : Bs) (l cs : List Bs) (hlen : r.length <= 199) (h47 : ¬ x :: r = [47]) (hq : ay (x :: r) = q) (hl : cut 47 q = l) (hcs : cut 58 (l[l.length - 1]'(du (by rw [<- hl];exact bv _ _))) = cs) (hx : ¬ (x.toNat : Int) = 47) (h2 : 2 < cs.length) : Fn 15 [.str (x :: r)] (.tup [js fz,i 7]):=by
 have hl0 : 0 < l.length:=List.length_pos_iff.2 (by rw [<- hl];exact bv _ _);have hll : l.length < 1000:=(by rw [<- hl,df];have:=List.count_le_length (a:=47) (l:=q);have:=bj x r;rw [hq] at this;omega);have kX : ∀ x ∈ l,x.length < 1000:=(by intro y hy;rw [<- hl] at hy;have:=(dp hy).2;have:=bj x r;rw [hq] at this;omega);have h97f : x :: r = q:=(by rw [<- hq,d8,if_neg (fun e=>hx (by rw [e];rfl))]);have hql : q.length <= 200:=(by have:=bj x r;rw [hq] at this;omega)
 refine ac aZ Tryz.func15 rfl (by kernel_rfl) ?_
 conv=>whnf
 repeat' (first
 | ((with_reducible refine aJ (by assumption) ?_);conv=>whnf)
 | ((with_reducible refine aJ ?_ ?_);(focus ((try simp only [List.length_map,List.length_cons,List.length_nil,List.length_append]);omega));conv=>whnf)
 | ((with_reducible refine bP ?_ ?_);(focus ((try simp only [List.length_map,List.length_cons,List.length_nil,List.length_append]);omega));conv=>whnf)
 | ((with_reducible refine ak ?_);(first | refine aa (cI (l:=l) (jP (x :: r) 47 l (by rw [h97f,hl]) (by rw [h97f];omega)) (fun _=>rfl) rfl) ?_ | refine aa (cI (l:=cs) (jP (l[l.length - 1]'(by omega)) 58 cs hcs (by have:=kX _ (List.getElem_mem (l:=l) (n:=l.length - 1) (by omega));omega)) (fun _=>rfl) rfl) ?_ );conv=>whnf)
 | (refine ax (by omega) ?_;conv=>whnf)
 | (refine ⟨Int.le_refl 0,?_⟩;conv=>whnf)
 | (refine ⟨⟨by omega,by first | omega | (simp;done)⟩,?_⟩;conv=>whnf)
 | (refine bF (l:=l) (l.length - 1) (by omega) (by omega) ?_;conv=>whnf)
 | ((with_reducible refine ag ?_);first | (exact aP rfl rfl;done))
  | fail
  )
theorem NB (x : UInt8) (r q : Bs) (l : List Bs) (a b : Bs) (hlen : r.length <= 199) (h47 : ¬ x :: r = [47]) (hq : ay (x :: r) = q) (hl : cut 47 q = l) (hcs : cut 58 (l[l.length - 1]'(du (by rw [<- hl];exact bv _ _))) = [a,b]) (hx : ¬ (x.toNat : Int) = 47) (h2 : bp a = true) : Fn 15 [.str (x :: r)] (.tup [js fz,i 7]):=by
 have hl0 : 0 < l.length:=List.length_pos_iff.2 (by rw [<- hl];exact bv _ _);have hll : l.length < 1000:=(by rw [<- hl,df];have:=List.count_le_length (a:=47) (l:=q);have:=bj x r;rw [hq] at this;omega);have kX : ∀ x ∈ l,x.length < 1000:=(by intro y hy;rw [<- hl] at hy;have:=(dp hy).2;have:=bj x r;rw [hq] at this;omega);have h97f : x :: r = q:=(by rw [<- hq,d8,if_neg (fun e=>hx (by rw [e];rfl))]);have hql : q.length <= 200:=(by have:=bj x r;rw [hq] at this;omega)
 refine ac aZ Tryz.func15 rfl (by kernel_rfl) ?_
 conv=>whnf
 repeat' (first
 | ((with_reducible refine aJ (by assumption) ?_);conv=>whnf)
 | ((with_reducible refine bO (by assumption) ?_);conv=>whnf)
 | ((with_reducible refine aJ ?_ ?_);(focus ((try simp only [List.length_map,List.length_cons,List.length_nil,List.length_append]);omega));conv=>whnf)
 | ((with_reducible refine ak ?_);(first | refine aa (cI (l:=l) (jP (x :: r) 47 l (by rw [h97f,hl]) (by rw [h97f];omega)) (fun _=>rfl) rfl) ?_ | refine aa (cI (l:=[a,b]) (jP (l[l.length - 1]'(by omega)) 58 [a,b] hcs (by have:=kX _ (List.getElem_mem (l:=l) (n:=l.length - 1) (by omega));omega)) (fun _=>rfl) rfl) ?_ | refine aa (ah (KC _) rfl rfl) ?_);conv=>whnf)
 | (refine ax (by omega) ?_;conv=>whnf)
 | (refine ⟨Int.le_refl 0,?_⟩;conv=>whnf)
 | (refine ⟨⟨by omega,by first | omega | (simp;done)⟩,?_⟩;conv=>whnf)
 | (refine bF (l:=l) (l.length - 1) (by omega) (by omega) ?_;conv=>whnf)
 | ((with_reducible refine ag ?_);first | (exact aP rfl rfl;done))
  | fail
  )
theorem ND (x : UInt8) (r q : Bs) (l : List Bs) (a b : Bs) (hlen : r.length <= 199) (h47 : ¬ x :: r = [47]) (hq : ay (x :: r) = q) (hl : cut 47 q = l) (hcs : cut 58 (l[l.length - 1]'(du (by rw [<- hl];exact bv _ _))) = [a,b]) (hx : ¬ (x.toNat : Int) = 47) (h2 : bp a = false) (h3 : b = []) : Fn 15 [.str (x :: r)] (.tup [js fz,i 7]):=by
 have hl0 : 0 < l.length:=List.length_pos_iff.2 (by rw [<- hl];exact bv _ _);have hll : l.length < 1000:=(by rw [<- hl,df];have:=List.count_le_length (a:=47) (l:=q);have:=bj x r;rw [hq] at this;omega);have kX : ∀ x ∈ l,x.length < 1000:=(by intro y hy;rw [<- hl] at hy;have:=(dp hy).2;have:=bj x r;rw [hq] at this;omega);have h97f : x :: r = q:=(by rw [<- hq,d8,if_neg (fun e=>hx (by rw [e];rfl))]);have hql : q.length <= 200:=(by have:=bj x r;rw [hq] at this;omega)
 refine ac aZ Tryz.func15 rfl (by kernel_rfl) ?_
 conv=>whnf
 repeat' (first
 | ((with_reducible refine aJ (by assumption) ?_);conv=>whnf)
 | ((with_reducible refine bA (by assumption) ?_);conv=>whnf)
 | ((with_reducible refine aJ ?_ ?_);(focus ((try simp only [List.length_map,List.length_cons,List.length_nil,List.length_append]);omega));conv=>whnf)
 | ((with_reducible refine ao (fun h=>?_) (fun h=>?_))<;>conv=>whnf)
 | ((with_reducible refine ak ?_);(first | refine aa (cI (l:=l) (jP (x :: r) 47 l (by rw [h97f,hl]) (by rw [h97f];omega)) (fun _=>rfl) rfl) ?_ | refine aa (cI (l:=[a,b]) (jP (l[l.length - 1]'(by omega)) 58 [a,b] hcs (by have:=kX _ (List.getElem_mem (l:=l) (n:=l.length - 1) (by omega));omega)) (fun _=>rfl) rfl) ?_ | refine aa (ah (KC _) rfl rfl) ?_);conv=>whnf)
 | (refine ⟨[],[],(by decide +kernel),?_⟩;conv=>whnf)
 | (refine ax (by omega) ?_;conv=>whnf)
 | (exact absurd h3 (of_decide_eq_false h))
 | (refine ⟨Int.le_refl 0,?_⟩;conv=>whnf)
 | (refine ⟨⟨by omega,by first | omega | (simp;done)⟩,?_⟩;conv=>whnf)
 | (refine bF (l:=l) (l.length - 1) (by omega) (by omega) ?_;conv=>whnf)
 | ((with_reducible refine ag ?_);first | (exact aP rfl rfl;done) )
  | fail
  )
attribute [local irreducible] uz
theorem NG (x : UInt8) (r q : Bs) (l L : List Bs) (a T : Bs) (hlen : r.length <= 199) (h47 : ¬ x :: r = [47]) (hq : ay (x :: r) = q) (hl : cut 47 q = l) (hcs : cut 58 (l[l.length - 1]'(du (by rw [<- hl];exact bv _ _))) = [a,T]) (hL : l.set (l.length - 1) a = L) (hx : (x.toNat : Int) = 47) (h2 : bp a = false) (h3 : ¬ T = []) : Fn 15 [.str (x :: r)] (.tup [js (uz (decide ((x.toNat : Int) = 47)) L T).1,i (uz (decide ((x.toNat : Int) = 47)) L T).2]):=by
 have hl0 : 0 < l.length:=List.length_pos_iff.2 (by rw [<- hl];exact bv _ _);have hll : l.length < 1000:=(by rw [<- hl,df];have:=List.count_le_length (a:=47) (l:=q);have:=bj x r;rw [hq] at this;omega);have kX : ∀ x ∈ l,x.length < 1000:=(by intro y hy;rw [<- hl] at hy;have:=(dp hy).2;have:=bj x r;rw [hq] at this;omega);have h97t : ((x :: r).take (r.length + 1)).drop 1 = q:=(by rw [<- hq,d8,if_pos (iR (b:=47) hx)];simp);have hql : q.length <= 200:=(by have:=bj x r;rw [hq] at this;omega);have hLl : l.length = L.length:=(by rw [<- hL];simp);have hls : (l[l.length - 1]'(by omega)).length < 1000:=kX _ (List.getElem_mem _);have hpT : T.length < 1000:=mi hcs hls (by simp);have hpL : ∀ y ∈ L,y.length < 1000:=vM hL kX (mi hcs hls (by simp))
 refine ac aZ Tryz.func15 rfl (by kernel_rfl) ?_
 conv=>whnf
 repeat' (first
 | ((with_reducible refine bP (by assumption) ?_);conv=>whnf)
 | ((with_reducible refine aJ (by assumption) ?_);conv=>whnf)
 | ((with_reducible refine bA (by assumption) ?_);conv=>whnf)
 | ((with_reducible refine zw (by assumption) ?_);conv=>whnf)
 | ((with_reducible refine aJ ?_ ?_);(focus ((try simp only [List.length_map,List.length_cons,List.length_nil,List.length_append]);omega));conv=>whnf)
 | ((with_reducible refine aB (fun h=>?_) (fun h=>?_))<;>(try simp only [List.length_map] at h)<;>conv=>whnf)
 | ((with_reducible refine bu (fun h=>?_) (fun h=>?_))<;>(try simp only [List.length_map] at h)<;>conv=>whnf)
 | ((with_reducible refine ao (fun h=>?_) (fun h=>?_))<;>conv=>whnf)
 | ((with_reducible refine ak ?_);(first | refine aa (cI (l:=l) (jP (((x :: r).take (r.length + 1)).drop 1) 47 l (by rw [h97t,hl]) (by rw [h97t];omega)) (fun _=>rfl) rfl) ?_ | refine aa (cI (l:=[a,T]) (jP (l[l.length - 1]'(by omega)) 58 [a,T] hcs (by have:=kX _ (List.getElem_mem (l:=l) (n:=l.length - 1) (by omega));omega)) (fun _=>rfl) rfl) ?_ | refine aa (aA (QC (L[k]'(by omega)) 58 (by have:=hpL _ (List.getElem_mem (l:=L) (n:=k) (by omega));omega)) rfl) ?_ | refine aa (ah (KC _) rfl rfl) ?_ | refine aa (ah (KD (L[k]'(by omega)) (by have:=hpL _ (List.getElem_mem (l:=L) (n:=k) (by omega));omega)) rfl rfl) ?_ | refine aa (ah (KD T (by have:=hpT;omega)) rfl rfl) ?_);conv=>whnf)
 | (refine ⟨[],[],(by decide +kernel),?_⟩;conv=>whnf)
 | ((with_reducible refine aO ?_);first | (refine bh (fun (k : Nat)=>L.length - k) (fun (k : Nat)=>k <= L.length /\ bo (L.take k) = true) (fun (k : Nat)=>[(2,.ptr 0 0 0),(4,.d (i 7)),(5,.ptr 1 0 0),(8,.d (i k))]) (fun (k : Nat)=>[⟨[.junk],3,0⟩,⟨[.agg [.d (.bool (decide ((x.toNat : Int) = 47))),.sl 2 0 L.length 1 none,.d (.str T)]],3,0⟩,⟨(L.map D.str).map .d,1,0⟩]) (0) (by exact ⟨Nat.zero_le _,xJ _⟩) ?_ (fun k C hI hC=>?_);(exact ⟨[.old 0,.old 1,.old 2],rfl,rfl,⟨⟨rfl,rfl,rfl⟩,rfl,⟨rfl,rfl,rfl⟩,(by first | exact congrArg (D.int .i64) (by omega) ),trivial⟩,⟨⟨rfl,rfl,.inr ⟨trivial,trivial⟩⟩,⟨rfl,rfl,.inr ⟨⟨rfl,⟨rfl,rfl,hLl,rfl,rfl⟩,rfl,trivial⟩,trivial⟩⟩,⟨rfl,rfl,.inr (em _ _)⟩,trivial⟩⟩);all_goals (conv=>whnf)) | (refine bh (fun (k : Nat)=>L.length - k) (fun (k : Nat)=>k <= L.length /\ bo L = true /\ aI (L.map aF) = aI ((L.drop k).map aF)) (fun (k : Nat)=>[(2,.ptr 0 0 0),(5,.ptr 1 0 0),(9,.d (i k))]) (fun (k : Nat)=>[⟨[.junk],3,0⟩,⟨[.agg [.d (.bool (decide ((x.toNat : Int) = 47))),.sl 2 0 L.length 1 none,.d (.str T)]],3,0⟩,⟨(L.map D.str).map .d,1,0⟩]) (0) (by exact ⟨Nat.zero_le _,xI hI.2 (by assumption),rfl⟩) ?_ (fun k C2 hI2 hC2=>?_);(exact ⟨[.old 0,.old 1,.old 2],rfl,rfl,⟨⟨rfl,rfl,rfl⟩,⟨rfl,rfl,rfl⟩,(by first | exact congrArg (D.int .i64) (by omega) ),trivial⟩,⟨⟨rfl,rfl,.inr ⟨trivial,trivial⟩⟩,⟨rfl,rfl,.inr ⟨⟨rfl,⟨rfl,rfl,rfl,rfl,rfl⟩,rfl,trivial⟩,trivial⟩⟩,⟨rfl,rfl,.inr (em _ _)⟩,trivial⟩⟩);all_goals (conv=>whnf)))
 | ((with_reducible show C _ _);first | (refine hC (k + 1) _ _ ?_ (by omega) ?_;clear hC;rotate_left;(exact ⟨[.old 0,.old 1,.old 2],rfl,rfl,⟨⟨rfl,rfl,rfl⟩,rfl,⟨rfl,rfl,rfl⟩,(by first | exact congrArg (D.int .i64) (by omega) ),trivial⟩,⟨⟨rfl,rfl,.inr ⟨trivial,trivial⟩⟩,⟨rfl,rfl,.inr ⟨⟨rfl,⟨rfl,rfl,rfl,rfl,rfl⟩,rfl,trivial⟩,trivial⟩⟩,⟨rfl,rfl,.inr (em _ _)⟩,trivial⟩⟩);(exact ⟨by omega,rG hI.2 (by omega) (of_decide_eq_false (by assumption)) (by assumption)⟩)))
 | ((with_reducible show C2 _ _);first | (refine hC2 (k + 1) _ _ ?_ (by omega) ?_;clear hC2;rotate_left;(exact ⟨[.old 0,.old 1,.old 2],rfl,rfl,⟨⟨rfl,rfl,rfl⟩,⟨rfl,rfl,rfl⟩,(by first | exact congrArg (D.int .i64) (by omega) ),trivial⟩,⟨⟨rfl,rfl,.inr ⟨trivial,trivial⟩⟩,⟨rfl,rfl,.inr ⟨⟨rfl,⟨rfl,rfl,rfl,rfl,rfl⟩,rfl,trivial⟩,trivial⟩⟩,⟨rfl,rfl,.inr (em _ _)⟩,trivial⟩⟩);(exact ⟨by omega,hI2.2.1,by rw [hI2.2.2,oY (by omega),if_pos (by first | exact oX (by assumption) | (rw [mE (by assumption)];assumption))]⟩)))
 | (refine ax (by omega) ?_;conv=>whnf)
 | (exact absurd (of_decide_eq_true h) h3)
 | (refine bF (l:=L) k (by omega) (by omega) ?_;conv=>whnf)
 | (refine rD (l:=l) (L:=L) (m:=l.length - 1) (by omega) hL ?_;conv=>whnf)
 | (refine eh 1 (r.length + 1) (by omega) (by simp) (by simp) ?_;conv=>whnf)
 | (refine ⟨Int.le_refl 0,?_⟩;conv=>whnf)
 | (refine ⟨⟨by omega,by first | omega | (simp;done)⟩,?_⟩;conv=>whnf)
 | (refine bF (l:=l) (l.length - 1) (by omega) (by omega) ?_;conv=>whnf)
 | ((with_reducible refine ag ?_);first | (exact aP rfl (rB (xH (k:=k) (by omega) (by first | exact .inl (of_decide_eq_true (by assumption)) | exact .inr (by assumption))));done) | (exact aP rfl (gx hI2.2.1 (rz (by omega) hI2.2.2 (by assumption) (by assumption)) (by assumption));done) | (exact aP rfl (gx hI2.2.1 (by rw [fa (by assumption) hI2.2.2];exact mF (by assumption) (.inr (by assumption))) (by decide));done) | (exact aP rfl (gx hI2.2.1 (by rw [fa (by assumption) hI2.2.2];exact vE (by assumption) (by assumption)) (by assumption));done) | (exact aP (aY (aK (be (aK rfl (aK (ca rfl Nat.two_pos) (aK rfl bM)))) (aK rfl bM))) (xr hI2.2.1 (by rw [fa (by assumption) hI2.2.2];exact rA (by assumption) (.inr (by assumption))));done))
  | fail
  )
theorem NI (x : UInt8) (r q : Bs) (l : List Bs) (a : Bs) (hlen : r.length <= 199) (h47 : ¬ x :: r = [47]) (hq : ay (x :: r) = q) (hl : cut 47 q = l) (hcs : cut 58 (l[l.length - 1]'(du (by rw [<- hl];exact bv _ _))) = [a]) (hx : (x.toNat : Int) = 47) : Fn 15 [.str (x :: r)] (.tup [js (uz (decide ((x.toNat : Int) = 47)) l []).1,i (uz (decide ((x.toNat : Int) = 47)) l []).2]):=by
 have hl0 : 0 < l.length:=List.length_pos_iff.2 (by rw [<- hl];exact bv _ _);have hll : l.length < 1000:=(by rw [<- hl,df];have:=List.count_le_length (a:=47) (l:=q);have:=bj x r;rw [hq] at this;omega);have kX : ∀ x ∈ l,x.length < 1000:=(by intro y hy;rw [<- hl] at hy;have:=(dp hy).2;have:=bj x r;rw [hq] at this;omega);have h97t : ((x :: r).take (r.length + 1)).drop 1 = q:=(by rw [<- hq,d8,if_pos (iR (b:=47) hx)];simp);have hql : q.length <= 200:=(by have:=bj x r;rw [hq] at this;omega)
 refine ac aZ Tryz.func15 rfl (by kernel_rfl) ?_
 conv=>whnf
 repeat' (first
 | ((with_reducible refine bP (by assumption) ?_);conv=>whnf)
 | ((with_reducible refine aJ (by assumption) ?_);conv=>whnf)
 | ((with_reducible refine aJ ?_ ?_);(focus ((try simp only [List.length_map,List.length_cons,List.length_nil,List.length_append]);omega));conv=>whnf)
 | ((with_reducible refine aB (fun h=>?_) (fun h=>?_))<;>(try simp only [List.length_map] at h)<;>conv=>whnf)
 | ((with_reducible refine bu (fun h=>?_) (fun h=>?_))<;>(try simp only [List.length_map] at h)<;>conv=>whnf)
 | ((with_reducible refine ao (fun h=>?_) (fun h=>?_))<;>conv=>whnf)
 | ((with_reducible refine ak ?_);(first | refine aa (cI (l:=l) (jP (((x :: r).take (r.length + 1)).drop 1) 47 l (by rw [h97t,hl]) (by rw [h97t];omega)) (fun _=>rfl) rfl) ?_ | refine aa (cI (l:=[a]) (jP (l[l.length - 1]'(by omega)) 58 [a] hcs (by have:=kX _ (List.getElem_mem (l:=l) (n:=l.length - 1) (by omega));omega)) (fun _=>rfl) rfl) ?_ | refine aa (aA (QC (l[k]'(by omega)) 58 (by have:=kX _ (List.getElem_mem (l:=l) (n:=k) (by omega));omega)) rfl) ?_ | refine aa (ah (KC _) rfl rfl) ?_ | refine aa (ah (KD (l[k]'(by omega)) (by have:=kX _ (List.getElem_mem (l:=l) (n:=k) (by omega));omega)) rfl rfl) ?_);conv=>whnf)
 | ((with_reducible refine aO ?_);first | (refine bh (fun (k : Nat)=>l.length - k) (fun (k : Nat)=>k <= l.length /\ bo (l.take k) = true) (fun (k : Nat)=>[(2,.ptr 0 0 0),(4,.d (i 7)),(5,.ptr 1 0 0),(8,.d (i k))]) (fun (k : Nat)=>[⟨[.junk],3,0⟩,⟨[.agg [.d (.bool (decide ((x.toNat : Int) = 47))),.sl 2 0 l.length 1 none,.d (.str [])]],3,0⟩,⟨(l.map D.str).map .d,1,0⟩]) (0) (by exact ⟨Nat.zero_le _,xJ _⟩) ?_ (fun k C hI hC=>?_);(exact ⟨[.old 0,.old 1,.old 2],rfl,rfl,⟨⟨rfl,rfl,rfl⟩,rfl,⟨rfl,rfl,rfl⟩,(by first | exact congrArg (D.int .i64) (by omega) ),trivial⟩,⟨⟨rfl,rfl,.inr ⟨trivial,trivial⟩⟩,⟨rfl,rfl,.inr ⟨⟨rfl,⟨rfl,rfl,rfl,rfl,rfl⟩,rfl,trivial⟩,trivial⟩⟩,⟨rfl,rfl,.inr (em _ _)⟩,trivial⟩⟩);all_goals (conv=>whnf)) | (refine bh (fun (k : Nat)=>l.length - k) (fun (k : Nat)=>k <= l.length /\ bo l = true /\ aI (l.map aF) = aI ((l.drop k).map aF)) (fun (k : Nat)=>[(2,.ptr 0 0 0),(5,.ptr 1 0 0),(9,.d (i k))]) (fun (k : Nat)=>[⟨[.junk],3,0⟩,⟨[.agg [.d (.bool (decide ((x.toNat : Int) = 47))),.sl 2 0 l.length 1 none,.d (.str [])]],3,0⟩,⟨(l.map D.str).map .d,1,0⟩]) (0) (by exact ⟨Nat.zero_le _,xI hI.2 (by assumption),rfl⟩) ?_ (fun k C2 hI2 hC2=>?_);(exact ⟨[.old 0,.old 1,.old 2],rfl,rfl,⟨⟨rfl,rfl,rfl⟩,⟨rfl,rfl,rfl⟩,(by first | exact congrArg (D.int .i64) (by omega) ),trivial⟩,⟨⟨rfl,rfl,.inr ⟨trivial,trivial⟩⟩,⟨rfl,rfl,.inr ⟨⟨rfl,⟨rfl,rfl,rfl,rfl,rfl⟩,rfl,trivial⟩,trivial⟩⟩,⟨rfl,rfl,.inr (em _ _)⟩,trivial⟩⟩);all_goals (conv=>whnf)))
 | ((with_reducible show C _ _);first | (refine hC (k + 1) _ _ ?_ (by omega) ?_;clear hC;rotate_left;(exact ⟨[.old 0,.old 1,.old 2],rfl,rfl,⟨⟨rfl,rfl,rfl⟩,rfl,⟨rfl,rfl,rfl⟩,(by first | exact congrArg (D.int .i64) (by omega) ),trivial⟩,⟨⟨rfl,rfl,.inr ⟨trivial,trivial⟩⟩,⟨rfl,rfl,.inr ⟨⟨rfl,⟨rfl,rfl,rfl,rfl,rfl⟩,rfl,trivial⟩,trivial⟩⟩,⟨rfl,rfl,.inr (em _ _)⟩,trivial⟩⟩);(exact ⟨by omega,rG hI.2 (by omega) (of_decide_eq_false (by assumption)) (by assumption)⟩)))
 | ((with_reducible show C2 _ _);first | (refine hC2 (k + 1) _ _ ?_ (by omega) ?_;clear hC2;rotate_left;(exact ⟨[.old 0,.old 1,.old 2],rfl,rfl,⟨⟨rfl,rfl,rfl⟩,⟨rfl,rfl,rfl⟩,(by first | exact congrArg (D.int .i64) (by omega) ),trivial⟩,⟨⟨rfl,rfl,.inr ⟨trivial,trivial⟩⟩,⟨rfl,rfl,.inr ⟨⟨rfl,⟨rfl,rfl,rfl,rfl,rfl⟩,rfl,trivial⟩,trivial⟩⟩,⟨rfl,rfl,.inr (em _ _)⟩,trivial⟩⟩);(exact ⟨by omega,hI2.2.1,by rw [hI2.2.2,oY (by omega),if_pos (by first | exact oX (by assumption) | (rw [mE (by assumption)];assumption))]⟩)))
 | (refine ax (by omega) ?_;conv=>whnf)
 | (refine bF (l:=l) k (by omega) (by omega) ?_;conv=>whnf)
 | (refine eh 1 (r.length + 1) (by omega) (by simp) (by simp) ?_;conv=>whnf)
 | (refine ⟨Int.le_refl 0,?_⟩;conv=>whnf)
 | (refine ⟨⟨by omega,by first | omega | (simp;done)⟩,?_⟩;conv=>whnf)
 | (refine bF (l:=l) (l.length - 1) (by omega) (by omega) ?_;conv=>whnf)
 | ((with_reducible refine ag ?_);first | (exact aP rfl (rB (xH (k:=k) (by omega) (by first | exact .inl (of_decide_eq_true (by assumption)) | exact .inr (by assumption))));done) | (exact aP rfl (gx hI2.2.1 (rz (by omega) hI2.2.2 (by assumption) (by assumption)) (by assumption));done) | (exact aP rfl (gx hI2.2.1 (by rw [fa (by assumption) hI2.2.2];exact mF (by assumption) (.inl rfl)) (by decide));done) | (exact aP (aY (aK (be (aK rfl (aK (ca rfl Nat.two_pos) (aK rfl bM)))) (aK rfl bM))) (xr hI2.2.1 (by rw [fa (by assumption) hI2.2.2];exact rA (by assumption) (.inl rfl)));done))
  | fail
  )
theorem NF (x : UInt8) (r q : Bs) (l L : List Bs) (a T : Bs) (hlen : r.length <= 199) (h47 : ¬ x :: r = [47]) (hq : ay (x :: r) = q) (hl : cut 47 q = l) (hcs : cut 58 (l[l.length - 1]'(du (by rw [<- hl];exact bv _ _))) = [a,T]) (hL : l.set (l.length - 1) a = L) (hx : ¬ (x.toNat : Int) = 47) (h2 : bp a = false) (h3 : ¬ T = []) : Fn 15 [.str (x :: r)] (.tup [js (uz (decide ((x.toNat : Int) = 47)) L T).1,i (uz (decide ((x.toNat : Int) = 47)) L T).2]):=by
 have hl0 : 0 < l.length:=List.length_pos_iff.2 (by rw [<- hl];exact bv _ _);have hll : l.length < 1000:=(by rw [<- hl,df];have:=List.count_le_length (a:=47) (l:=q);have:=bj x r;rw [hq] at this;omega);have kX : ∀ x ∈ l,x.length < 1000:=(by intro y hy;rw [<- hl] at hy;have:=(dp hy).2;have:=bj x r;rw [hq] at this;omega);have h97f : x :: r = q:=(by rw [<- hq,d8,if_neg (fun e=>hx (by rw [e];rfl))]);have hql : q.length <= 200:=(by have:=bj x r;rw [hq] at this;omega);have hLl : l.length = L.length:=(by rw [<- hL];simp);have hls : (l[l.length - 1]'(by omega)).length < 1000:=kX _ (List.getElem_mem _);have hpT : T.length < 1000:=mi hcs hls (by simp);have hpL : ∀ y ∈ L,y.length < 1000:=vM hL kX (mi hcs hls (by simp))
 refine ac aZ Tryz.func15 rfl (by kernel_rfl) ?_
 conv=>whnf
 repeat' (first
 | ((with_reducible refine aJ (by assumption) ?_);conv=>whnf)
 | ((with_reducible refine bA (by assumption) ?_);conv=>whnf)
 | ((with_reducible refine zw (by assumption) ?_);conv=>whnf)
 | ((with_reducible refine aJ ?_ ?_);(focus ((try simp only [List.length_map,List.length_cons,List.length_nil,List.length_append]);omega));conv=>whnf)
 | ((with_reducible refine aB (fun h=>?_) (fun h=>?_))<;>(try simp only [List.length_map] at h)<;>conv=>whnf)
 | ((with_reducible refine bu (fun h=>?_) (fun h=>?_))<;>(try simp only [List.length_map] at h)<;>conv=>whnf)
 | ((with_reducible refine ao (fun h=>?_) (fun h=>?_))<;>conv=>whnf)
 | ((with_reducible refine ak ?_);(first | refine aa (cI (l:=l) (jP (x :: r) 47 l (by rw [h97f,hl]) (by rw [h97f];omega)) (fun _=>rfl) rfl) ?_ | refine aa (cI (l:=[a,T]) (jP (l[l.length - 1]'(by omega)) 58 [a,T] hcs (by have:=kX _ (List.getElem_mem (l:=l) (n:=l.length - 1) (by omega));omega)) (fun _=>rfl) rfl) ?_ | refine aa (aA (QC (L[k]'(by omega)) 58 (by have:=hpL _ (List.getElem_mem (l:=L) (n:=k) (by omega));omega)) rfl) ?_ | refine aa (ah (KC _) rfl rfl) ?_ | refine aa (ah (KD (L[k]'(by omega)) (by have:=hpL _ (List.getElem_mem (l:=L) (n:=k) (by omega));omega)) rfl rfl) ?_ | refine aa (ah (KD T (by have:=hpT;omega)) rfl rfl) ?_);conv=>whnf)
 | (refine ⟨[],[],(by decide +kernel),?_⟩;conv=>whnf)
 | ((with_reducible refine aO ?_);first | (refine bh (fun (k : Nat)=>L.length - k) (fun (k : Nat)=>k <= L.length /\ bo (L.take k) = true) (fun (k : Nat)=>[(2,.ptr 0 0 0),(4,.d (i 7)),(5,.ptr 1 0 0),(8,.d (i k))]) (fun (k : Nat)=>[⟨[.junk],3,0⟩,⟨[.agg [.d (.bool (decide ((x.toNat : Int) = 47))),.sl 2 0 L.length 1 none,.d (.str T)]],3,0⟩,⟨(L.map D.str).map .d,1,0⟩]) (0) (by exact ⟨Nat.zero_le _,xJ _⟩) ?_ (fun k C hI hC=>?_);(exact ⟨[.old 0,.old 1,.old 2],rfl,rfl,⟨⟨rfl,rfl,rfl⟩,rfl,⟨rfl,rfl,rfl⟩,(by first | exact congrArg (D.int .i64) (by omega) ),trivial⟩,⟨⟨rfl,rfl,.inr ⟨trivial,trivial⟩⟩,⟨rfl,rfl,.inr ⟨⟨rfl,⟨rfl,rfl,hLl,rfl,rfl⟩,rfl,trivial⟩,trivial⟩⟩,⟨rfl,rfl,.inr (em _ _)⟩,trivial⟩⟩);all_goals (conv=>whnf)) | (refine bh (fun (k : Nat)=>L.length - k) (fun (k : Nat)=>k <= L.length /\ bo L = true /\ aI (L.map aF) = aI ((L.drop k).map aF)) (fun (k : Nat)=>[(2,.ptr 0 0 0),(5,.ptr 1 0 0),(9,.d (i k))]) (fun (k : Nat)=>[⟨[.junk],3,0⟩,⟨[.agg [.d (.bool (decide ((x.toNat : Int) = 47))),.sl 2 0 L.length 1 none,.d (.str T)]],3,0⟩,⟨(L.map D.str).map .d,1,0⟩]) (0) (by exact ⟨Nat.zero_le _,xI hI.2 (by assumption),rfl⟩) ?_ (fun k C2 hI2 hC2=>?_);(exact ⟨[.old 0,.old 1,.old 2],rfl,rfl,⟨⟨rfl,rfl,rfl⟩,⟨rfl,rfl,rfl⟩,(by first | exact congrArg (D.int .i64) (by omega) ),trivial⟩,⟨⟨rfl,rfl,.inr ⟨trivial,trivial⟩⟩,⟨rfl,rfl,.inr ⟨⟨rfl,⟨rfl,rfl,rfl,rfl,rfl⟩,rfl,trivial⟩,trivial⟩⟩,⟨rfl,rfl,.inr (em _ _)⟩,trivial⟩⟩);all_goals (conv=>whnf)))
 | ((with_reducible show C _ _);first | (refine hC (k + 1) _ _ ?_ (by omega) ?_;clear hC;rotate_left;(exact ⟨[.old 0,.old 1,.old 2],rfl,rfl,⟨⟨rfl,rfl,rfl⟩,rfl,⟨rfl,rfl,rfl⟩,(by first | exact congrArg (D.int .i64) (by omega) ),trivial⟩,⟨⟨rfl,rfl,.inr ⟨trivial,trivial⟩⟩,⟨rfl,rfl,.inr ⟨⟨rfl,⟨rfl,rfl,rfl,rfl,rfl⟩,rfl,trivial⟩,trivial⟩⟩,⟨rfl,rfl,.inr (em _ _)⟩,trivial⟩⟩);(exact ⟨by omega,rG hI.2 (by omega) (of_decide_eq_false (by assumption)) (by assumption)⟩)))
 | ((with_reducible show C2 _ _);first | (refine hC2 (k + 1) _ _ ?_ (by omega) ?_;clear hC2;rotate_left;(exact ⟨[.old 0,.old 1,.old 2],rfl,rfl,⟨⟨rfl,rfl,rfl⟩,⟨rfl,rfl,rfl⟩,(by first | exact congrArg (D.int .i64) (by omega) ),trivial⟩,⟨⟨rfl,rfl,.inr ⟨trivial,trivial⟩⟩,⟨rfl,rfl,.inr ⟨⟨rfl,⟨rfl,rfl,rfl,rfl,rfl⟩,rfl,trivial⟩,trivial⟩⟩,⟨rfl,rfl,.inr (em _ _)⟩,trivial⟩⟩);(exact ⟨by omega,hI2.2.1,by rw [hI2.2.2,oY (by omega),if_pos (by first | exact oX (by assumption) | (rw [mE (by assumption)];assumption))]⟩)))
 | (refine ax (by omega) ?_;conv=>whnf)
 | (exact absurd (of_decide_eq_true h) h3)
 | (refine bF (l:=L) k (by omega) (by omega) ?_;conv=>whnf)
 | (refine rD (l:=l) (L:=L) (m:=l.length - 1) (by omega) hL ?_;conv=>whnf)
 | (refine ⟨Int.le_refl 0,?_⟩;conv=>whnf)
 | (refine ⟨⟨by omega,by first | omega | (simp;done)⟩,?_⟩;conv=>whnf)
 | (refine bF (l:=l) (l.length - 1) (by omega) (by omega) ?_;conv=>whnf)
 | ((with_reducible refine ag ?_);first | (exact aP rfl (rB (xH (k:=k) (by omega) (by first | exact .inl (of_decide_eq_true (by assumption)) | exact .inr (by assumption))));done) | (exact aP rfl (gx hI2.2.1 (rz (by omega) hI2.2.2 (by assumption) (by assumption)) (by assumption));done) | (exact aP rfl (gx hI2.2.1 (by rw [fa (by assumption) hI2.2.2];exact mF (by assumption) (.inr (by assumption))) (by decide));done) | (exact aP rfl (gx hI2.2.1 (by rw [fa (by assumption) hI2.2.2];exact vE (by assumption) (by assumption)) (by assumption));done) | (exact aP (aY (aK (be (aK rfl (aK (ca rfl Nat.two_pos) (aK rfl bM)))) (aK rfl bM))) (xr hI2.2.1 (by rw [fa (by assumption) hI2.2.2];exact rA (by assumption) (.inr (by assumption))));done))
  | fail
  )
theorem NH (x : UInt8) (r q : Bs) (l : List Bs) (a : Bs) (hlen : r.length <= 199) (h47 : ¬ x :: r = [47]) (hq : ay (x :: r) = q) (hl : cut 47 q = l) (hcs : cut 58 (l[l.length - 1]'(du (by rw [<- hl];exact bv _ _))) = [a]) (hx : ¬ (x.toNat : Int) = 47) : Fn 15 [.str (x :: r)] (.tup [js (uz (decide ((x.toNat : Int) = 47)) l []).1,i (uz (decide ((x.toNat : Int) = 47)) l []).2]):=by
 have hl0 : 0 < l.length:=List.length_pos_iff.2 (by rw [<- hl];exact bv _ _);have hll : l.length < 1000:=(by rw [<- hl,df];have:=List.count_le_length (a:=47) (l:=q);have:=bj x r;rw [hq] at this;omega);have kX : ∀ x ∈ l,x.length < 1000:=(by intro y hy;rw [<- hl] at hy;have:=(dp hy).2;have:=bj x r;rw [hq] at this;omega);have h97f : x :: r = q:=(by rw [<- hq,d8,if_neg (fun e=>hx (by rw [e];rfl))]);have hql : q.length <= 200:=(by have:=bj x r;rw [hq] at this;omega)
 refine ac aZ Tryz.func15 rfl (by kernel_rfl) ?_
 conv=>whnf
 repeat' (first
 | ((with_reducible refine aJ (by assumption) ?_);conv=>whnf)
 | ((with_reducible refine aJ ?_ ?_);(focus ((try simp only [List.length_map,List.length_cons,List.length_nil,List.length_append]);omega));conv=>whnf)
 | ((with_reducible refine aB (fun h=>?_) (fun h=>?_))<;>(try simp only [List.length_map] at h)<;>conv=>whnf)
 | ((with_reducible refine bu (fun h=>?_) (fun h=>?_))<;>(try simp only [List.length_map] at h)<;>conv=>whnf)
 | ((with_reducible refine ao (fun h=>?_) (fun h=>?_))<;>conv=>whnf)
 | ((with_reducible refine ak ?_);(first | refine aa (cI (l:=l) (jP (x :: r) 47 l (by rw [h97f,hl]) (by rw [h97f];omega)) (fun _=>rfl) rfl) ?_ | refine aa (cI (l:=[a]) (jP (l[l.length - 1]'(by omega)) 58 [a] hcs (by have:=kX _ (List.getElem_mem (l:=l) (n:=l.length - 1) (by omega));omega)) (fun _=>rfl) rfl) ?_ | refine aa (aA (QC (l[k]'(by omega)) 58 (by have:=kX _ (List.getElem_mem (l:=l) (n:=k) (by omega));omega)) rfl) ?_ | refine aa (ah (KC _) rfl rfl) ?_ | refine aa (ah (KD (l[k]'(by omega)) (by have:=kX _ (List.getElem_mem (l:=l) (n:=k) (by omega));omega)) rfl rfl) ?_);conv=>whnf)
 | ((with_reducible refine aO ?_);first | (refine bh (fun (k : Nat)=>l.length - k) (fun (k : Nat)=>k <= l.length /\ bo (l.take k) = true) (fun (k : Nat)=>[(2,.ptr 0 0 0),(4,.d (i 7)),(5,.ptr 1 0 0),(8,.d (i k))]) (fun (k : Nat)=>[⟨[.junk],3,0⟩,⟨[.agg [.d (.bool (decide ((x.toNat : Int) = 47))),.sl 2 0 l.length 1 none,.d (.str [])]],3,0⟩,⟨(l.map D.str).map .d,1,0⟩]) (0) (by exact ⟨Nat.zero_le _,xJ _⟩) ?_ (fun k C hI hC=>?_);(exact ⟨[.old 0,.old 1,.old 2],rfl,rfl,⟨⟨rfl,rfl,rfl⟩,rfl,⟨rfl,rfl,rfl⟩,(by first | exact congrArg (D.int .i64) (by omega) ),trivial⟩,⟨⟨rfl,rfl,.inr ⟨trivial,trivial⟩⟩,⟨rfl,rfl,.inr ⟨⟨rfl,⟨rfl,rfl,rfl,rfl,rfl⟩,rfl,trivial⟩,trivial⟩⟩,⟨rfl,rfl,.inr (em _ _)⟩,trivial⟩⟩);all_goals (conv=>whnf)) | (refine bh (fun (k : Nat)=>l.length - k) (fun (k : Nat)=>k <= l.length /\ bo l = true /\ aI (l.map aF) = aI ((l.drop k).map aF)) (fun (k : Nat)=>[(2,.ptr 0 0 0),(5,.ptr 1 0 0),(9,.d (i k))]) (fun (k : Nat)=>[⟨[.junk],3,0⟩,⟨[.agg [.d (.bool (decide ((x.toNat : Int) = 47))),.sl 2 0 l.length 1 none,.d (.str [])]],3,0⟩,⟨(l.map D.str).map .d,1,0⟩]) (0) (by exact ⟨Nat.zero_le _,xI hI.2 (by assumption),rfl⟩) ?_ (fun k C2 hI2 hC2=>?_);(exact ⟨[.old 0,.old 1,.old 2],rfl,rfl,⟨⟨rfl,rfl,rfl⟩,⟨rfl,rfl,rfl⟩,(by first | exact congrArg (D.int .i64) (by omega) ),trivial⟩,⟨⟨rfl,rfl,.inr ⟨trivial,trivial⟩⟩,⟨rfl,rfl,.inr ⟨⟨rfl,⟨rfl,rfl,rfl,rfl,rfl⟩,rfl,trivial⟩,trivial⟩⟩,⟨rfl,rfl,.inr (em _ _)⟩,trivial⟩⟩);all_goals (conv=>whnf)))
 | ((with_reducible show C _ _);first | (refine hC (k + 1) _ _ ?_ (by omega) ?_;clear hC;rotate_left;(exact ⟨[.old 0,.old 1,.old 2],rfl,rfl,⟨⟨rfl,rfl,rfl⟩,rfl,⟨rfl,rfl,rfl⟩,(by first | exact congrArg (D.int .i64) (by omega) ),trivial⟩,⟨⟨rfl,rfl,.inr ⟨trivial,trivial⟩⟩,⟨rfl,rfl,.inr ⟨⟨rfl,⟨rfl,rfl,rfl,rfl,rfl⟩,rfl,trivial⟩,trivial⟩⟩,⟨rfl,rfl,.inr (em _ _)⟩,trivial⟩⟩);(exact ⟨by omega,rG hI.2 (by omega) (of_decide_eq_false (by assumption)) (by assumption)⟩)))
 | ((with_reducible show C2 _ _);first | (refine hC2 (k + 1) _ _ ?_ (by omega) ?_;clear hC2;rotate_left;(exact ⟨[.old 0,.old 1,.old 2],rfl,rfl,⟨⟨rfl,rfl,rfl⟩,⟨rfl,rfl,rfl⟩,(by first | exact congrArg (D.int .i64) (by omega) ),trivial⟩,⟨⟨rfl,rfl,.inr ⟨trivial,trivial⟩⟩,⟨rfl,rfl,.inr ⟨⟨rfl,⟨rfl,rfl,rfl,rfl,rfl⟩,rfl,trivial⟩,trivial⟩⟩,⟨rfl,rfl,.inr (em _ _)⟩,trivial⟩⟩);(exact ⟨by omega,hI2.2.1,by rw [hI2.2.2,oY (by omega),if_pos (by first | exact oX (by assumption) | (rw [mE (by assumption)];assumption))]⟩)))
 | (refine ax (by omega) ?_;conv=>whnf)
 | (refine bF (l:=l) k (by omega) (by omega) ?_;conv=>whnf)
 | (refine ⟨Int.le_refl 0,?_⟩;conv=>whnf)
 | (refine ⟨⟨by omega,by first | omega | (simp;done)⟩,?_⟩;conv=>whnf)
 | (refine bF (l:=l) (l.length - 1) (by omega) (by omega) ?_;conv=>whnf)
 | ((with_reducible refine ag ?_);first | (exact aP rfl (rB (xH (k:=k) (by omega) (by first | exact .inl (of_decide_eq_true (by assumption)) | exact .inr (by assumption))));done) | (exact aP rfl (gx hI2.2.1 (rz (by omega) hI2.2.2 (by assumption) (by assumption)) (by assumption));done) | (exact aP rfl (gx hI2.2.1 (by rw [fa (by assumption) hI2.2.2];exact mF (by assumption) (.inl rfl)) (by decide));done) | (exact aP (aY (aK (be (aK rfl (aK (ca rfl Nat.two_pos) (aK rfl bM)))) (aK rfl bM))) (xr hI2.2.1 (by rw [fa (by assumption) hI2.2.2];exact rA (by assumption) (.inl rfl)));done))
  | fail
  )
theorem Rq (s : Bs) (h1 : (200 : Int) < s.length) : Fn 15 [.str s] (.tup [js fz,i 8]):=by
 refine ac aZ Tryz.func15 rfl (by kernel_rfl) ?_
 conv=>whnf
 repeat' (first
 | ((with_reducible refine bP (by assumption) ?_);conv=>whnf)
 | ((with_reducible refine ag ?_);first | (exact aP rfl rfl;done))
  | fail
  )
theorem Rt : Fn 15 [.str []] (.tup [js fz,i 7]):=by
 refine ac aZ Tryz.func15 rfl (by kernel_rfl) ?_
 conv=>whnf
 repeat' (first
 | ((with_reducible refine ag ?_);first | (exact aP (aY (aK (be (aK rfl (aK rfl (aK rfl bM)))) (aK rfl bM))) rfl;done))
  | fail
  )
theorem Ru : Fn 15 [.str [47]] (.tup [js ⟨true,[],[]⟩,i 0]):=by
 refine ac aZ Tryz.func15 rfl (by kernel_rfl) ?_
 conv=>whnf
 repeat' (first
 | ((with_reducible refine ag ?_);first | (exact aP (aY (aK (be (aK rfl (aK rfl (aK rfl bM)))) (aK rfl bM))) rfl;done))
  | fail
  )
theorem JG {x : UInt8} {r : Bs} (hlen : r.length <= 199) (h47 : ¬ x :: r = [47]) : aj (x :: r) = match gO (cut 47 (ay (x :: r))) with
  | none=>(fz,7)
  | some (l,t)=>uz (decide ((x.toNat : Int) = 47)) l t:=by
 unfold aj
 rw [if_neg (by simp;omega),if_neg (by simp),if_neg h47,CY]
 split<;>rename_i h
 ·first | (rw [h];done) | rfl
 ·first | (rw [h];unfold uz;rfl) | (unfold uz;rfl)
theorem sY {l : List Bs} (h : l ≠ []) : l.getLastD [] = l[l.length - 1]'(du h):=by
 rw [List.getLastD_eq_getLast?,List.getLast?_eq_some_getLast h,Option.getD_some,List.getLast_eq_getElem]
theorem tX {l : List Bs} (h : l ≠ []) (a : Bs) : l.set (l.length - 1) a = l.dropLast ++ [a]:=by
 conv=>lhs;rw [<- List.dropLast_concat_getLast h]
 rw [List.set_append_right _ _ (by simp)]
 simp
theorem Q9 (s : Bs) : Fn 15 [.str s] (.tup [js (aj s).1,i (aj s).2]):=by
 by_cases h1 : 200 < s.length
 ·have e : aj s = (fz,8):=by unfold aj;rw [if_pos h1]
  rw [e];exact Rq s (by omega)
 cases s with
 | nil=>exact Rt
 | cons x r=>
  by_cases h47 : x :: r = [47]
  ·rw [h47];exact Ru
  have hlen : r.length <= 199:=by simp at h1;omega
  have hne : cut 47 (ay (x :: r)) ≠ []:=bv _ _
  rw [JG hlen h47]
  unfold gO
  rw [sY hne]
  by_cases hx : (x.toNat : Int) = 47
  ·match hcs : cut 58 ((cut 47 (ay (x :: r)))[(cut 47 (ay (x :: r))).length - 1]'(du hne)) with
   | []=>exact absurd hcs (bv _ _)
   | [a]=>exact NI x r _ _ a hlen h47 rfl rfl hcs hx
   | [a,b]=>
    simp only
    by_cases h2 : bp a = true
    ·rw [if_pos (.inl h2)]
     exact NC x r _ _ a b hlen h47 rfl rfl hcs hx h2
    ·have h2' : bp a = false:=by simpa using h2
     by_cases h3 : b = []
     ·rw [if_pos (.inr h3)]
      exact NE x r _ _ a b hlen h47 rfl rfl hcs hx h2' h3
     ·rw [if_neg (by rintro (h | h);exact h2 h;exact h3 h)]
      exact NG x r _ _ _ a b hlen h47 rfl rfl hcs (tX hne a) hx h2' h3
   | a :: b :: c :: cs=>
    simp only
    exact NA x r _ _ _ hlen h47 rfl rfl hcs hx (by simp)
  ·match hcs : cut 58 ((cut 47 (ay (x :: r)))[(cut 47 (ay (x :: r))).length - 1]'(du hne)) with
   | []=>exact absurd hcs (bv _ _)
   | [a]=>exact NH x r _ _ a hlen h47 rfl rfl hcs hx
   | [a,b]=>
    simp only
    by_cases h2 : bp a = true
    ·rw [if_pos (.inl h2)]
     exact NB x r _ _ a b hlen h47 rfl rfl hcs hx h2
    ·have h2' : bp a = false:=by simpa using h2
     by_cases h3 : b = []
     ·rw [if_pos (.inr h3)]
      exact ND x r _ _ a b hlen h47 rfl rfl hcs hx h2' h3
     ·rw [if_neg (by rintro (h | h);exact h2 h;exact h3 h)]
      exact NF x r _ _ _ a b hlen h47 rfl rfl hcs (tX hne a) hx h2' h3
   | a :: b :: c :: cs=>
    simp only
    exact Nz x r _ _ _ hlen h47 rfl rfl hcs hx (by simp)
theorem zG (s : Bs) : (aj s).1.parts.length <= 1000:=by
 by_cases h : (aj s).2 = 0
 ·have:=(ge h).2;omega
 ·have : (aj s).1 = fz:=by
   revert h
   unfold aj
   split
   ·intro _;rfl
   ·split
    ·intro _;rfl
    ·split
     ·intro h;exact absurd rfl h
     ·split
      ·intro _;rfl
      ·split
       ·intro _;rfl
       ·split
        ·intro _;rfl
        ·intro h;exact absurd rfl h
  rw [this];exact Nat.zero_le _
attribute [local irreducible] aj
end
section
set_option maxRecDepth 10000
attribute [local irreducible] bn
set_option maxHeartbeats 4000000
open Paths
attribute [local irreducible] am cut normal
theorem tQ {P : Program} {f k : Nat} {c : Option Nat} {xs : List D} {α : Type} {g : α -> D} {l : List α} (hf : bn P f (xs.map .d) [] (.sl 0 0 l.length k c) [⟨(l.map g).map .d,k,0⟩]) (hg : ∀ x,(g x).flat = true) {H : ae} {args : List AV} (hv : vl (bl 8 H) args = some xs) :
  bn P f args H (.sl H.length 0 l.length k c) (H ++ [⟨(l.map g).map .d,k,0⟩]):=by
 refine gg (σ:=[]) (F:=args.flatMap (bC 8 H)) (fl:=true) hf List.nodup_nil (fun _ _ h=>by cases h) (fh H args xs _ (fun _ h=>h) hv) (by simp [pP]) (fun _=>⟨rfl,fun o ho=>?_⟩) ?_ ?_
 ·simp only [List.mem_singleton] at ho
  subst ho
  exact ⟨jS _ (lH hg),Nat.zero_ne_one⟩
 ·simp [ren,AE]
 ·simp only [kI,cg,List.length_nil,List.drop_zero,List.map_cons,List.map_nil,gF,l4,if_true]
theorem Uq (c : UInt8) : (c.toNat : Int).toNat.toUInt8 = c:=by simp
def Iq (s : Bs) (c : UInt8) : Int:=if c ∈ s then (s.idxOf c : Int) else -1
theorem L1 (s : Bs) (c : UInt8) : Lib.indexByte s (c.toNat : Int).toNat.toUInt8 = Iq s c:=by rw [Uq,kz];rfl
theorem LB (s : Bs) (c : UInt8) : Fn 255 [.str s,.str [c]] (i (Iq s c)):=by
 refine ac aZ Tryz.func255 rfl (by kernel_rfl) ?_
 conv=>whnf
 repeat' (first
 | ((with_reducible refine aB (fun h=>?_) (fun h=>?_))<;>(try simp only [List.length_map] at h)<;>conv=>whnf)
 | ((with_reducible refine ak ?_);(first | refine aa (ah (Od _ _) rfl rfl) ?_);conv=>whnf)
 | (refine ⟨Int.le_refl 0,?_⟩;conv=>whnf)
 | ((with_reducible refine ag ?_);first | (refine aD (congrArg i ?_);exact L1 s c;done) | (refine aD (congrArg i ?_);subst h;simp [Iq];done))
  | fail
  )
theorem N0 (s : Bs) (c : UInt8) : Fn 211 [.str s,.str [c]] (i (Iq s c)):=by
 refine ac aZ Tryz.func211 rfl (by kernel_rfl) ?_
 conv=>whnf
 repeat' (first
 | ((with_reducible refine ak ?_);(first | refine aa (ah (LB _ _) rfl rfl) ?_);conv=>whnf)
 | ((with_reducible refine ag ?_);first | (exact aD rfl;done))
  | fail
  )
theorem L2 (s : Bs) (c : UInt8) : decide (0 <= Iq s c) = s.contains c:=by
 unfold Iq
 by_cases h : c ∈ s
 ·rw [if_pos h];simp [h]
 ·rw [if_neg h];simp [h]
theorem G1 {s : Bs} {c : UInt8} (h : c ∈ s) : Iq s c = (s.idxOf c : Int) /\ s.idxOf c < s.length:=⟨if_pos h,List.idxOf_lt_length_iff.2 h⟩
theorem Jg {s : Bs} {c : UInt8} (h : ¬ c ∈ s) : Iq s c = -1:=if_neg h
attribute [local irreducible] Iq
theorem QX (s : Bs) (c : UInt8) : Fn 127 [.str s,.str [c]] (.bool (s.contains c)):=by
 refine ac aZ Tryz.func127 rfl (by kernel_rfl) ?_
 conv=>whnf
 repeat' (first
 | ((with_reducible refine ak ?_);(first | refine aa (ah (N0 _ _) rfl rfl) ?_);conv=>whnf)
 | ((with_reducible refine ag ?_);first | (exact aD (congrArg D.bool (L2 s c));done))
  | fail
  )
theorem NZ (s : Bs) (c : UInt8) (hs : s.length < 2000000) (hc : c ∈ s) : Fn 210 [.str s,.str [c]] (.tup [.str (s.take (s.idxOf c)),.str (s.drop (s.idxOf c + 1)),.bool true]):=by
 obtain ⟨he,hl⟩:=G1 hc
 refine ac aZ Tryz.func210 rfl (by kernel_rfl) ?_
 conv=>whnf
 repeat' (first
 | ((with_reducible refine bP ?_ ?_);(focus ((try simp only [List.length_map,List.length_cons,List.length_nil,List.length_append]);omega));conv=>whnf)
 | ((with_reducible refine ak ?_);(first | refine aa (ah (LB _ _) rfl rfl) ?_);conv=>whnf)
 | (refine ⟨[],[],(by decide +kernel),?_⟩;conv=>whnf)
 | (refine eh 0 (s.idxOf c) (by omega) (by omega) (by omega) ?_;conv=>whnf)
 | (refine eh (s.idxOf c + 1) s.length (by simp only [List.length_cons,List.length_nil];omega) (by omega) (by omega) ?_;conv=>whnf)
 | (refine ax (by simp only [List.length_cons,List.length_nil];omega) ?_;conv=>whnf)
 | ((with_reducible refine ag ?_);first | (exact CF (by rw [List.drop_zero,List.take_length]);done))
  | fail
  )
theorem NY (s : Bs) (c : UInt8) (hs : s.length < 2000000) (hc : ¬ c ∈ s) : Fn 210 [.str s,.str [c]] (.tup [.str s,.str [],.bool false]):=by
 have he:=Jg hc
 refine ac aZ Tryz.func210 rfl (by kernel_rfl) ?_
 conv=>whnf
 repeat' (first
 | ((with_reducible refine aJ ?_ ?_);(focus ((try simp only [List.length_map,List.length_cons,List.length_nil,List.length_append]);omega));conv=>whnf)
 | ((with_reducible refine ak ?_);(first | refine aa (ah (LB _ _) rfl rfl) ?_);conv=>whnf)
 | ((with_reducible refine ag ?_);first | (exact CF rfl;done))
  | fail
  )
theorem Nn (s : Bs) (c : UInt8) (hs : s.length < 2000000) (hc : c ∈ s) : Fn 125 [.str s,.str [c]] (.tup [.str (s.take (s.idxOf c)),.str (s.drop (s.idxOf c + 1)),.bool true]):=by
 refine ac aZ Tryz.func125 rfl (by kernel_rfl) ?_
 conv=>whnf
 repeat' (first
 | ((with_reducible refine ak ?_);(first | refine aa (ah (NZ s c hs hc) rfl rfl) ?_);conv=>whnf)
 | ((with_reducible refine ag ?_);first | (exact CF rfl;done))
  | fail
  )
theorem Nm (s : Bs) (c : UInt8) (hs : s.length < 2000000) (hc : ¬ c ∈ s) : Fn 125 [.str s,.str [c]] (.tup [.str s,.str [],.bool false]):=by
 refine ac aZ Tryz.func125 rfl (by kernel_rfl) ?_
 conv=>whnf
 repeat' (first
 | ((with_reducible refine ak ?_);(first | refine aa (ah (NY s c hs hc) rfl rfl) ?_);conv=>whnf)
 | ((with_reducible refine ag ?_);first | (exact CF rfl;done))
  | fail
  )
theorem N8 (x c : UInt8) (s : Bs) (hs : s.length < 2000000) : Fn 252 [.str (x :: s),.str [c]] (.bool (decide (x = c))):=by
 refine ac aZ Tryz.func252 rfl (by kernel_rfl) ?_
 conv=>whnf
 repeat' (first
 | ((with_reducible refine bP ?_ ?_);(focus ((try simp only [List.length_map,List.length_cons,List.length_nil,List.length_append]);omega));conv=>whnf)
 | (refine eh 0 1 (by omega) (by simp) (by simp) ?_;conv=>whnf)
 | ((with_reducible refine ag ?_);first | (refine aD (congrArg D.bool ?_);rw [decide_eq_decide];simp;done))
  | fail
  )
theorem N9 (c : UInt8) : Fn 252 [.str [],.str [c]] (.bool false):=by
 refine ac aZ Tryz.func252 rfl (by kernel_rfl) ?_
 conv=>whnf
 repeat' (first
 | ((with_reducible refine ag ?_);first | (exact aD rfl;done))
  | fail
  )
theorem NX (x : UInt8) (s : Bs) (hs : s.length < 2000000) (hx : x = 47) : Fn 208 [.str (x :: s),.str [47]] (.tup [.str s,.bool true]):=by
 refine ac aZ Tryz.func208 rfl (by kernel_rfl) ?_
 conv=>whnf
 repeat' (first
 | ((with_reducible refine cY (by first | assumption ) ?_);conv=>whnf)
 | ((with_reducible refine ak ?_);(first | refine aa (ah (N8 x 47 s hs) rfl rfl) ?_);conv=>whnf)
 | (refine eh 1 (s.length + 1) (by simp) (by simp) (by simp) ?_;conv=>whnf)
 | ((with_reducible refine ag ?_);first | (exact dy (by simp);done))
  | fail
  )
theorem NV (x : UInt8) (s : Bs) (hs : s.length < 2000000) (hx : ¬ x = 47) : Fn 208 [.str (x :: s),.str [47]] (.tup [.str (x :: s),.bool false]):=by
 refine ac aZ Tryz.func208 rfl (by kernel_rfl) ?_
 conv=>whnf
 repeat' (first
 | ((with_reducible refine co (by assumption) ?_);conv=>whnf)
 | ((with_reducible refine ak ?_);(first | refine aa (ah (N8 x 47 s hs) rfl rfl) ?_);conv=>whnf)
 | ((with_reducible refine ag ?_);first | (exact dy rfl;done))
  | fail
  )
theorem NW : Fn 208 [.str [],.str [47]] (.tup [.str [],.bool false]):=by
 refine ac aZ Tryz.func208 rfl (by kernel_rfl) ?_
 conv=>whnf
 repeat' (first
 | ((with_reducible refine ak ?_);(first | refine aa (ah (N9 47) rfl rfl) ?_);conv=>whnf)
 | ((with_reducible refine ag ?_);first | (exact dy rfl;done))
  | fail
  )
theorem RJ (s : Bs) (hs : s.length < 2000000) : Fn 208 [.str s,.str [47]] (.tup [.str (ay s),.bool (dI s)]):=by
 cases s with
 | nil=>exact NW
 | cons x r=>
  have hr : r.length < 2000000:=by simp at hs;omega
  rw [d8,CY]
  by_cases h : x = 47
  ·rw [if_pos h,decide_eq_true (show (x.toNat : Int) = 47 by rw [h];rfl)];exact NX x r hr h
  ·rw [if_neg h,decide_eq_false (show ¬ (x.toNat : Int) = 47 from fun e=>h (iR (b:=47) e))];exact NV x r hr h
theorem Lu (s : Bs) (hs : s.length < 2000000) : Fn 123 [.str s,.str [47]] (.tup [.str (ay s),.bool (dI s)]):=by
 refine ac aZ Tryz.func123 rfl (by kernel_rfl) ?_
 conv=>whnf
 repeat' (first
 | ((with_reducible refine ak ?_);(first | refine aa (ah (RJ s hs) rfl rfl) ?_);conv=>whnf)
 | ((with_reducible refine ag ?_);first | (exact dy rfl;done))
  | fail
  )
theorem RY (s : Bs) (c : UInt8) : Fn 254 [.str s,.str [c]] (i (s.count c)):=by
 refine ac aZ Tryz.func254 rfl (by kernel_rfl) ?_
 conv=>whnf
 repeat' (first
 | ((with_reducible refine ak ?_);(first | refine aa (ah (Oc _ _) rfl rfl) ?_ );conv=>whnf)
 | (refine ⟨Int.le_refl 0,?_⟩;conv=>whnf)
 | ((with_reducible refine ag ?_);first | (refine aD (congrArg i ?_);rw [Uq];rfl;done))
  | fail
  )
def ph (out : List Bs) (n : Nat) : List Bs:=out ++ List.replicate n []
theorem HQ (out : List Bs) (n : Nat) : (ph out n).length = out.length + n:=by unfold ph;simp
theorem HR (out : List Bs) (n : Nat) (p : Bs) : (ph out (n + 1)).set out.length p = ph (out ++ [p]) n:=by
 unfold ph
 rw [List.set_append_right _ _ (Nat.le_refl _),Nat.sub_self,List.replicate_succ,List.set_cons_zero,List.append_assoc];rfl
theorem Fe {out : List Bs} {n : Nat} {p : Bs} (h : out.length < n) : (ph out (n - out.length)).set out.length p = ph (out ++ [p]) (n - (out ++ [p]).length):=by
 have e : n - out.length = (n - (out ++ [p]).length) + 1:=by simp;omega
 rw [e,HR]
theorem Ff (n : Nat) : (List.replicate n (AV.d (D.str []))) = ((ph [] n).map D.str).map .d:=by
 unfold ph;simp
theorem HP (out : List Bs) : ph out 0 = out:=by unfold ph;simp
structure Im (c : UInt8) (s : Bs) (l out : List Bs) (cur : Bs) : Prop where
 eq : out ++ cut c cur = l
 le : cur.length <= s.length
theorem Im.len {c : UInt8} {s cur : Bs} {l out : List Bs} (I : Im c s l out cur) : l.length = out.length + (cut c cur).length:=by rw [<- I.eq];simp
theorem Im.step {c : UInt8} {s cur : Bs} {l out : List Bs} (I : Im c s l out cur) (h : c ∈ cur) : Im c s l (out ++ [cur.take (cur.idxOf c)]) (cur.drop (cur.idxOf c + 1)):=by
 refine ⟨?_,by have:=I.le;rw [List.length_drop];omega⟩
 rw [<- I.eq,nw h,List.append_assoc];rfl
theorem Im.in {c : UInt8} {s cur : Bs} {l out : List Bs} (I : Im c s l out cur) (h : (out.length : Int) < (l.length : Int) - 1) : c ∈ cur:=by
 have e:=I.len
 rw [df] at e
 exact List.count_pos_iff.1 (by omega)
theorem Im.out {c : UInt8} {s cur : Bs} {l out : List Bs} (I : Im c s l out cur) (h : ¬ (out.length : Int) < (l.length : Int) - 1) : l = out ++ [cur]:=by
 have e:=I.len
 rw [df] at e
 rw [<- I.eq,iA (List.count_eq_zero.1 (by omega))]
attribute [local irreducible] ph
theorem RK (s : Bs) (c : UInt8) (l : List Bs) (hl : cut c s = l) (hs : s.length < 2000000) : bn Tryz.prog 209 [.d (.str s),.d (.str [c]),.d (i 0),.d (i (-1))] [] (.sl 0 0 l.length 1 (some l.length)) [⟨(l.map D.str).map .d,1,0⟩]:=by
 have hcn : s.count c + 1 = l.length:=(by rw [<- hl,df]);have hcl:=List.count_le_length (a:=c) (l:=s);have hl1 : ([] : List Bs).length < l.length:=(by rw [List.length_nil];omega);have hgm : kW (((s.count c : Nat) : Int) + 1) ((s.length : Int) + 1) = (l.length : Int):=(by unfold kW;split<;>omega)
 refine cd aZ Tryz.func209 rfl (by kernel_rfl) [] (by rfl) [] ?_
 conv=>whnf
 repeat' (first
 | ((with_reducible refine aJ ?_ ?_);(focus (have:=hix (by omega);omega));conv=>whnf)
 | ((with_reducible refine aB (fun h=>?_) (fun h=>?_))<;>(try simp only [List.length_map] at h)<;>conv=>whnf)
 | ((with_reducible refine ak ?_);(first | refine aa (ah (RY _ _) rfl rfl) ?_ | refine aa (ah (N0 _ _) rfl rfl) ?_);conv=>whnf)
 | ((with_reducible refine aO ?_);first | (refine ni (fun (out : List Bs) (cur : Bs)=>l.length - out.length) (fun (out : List Bs) (cur : Bs)=>Im c s l out cur /\ out.length < l.length) (fun (out : List Bs) (cur : Bs)=>[(0,.d (.str cur)),(1,.d (.str [c])),(2,.d (i 0)),(3,.d (i ((l.length : Int) - 1))),(9,.sl 0 0 l.length 1 (some l.length)),(10,.d (i out.length))]) (fun (out : List Bs) (cur : Bs)=>[⟨((ph out (l.length - out.length)).map D.str).map .d,1,0⟩]) ([]) (s) (by exact ⟨⟨hl,Nat.le_refl _⟩,hl1⟩) ?_ (fun out cur C hI hC=>?_);(exact ⟨[.old 0],rfl,rfl,⟨rfl,rfl,rfl,rfl,(by first | exact ⟨rfl,rfl,rfl,rfl,rfl⟩ ),(by first | exact rfl),trivial⟩,⟨⟨rfl,rfl,.inl ⟨_,(by rw [<- Ff];rfl),rfl⟩⟩,trivial⟩⟩);have hix : (out.length : Int) < (l.length : Int) - 1 -> Iq cur c = (cur.idxOf c : Int) /\ cur.idxOf c < cur.length:=fun h=>G1 (hI.1.in h);have hcu:=hI.1.le;have hol:=hI.2;all_goals (conv=>whnf)))
 | ((with_reducible show C _ _);first | (refine hC (out ++ [cur.take (cur.idxOf c)]) (cur.drop (cur.idxOf c + 1)) _ _ ?_ (by simp only [List.length_append,List.length_cons,List.length_nil];omega) ?_;clear hC;rotate_left;(exact ⟨[.old 0],rfl,rfl,⟨(congrArg D.str (by rw [List.take_length])),rfl,rfl,rfl,(by first | exact ⟨rfl,rfl,rfl,rfl,rfl⟩ ),(congrArg (D.int .i64) (by simp)),trivial⟩,⟨⟨rfl,rfl,.inl ⟨_,rfl,rfl⟩⟩,trivial⟩⟩);(exact ⟨hI.1.step (hI.1.in (by assumption)),by simp;omega⟩)))
 | (refine ax (by omega) ?_;conv=>whnf)
 | (rw [hgm];refine ⟨⟨by omega,Int.le_refl _,by omega,(Tn (by omega) rfl).2.2⟩,?_⟩;conv=>whnf)
 | (refine ⟨⟨by omega,by omega⟩,?_⟩;conv=>whnf)
 | (refine eh 0 (cur.idxOf c) (by omega) (by have:=hix (by omega);omega) (by have:=hix (by omega);omega) ?_;conv=>whnf)
 | (refine eh (cur.idxOf c + 1) cur.length (by have:=hix (by omega);simp only [List.length_cons,List.length_nil];omega) (by omega) (by have:=hix (by omega);omega) ?_;conv=>whnf)
 | (refine bF (l:=ph out (l.length - out.length)) out.length (by omega) (by rw [HQ];omega) ?_;conv=>whnf)
 | (refine rD (m:=out.length) (by omega) (Fe hI.2) ?_;conv=>whnf)
 | (refine jH 0 (out.length + 1) (by omega) (by omega) (by omega) ?_;conv=>whnf)
 | (refine ax (by have:=hix (by omega);simp only [List.length_cons,List.length_nil];omega) ?_;conv=>whnf)
 | ((with_reducible refine ag ?_);first | (have hlo:=hI.1.out (by assumption);refine bR (.inl ⟨[.old 0],rfl,rfl,⟨⟨rfl,rfl,?_,rfl,?_⟩,trivial⟩,⟨⟨rfl,rfl,.inl ⟨_,?_,rfl⟩⟩,trivial⟩⟩);(focus (rw [hlo];simp));(focus (rfl));(rw [hlo];simp [HP]);done))
  | fail
  )
theorem Nl (s : Bs) (c : UInt8) (l : List Bs) (hl : cut c s = l) (hs : s.length < 2000000) : bn Tryz.prog 124 [.d (.str s),.d (.str [c])] [] (.sl 0 0 l.length 1 (some l.length)) [⟨(l.map D.str).map .d,1,0⟩]:=by
 refine cd aZ Tryz.func124 rfl (by kernel_rfl) [] (by rfl) [] ?_
 conv=>whnf
 repeat' (first
 | ((with_reducible refine ak ?_);(first | refine aa (tQ (l:=l) (RK s c l hl hs) (fun _=>rfl) rfl) ?_);conv=>whnf)
 | ((with_reducible refine ag ?_);first | (exact bR (.inl ⟨[.old 0],rfl,rfl,⟨⟨rfl,rfl,rfl,rfl,rfl⟩,trivial⟩,⟨⟨rfl,rfl,.inl ⟨_,rfl,rfl⟩⟩,trivial⟩⟩);done))
  | fail
  )
theorem No (s : Bs) : Fn 126 [.str s] (.bool (nt s)):=by
 refine ac aZ Tryz.func126 rfl (by kernel_rfl) ?_
 conv=>whnf
 repeat' (first
 | ((with_reducible refine ao (fun h=>?_) (fun h=>?_))<;>conv=>whnf)
 | ((with_reducible refine ak ?_);(first | refine aa (ah (QX _ _) rfl rfl) ?_);conv=>whnf)
 | ((with_reducible refine ag ?_);first | (refine aD (congrArg D.bool ?_);unfold nt;(simp_all;done);done) )
  | fail
  )
def oN : List Bs -> Nat -> Int
 | [],_=>-1
 | x :: l,k=>if nt x = true then (k : Int) else oN l (k + 1)
theorem sT {l : List Bs} {k : Nat} (h : k < l.length) : oN (l.drop k) k = if nt l[k] = true then (k : Int) else oN (l.drop (k + 1)) (k + 1):=by
 rw [List.drop_eq_getElem_cons h];rfl
theorem EB {l : List Bs} {k : Nat} (h : l.length <= k) : oN (l.drop k) k = -1:=by
 rw [List.drop_eq_nil_of_le h];rfl
theorem vc : ∀ (l : List Bs) (k : Nat),decide (0 <= oN l k) = l.any nt
 | [],k=>rfl
 | x :: l,k=>by
  have ih:=vc l (k + 1)
  rw [oN,List.any_cons,<- ih]
  by_cases h : nt x = true
  ·rw [if_pos h,h];simp
  ·rw [if_neg h];simp [h]
attribute [local irreducible] nt
theorem RL (l : List Bs) (hs : l.length < 2000000) : Fn 212 [.fs (l.map .str),.fn 126 [] []] (i (oN l 0)):=by
 refine ac aZ Tryz.func212 rfl (by kernel_rfl) ?_
 conv=>whnf
 repeat' (first
 | ((with_reducible refine aB (fun h=>?_) (fun h=>?_))<;>(try simp only [List.length_map] at h)<;>conv=>whnf)
 | ((with_reducible refine ao (fun h=>?_) (fun h=>?_))<;>conv=>whnf)
 | ((with_reducible refine ak ?_);(first | refine aa (ah (No _) rfl rfl) ?_);conv=>whnf)
 | ((with_reducible refine aO ?_);first | (refine bh (fun (k : Nat)=>l.length - k) (fun (k : Nat)=>k <= l.length /\ oN l 0 = oN (l.drop k) k) (fun (k : Nat)=>[(0,.d (.fs (l.map .str))),(1,.d (.fn 126 [] [])),(7,.d (i l.length)),(8,.d (i k))]) (fun (k : Nat)=>[]) (0) (by first | (simp;done) ) ?_ (fun k C hI hC=>?_);(exact ⟨[],rfl,rfl,⟨rfl,rfl,(by first | exact congrArg (D.int .i64) (by simp only [List.length_map]) ),(by first | exact congrArg (D.int .i64) (by omega) ),trivial⟩,trivial⟩);all_goals (conv=>whnf)))
 | ((with_reducible show C _ _);first | (refine hC (k + 1) _ _ ?_ (by omega) ?_;clear hC;rotate_left;(exact ⟨[],rfl,rfl,⟨rfl,rfl,rfl,(by first | exact congrArg (D.int .i64) (by omega) ),trivial⟩,trivial⟩);(exact ⟨by omega,by rw [hI.2,sT (by omega),if_neg (by simpa using h)]⟩)))
 | (refine bf (by omega) ?_;conv=>whnf)
 | (refine ax (by omega) ?_;conv=>whnf)
 | ((with_reducible refine ag ?_);first | (exact aD (congrArg i (by rw [hI.2,sT (by omega),if_pos h]));done) | (exact aD (congrArg i (by rw [hI.2,EB (by omega)]));done))
  | fail
  )
theorem Np (l : List Bs) (hs : l.length < 2000000) : Fn 128 [.fs (l.map .str),.fn 126 [] []] (.bool (l.any nt)):=by
 refine ac aZ Tryz.func128 rfl (by kernel_rfl) ?_
 conv=>whnf
 repeat' (first
 | ((with_reducible refine ak ?_);(first | refine aa (ah (RL l hs) rfl rfl) ?_);conv=>whnf)
 | ((with_reducible refine ag ?_);first | (exact aD (congrArg D.bool (vc l 0));done))
  | fail
  )
attribute [local irreducible] ay dI bp
theorem SW (s : Bs) (hs : s.length < 2000000) (hr : ay s = []) : Fn 65 [.str s] (.tup [js ⟨dI s,[],[]⟩,.bool (dI s)]):=by
 refine ac aZ Tryz.func65 rfl (by kernel_rfl) ?_
 conv=>whnf
 repeat' (first
 | (exact absurd (by assumption) (of_decide_eq_false h))
 | ((with_reducible refine ao (fun h=>?_) (fun h=>?_))<;>conv=>whnf)
 | ((with_reducible refine ak ?_);(first | refine aa (ah (Lu s hs) rfl rfl) ?_ );conv=>whnf)
 | ((with_reducible refine ag ?_);first | (exact aP rfl rfl;done))
  | fail
  )
theorem pa (s : Bs) : (ay s).length <= s.length:=by
 cases s with
 | nil=>unfold ay;decide
 | cons x r=>exact bj x r
theorem SV (s : Bs) (l : List Bs) (hs : s.length < 100000) (hr : ¬ ay s = []) (hl : cut 47 (ay s) = l) (hc : ¬ 58 ∈ (l[l.length - 1]'(du (by rw [<- hl];exact bv _ _)))) : Fn 65 [.str s] (.tup [js ⟨dI s,l,[]⟩,.bool (!l.any nt)]):=by
 have hs : s.length < 2000000:=(by omega);have hl0 : 0 < l.length:=List.length_pos_iff.2 (by rw [<- hl];exact bv _ _);have hrl:=pa s;have hll : l.length < 200000:=(by rw [<- hl,df];have:=List.count_le_length (a:=47) (l:=ay s);omega);have kX : ∀ x ∈ l,x.length < 2000000:=(by intro y hy;rw [<- hl] at hy;have:=(dp hy).2;omega);have hls : (l[l.length - 1]'(by omega)).length < 2000000:=kX _ (List.getElem_mem _)
 refine ac aZ Tryz.func65 rfl (by kernel_rfl) ?_
 conv=>whnf
 repeat' (first
 | (exact absurd (of_decide_eq_true h) (by assumption))
 | ((with_reducible refine dj (fun h=>?_) (fun h=>?_))<;>conv=>whnf)
 | ((with_reducible refine ao (fun h=>?_) (fun h=>?_))<;>conv=>whnf)
 | ((with_reducible refine ak ?_);(first | refine aa (ah (Lu s hs) rfl rfl) ?_ | refine aa (tQ (l:=l) (Nl (ay s) 47 l hl (by have:=pa s;omega)) (fun _=>rfl) rfl) ?_ | refine aa (ah (Nm _ 58 hls hc) rfl rfl) ?_ | refine aa (ah (Np l (by omega)) rfl (TN (ca rfl Nat.two_pos) rfl)) ?_ );conv=>whnf)
 | (refine ⟨[],[(0,4),(0,12),(0,16)],(by decide +kernel),?_⟩;conv=>whnf)
 | (refine ax (by omega) ?_;conv=>whnf)
 | (refine ⟨⟨by omega,by omega⟩,?_⟩;conv=>whnf)
 | (refine bF (l:=l) (l.length - 1) (by omega) (by omega) ?_;conv=>whnf)
 | ((with_reducible refine ag ?_);first | (refine aP (aY (aK (be (aK rfl (aK (ca rfl Nat.two_pos) (aK rfl bM)))) (aK rfl bM))) ?_;rw [h];rfl;done))
 | (refine ⟨rfl,?_⟩;conv=>whnf)
  | fail
  )
theorem iu {α : Type} {f : α -> D} {l : List α} {H : ae} {id k k' st n len : Nat} {cap : Option Nat} (e : len = l.length) (h : H[id]? = some ⟨(l.map f).map .d,k,st⟩) (hst : st < 2) : bl (n + 2) H (.sl id 0 len k' cap) = some (.fs (l.map f)):=by
 subst e;exact ca h hst
theorem SX (s : Bs) (l L : List Bs) (hs : s.length < 100000) (hr : ¬ ay s = []) (hl : cut 47 (ay s) = l) (hc : 58 ∈ (l[l.length - 1]'(du (by rw [<- hl];exact bv _ _)))) (hL : l.set (l.length - 1) (gW (l[l.length - 1]'(du (by rw [<- hl];exact bv _ _)))) = L) : Fn 65 [.str s] (.tup [js ⟨dI s,L,fk (l[l.length - 1]'(du (by rw [<- hl];exact bv _ _)))⟩,.bool (!L.any nt && (!nt (fk (l[l.length - 1]'(du (by rw [<- hl];exact bv _ _)))) && !bp (gW (l[l.length - 1]'(du (by rw [<- hl];exact bv _ _))))))]):=by
 have hs : s.length < 2000000:=(by omega);have hl0 : 0 < l.length:=List.length_pos_iff.2 (by rw [<- hl];exact bv _ _);have hrl:=pa s;have hll : l.length < 200000:=(by rw [<- hl,df];have:=List.count_le_length (a:=47) (l:=ay s);omega);have kX : ∀ x ∈ l,x.length < 2000000:=(by intro y hy;rw [<- hl] at hy;have:=(dp hy).2;omega);have hls : (l[l.length - 1]'(by omega)).length < 2000000:=kX _ (List.getElem_mem _);have hLl : L.length = l.length:=(by rw [<- hL];simp)
 refine ac aZ Tryz.func65 rfl (by kernel_rfl) ?_
 conv=>whnf
 repeat' (first
 | (exact absurd (of_decide_eq_true h) (by assumption))
 | ((with_reducible refine dj (fun h=>?_) (fun h=>?_))<;>conv=>whnf)
 | ((with_reducible refine ao (fun h=>?_) (fun h=>?_))<;>conv=>whnf)
 | ((with_reducible refine ak ?_);(first | refine aa (ah (Lu s hs) rfl rfl) ?_ | refine aa (tQ (l:=l) (Nl (ay s) 47 l hl (by have:=pa s;omega)) (fun _=>rfl) rfl) ?_ | refine aa (ah (Nn _ 58 hls hc) rfl rfl) ?_ | refine aa (ah (Np L (by omega)) rfl (TN (iu hLl.symm rfl Nat.two_pos) rfl)) ?_ | refine aa (ah (Nq _) rfl rfl) ?_ | refine aa (ah (No _) rfl rfl) ?_);conv=>whnf)
 | (refine ⟨[],[(0,4),(0,12),(0,16)],(by decide +kernel),?_⟩;conv=>whnf)
 | (refine ax (by omega) ?_;conv=>whnf)
 | (refine rD (m:=l.length - 1) (L:=L) (by omega) hL ?_;conv=>whnf)
 | (refine ⟨⟨by omega,by omega⟩,?_⟩;conv=>whnf)
 | (refine bF (l:=l) (l.length - 1) (by omega) (by omega) ?_;conv=>whnf)
 | ((with_reducible refine ag ?_);first | (refine aP (aY (aK (be (aK rfl (aK (iu hLl.symm rfl Nat.two_pos) (aK rfl bM)))) (aK rfl bM))) ?_;(simp_all [js,gW,fk];done);done) | (refine aP (aY (aK (be (aK rfl (aK (iu hLl.symm rfl Nat.two_pos) (aK rfl bM)))) (aK rfl bM))) ?_;rw [h];rfl;done))
 | (refine ⟨rfl,?_⟩;conv=>whnf)
  | fail
  )
theorem UV (s : Bs) (hs : s.length < 100000) : Fn 65 [.str s] (.tup [js (ci s).1,.bool (ci s).2]):=by
 by_cases hr : ay s = []
 ·have e : ci s = (⟨dI s,[],[]⟩,dI s):=by unfold ci;rw [if_pos hr]
  rw [e];exact SW s (by omega) hr
 ·have hne : cut 47 (ay s) ≠ []:=bv _ _
  have el : bG (cut 47 (ay s)) = (cut 47 (ay s))[(cut 47 (ay s)).length - 1]'(du hne):=sY hne
  by_cases hc : (bG (cut 47 (ay s))).contains 58 = true
  ·rw [Af hr hc]
   have hm : 58 ∈ bG (cut 47 (ay s)):=by simpa using hc
   rw [el] at hm ⊢
   have:=SX s (cut 47 (ay s)) _ hs hr rfl hm rfl
   rw [tX hne] at this
   exact this
  ·rw [Ag hr hc]
   have hm : ¬ 58 ∈ bG (cut 47 (ay s)):=by simpa using hc
   rw [el] at hm
   exact SV s _ hs hr rfl hm
end
section
set_option maxRecDepth 10000
attribute [local irreducible] bn
set_option maxHeartbeats 4000000
open Paths
attribute [local irreducible] am cut normal bp aF
theorem wC {c : UInt8} {s x : Bs} (h : x ∈ cut c s) : x.length <= s.length:=(dp h).2
theorem Fu (s : Bs) : (∀ x ∈ (ci s).1.parts,x.length <= s.length) /\ (ci s).1.stream.length <= s.length /\ (ci s).1.parts.length <= s.length + 1:=by
 have hr:=pa s
 unfold ci
 split
 ·exact ⟨fun x h=>(by cases h),Nat.zero_le _,Nat.zero_le _⟩
 ·have hn : (cut 47 (ay s)).length <= s.length + 1:=by rw [df];have:=List.count_le_length (a:=47) (l:=ay s);omega
  have hne : cut 47 (ay s) ≠ []:=bv _ _
  have hl : (bG (cut 47 (ay s))).length <= s.length:=by
   rw [show bG (cut 47 (ay s)) = _ from sY hne]
   have:=wC (List.getElem_mem (l:=cut 47 (ay s)) (du hne));omega
  split
  ·refine ⟨fun x h=>?_,?_,?_⟩
   ·rcases List.mem_append.1 h with h | h
    ·have:=wC ((List.dropLast_sublist _).mem h);omega
    ·rw [List.mem_singleton] at h;subst h
     unfold gW;rw [List.length_take];omega
   ·unfold fk;simp only [List.length_drop];omega
   ·simp only [List.length_append,List.length_dropLast,List.length_cons,List.length_nil];omega
  ·refine ⟨fun x h=>?_,Nat.zero_le _,hn⟩
   have:=wC h;omega
def na : List Bs -> Nat -> Int × Int
 | [],_=>(0,0)
 | x :: l,k=>if aF x = 0 then na l (k + 1) else ((k : Int),aF x)
theorem su {l : List Bs} {k : Nat} (h : k < l.length) : na (l.drop k) k = if aF l[k] = 0 then na (l.drop (k + 1)) (k + 1) else ((k : Int),aF l[k]):=by
 rw [List.drop_eq_getElem_cons h];rfl
theorem Ef {l : List Bs} {k : Nat} (h : l.length <= k) : na (l.drop k) k = (0,0):=by
 rw [List.drop_eq_nil_of_le h];rfl
theorem qz : ∀ (l : List Bs) (k : Nat),(na l k).2 = aI (l.map aF)
 | [],k=>rfl
 | x :: l,k=>by
  rw [na,List.map_cons,ce]
  split
  ·exact qz l (k + 1)
  ·rfl
theorem QZ (n : Int) (s : Bs) (hs : s.length < 2000000) : Fn 131 [i n,.str s] (i (aF s)):=by
 refine ac aZ Tryz.func131 rfl (by kernel_rfl) ?_
 conv=>whnf
 repeat' (first
 | ((with_reducible refine ao (fun h=>?_) (fun h=>?_))<;>conv=>whnf)
 | ((with_reducible refine ak ?_);(first | refine aa (ah (Nq _) rfl rfl) ?_ | refine aa (ah (D6 s hs) rfl rfl) ?_);conv=>whnf)
 | ((with_reducible refine ag ?_);first | (exact aD (congrArg i (oX h).symm);done) | (exact aD (congrArg i (mE h).symm);done))
  | fail
  )
theorem QY (l : List Bs) (hl : l.length < 2000000) (hb : ∀ x ∈ l,x.length < 2000000) : Fn 130 [.fs (l.map .str),.fn 131 [] []] (.tup [i (na l 0).1,i (na l 0).2]):=by
 refine ac aZ Tryz.func130 rfl (by kernel_rfl) ?_
 conv=>whnf
 repeat' (first
 | ((with_reducible refine aB (fun h=>?_) (fun h=>?_))<;>(try simp only [List.length_map] at h)<;>conv=>whnf)
 | ((with_reducible refine bu (fun h=>?_) (fun h=>?_))<;>(try simp only [List.length_map] at h)<;>conv=>whnf)
 | ((with_reducible refine ak ?_);(first | refine aa (ah (QZ _ _ (hb _ (List.getElem_mem _))) rfl rfl) ?_);conv=>whnf)
 | ((with_reducible refine aO ?_);first | (refine bh (fun (k : Nat)=>l.length - k) (fun (k : Nat)=>k <= l.length /\ na l 0 = na (l.drop k) k) (fun (k : Nat)=>[(1,.d (.fn 131 [] [])),(9,.d (.fs (l.map .str))),(10,.d (i l.length)),(11,.d (i k))]) (fun (k : Nat)=>[]) (0) (by first | (simp;done) ) ?_ (fun k C hI hC=>?_);(exact ⟨[],rfl,rfl,⟨rfl,rfl,(by first | exact congrArg (D.int .i64) (by simp only [List.length_map]) ),(by first | exact congrArg (D.int .i64) (by omega) ),trivial⟩,trivial⟩);all_goals (conv=>whnf)))
 | ((with_reducible show C _ _);first | (refine hC (k + 1) _ _ ?_ (by omega) ?_;clear hC;rotate_left;(exact ⟨[],rfl,rfl,⟨rfl,rfl,rfl,(by first | exact congrArg (D.int .i64) (by omega) ),trivial⟩,trivial⟩);(exact ⟨by omega,by rw [hI.2,su (by omega),if_pos h]⟩)))
 | (refine bf (by omega) ?_;conv=>whnf)
 | (refine ax (by omega) ?_;conv=>whnf)
 | ((with_reducible refine ag ?_);first | (refine dy ?_;(rw [hI.2,su (by omega),if_neg h])<;>rfl;done) | (refine dy ?_;(rw [hI.2,Ef (by omega)])<;>rfl;done))
  | fail
  )
theorem UW (l : List Bs) (hl : l.length < 2000000) (hb : ∀ x ∈ l,x.length < 2000000) : Fn 66 [.fs (l.map .str)] (i (aI (l.map aF))):=by
 refine ac aZ Tryz.func66 rfl (by kernel_rfl) ?_
 conv=>whnf
 repeat' (first
 | ((with_reducible refine ak ?_);(first | refine aa (ah (QY l hl hb) rfl rfl) ?_);conv=>whnf)
 | ((with_reducible refine ag ?_);first | (exact aD (congrArg i (qz l 0));done))
  | fail
  )
theorem UX (s : Bs) (hs : s.length < 2000000) : Fn 67 [.str s] (i (dL s)):=by
 refine ac aZ Tryz.func67 rfl (by kernel_rfl) ?_
 conv=>whnf
 repeat' (first
 | ((with_reducible refine ao (fun h=>?_) (fun h=>?_))<;>conv=>whnf)
 | ((with_reducible refine ak ?_);(first | refine aa (ah (D6 s hs) rfl rfl) ?_);conv=>whnf)
 | ((with_reducible refine ag ?_);first | (refine aD (congrArg i ?_);have h9 : s = []:=of_decide_eq_true h;unfold dL;rw [if_pos h9];done) | (refine aD (congrArg i ?_);have h9 : ¬ s = []:=of_decide_eq_false h;unfold dL;rw [if_neg h9];done))
  | fail
  )
attribute [local irreducible] ci dL
theorem wI (s : Bs) : ut s = aI [if (ci s).2 = true then 0 else 7,aI ((ci s).1.parts.map aF),dL (ci s).1.stream,if decide (((ci s).1.parts.length : Int) <= 16) = true then 0 else 8]:=by
 unfold ut
 have e : (if (ci s).1.parts.length <= 16 then (0 : Int) else 8) = if decide (((ci s).1.parts.length : Int) <= 16) = true then 0 else 8:=by
  by_cases h : (ci s).1.parts.length <= 16
  ·rw [if_pos h,if_pos (decide_eq_true (by omega))]
  ·rw [if_neg h,if_neg (by simp;omega)]
 rw [e]
theorem vD {s : Bs} (h : (200 : Int) < s.length) : aj s = (fz,8):=by
 rw [<- tB];unfold tA;rw [if_pos (by omega)]
theorem E1 {s : Bs} (h : ¬ (200 : Int) < s.length) (h2 : ut s = 0) : aj s = ((ci s).1,0):=by
 rw [<- tB];unfold tA;rw [if_neg (by omega),if_pos h2]
theorem E0 {s : Bs} (h : ¬ (200 : Int) < s.length) (h2 : ¬ ut s = 0) : aj s = (fz,ut s):=by
 rw [<- tB];unfold tA;rw [if_neg (by omega),if_neg h2]
attribute [local irreducible] aj
theorem II (s : Bs) : Fn 36 [.str s] (.tup [js (aj s).1,i (aj s).2]):=by
 obtain ⟨hp1,hp2,hp3⟩:=Fu s
 refine ac aZ Tryz.func36 rfl (by kernel_rfl) ?_
 conv=>whnf
 repeat' (first
 | ((with_reducible refine aB (fun h=>?_) (fun h=>?_))<;>(try simp only [List.length_map] at h)<;>conv=>whnf)
 | ((with_reducible refine bu (fun h=>?_) (fun h=>?_))<;>(try simp only [List.length_map] at h)<;>conv=>whnf)
 | ((with_reducible refine ak ?_);(first | refine aa (aA (UV s (by omega)) rfl) ?_ | refine aa (ah (Ip _ _) rfl rfl) ?_ | refine aa (ah (UW _ (by omega) (fun x hx=>by have:=hp1 x hx;omega)) rfl rfl) ?_ | refine aa (ah (UX _ (by omega)) rfl rfl) ?_ | refine aa (ah (Cw [_,_,_,_] (by simp)) rfl rfl) ?_);conv=>whnf)
 | (refine ⟨[],[(3,1),(6,1),(9,1),(6,4),(9,4),(9,7)],(by decide +kernel),?_⟩;conv=>whnf)
 | ((with_reducible refine ag ?_);first | (refine aP rfl ?_;(rw [vD h])<;>rfl;done) | (refine aP rfl ?_;rw [<- wI] at h;rw [E0 (by assumption) h];simp only [List.length_map];(rw [wI])<;>rfl;done) | (refine aP rfl ?_;rw [<- wI] at h;(rw [E1 (by assumption) h])<;>rfl;done))
 | (refine ⟨rfl,?_⟩;conv=>whnf)
  | fail
  )
theorem SY (l : List Bs) (h1 : l.length < 2000000) (h2 : (glue 47 l).length < 2000000) : Fn 68 [.fs (l.map .str),.str [47]] (.str (glue 47 l)):=T8 l 47 (by omega) (by omega)
theorem I8 (p : PP) : (glue 47 p.parts).length <= (text p).length:=by unfold text;simp only [List.length_append];omega
attribute [local irreducible] glue
theorem MQ {p : PP} (h : p.abs = true) (h2 : p.stream = []) : [47] ++ glue 47 p.parts = text p:=by unfold text;simp [h,h2]
theorem J6 {p : PP} (h : p.abs = true) (h2 : ¬ p.stream = []) : [47] ++ glue 47 p.parts ++ ([58] ++ p.stream) = text p:=by unfold text;simp [h,h2]
theorem MP {p : PP} (h : p.abs = false) (h2 : p.stream = []) : glue 47 p.parts = text p:=by unfold text;simp [h,h2]
theorem J5 {p : PP} (h : p.abs = false) (h2 : ¬ p.stream = []) : glue 47 p.parts ++ ([58] ++ p.stream) = text p:=by unfold text;simp [h,h2]
theorem TX (p : PP) (hn : p.parts.length < 2000000) (ht : (text p).length < 2000000) : Fn 37 [js p] (.str (text p)):=by
 have hg:=I8 p;have hs:=t6 p
 refine ac aZ Tryz.func37 rfl (by kernel_rfl) ?_
 conv=>whnf
 repeat' (first
 | ((with_reducible refine dj (fun h=>?_) (fun h=>?_))<;>conv=>whnf)
 | ((with_reducible refine ao (fun h=>?_) (fun h=>?_))<;>conv=>whnf)
 | ((with_reducible refine ak ?_);(first | refine aa (ah (SY p.parts hn (by omega)) rfl rfl) ?_);conv=>whnf)
 | (refine J0 (by constructor<;>(try simp only [List.length_append,List.length_cons,List.length_nil,TB])<;>omega) ?_;conv=>whnf)
 | ((with_reducible refine ag ?_);first | (exact aD (congrArg D.str (J6 (by assumption) (of_decide_eq_false h)));done) | (exact aD (congrArg D.str (MQ (by assumption) (of_decide_eq_true h)));done) | (exact aD (congrArg D.str (J5 (by assumption) (of_decide_eq_false h)));done) | (exact aD (congrArg D.str (MP (by assumption) (of_decide_eq_true h)));done))
  | fail
  )
theorem jh {ab : Bool} {out out' : List Bs} {s : Bs} (h : ab = true -> ∀ x ∈ out, bp x = false) (e : bb ab out s = out') : ab = true -> ∀ x ∈ out', bp x = false := by
 intro ha
 subst ha;subst e
 exact Ai (h rfl)
theorem PE {ab : Bool} {out : List Bs} (h : ab = true -> ∀ x ∈ out,bp x = false) (ha : ab = true) {n : Nat} {hn : n < out.length} (e : out[n] = [46,46]) : False:=by
 have:=h ha _ (List.getElem_mem hn)
 rw [e] at this
 unfold bp at this
 exact absurd this (by decide)
theorem SH (p : PP) (hab : p.abs = true) (hn : p.parts.length < 2000000) : Fn 38 [js p] (js (normal p)):=by
 refine ac aZ Tryz.func38 rfl (by kernel_rfl) ?_
 conv=>whnf
 repeat' (first
 | ((with_reducible refine bP (by assumption) ?_);conv=>whnf)
 | ((with_reducible refine aJ (by assumption) ?_);conv=>whnf)
 | ((with_reducible refine bO (by assumption) ?_);conv=>whnf)
 | ((with_reducible refine Hr (by assumption) ?_);conv=>whnf)
 | ((with_reducible refine aJ ?_ ?_);(focus ((try simp only [List.length_map,List.length_cons,List.length_nil,List.length_append]);omega));conv=>whnf)
 | ((with_reducible refine bP ?_ ?_);(focus ((try simp only [List.length_map,List.length_cons,List.length_nil,List.length_append]);omega));conv=>whnf)
 | ((with_reducible refine aB (fun h=>?_) (fun h=>?_))<;>(try simp only [List.length_map] at h)<;>conv=>whnf)
 | ((with_reducible refine bu (fun h=>?_) (fun h=>?_))<;>(try simp only [List.length_map] at h)<;>conv=>whnf)
 | ((with_reducible refine aO ?_);first | (refine ni (fun (k : Nat) (out : List Bs)=>p.parts.length - k) (fun (k : Nat) (out : List Bs)=>k <= p.parts.length /\ out.length <= k /\ p.parts.foldl (bb p.abs) [] = (p.parts.drop k).foldl (bb p.abs) out /\ (p.abs = true -> ∀ x ∈ out,bp x = false)) (fun (k : Nat) (out : List Bs)=>[(1,.ptr 0 0 0),(2,.ptr 1 0 0),(3,.ptr 2 0 0),(13,.d (.fs (p.parts.map .str))),(14,.d (i p.parts.length)),(15,.d (i k))]) (fun (k : Nat) (out : List Bs)=>[⟨[.d (js p)],3,0⟩,⟨[.junk],3,0⟩,⟨[.agg [.d (.bool p.abs),.sl 3 0 out.length 1 none,.d (.str p.stream)]],3,0⟩,⟨(out.map D.str).map .d,1,0⟩]) (0) ([]) (by exact ⟨Nat.zero_le _,Nat.zero_le _,rfl,fun _ x hx=>(by cases hx)⟩) ?_ (fun k out C hI hC=>?_);(exact ⟨[.old 0,.old 1,.old 2,.void 1],rfl,rfl,⟨⟨rfl,rfl,rfl⟩,⟨rfl,rfl,rfl⟩,⟨rfl,rfl,rfl⟩,rfl,(by first | exact congrArg (D.int .i64) (by simp only [List.length_map]) ),(by first | exact congrArg (D.int .i64) (by omega) ),trivial⟩,⟨⟨rfl,rfl,.inl ⟨[_],rfl,rfl⟩⟩,⟨rfl,rfl,.inr ⟨trivial,trivial⟩⟩,⟨rfl,rfl,.inr ⟨⟨rfl,⟨rfl,rfl,rfl,rfl⟩,rfl,trivial⟩,trivial⟩⟩,⟨rfl,rfl,(by decide),rfl⟩,trivial⟩⟩);all_goals (conv=>whnf)))
 | ((with_reducible show C _ _);first | (refine hC (k + 1) (out) _ _ ?_ (by omega) ?_;clear hC;rotate_left;(exact ⟨[.old 0,.old 1,.old 2,.old 3],rfl,rfl,⟨⟨rfl,rfl,rfl⟩,⟨rfl,rfl,rfl⟩,⟨rfl,rfl,rfl⟩,rfl,rfl,(by first | exact congrArg (D.int .i64) (by omega) ),trivial⟩,⟨⟨rfl,rfl,.inl ⟨[_],rfl,rfl⟩⟩,⟨rfl,rfl,.inr ⟨trivial,trivial⟩⟩,⟨rfl,rfl,.inr ⟨⟨rfl,⟨rfl,rfl,rfl,rfl,rfl⟩,rfl,trivial⟩,trivial⟩⟩,⟨rfl,rfl,.inr (em _ _)⟩,trivial⟩⟩);(exact ⟨by omega,by omega,by rw [hI.2.2.1,fu (by omega),xC (by assumption)],jh hI.2.2.2 (xC (by assumption))⟩)) | (refine hC (k + 1) (out ++ [p.parts[k]]) _ _ ?_ (by omega) ?_;clear hC;rotate_left;(exact ⟨[.old 0,.old 1,.old 2,.old 5],rfl,rfl,⟨⟨rfl,rfl,rfl⟩,⟨rfl,rfl,rfl⟩,⟨rfl,rfl,rfl⟩,rfl,rfl,(by first | exact congrArg (D.int .i64) (by omega) ),trivial⟩,⟨⟨rfl,rfl,.inl ⟨[_],rfl,rfl⟩⟩,⟨rfl,rfl,.inr ⟨trivial,trivial⟩⟩,⟨rfl,rfl,.inr ⟨⟨rfl,⟨rfl,rfl,(by simp),rfl,rfl⟩,rfl,trivial⟩,trivial⟩⟩,⟨rfl,rfl,.inr (fg (em _ _) rfl)⟩,trivial⟩⟩);(exact ⟨by omega,by (simp;omega),by rw [hI.2.2.1,fu (by omega),xB (by assumption) (by assumption)],jh hI.2.2.2 (xB (by assumption) (by assumption))⟩)) | (refine hC (k + 1) (out.dropLast) _ _ ?_ (by omega) ?_;clear hC;rotate_left;(exact ⟨[.old 0,.old 1,.old 2,.cut 3 (out.length - 1)],rfl,rfl,⟨⟨rfl,rfl,rfl⟩,⟨rfl,rfl,rfl⟩,⟨rfl,rfl,rfl⟩,rfl,rfl,(by first | exact congrArg (D.int .i64) (by omega) ),trivial⟩,⟨⟨rfl,rfl,.inl ⟨[_],rfl,rfl⟩⟩,⟨rfl,rfl,.inr ⟨trivial,trivial⟩⟩,⟨rfl,rfl,.inr ⟨⟨rfl,⟨⟨rfl,fun _=>(by omega)⟩,rfl,(by simp),rfl,rfl⟩,rfl,trivial⟩,trivial⟩⟩,⟨rfl,rfl,((out.dropLast.map D.str).map .d),_,(HC (by omega)),(by simp),.inl ⟨_,rfl,rfl⟩⟩,trivial⟩⟩);(exact ⟨by omega,by (simp;omega),by rw [hI.2.2.1,fu (by omega),xD (by assumption) (by omega) (by assumption)],jh hI.2.2.2 (xD (by assumption) (by omega) (by assumption))⟩)) | (refine hC (k + 1) (out) _ _ ?_ (by omega) ?_;clear hC;rotate_left;(exact ⟨[.old 0,.old 1,.old 2,.old 3],rfl,rfl,⟨⟨rfl,rfl,rfl⟩,⟨rfl,rfl,rfl⟩,⟨rfl,rfl,rfl⟩,rfl,rfl,(by first | exact congrArg (D.int .i64) (by omega) ),trivial⟩,⟨⟨rfl,rfl,.inl ⟨[_],rfl,rfl⟩⟩,⟨rfl,rfl,.inr ⟨trivial,trivial⟩⟩,⟨rfl,rfl,.inr ⟨⟨rfl,⟨rfl,rfl,rfl,rfl,rfl⟩,rfl,trivial⟩,trivial⟩⟩,⟨rfl,rfl,.inr (em _ _)⟩,trivial⟩⟩);(exact ⟨by omega,by omega,by rw [hI.2.2.1,fu (by omega),(xE (by assumption) (by first | (left;omega) )).trans (if_pos hab)],jh hI.2.2.2 ((xE (by assumption) (by first | (left;omega) )).trans (if_pos hab))⟩)) )
 | (refine ⟨⟨(by first | (simp;done)),cm (by simp only [List.length_map,List.length_cons,List.length_nil,List.length_append];omega) rfl⟩,?_⟩;conv=>whnf)
 | (refine bf (by omega) ?_;conv=>whnf)
 | (refine ax (by omega) ?_;conv=>whnf)
 | (exact (PE hI.2.2.2 hab h).elim)
 | (refine ⟨⟨by omega,by omega⟩,?_⟩;conv=>whnf)
 | (refine bF (l:=out) (out.length - 1) (by omega) (by omega) ?_;conv=>whnf)
 | (refine ⟨Nat.le_refl _,?_⟩;conv=>whnf)
 | (refine jH 0 (out.length - 1) (by omega) (by omega) (by omega) ?_;conv=>whnf)
 | ((with_reducible refine ag ?_);first | (exact aP (be (aK rfl (aK (ca rfl Nat.two_pos) (aK rfl bM)))) (zr (by assumption) hI.2.2.1 (by first | exact .inr hab ));done) )
  | fail
  )
theorem SG (p : PP) (hab : p.abs = false) (hn : p.parts.length < 2000000) : Fn 38 [js p] (js (normal p)):=by
 refine ac aZ Tryz.func38 rfl (by kernel_rfl) ?_
 conv=>whnf
 repeat' (first
 | ((with_reducible refine bP (by assumption) ?_);conv=>whnf)
 | ((with_reducible refine aJ (by assumption) ?_);conv=>whnf)
 | ((with_reducible refine bA (by assumption) ?_);conv=>whnf)
 | ((with_reducible refine zw (by assumption) ?_);conv=>whnf)
 | ((with_reducible refine aJ ?_ ?_);(focus ((try simp only [List.length_map,List.length_cons,List.length_nil,List.length_append]);omega));conv=>whnf)
 | ((with_reducible refine bP ?_ ?_);(focus ((try simp only [List.length_map,List.length_cons,List.length_nil,List.length_append]);omega));conv=>whnf)
 | ((with_reducible refine aB (fun h=>?_) (fun h=>?_))<;>(try simp only [List.length_map] at h)<;>conv=>whnf)
 | ((with_reducible refine bu (fun h=>?_) (fun h=>?_))<;>(try simp only [List.length_map] at h)<;>conv=>whnf)
 | ((with_reducible refine aO ?_);first | (refine ni (fun (k : Nat) (out : List Bs)=>p.parts.length - k) (fun (k : Nat) (out : List Bs)=>k <= p.parts.length /\ out.length <= k /\ p.parts.foldl (bb p.abs) [] = (p.parts.drop k).foldl (bb p.abs) out /\ (p.abs = true -> ∀ x ∈ out,bp x = false)) (fun (k : Nat) (out : List Bs)=>[(1,.ptr 0 0 0),(2,.ptr 1 0 0),(3,.ptr 2 0 0),(13,.d (.fs (p.parts.map .str))),(14,.d (i p.parts.length)),(15,.d (i k))]) (fun (k : Nat) (out : List Bs)=>[⟨[.d (js p)],3,0⟩,⟨[.junk],3,0⟩,⟨[.agg [.d (.bool p.abs),.sl 3 0 out.length 1 none,.d (.str p.stream)]],3,0⟩,⟨(out.map D.str).map .d,1,0⟩]) (0) ([]) (by exact ⟨Nat.zero_le _,Nat.zero_le _,rfl,fun _ x hx=>(by cases hx)⟩) ?_ (fun k out C hI hC=>?_);(exact ⟨[.old 0,.old 1,.old 2,.void 1],rfl,rfl,⟨⟨rfl,rfl,rfl⟩,⟨rfl,rfl,rfl⟩,⟨rfl,rfl,rfl⟩,rfl,(by first | exact congrArg (D.int .i64) (by simp only [List.length_map]) ),(by first | exact congrArg (D.int .i64) (by omega) ),trivial⟩,⟨⟨rfl,rfl,.inl ⟨[_],rfl,rfl⟩⟩,⟨rfl,rfl,.inr ⟨trivial,trivial⟩⟩,⟨rfl,rfl,.inr ⟨⟨rfl,⟨rfl,rfl,rfl,rfl⟩,rfl,trivial⟩,trivial⟩⟩,⟨rfl,rfl,(by decide),rfl⟩,trivial⟩⟩);all_goals (conv=>whnf)))
 | ((with_reducible show C _ _);first | (refine hC (k + 1) (out) _ _ ?_ (by omega) ?_;clear hC;rotate_left;(exact ⟨[.old 0,.old 1,.old 2,.old 3],rfl,rfl,⟨⟨rfl,rfl,rfl⟩,⟨rfl,rfl,rfl⟩,⟨rfl,rfl,rfl⟩,rfl,rfl,(by first | exact congrArg (D.int .i64) (by omega) ),trivial⟩,⟨⟨rfl,rfl,.inl ⟨[_],rfl,rfl⟩⟩,⟨rfl,rfl,.inr ⟨trivial,trivial⟩⟩,⟨rfl,rfl,.inr ⟨⟨rfl,⟨rfl,rfl,rfl,rfl,rfl⟩,rfl,trivial⟩,trivial⟩⟩,⟨rfl,rfl,.inr (em _ _)⟩,trivial⟩⟩);(exact ⟨by omega,by omega,by rw [hI.2.2.1,fu (by omega),xC (by assumption)],jh hI.2.2.2 (xC (by assumption))⟩)) | (refine hC (k + 1) (out ++ [p.parts[k]]) _ _ ?_ (by omega) ?_;clear hC;rotate_left;(exact ⟨[.old 0,.old 1,.old 2,.old 5],rfl,rfl,⟨⟨rfl,rfl,rfl⟩,⟨rfl,rfl,rfl⟩,⟨rfl,rfl,rfl⟩,rfl,rfl,(by first | exact congrArg (D.int .i64) (by omega) ),trivial⟩,⟨⟨rfl,rfl,.inl ⟨[_],rfl,rfl⟩⟩,⟨rfl,rfl,.inr ⟨trivial,trivial⟩⟩,⟨rfl,rfl,.inr ⟨⟨rfl,⟨rfl,rfl,(by simp),rfl,rfl⟩,rfl,trivial⟩,trivial⟩⟩,⟨rfl,rfl,.inr (fg (em _ _) rfl)⟩,trivial⟩⟩);(exact ⟨by omega,by (simp;omega),by rw [hI.2.2.1,fu (by omega),xB (by assumption) (by assumption)],jh hI.2.2.2 (xB (by assumption) (by assumption))⟩)) | (refine hC (k + 1) (out.dropLast) _ _ ?_ (by omega) ?_;clear hC;rotate_left;(exact ⟨[.old 0,.old 1,.old 2,.cut 3 (out.length - 1)],rfl,rfl,⟨⟨rfl,rfl,rfl⟩,⟨rfl,rfl,rfl⟩,⟨rfl,rfl,rfl⟩,rfl,rfl,(by first | exact congrArg (D.int .i64) (by omega) ),trivial⟩,⟨⟨rfl,rfl,.inl ⟨[_],rfl,rfl⟩⟩,⟨rfl,rfl,.inr ⟨trivial,trivial⟩⟩,⟨rfl,rfl,.inr ⟨⟨rfl,⟨⟨rfl,fun _=>(by omega)⟩,rfl,(by simp),rfl,rfl⟩,rfl,trivial⟩,trivial⟩⟩,⟨rfl,rfl,((out.dropLast.map D.str).map .d),_,(HC (by omega)),(by simp),.inl ⟨_,rfl,rfl⟩⟩,trivial⟩⟩);(exact ⟨by omega,by (simp;omega),by rw [hI.2.2.1,fu (by omega),xD (by assumption) (by omega) (by assumption)],jh hI.2.2.2 (xD (by assumption) (by omega) (by assumption))⟩)) | (refine hC (k + 1) (out ++ [p.parts[k]]) _ _ ?_ (by omega) ?_;clear hC;rotate_left;(exact ⟨[.old 0,.old 1,.old 2,.old 5],rfl,rfl,⟨⟨rfl,rfl,rfl⟩,⟨rfl,rfl,rfl⟩,⟨rfl,rfl,rfl⟩,rfl,rfl,(by first | exact congrArg (D.int .i64) (by omega) ),trivial⟩,⟨⟨rfl,rfl,.inl ⟨[_],rfl,rfl⟩⟩,⟨rfl,rfl,.inr ⟨trivial,trivial⟩⟩,⟨rfl,rfl,.inr ⟨⟨rfl,⟨rfl,rfl,(by simp),rfl,rfl⟩,rfl,trivial⟩,trivial⟩⟩,⟨rfl,rfl,.inr (fg (em _ _) rfl)⟩,trivial⟩⟩);(exact ⟨by omega,by (simp;omega),by rw [hI.2.2.1,fu (by omega),(xE (by assumption) (by first | (left;omega) | (right;exact ⟨by omega,by assumption⟩))).trans (if_neg (by rw [hab];decide))],jh hI.2.2.2 ((xE (by assumption) (by first | (left;omega) | (right;exact ⟨by omega,by assumption⟩))).trans (if_neg (by rw [hab];decide)))⟩)))
 | (refine ⟨⟨(by first | (simp;done)),cm (by simp only [List.length_map,List.length_cons,List.length_nil,List.length_append];omega) rfl⟩,?_⟩;conv=>whnf)
 | (refine bf (by omega) ?_;conv=>whnf)
 | (refine ax (by omega) ?_;conv=>whnf)
 | (refine ⟨⟨by omega,by omega⟩,?_⟩;conv=>whnf)
 | (refine bF (l:=out) (out.length - 1) (by omega) (by omega) ?_;conv=>whnf)
 | (refine ⟨Nat.le_refl _,?_⟩;conv=>whnf)
 | (refine jH 0 (out.length - 1) (by omega) (by omega) (by omega) ?_;conv=>whnf)
 | ((with_reducible refine ag ?_);first | (exact aP (be (aK rfl (aK (ca rfl Nat.two_pos) (aK rfl bM)))) (zr (by assumption) hI.2.2.1 (by first | exact .inl (by omega)));done) | (exact aP (be (aK rfl (aK rfl (aK rfl bM)))) (EP (by assumption) hI.2.2.1 (by omega) hab);done))
  | fail
  )
theorem SE (p : PP) (hn : p.parts.length < 2000000) : Fn 38 [js p] (js (normal p)):=by
 cases h : p.abs with
 | true=>exact SH p h hn
 | false=>exact SG p h hn
theorem H5 {ab : Bool} {out : List Bs} {s x : Bs} (h : x ∈ bb ab out s) : x ∈ out \/ x = s:=by
 unfold bb at h
 split at h
 ·exact .inl h
 ·split at h
  ·rcases List.mem_append.1 h with h | h
   ·exact .inl h
   ·exact .inr (List.mem_singleton.1 h)
  ·split at h
   ·exact .inl ((List.dropLast_sublist _).mem h)
   ·split at h
    ·exact .inl h
    ·rcases List.mem_append.1 h with h | h
     ·exact .inl h
     ·exact .inr (List.mem_singleton.1 h)
theorem uX {ab : Bool} : ∀ (l out : List Bs) (x : Bs),x ∈ l.foldl (bb ab) out -> x ∈ out \/ x ∈ l
 | [],out,x,h=>.inl h
 | s :: l,out,x,h=>by
  rcases uX l _ x h with h | h
  ·rcases H5 h with h | h
   ·exact .inl h
   ·exact .inr (by simp [h])
  ·exact .inr (by simp [h])
theorem Hm {p : PP} {x : Bs} (h : x ∈ (normal p).parts) : x = [46] \/ x ∈ p.parts:=by
 unfold normal at h
 simp only at h
 split at h
 ·exact .inl (List.mem_singleton.1 h)
 ·rcases uX _ _ _ h with h | h
  ·cases h
  ·exact .inr h
theorem sP (c : UInt8) (m : Nat) : ∀ (l : List Bs),(∀ x ∈ l,x.length <= m) -> (glue c l).length <= l.length * (m + 1)
 | [],_=>by unfold glue;simp
 | [x],h=>by unfold glue;have:=h x (by simp);simp;omega
 | x :: y :: l,h=>by
  have ih:=sP c m (y :: l) (fun z hz=>h z (by simp [hz]))
  have h1:=h x (by simp)
  have e : (x :: y :: l).length * (m + 1) = (y :: l).length * (m + 1) + (m + 1):=by rw [List.length_cons,Nat.succ_mul]
  rw [e]
  unfold glue
  rw [List.length_append,List.length_cons]
  generalize (y :: l).length * (m + 1) = q at *
  generalize (glue c (y :: l)).length = g at *
  omega
theorem Fy {s : Bs} (h : (aj s).2 = 0) : (aj s).1.stream.length <= 200:=by
 have h1:=t6 (aj s).1
 rw [nX h] at h1
 have : s.length <= 200:=by
  by_cases hb : (200 : Int) < s.length
  ·rw [vD hb] at h;exact absurd h (by decide)
  ·omega
 omega
theorem EQ {s : Bs} (h : (aj s).2 = 0) : (text (normal (aj s).1)).length < 100000 /\ (normal (aj s).1).parts.length < 100:=by
 obtain ⟨h1,h2⟩:=ge h
 have h3:=Hl (aj s).1
 have h4:=Fy h
 have h5:=sP 47 32 (normal (aj s).1).parts (fun x hx=>by
  rcases Hm hx with rfl | hx
  ·decide
  ·exact (ry (h1 x hx).2).2.2.2)
 have h6 : (normal (aj s).1).stream = (aj s).1.stream:=(BI _).2
 refine ⟨?_,by omega⟩
 unfold text
 rw [h6]
 simp only [List.length_append]
 have h7 : (if (normal (aj s).1).abs = true then ([47] : Bs) else []).length <= 1:=by split<;>simp
 have h8 : (if (aj s).1.stream = [] then ([] : Bs) else 58 :: (aj s).1.stream).length <= 201:=by
  split
  ·simp
  ·simp only [List.length_cons];omega
 have h9 : (normal (aj s).1).parts.length * (32 + 1) <= 17 * 33:=by omega
 omega
attribute [local irreducible] text
theorem Ry (s : Bs) (h0 : (aj s).2 = 0) : Fn 16 [.str s] (.tup [.str (text (normal (aj s).1)),i 0]):=by
 obtain ⟨hn1,hn2⟩:=EQ h0;have hpp:=zG s
 refine ac aZ Tryz.func16 rfl (by kernel_rfl) ?_
 conv=>whnf
 repeat' (first
 | ((with_reducible refine cY (by first | assumption ) ?_);conv=>whnf)
 | ((with_reducible refine ak ?_);(first | refine aa (aA (II s) rfl) ?_ | refine aa (aA (SE (aj s).1 (by omega)) rfl) ?_ | refine aa (ah (TX (normal (aj s).1) (by omega) (by omega)) rfl rfl) ?_);conv=>whnf)
 | ((with_reducible refine ag ?_);first | (exact dy rfl;done))
  | fail
  )
end
section
set_option maxRecDepth 10000
attribute [local irreducible] bn
set_option maxHeartbeats 2000000
abbrev l7 (l : List cR) : List AV:=(l.map Kj).map .d
def pJ : Bool -> Nat -> Option Nat
 | true,n=>some n
 | false,_=>none
theorem gD {t : List aM} {n : Int} {nd : aM} {K : D -> Prop} (h0 : 0 <= n) (h : t[n.toNat]? = some nd) (k : K nd.enc) : 0 <= n /\ cX (t.map aM.enc) n.toNat K:=
 ⟨h0,cj (x:=nd.enc) (by simp [h]) k⟩
theorem My {pre q : List cR} {w : cR} {n : Nat} {K : AV -> Prop} (hn : n = pre.length) (k : K (.d (Kj w))) : cX (l7 (pre ++ w :: q)) n K:=by
 subst hn
 exact cj (x:=.d (Kj w)) (by simp [l7]) k
def ee (w : cR) (e : bm) : cR:=(e.node,w.2 ++ [47] ++ e.name)
theorem pG {t : List aM} {n : Nat} {w : cR} {q r : List cR} (h : pF t n (w :: q) = some r) : ∃ m nd r', n = m + 1 /\ 0 <= w.1 /\ t[w.1.toNat]? = some nd /\ pF t m (q ++ nd.ents.map (ee w)) = some r' /\ r = nd.ents.map (ee w) ++ r' := FX h
theorem Il {ys r : List cR} {w : cR} {l : List bm} {c m : Nat} (h : ys.drop (c - 1) = l.map (ee w) ++ r) (hc : 1 <= c) (hm : m < l.length) : (((0,[47]) :: ys).map Ih)[c + m]? = some (Ih (ee w l[m])) /\ c + m <= ys.length /\ ee w l[m] ∈ ys:=by
 have h1 : ys[c - 1 + m]? = some (ee w l[m]):=by
  rw [<- List.getElem?_drop,h,List.getElem?_append_left (by simpa using hm)]
  simp [hm]
 have h2 : c - 1 + m < ys.length:=(List.getElem?_eq_some_iff.1 h1).1
 refine ⟨?_,by omega,List.mem_of_getElem? h1⟩
 rw [show c + m = (c - 1 + m) + 1 by omega,List.map_cons,List.getElem?_cons_succ,List.getElem?_map,h1]
 rfl
theorem rh {fr : Bool} {n m : Nat} (h : n = m) : pJ fr n = pJ fr m:=by rw [h]
theorem mg {fr : Bool} {n : Nat} : (match pJ fr (n + 1) with | some c=>some (c - 1) | none=>none) = pJ fr n:=by cases fr<;>rfl
theorem Vm {a : Bs} {K : Prop} (h : a.length < 2000000) (k : K) : a.length + ({ data:=#[47] } : ByteArray).data.toList.length < 9223372036854775808 /\ K:=⟨by show a.length + 1 < _;omega,k⟩
theorem TJ {a b : Bs} {K : Prop} (h : (a ++ [47] ++ b).length < 2000000) (k : K) : (a ++ ({ data:=#[47] } : ByteArray).data.toList).length + b.length < 9223372036854775808 /\ K:=
 ⟨by show (a ++ [47]).length + b.length < _;simp only [List.length_append] at h ⊢;omega,k⟩
theorem KO {ys r : List cR} {w : cR} {l : List bm} {c m : Nat} (hp : ∀ w ∈ ys,w.2.length < 2000000) (h : ys.drop (c - 1) = l.map (ee w) ++ r) (hc : 1 <= c) (hm : m < l.length) : (w.2 ++ [47] ++ l[m].name).length < 2000000:=hp _ (Il h hc hm).2.2
theorem L0 {ys r : List cR} {w : cR} {l : List bm} {c m : Nat} (hp : ∀ w ∈ ys,w.2.length < 2000000) (h : ys.drop (c - 1) = l.map (ee w) ++ r) (hc : 1 <= c) (hm : m < l.length) : w.2.length < 2000000:=by
 have:=KO hp h hc hm
 simp only [List.length_append] at this
 omega
theorem zS (pre q : List cR) : (l7 (pre ++ q)).drop pre.length = l7 q:=by simp [l7]
theorem zT (pre q : List cR) (w : cR) : l7 (pre ++ w :: q) = l7 ((pre ++ [w]) ++ q):=by simp
theorem t8 {l : List bm} {m : Nat} (h : m < l.length) : l.take (m + 1) = l.take m ++ [l[m]]:=List.take_succ_eq_append_getElem h
theorem MV {μ : List Mu} {w : cR} {e : bm} : wk μ (.agg [.d (i e.node),.d (.str (w.2 ++ [47] ++ e.name))]) (.d (Kj (ee w e))):=⟨rfl,rfl,rfl,trivial⟩
theorem zU {μ : List Mu} {pre cur : List cR} {w : cR} {l : List bm} {m : Nat} {n : Nat} (hn : n = pre.length) (hm : m < l.length) : io μ ((l7 (pre ++ w :: (cur ++ (l.take m).map (ee w)))).drop n ++ [.agg [.d (i l[m].node),.d (.str (w.2 ++ [47] ++ l[m].name))]]) (l7 ([] ++ w :: (cur ++ (l.take (m + 1)).map (ee w)))):=by
 subst hn
 rw [zS,t8 hm,List.nil_append,List.map_append,<- List.append_assoc,<- List.cons_append]
 exact fg (em _ _) (MV (w:=w) (e:=l[m]))
theorem Fg {μ : List Mu} {pre cur : List cR} {w : cR} {l : List bm} {m : Nat} {n k : Nat} (hn : n = pre.length) (hk : k = (w :: (cur ++ (l.take m).map (ee w))).length) (hm : m < l.length) : io μ (((l7 (pre ++ w :: (cur ++ (l.take m).map (ee w)))).drop n).take k ++ [.agg [.d (i l[m].node),.d (.str (w.2 ++ [47] ++ l[m].name))]]) (l7 ([] ++ w :: (cur ++ (l.take (m + 1)).map (ee w)))):=by
 have h:=zU (μ:=μ) (pre:=pre) (cur:=cur) (w:=w) (l:=l) (m:=m) hn hm
 subst hn
 rw [zS] at h ⊢
 rw [List.take_of_length_le (by rw [hk];simp [l7])]
 exact h
theorem JL {ys r : List cR} {w : cR} {l : List bm} {c : Nat} (h : ys.drop (c - 1) = l.map (ee w) ++ r) (hc : 1 <= c) : r = ys.drop (c + l.length - 1):=by
 have:=congrArg (List.drop l.length) h
 rw [List.drop_drop,List.drop_left' (by simp)] at this
 rw [<- this]
 congr 1
 omega
theorem Hq {t : List aM} {n2 s c m : Nat} {cur r2 ys : List cR} {w : cR} {l : List bm} (hyd : ys.drop (c - 1) = l.map (ee w) ++ r2) (hb2 : pF t n2 (cur ++ l.map (ee w)) = some r2) (h1 : 1 <= c) (h2 : c <= ys.length + 1) (hq : (w :: cur).length <= c) (hm : m = l.length) (hs : c + m <= s) :
  c + l.length <= s /\ c + l.length <= ys.length + 1 /\ pF t n2 (cur ++ (l.take m).map (ee w)) = some (ys.drop (c + l.length - 1)) /\ 1 <= c + l.length /\ (cur ++ (l.take m).map (ee w)).length <= c + l.length:=by
 subst hm
 have hl:=congrArg List.length hyd
 rw [List.length_drop,List.length_append,List.length_map] at hl
 rw [List.length_cons] at hq
 refine ⟨by omega,by omega,?_,by omega,?_⟩
 ·rw [List.take_length,<- JL hyd h1];exact hb2
 ·rw [List.take_length,List.length_append,List.length_map];omega
theorem I2 {ys r2 : List cR} {w : cR} {l : List bm} {c : Nat} (hyd : ys.drop (c - 1) = l.map (ee w) ++ r2) : l.length <= ys.length:=by
 have h:=congrArg List.length hyd
 rw [List.length_drop,List.length_append,List.length_map] at h
 omega
theorem yv {α : Type} {n : Nat} {l : List α} {K : List α -> Prop} (k : K (l.drop n)) : sq n l K:=by rw [ss];exact k
theorem zh {cur : List cR} {w : cR} {l : List bm} {m : Nat} (hm : m < l.length) : (w :: (cur ++ (l.take m).map (ee w))).length + 1 = (w :: (cur ++ (l.take (m + 1)).map (ee w))).length:=by
 rw [t8 hm]
 simp only [List.length_cons,List.length_append,List.length_map,List.length_nil]
 omega
theorem Ch {pre cur : List cR} {w : cR} : pre.length + (w :: cur).length = (l7 (pre ++ w :: cur)).length:=by simp [l7]
theorem Cg {ys r2 cur : List cR} {w : cR} {l : List bm} {c m : Nat} (hyd : ys.drop (c - 1) = l.map (ee w) ++ r2) (hl : ys.length < 2000000) (hq : (w :: cur).length <= c) (h2 : c <= ys.length + 1) (hm : m <= l.length) : (w :: (cur ++ (l.take m).map (ee w))).length + 1 <= 10000000:=by
 have h:=congrArg List.length hyd
 rw [List.length_drop,List.length_append,List.length_map] at h
 rw [List.length_cons] at hq
 rw [List.length_cons,List.length_append,List.length_map,List.length_take]
 omega
theorem IA {t : List aM} {n : Nat} {ys : List cR} {c : Nat} (h : pF t n [] = some (ys.drop (c - 1))) (h1 : 1 <= c) (h2 : c <= ys.length + 1) : c = ys.length + 1:=by
 have:=wg h
 have:=congrArg List.length this
 rw [List.length_drop] at this
 simp at this
 omega
theorem Tw (t : List aM) (N : Nat) (ys : List cR) (hy : pF t N [(0,[])] = some ys) (hl : ys.length < 2000000) (hp : ∀ w ∈ ys,w.2.length < 2000000) : n7 Tryz.prog 62 [aS t] [] ((((0,[47]) :: ys).map Ih)):=by
 refine CZ aZ Tryz.func62 rfl (by kernel_rfl) (fun s ll hs=>?_)
 conv=>whnf
 repeat' (first
 | ((with_reducible refine aJ ?_ ?_);(focus ((try simp only [List.length_map,List.length_cons,List.length_nil,List.length_append]);omega));conv=>whnf)
 | ((with_reducible refine bP ?_ ?_);(focus ((try simp only [List.length_map,List.length_cons,List.length_nil,List.length_append]);omega));conv=>whnf)
 | ((with_reducible refine aB (fun h=>?_) (fun h=>?_))<;>(try simp only [List.length_map] at h)<;>conv=>whnf)
 | ((with_reducible refine bu (fun h=>?_) (fun h=>?_))<;>(try simp only [List.length_map] at h)<;>conv=>whnf)
 | (refine ⟨[],[],(by decide +kernel),?_⟩;conv=>whnf)
 | ((with_reducible refine aO ?_);first | (refine Dh (fun (m : Nat) (pre2 : List cR) (fr2 : Bool)=>nd.ents.length - m) (fun (m : Nat) (pre2 : List cR) (fr2 : Bool)=>m <= nd.ents.length /\ c + m <= s) (fun (m : Nat) (pre2 : List cR) (fr2 : Bool)=>[(0,.d (aS t)),(1,.raw (.func (.yield ll) #[] #[])),(4,.sl 1 pre2.length (w :: (cur ++ (nd.ents.take m).map (ee w))).length 2 (pJ fr2 (w :: (cur ++ (nd.ents.take m).map (ee w))).length)),(25,.d (.fs (nd.ents.map bm.enc))),(26,.d (i nd.ents.length)),(27,.d (i m))]) (fun (m : Nat) (pre2 : List cR) (fr2 : Bool)=>[trO (c + m),⟨l7 (pre2 ++ w :: (cur ++ (nd.ents.take m).map (ee w))),2,0⟩]) (0) (pre) (false) (by exact ⟨Nat.zero_le _,by omega⟩) ?_ (fun m pre2 fr2 Ci hIi hCi=>?_);(exact ⟨[.old 0,.old 1],rfl,rfl,⟨rfl,(by exact rfl),⟨rfl,rfl,(by simp),rfl,(rh (fr:=false) (by simp))⟩,rfl,(congrArg (D.int .i64) (by simp only [List.length_map])),(by first | exact congrArg (D.int .i64) (by omega) ),trivial⟩,⟨fv _ _,⟨rfl,rfl,.inl ⟨_,rfl,(by simp)⟩⟩,trivial⟩⟩);cases fr2;all_goals (conv=>whnf)) | (refine Dh (fun (m : Nat) (pre2 : List cR) (fr2 : Bool)=>nd.ents.length - m) (fun (m : Nat) (pre2 : List cR) (fr2 : Bool)=>m <= nd.ents.length /\ c + m <= s) (fun (m : Nat) (pre2 : List cR) (fr2 : Bool)=>[(0,.d (aS t)),(1,.raw (.func (.yield ll) #[] #[])),(4,.sl 1 pre2.length (w :: (cur ++ (nd.ents.take m).map (ee w))).length 2 (pJ fr2 (w :: (cur ++ (nd.ents.take m).map (ee w))).length)),(25,.d (.fs (nd.ents.map bm.enc))),(26,.d (i nd.ents.length)),(27,.d (i m))]) (fun (m : Nat) (pre2 : List cR) (fr2 : Bool)=>[trO (c + m),⟨l7 (pre2 ++ w :: (cur ++ (nd.ents.take m).map (ee w))),2,0⟩]) (0) (pre) (true) (by exact ⟨Nat.zero_le _,by omega⟩) ?_ (fun m pre2 fr2 Ci hIi hCi=>?_);(exact ⟨[.old 0,.old 1],rfl,rfl,⟨rfl,(by exact rfl),⟨rfl,rfl,(by simp),rfl,(rh (fr:=true) (by simp))⟩,rfl,(congrArg (D.int .i64) (by simp only [List.length_map])),(by first | exact congrArg (D.int .i64) (by omega) ),trivial⟩,⟨fv _ _,⟨rfl,rfl,.inl ⟨_,rfl,(by simp)⟩⟩,trivial⟩⟩);cases fr2;all_goals (conv=>whnf)) | (refine Di (fun (c : Nat) (pre : List cR) (q : List cR) (n : Nat) (fr : Bool)=>n) (fun (c : Nat) (pre : List cR) (q : List cR) (n : Nat) (fr : Bool)=>c <= s /\ c <= ys.length + 1 /\ pF t n q = some (ys.drop (c - 1)) /\ 1 <= c /\ q.length <= c) (fun (c : Nat) (pre : List cR) (q : List cR) (n : Nat) (fr : Bool)=>[(0,.d (aS t)),(1,.raw (.func (.yield ll) #[] #[])),(4,.sl 1 pre.length q.length 2 (pJ fr q.length))]) (fun (c : Nat) (pre : List cR) (q : List cR) (n : Nat) (fr : Bool)=>[trO c,⟨l7 (pre ++ q),2,0⟩]) (1) ([]) ([(0,[])]) (N) (true) (by exact ⟨by omega,by omega,hy,Nat.le_refl _,Nat.le_refl _⟩) ?_ (fun c pre q n fr C hI hC=>?_);(exact ⟨[.old 0,.old 1],rfl,rfl,⟨rfl,(by exact rfl),(by first | exact ⟨rfl,rfl,rfl,rfl,rfl⟩ ),trivial⟩,⟨fv _ _,⟨rfl,rfl,.inr ⟨⟨rfl,rfl,rfl,trivial⟩,trivial⟩⟩,trivial⟩⟩);(rcases q with (_ | ⟨w,cur⟩));(rotate_left;(obtain ⟨n2,nd,r2,rfl,hw0,hnd,hb2,hyd⟩:=pG hI.2.2.1);rotate_right);all_goals cases fr;all_goals (conv=>whnf)))
 | ((with_reducible show C _ _);first | (refine hC (c + nd.ents.length) (pre2 ++ [w]) ((cur ++ (nd.ents.take m).map (ee w))) (n2) (false) _ _ ?_ (by omega) ?_;clear hC;rotate_left;(exact ⟨[.old 0,.old 1],rfl,rfl,⟨rfl,(by exact rfl),⟨rfl,(by simp only [List.length_append,List.length_cons,List.length_nil]),Nat.add_sub_cancel _ 1,rfl,mg (fr:=false)⟩,trivial⟩,⟨(by have hm : m = nd.ents.length:=(by omega);subst hm;exact fv _ _),⟨rfl,rfl,.inl ⟨_,rfl,(zT _ _ _).symm⟩⟩,trivial⟩⟩);(exact Hq hyd hb2 hI.2.2.2.1 hI.2.1 hI.2.2.2.2 (by omega) (by omega))) | (refine hC (c + nd.ents.length) (pre2 ++ [w]) ((cur ++ (nd.ents.take m).map (ee w))) (n2) (true) _ _ ?_ (by omega) ?_;clear hC;rotate_left;(exact ⟨[.old 0,.old 1],rfl,rfl,⟨rfl,(by exact rfl),⟨rfl,(by simp only [List.length_append,List.length_cons,List.length_nil]),Nat.add_sub_cancel _ 1,rfl,mg (fr:=true)⟩,trivial⟩,⟨(by have hm : m = nd.ents.length:=(by omega);subst hm;exact fv _ _),⟨rfl,rfl,.inl ⟨_,rfl,(zT _ _ _).symm⟩⟩,trivial⟩⟩);(exact Hq hyd hb2 hI.2.2.2.1 hI.2.1 hI.2.2.2.2 (by omega) (by omega))))
 | ((with_reducible show Ci _ _);first | (refine hCi (m + 1) ([]) (false) _ _ ?_ (by omega) ?_;clear hCi;rotate_left;(exact ⟨[.old 0,.old 5],rfl,rfl,⟨rfl,(by exact rfl),⟨rfl,rfl,(zh (by omega)),rfl,rfl⟩,rfl,rfl,(by first | exact congrArg (D.int .i64) (by omega) ),trivial⟩,⟨fv _ _,⟨rfl,rfl,.inr (zU rfl (by omega))⟩,trivial⟩⟩);(exact ⟨by omega,by omega⟩)) | (refine hCi (m + 1) ([]) (false) _ _ ?_ (by omega) ?_;clear hCi;rotate_left;(exact ⟨[.old 0,.old 5],rfl,rfl,⟨rfl,(by exact rfl),⟨rfl,rfl,(zh (by omega)),rfl,rfl⟩,rfl,rfl,(by first | exact congrArg (D.int .i64) (by omega) ),trivial⟩,⟨fv _ _,⟨rfl,rfl,.inr (Fg rfl rfl (by omega))⟩,trivial⟩⟩);(exact ⟨by omega,by omega⟩)) )
 | (refine bf (by omega) ?_;conv=>whnf)
 | (refine ax (by have:=I2 hyd;omega) ?_;conv=>whnf)
 | ((with_reducible refine yv ?_);conv=>whnf)
 | (refine ⟨⟨Ch,cm (Cg hyd hl hI.2.2.2.2 hI.2.1 (by omega)) rfl⟩,?_⟩;conv=>whnf)
 | (refine ⟨⟨Nat.le_of_eq Ch,cm (Cg hyd hl hI.2.2.2.2 hI.2.1 (by omega)) rfl⟩,?_⟩;conv=>whnf)
 | (refine ⟨Nat.le_refl _,?_⟩;conv=>whnf)
 | (refine jH 1 ((w :: (cur ++ (nd.ents.take m).map (ee w))).length) rfl rfl ⟨by simp only [List.length_cons];omega,Nat.le_refl _⟩ ?_;conv=>whnf)
 | (refine ⟨⟨by omega,by simp only [List.length_cons];omega⟩,?_⟩;conv=>whnf)
 | ((with_reducible refine uh ?_);(refine xK (i:=0) (by omega) rfl ?_);conv=>whnf)
 | (refine gD hw0 hnd ?_;conv=>whnf)
 | (refine My (by first | rfl ) ?_;conv=>whnf)
 | (refine Vm (L0 hp hyd hI.2.2.2.1 (m:=m) (by omega)) ?_;conv=>whnf)
 | (refine TJ (KO hp hyd hI.2.2.2.1 (m:=m) (by omega)) ?_;conv=>whnf)
 | ((with_reducible refine uh ?_);(refine xK (i:=c + m) (by omega) (Il hyd hI.2.2.2.1 (by omega)).1 ?_);conv=>whnf)
 | ((with_reducible refine ag ?_);first | (refine rj ?_;((try simp only [List.length_map,List.length_cons]);(try simp only [List.length_map,List.length_cons] at *);omega);done) | (refine rj ?_;(have yb:=(Il hyd hI.2.2.2.1 (m:=m) (by omega)).2.1;(simp only [List.length_map,List.length_cons] at *);omega);done) | (refine rj ?_;(have hz:=IA hI.2.2.1 hI.2.2.2.1 hI.2.1;(simp only [List.length_map,List.length_cons] at *);omega);done))
  | fail
  )
end
section
set_option maxRecDepth 10000
attribute [local irreducible] bn
set_option maxHeartbeats 2000000
def lr (ys : List cR) : List cR:=(0,[47]) :: ys
def vV (n : Int) (l : List cR) : List Bs:=(l.filter fun w=>decide (w.1 = n)).map (·.2)
theorem DJ {n : Int} {l : List cR} {k : Nat} (h : k < l.length) : vV n (l.take (k + 1)) = if l[k].1 = n then vV n (l.take k) ++ [l[k].2] else vV n (l.take k):=by
 unfold vV
 rw [List.take_succ_eq_append_getElem h,List.filter_append,List.map_append]
 split
 ·rename_i h1;simp [h1]
 ·rename_i h1;simp [h1]
theorem J8 (n : Int) (l : List cR) : (vV n l).length <= l.length:=by
 unfold vV;rw [List.length_map];exact List.length_filter_le _ _
def Qz (l : List cR) (k : Nat) : List D:=Ih (l.getD k (0,[]))
theorem MY {l : List cR} {k : Nat} (h : k < l.length) : Qz l k = [i l[k].1,.str l[k].2]:=by
 unfold Qz;rw [List.getD_eq_getElem?_getD,List.getElem?_eq_getElem h];rfl
theorem Km (l : List cR) : (List.range l.length).map (Qz l) = l.map Ih:=by
 apply List.ext_getElem
 ·simp
 ·intro k h1 h2
  simp only [List.length_map,List.length_range] at h1
  simp [Qz,h1]
theorem O8 {t : List aM} {N : Nat} {ys : List cR} (hy : pF t N [(0,[])] = some ys) (hl : ys.length < 2000000) (hp : ∀ w ∈ ys,w.2.length < 2000000) : n7 Tryz.prog 62 [aS t] [] ((List.range (lr ys).length).map (Qz (lr ys))):=by
 rw [Km];exact Tw t N ys hy hl hp
def M1 (n : Int) (q : List Bs) : ae:=[⟨[.d (i n)],1,0⟩,⟨[.sl 2 0 q.length 1 none],1,0⟩,⟨(q.map D.str).map .d,1,0⟩]
theorem H7 {n : Int} {ys : List cR} {k : Nat} (h : ys.length < 100000) : (vV n ((lr ys).take k)).length < 2000000:=by
 have h1:=J8 n ((lr ys).take k)
 have h2 : ((lr ys).take k).length <= (lr ys).length:=List.length_take_le' _ _
 have h3 : (lr ys).length = ys.length + 1:=rfl
 omega
theorem MR {n : Int} {l : List cR} {k : Nat} (h : k < l.length) (h1 : ¬ l[k].1 = n) : vV n (l.take (k + 1)) = vV n (l.take k):=by rw [DJ h,if_neg h1]
theorem J9 {n : Int} {l : List cR} {k : Nat} (h : k < l.length) (h1 : l[k].1 = n) : vV n (l.take (k + 1)) = vV n (l.take k) ++ [l[k].2]:=by rw [DJ h,if_pos h1]
theorem J7 {n : Int} {ys : List cR} {k : Nat} (h : ys.length < 100000) : (vV n ((lr ys).take k)).length + 1 <= 10000000:=by
 have:=H7 (n:=n) (k:=k) h
 omega
theorem Ie (q : List Bs) (H : ae) : bl 8 ((H ++ []).set 2 ⟨((iN q).map D.str).map .d,1,0⟩) (.sl 2 0 q.length 1 none) = if 2 < H.length then some (.fs ((iN q).map .str)) else none:=by
 rw [List.append_nil,<- pp q]
 split
 ·rename_i h;exact ca (n:=6) (by rw [List.getElem?_set_self h]) Nat.two_pos
 ·rename_i h;show (match (H.set 2 _)[2]? with | some o=>_ | none=>none) = _;rw [List.getElem?_eq_none (by simpa using h)]
theorem FI (n : Int) (q : List Bs) : bl 8 ((M1 n q).set 2 ⟨((iN q).map D.str).map .d,1,0⟩) (.sl 2 0 q.length 1 none) = some (.fs ((iN q).map .str)):=by
 have:=Ie q (M1 n q)
 rw [List.append_nil] at this
 exact this
theorem kX {q : List Bs} : 0 + q.length = ((q.map D.str).map AV.d).length:=by simp
theorem Jc (n : Int) (q q' : List Bs) (e : q' = q) : DY [] 0 [(3,AV.ptr 0 0 0),(5,AV.ptr 1 0 0)] (M1 n q) [(3,AV.ptr 0 0 0),(5,AV.ptr 1 0 0)] (M1 n q'):=by
 subst e
 exact .inr ⟨[.old 0,.old 1,.old 2],rfl,rfl,⟨⟨rfl,rfl,rfl⟩,⟨rfl,rfl,rfl⟩,trivial⟩,⟨⟨rfl,rfl,.inl ⟨[_],rfl,rfl⟩⟩,⟨rfl,rfl,.inr ⟨⟨rfl,rfl,rfl,rfl,rfl⟩,trivial⟩⟩,⟨rfl,rfl,.inl ⟨_,rfl,rfl⟩⟩,trivial⟩⟩
theorem Jd {μ : List Mu} {l : List Bs} {x : Bs} : io μ ((l.map D.str).map .d ++ [.d (.str x)]) (((l ++ [x]).map D.str).map .d):=fg (f:=D.str) (em _ _) rfl
theorem Jb (n : Int) (q q' : List Bs) (x : Bs) (e : q' = q ++ [x]) : DY [] 0 [(3,AV.ptr 0 0 0),(5,AV.ptr 1 0 0)] [⟨[.d (i n)],1,0⟩,⟨[.sl 4 0 (q.length + 1) 1 none],1,0⟩,⟨(q.map D.str).map .d,1,2⟩,⟨[.d (.str x)],1,0⟩,⟨(q.map D.str).map .d ++ [.d (.str x)],1,0⟩] [(3,AV.ptr 0 0 0),(5,AV.ptr 1 0 0)] (M1 n q'):=by
 subst e
 exact .inr ⟨[.old 0,.old 1,.old 4],rfl,rfl,⟨⟨rfl,rfl,rfl⟩,⟨rfl,rfl,rfl⟩,trivial⟩,⟨⟨rfl,rfl,.inl ⟨[_],rfl,rfl⟩⟩,⟨rfl,rfl,.inr ⟨⟨rfl,rfl,by simp,rfl,rfl⟩,trivial⟩⟩,⟨rfl,rfl,.inr Jd⟩,trivial⟩⟩
theorem UD (t : List aM) (n : Int) (N : Nat) (ys : List cR) (hy : pF t N [(0,[])] = some ys) (hl : ys.length < 100000) (hp : ∀ w ∈ ys,w.2.length < 2000000) : Fn 31 [aS t,i n] (.fs ((iN (vV n (lr ys))).map .str)):=by
 refine tR aZ Tryz.func31 rfl (by kernel_rfl) ?_
 conv=>whnf
 repeat' (first
 | ((with_reducible refine zJ ?_);refine vH (σ:=Unit) (O8 hy (by omega) hp) (fun _ _=>True) (fun _ _=>[(3,.ptr 0 0 0),(5,.ptr 1 0 0)]) (fun k _=>M1 n (vV n ((lr ys).take k))) () trivial (.inr ⟨[.old 0,.old 1,.void 1],rfl,rfl,⟨⟨rfl,rfl,rfl⟩,⟨rfl,rfl,rfl⟩,trivial⟩,⟨⟨rfl,rfl,.inl ⟨[_],rfl,rfl⟩⟩,⟨rfl,rfl,.inr ⟨⟨rfl,rfl,rfl,rfl⟩,trivial⟩⟩,⟨rfl,rfl,by decide,rfl⟩,trivial⟩⟩) (fun k u hk C hI hC=>?_) (fun u hI=>?_);(focus (rw [MY hk];refine ⟨_,rfl,?_⟩;skip));all_goals (conv=>whnf))
 | ((with_reducible refine aJ ?_ ?_);(focus ((try simp only [List.length_map,List.length_cons,List.length_nil,List.length_append]);omega));conv=>whnf)
 | ((with_reducible refine aB (fun h=>?_) (fun h=>?_))<;>(try simp only [List.length_map] at h)<;>conv=>whnf)
 | ((with_reducible refine ak ?_);(first | refine aa (zV (Oq (vV n ((lr ys).take (lr ys).length)) (H7 hl)) (fun _=>rfl) rfl rfl (fun _ h=>by cases h) rfl) ?_);conv=>whnf)
 | ((with_reducible show C _);first | (refine hC () _ trivial (Jc n _ _ (MR hk h))) | (refine hC () _ trivial (Jb n _ _ _ (J9 hk h))))
 | (refine ⟨Nat.le_refl _,?_⟩;conv=>whnf)
 | (refine ⟨⟨kX,cm (J7 hl) rfl⟩,?_⟩;conv=>whnf)
 | ((with_reducible refine ag ?_);first | (refine aP (FI n _) ?_;rw [List.take_length];done))
  | fail
  )
end
end Go.Proofs.YtogifnjnpljnfaaGreatDoor
