/-
  Own lemmas, no conditions: Dt, Da, Pa, Pb, Pc, Pd, Pe, Pf, Jn, Or, Wa, Wb, Wc, Wd, Ph.
-/
import Derived.Test.YtpfokhdelnlciaaGreatDoorGrpI
import Derived.Lib.Bytealg
import Derived.Lib.Split
import Derived.Shelf.Strings.OnBuilder
import Derived.Shelf.Sort.Plain
import Derived.Shelf.Slices.In.SortNone
set_option linter.unusedVariables false
set_option linter.unusedSimpArgs false
namespace Go.Proofs.YtpfokhdelnlciaaGreatDoor
open Go Dw
abbrev Bs:=List UInt8
abbrev i (n : Int) : D:=.int .i64 n
def Fn (f : Nat) (xs : List D) (r : D) : Prop:=Run Tryz.prog f (xs.map .d) [] (.d r) []
structure Ent where
 name : Bs
 node : Int
 deriving DecidableEq
def Ent.enc (x : Ent) : D:=.agg [.str x.name,i x.node]
structure Nod where
 kind : Int
 ents : List Ent
 target : Bs
 deriving DecidableEq
def Nod.enc (x : Nod) : D:=.agg [i x.kind,.fs (x.ents.map Ent.enc),.str x.target]
def treeD (t : List Nod) : D:=.fs (t.map Nod.enc)
abbrev Way:=Int × Bs
def wayE (w : Way) : D:=.agg [i w.1,.str w.2]
def wayY (w : Way) : List D:=[i w.1,.str w.2]
def kids (t : List Nod) (w : Way) : Option (List Way):=if 0 ≤ w.1 then (t[w.1.toNat]?).map (fun n=>n.ents.map fun e=>(e.node,w.2 ++ [47] ++ e.name)) else none
def bfs (t : List Nod) : Nat → List Way → Option (List Way)
 | _,[]=>some []
 | 0,_ :: _=>none
 | n + 1,w :: q=>match kids t w with
  | none=>none
  | some ks=>match bfs t n (q ++ ks) with
   | none=>none
   | some r=>some (ks ++ r)
theorem bfs_cons {t : List Nod} {n : Nat} {w : Way} {q r : List Way} (h : bfs t n (w :: q) = some r) : ∃ m nd r', n = m + 1 ∧ 0 ≤ w.1 ∧ t[w.1.toNat]? = some nd ∧ bfs t m (q ++ nd.ents.map fun e => (e.node, w.2 ++ [47] ++ e.name)) = some r' ∧ r = (nd.ents.map fun e => (e.node, w.2 ++ [47] ++ e.name)) ++ r' := by
 cases n with
 | zero=>simp [bfs] at h
 | succ m=>
  simp only [bfs] at h
  cases hk : kids t w with
  | none=>simp [hk] at h
  | some ks=>
   simp only [hk] at h
   cases hb : bfs t m (q ++ ks) with
   | none=>simp [hb] at h
   | some r'=>
    simp only [hb,Option.some.injEq] at h
    unfold kids at hk
    split at hk
    ·rename_i h0
     cases hn : t[w.1.toNat]? with
     | none=>simp [hn] at hk
     | some nd=>
      simp only [hn,Option.map_some,Option.some.injEq] at hk
      subst hk
      exact ⟨m, nd, r', rfl, h0, rfl, hb, h.symm⟩
    ·cases hk
theorem bfs_nil {t : List Nod} {n : Nat} {r : List Way} (h : bfs t n [] = some r) : r = []:=by
 cases n<;>simp [bfs] at h<;>exact h
end Go.Proofs.YtpfokhdelnlciaaGreatDoor
namespace Go.Proofs.YtpfokhdelnlciaaGreatDoor
open Go Dw
set_option maxRecDepth 10000
theorem c177 (s : Bs) (c : Int) : Fn 177 [.str s,.int .u8 c] (i (Lib.indexByte s c.toNat.toUInt8)):=
 run_leafSC fun w=>by
  rw [run_callFunc_extern Tryz.func177 (by kernel_rfl) (by kernel_rfl) (by kernel_rfl) (e:=Extern.BytealgIndexByte.indexByte) (by kernel_rfl),Lib.run_indexByteString]
  rfl
theorem c167 (s : Bs) (c : Int) : Fn 167 [.str s,.int .u8 c] (i (Lib.countByte s c.toNat.toUInt8)):=
 run_leafSC fun w=>by
  rw [run_callFunc_extern Tryz.func167 (by kernel_rfl) (by kernel_rfl) (by kernel_rfl) (e:=Extern.BytealgCount.count) (by kernel_rfl),Lib.run_countString]
  rfl
end Go.Proofs.YtpfokhdelnlciaaGreatDoor
namespace Paths
abbrev Bs:=List UInt8
def cut (c : UInt8) : Bs → List Bs
 | []=>[[]]
 | x :: s=>if x = c then [] :: cut c s else match cut c s with
  | p :: l=>(x :: p) :: l
  | []=>[[x]]
theorem cut_ne (c : UInt8) : ∀ s,cut c s ≠ []
 | []=>by simp [cut]
 | x :: s=>by
  unfold cut
  split
  ·simp
  ·cases h : cut c s<;>simp
theorem cut_none {c : UInt8} : ∀ {s : Bs},c ∉ s → cut c s = [s]
 | [],_=>rfl
 | x :: s,h=>by
  have h1 : x ≠ c:=fun e=>h (by simp [e])
  rw [cut,if_neg h1,cut_none fun m=>h (by simp [m])]
theorem cut_at {c : UInt8} : ∀ {a : Bs} (b : Bs),c ∉ a → cut c (a ++ c :: b) = a :: cut c b
 | [],b,_=>by simp [cut]
 | x :: a,b,h=>by
  have h1 : x ≠ c:=fun e=>h (by simp [e])
  rw [List.cons_append,cut,if_neg h1,cut_at b fun m=>h (by simp [m])]
structure CutI (c : UInt8) (s : Bs) (out : List Bs) (a i : Nat) : Prop where
 le : a ≤ i
 out : out ++ cut c (s.drop a) = cut c s
 no : ∀ k,a ≤ k → k < i → ∀ h : k < s.length,s[k] ≠ c
theorem CutI.zero (c : UInt8) (s : Bs) : CutI c s [] 0 0:=⟨Nat.le_refl _,rfl,fun k _ h=>by omega⟩
theorem not_mem_of {c : UInt8} {s : Bs} {a i : Nat} (no : ∀ k,a ≤ k → k < i → ∀ h : k < s.length,s[k] ≠ c) : c ∉ (s.take i).drop a:=by
 intro h
 obtain ⟨j,hj,e⟩:=List.getElem_of_mem h
 simp only [List.length_drop,List.length_take] at hj
 rw [List.getElem_drop,List.getElem_take] at e
 exact no (a + j) (by omega) (by omega) (by omega) e
theorem CutI.hit {c : UInt8} {s : Bs} {out : List Bs} {a i : Nat} (I : CutI c s out a i) (h : i < s.length) (e : s[i] = c) : CutI c s (out ++ [(s.take i).drop a]) (i + 1) (i + 1):=by
 refine ⟨Nat.le_refl _,?_,fun k h1 h2=>by omega⟩
 have hs : s.drop a = (s.take i).drop a ++ c :: s.drop (i + 1):=by
  rw [← e,← List.drop_eq_getElem_cons h]
  conv=>lhs;rw [← List.take_append_drop i s]
  rw [List.drop_append_of_le_length (by rw [List.length_take];have:=I.le;omega)]
 rw [← I.out,hs,cut_at _ (not_mem_of I.no),List.append_assoc];rfl
theorem CutI.miss {c : UInt8} {s : Bs} {out : List Bs} {a i : Nat} (I : CutI c s out a i) (h : i < s.length) (e : s[i] ≠ c) : CutI c s out a (i + 1):=by
 refine ⟨by have:=I.le;omega,I.out,fun k h1 h2 hk=>?_⟩
 by_cases d : k = i
 ·subst d;exact e
 ·exact I.no k h1 (by omega) hk
theorem CutI.done {c : UInt8} {s : Bs} {out : List Bs} {a i : Nat} (I : CutI c s out a i) (h : s.length ≤ i) : out ++ [s.drop a] = cut c s:=by
 rw [← I.out,cut_none]
 have:=not_mem_of (i:=i) I.no
 rwa [List.take_of_length_le h] at this
theorem cut_len (c : UInt8) : ∀ s : Bs,(cut c s).length = s.count c + 1
 | []=>rfl
 | x :: s=>by
  have ih:=cut_len c s
  unfold cut
  by_cases h : x = c
  ·subst h;simp [ih]
  ·rw [if_neg h,List.count_cons_of_ne h]
   cases e : cut c s with
   | nil=>exact absurd e (cut_ne c s)
   | cons p l=>rw [e] at ih;simpa using ih
theorem cut_mem {c : UInt8} : ∀ {s p : Bs},p ∈ cut c s → c ∉ p ∧ p.length ≤ s.length
 | [],p,h=>by simp [cut] at h;subst h;simp
 | x :: s,p,h=>by
  unfold cut at h
  by_cases e : x = c
  ·rw [if_pos e] at h
   rcases List.mem_cons.1 h with rfl | h
   ·simp
   ·have:=cut_mem h;exact ⟨this.1,by simp;omega⟩
  ·rw [if_neg e] at h
   cases d : cut c s with
   | nil=>exact absurd d (cut_ne c s)
   | cons q l=>
    rw [d] at h
    simp only [List.mem_cons] at h
    rcases h with rfl | h
    ·have:=cut_mem (c:=c) (s:=s) (p:=q) (by rw [d];simp)
     exact ⟨by simp [Ne.symm e,this.1],by simp;omega⟩
    ·have:=cut_mem (c:=c) (s:=s) (p:=p) (by rw [d];simp [h])
     exact ⟨this.1,by simp;omega⟩
def glue (c : UInt8) : List Bs → Bs
 | []=>[]
 | [p]=>p
 | p :: q :: l=>p ++ c :: glue c (q :: l)
theorem glue_cut (c : UInt8) : ∀ s : Bs,glue c (cut c s) = s
 | []=>rfl
 | x :: s=>by
  have ih:=glue_cut c s
  unfold cut
  by_cases e : x = c
  ·rw [if_pos e]
   cases d : cut c s with
   | nil=>exact absurd d (cut_ne c s)
   | cons q l=>rw [d] at ih;rw [glue,ih,e];rfl
  ·rw [if_neg e]
   cases d : cut c s with
   | nil=>exact absurd d (cut_ne c s)
   | cons q l=>
    rw [d] at ih
    cases l with
    | nil=>rw [glue] at ih;simp [glue,ih]
    | cons r l=>rw [glue] at ih;simp [glue,← ih]
theorem cut_glue {c : UInt8} : ∀ {l : List Bs},l ≠ [] → (∀ p ∈ l,c ∉ p) → cut c (glue c l) = l
 | [],h,_=>absurd rfl h
 | [p],_,h=>cut_none (h p (by simp))
 | p :: q :: l,_,h=>by
  rw [glue,cut_at _ (h p (by simp)),cut_glue (by simp) fun r hr=>h r (by simp [hr])]
end Paths
namespace Paths
def refused : Bs:=[34,42,47,58,60,62,63,92,124]
def legalByte (c : UInt8) : Bool:=decide (32 ≤ c.toNat) && decide (c.toNat ≤ 126) && !refused.contains c
def dots (s : Bs) : Bool:=decide (s = [46]) || decide (s = [46,46])
def nameErr (s : Bs) : Int:=
 if 32 < s.length then 8 else if s = [] ∨ dots s = true ∨ s.getLast? = some 32 ∨ s.getLast? = some 46 then 4 else if s.all legalByte then 0 else 4
def upper (c : UInt8) : UInt8:=if 97 ≤ c.toNat ∧ c.toNat ≤ 122 then c - 32 else c
def fold (s : Bs) : Bs:=s.map upper
structure PP where
 abs : Bool
 parts : List Bs
 stream : Bs
deriving DecidableEq
def partErr (s : Bs) : Int:=if dots s then 0 else nameErr s
def firstE : List Int → Int
 | []=>0
 | e :: l=>if e = 0 then firstE l else e
def colons (l : List Bs) : Option (List Bs × Bs):=
 match cut 58 (l.getLastD []) with
 | [_]=>some (l,[])
 | [a,b]=>if dots a = true ∨ b = [] then none else some (l.dropLast ++ [a],b)
 | _=>none
def wellParts (l : List Bs) : Bool:=l.all fun p=>!decide (p = []) && !p.contains 58
def restOf (s : Bs) : Bs:=if s.head? = some 47 then s.tail else s
def isAbs (s : Bs) : Bool:=decide (s.head? = some 47)
def noPP : PP:=⟨false,[],[]⟩
def partsErr (l : List Bs) (t : Bs) : Int:=
 firstE [firstE (l.map partErr),if t = [] then 0 else nameErr t,if 16 < l.length then 8 else 0]
def parse (s : Bs) : PP × Int:=
 if 200 < s.length then (noPP,8)
 else if s = [] then (noPP,7)
 else if s = [47] then (⟨true,[],[]⟩,0)
 else match colons (cut 47 (restOf s)) with
  | none=>(noPP,7)
  | some (l,t)=>if wellParts l = false then (noPP,7) else if partsErr l t ≠ 0 then (noPP,partsErr l t) else (⟨isAbs s,l,t⟩,0)
def text (p : PP) : Bs:=(if p.abs then [47] else []) ++ glue 47 p.parts ++ (if p.stream = [] then [] else 58 :: p.stream)
def normStep (abs : Bool) (out : List Bs) (s : Bs) : List Bs:=
 if s = [46] then out
 else if s ≠ [46,46] then out ++ [s]
 else if out ≠ [] ∧ out.getLast? ≠ some [46,46] then out.dropLast
 else if abs then out else out ++ [s]
def normal (p : PP) : PP:=
 let l:=p.parts.foldl (normStep p.abs) []
 ⟨p.abs,if l = [] ∧ p.abs = false then [[46]] else l,p.stream⟩
def plainErr (p : PP) : Int:=if p.abs = false ∨ (normal p).parts ≠ p.parts ∨ p.stream ≠ [] then 3 else 0
theorem legal_no {s : Bs} (h : nameErr s = 0) : 47 ∉ s ∧ 58 ∉ s ∧ s ≠ [] ∧ s.length ≤ 32:=by
 unfold nameErr at h
 split at h
 ·cases h
 ·rename_i h1
  split at h
  ·cases h
  ·rename_i h2
   split at h
   ·rename_i h3
    rw [List.all_eq_true] at h3
    refine ⟨fun m=>?_,fun m=>?_,fun e=>h2 (.inl e),by omega⟩
    ·have:=h3 _ m;revert this;decide
    ·have:=h3 _ m;revert this;decide
   ·cases h
theorem dots_no {s : Bs} (h : dots s = true) : 47 ∉ s ∧ 58 ∉ s ∧ s ≠ [] ∧ s.length ≤ 32:=by
 unfold dots at h
 rw [Bool.or_eq_true,decide_eq_true_eq,decide_eq_true_eq] at h
 rcases h with rfl | rfl<;>decide
theorem part_no {s : Bs} (h : partErr s = 0) : 47 ∉ s ∧ 58 ∉ s ∧ s ≠ [] ∧ s.length ≤ 32:=by
 unfold partErr at h
 by_cases d : dots s = true
 ·exact dots_no d
 ·rw [if_neg d] at h;exact legal_no h
theorem firstE_all : ∀ {l : List Int},firstE l = 0 → ∀ e ∈ l,e = 0
 | [],_,e,h=>by cases h
 | x :: l,h,e,hm=>by
  unfold firstE at h
  by_cases c : x = 0
  ·rw [if_pos c] at h
   rcases List.mem_cons.1 hm with rfl | hm
   ·exact c
   ·exact firstE_all h e hm
  ·rw [if_neg c] at h;exact absurd h c
end Paths
namespace Paths
theorem glue_snoc (c : UInt8) (p q : Bs) : ∀ l : List Bs,glue c (l ++ [p ++ q]) = glue c (l ++ [p]) ++ q
 | []=>rfl
 | [x]=>by simp [glue]
 | x :: y :: l=>by
  have ih:=glue_snoc c p q (y :: l)
  simp only [List.cons_append] at ih ⊢
  rw [glue,glue,ih];simp
theorem rest_abs (s : Bs) : (if isAbs s then [47] else []) ++ restOf s = s:=by
 unfold isAbs restOf
 cases s with
 | nil=>rfl
 | cons x s=>
  by_cases h : x = 47
  ·subst h;rfl
  ·have : ¬ (some x = some (47 : UInt8)):=fun e=>h (Option.some.inj e)
   simp [h]
theorem colons_some {l l' : List Bs} {t : Bs} (hl : l ≠ []) (h : colons l = some (l', t)) :
  (l' = l ∧ t = []) ∨ ∃ a,cut 58 (l.getLastD []) = [a,t] ∧ l' = l.dropLast ++ [a] ∧ l = l.dropLast ++ [a ++ 58 :: t] ∧ t ≠ []:=by
 unfold colons at h
 split at h
 ·cases h;exact .inl ⟨rfl,rfl⟩
 ·rename_i a b e
  split at h
  ·cases h
  ·rename_i hd
   cases h
   refine .inr ⟨a,e,rfl,?_,fun e=>hd (.inr e)⟩
   have hg:=glue_cut 58 (l.getLastD [])
   rw [e] at hg
   simp only [glue] at hg
   rw [hg,List.getLastD_eq_getLast?,List.getLast?_eq_some_getLast hl,Option.getD_some,List.dropLast_concat_getLast]
 ·cases h
theorem text_parse {s : Bs} (h : (parse s).2 = 0) : text (parse s).1 = s:=by
 unfold parse at h ⊢
 split at h
 ·cases h
 ·rename_i h1
  rw [if_neg h1]
  split at h
  ·cases h
  ·rename_i h2
   rw [if_neg h2]
   split at h
   ·rename_i h3
    rw [if_pos h3,h3];rfl
   ·rename_i h3
    rw [if_neg h3]
    split at h
    ·cases h
    ·rename_i l t hc
     split at h
     ·cases h
     ·rename_i h4
      rw [if_neg h4]
      split at h
      ·rename_i h5;exact absurd h h5
      ·rename_i h5
       rw [if_neg h5]
       unfold text
       dsimp only
       rcases colons_some (cut_ne 47 _) hc with ⟨rfl,rfl⟩ | ⟨a,e,rfl,el,ht⟩
       ·rw [glue_cut,if_pos rfl,List.append_nil];exact rest_abs s
       ·rw [if_neg ht,List.append_assoc,← glue_snoc,← el,glue_cut];exact rest_abs s
end Paths
namespace Paths
def Good (p : Bs) : Prop:=47 ∉ p ∧ 58 ∉ p ∧ p ≠ []
theorem glue_nil {c : UInt8} : ∀ {l : List Bs},(∀ p ∈ l,p ≠ []) → glue c l = [] → l = []
 | [],_,_=>rfl
 | [p],h,e=>absurd e (h p (by simp))
 | p :: q :: l,h,e=>by
  rw [glue] at e
  exact absurd (List.append_eq_nil_iff.1 e).1 (h p (by simp))
theorem glue_inj {l r : List Bs} (hl : ∀ p ∈ l,Good p) (hr : ∀ p ∈ r,Good p) (e : glue 47 l = glue 47 r) : l = r:=by
 by_cases h : l = []
 ·subst h
  exact (glue_nil (c:=47) (fun p hp=>(hr p hp).2.2) e.symm).symm
 ·by_cases h2 : r = []
  ·subst h2
   exact glue_nil (c:=47) (fun p hp=>(hl p hp).2.2) e
  ·rw [← cut_glue (c:=47) h fun p hp=>(hl p hp).1,e,cut_glue h2 fun p hp=>(hr p hp).1]
theorem step_good {abs : Bool} {out : List Bs} {s : Bs} (ho : ∀ p ∈ out,Good p) (hs : Good s) : ∀ p ∈ normStep abs out s,Good p:=by
 intro p hp
 unfold normStep at hp
 split at hp
 ·exact ho p hp
 ·split at hp
  ·rcases List.mem_append.1 hp with h | h
   ·exact ho p h
   ·rw [List.mem_singleton] at h;subst h;exact hs
  ·split at hp
   ·exact ho p (List.dropLast_subset _ hp)
   ·split at hp
    ·exact ho p hp
    ·rcases List.mem_append.1 hp with h | h
     ·exact ho p h
     ·rw [List.mem_singleton] at h;subst h;exact hs
theorem fold_good {abs : Bool} : ∀ {l out : List Bs},(∀ p ∈ out,Good p) → (∀ p ∈ l,Good p) → ∀ p ∈ l.foldl (normStep abs) out,Good p
 | [],out,ho,_=>ho
 | x :: l,out,ho,h=>by
  rw [List.foldl_cons]
  exact fold_good (step_good ho (h x (by simp))) fun p hp=>h p (by simp [hp])
theorem dot_good : Good [46]:=by unfold Good;decide
theorem normal_good {p : PP} (h : ∀ x ∈ p.parts,Good x) : ∀ x ∈ (normal p).parts,Good x:=by
 intro x hx
 unfold normal at hx
 dsimp only at hx
 split at hx
 ·rw [List.mem_singleton] at hx;subst hx;exact dot_good
 ·exact fold_good (fun _ h=>by cases h) h x hx
theorem text_inj {p q : PP} (ha : p.abs = q.abs) (ht : p.stream = q.stream) (hp : ∀ x ∈ p.parts,Good x) (hq : ∀ x ∈ q.parts,Good x) (e : text p = text q) : p.parts = q.parts:=by
 unfold text at e
 rw [ha,ht,List.append_assoc,List.append_assoc] at e
 exact glue_inj hp hq (List.append_cancel_right (List.append_cancel_left e))
theorem normal_abs (p : PP) : (normal p).abs = p.abs ∧ (normal p).stream = p.stream:=⟨rfl,rfl⟩
theorem text_normal {p : PP} (h : ∀ x ∈ p.parts,Good x) : text (normal p) = text p ↔ (normal p).parts = p.parts:=by
 constructor
 ·exact fun e=>text_inj rfl rfl (normal_good h) h e
 ·intro e;unfold text;rw [e];rfl
theorem parse_good {s : Bs} (h : (parse s).2 = 0) : (∀ x ∈ (parse s).1.parts,Good x ∧ partErr x = 0) ∧ (parse s).1.parts.length ≤ 16:=by
 unfold parse at h ⊢
 split at h
 ·cases h
 ·rename_i h1
  rw [if_neg h1]
  split at h
  ·cases h
  ·rename_i h2
   rw [if_neg h2]
   split at h
   ·rename_i h3
    rw [if_pos h3]
    exact ⟨fun x hx=>by simp at hx,by simp⟩
   ·rename_i h3
    rw [if_neg h3]
    split at h
    ·cases h
    ·rename_i l t hc
     split at h
     ·cases h
     ·rename_i h4
      rw [if_neg h4]
      split at h
      ·rename_i h5;exact absurd h h5
      ·rename_i h5
       rw [if_neg h5]
       have h6:=firstE_all (Classical.not_not.1 h5)
       have h7:=firstE_all (h6 (firstE (l.map partErr)) (by simp))
       refine ⟨fun x hx=>?_,?_⟩
       ·have h8:=h7 (partErr x) (List.mem_map_of_mem hx)
        have:=part_no h8
        exact ⟨⟨this.1,this.2.1,this.2.2.1⟩,h8⟩
       ·have h9:=h6 (if 16 < l.length then 8 else 0) (by simp)
        by_cases c : 16 < l.length
        ·rw [if_pos c] at h9;cases h9
        ·exact Nat.le_of_not_lt c
end Paths
namespace Paths
def bad (s : Bs) : Bool:=decide (s = []) || s.contains 58
def pieceA (s : Bs) : Bs:=s.take (s.idxOf 58)
def pieceB (s : Bs) : Bs:=s.drop (s.idxOf 58 + 1)
def lastOf (l : List Bs) : Bs:=l.getLastD []
def splitI (s : Bs) : PP × Bool:=
 if restOf s = [] then (⟨isAbs s,[],[]⟩,isAbs s)
 else if (lastOf (cut 47 (restOf s))).contains 58 then
  (⟨isAbs s,(cut 47 (restOf s)).dropLast ++ [pieceA (lastOf (cut 47 (restOf s)))],pieceB (lastOf (cut 47 (restOf s)))⟩,
   !((cut 47 (restOf s)).dropLast ++ [pieceA (lastOf (cut 47 (restOf s)))]).any bad && (!bad (pieceB (lastOf (cut 47 (restOf s)))) && !dots (pieceA (lastOf (cut 47 (restOf s))))))
 else (⟨isAbs s,cut 47 (restOf s),[]⟩,!(cut 47 (restOf s)).any bad)
def streamErr (s : Bs) : Int:=if s = [] then 0 else nameErr s
def errI (s : Bs) : Int:=firstE [if (splitI s).2 = true then 0 else 7,firstE ((splitI s).1.parts.map partErr),streamErr (splitI s).1.stream,if (splitI s).1.parts.length ≤ 16 then 0 else 8]
def parseI (s : Bs) : PP × Int:=
 if 200 < s.length then (noPP,8) else if errI s = 0 then ((splitI s).1,0) else (noPP,errI s)
theorem idxOf_le {c : UInt8} : ∀ {s : Bs} {j : Nat} (h : j < s.length),s[j] = c → s.idxOf c ≤ j
 | x :: s,0,h,e=>by
  simp only [List.getElem_cons_zero] at e
  simp [List.idxOf_cons,e]
 | x :: s,j + 1,h,e=>by
  simp only [List.getElem_cons_succ] at e
  have ih:=idxOf_le (s:=s) (j:=j) (by simpa using h) e
  rw [List.idxOf_cons]
  cases x == c<;>simp<;>omega
theorem cut_mem_at {c : UInt8} {s : Bs} (h : c ∈ s) : cut c s = s.take (s.idxOf c) :: cut c (s.drop (s.idxOf c + 1)):=by
 have hi:=List.idxOf_lt_length_iff.2 h
 have e : s = s.take (s.idxOf c) ++ c :: s.drop (s.idxOf c + 1):=by
  conv=>lhs;rw [← List.take_append_drop (s.idxOf c) s]
  rw [List.drop_eq_getElem_cons hi,List.getElem_idxOf]
 have hn : c ∉ s.take (s.idxOf c):=by
  intro m
  obtain ⟨j,hj,ej⟩:=List.getElem_of_mem m
  simp only [List.length_take] at hj
  rw [List.getElem_take] at ej
  have hj2 : j < s.length:=by omega
  have h1 : s.idxOf c ≤ j:=idxOf_le hj2 ej
  omega
 conv=>lhs;rw [e]
 exact cut_at _ hn
theorem any_bad (l : List Bs) : wellParts l = !l.any bad:=by
 unfold wellParts bad
 induction l with
 | nil=>rfl
 | cons x l ih=>simp only [List.all_cons,List.any_cons,ih,Bool.not_or]
theorem firstE_0 (l : List Int) : firstE (0 :: l) = firstE l:=rfl
theorem splitI_c {s : Bs} (hr : restOf s ≠ []) (hc : (lastOf (cut 47 (restOf s))).contains 58 = true) : splitI s =
  (⟨isAbs s,(cut 47 (restOf s)).dropLast ++ [pieceA (lastOf (cut 47 (restOf s)))],pieceB (lastOf (cut 47 (restOf s)))⟩,
   !((cut 47 (restOf s)).dropLast ++ [pieceA (lastOf (cut 47 (restOf s)))]).any bad && (!bad (pieceB (lastOf (cut 47 (restOf s)))) && !dots (pieceA (lastOf (cut 47 (restOf s)))))):=by
 unfold splitI;rw [if_neg hr,if_pos hc]
theorem splitI_n {s : Bs} (hr : restOf s ≠ []) (hc : ¬ (lastOf (cut 47 (restOf s))).contains 58 = true) : splitI s = (⟨isAbs s,cut 47 (restOf s),[]⟩,!(cut 47 (restOf s)).any bad):=by
 unfold splitI;rw [if_neg hr,if_neg hc]
theorem parse_eq (s : Bs) : parseI s = parse s:=by
 unfold parseI parse
 by_cases h1 : 200 < s.length
 ·rw [if_pos h1,if_pos h1]
 rw [if_neg h1,if_neg h1]
 by_cases h2 : s = []
 ·subst h2;rfl
 rw [if_neg h2]
 by_cases h3 : s = [47]
 ·subst h3;rfl
 rw [if_neg h3]
 have hr : restOf s ≠ []:=by
  intro e
  have:=rest_abs s
  rw [e] at this
  unfold isAbs at this
  split at this
  ·exact h3 this.symm
  ·exact h2 this.symm
 have hne:=cut_ne 47 (restOf s)
 have key : ∀ (ok : Bool) (p : PP),splitI s = (p,ok) → p.abs = isAbs s → ((if errI s = 0 then ((splitI s).1,0) else (noPP,errI s)) = if ok = false then (noPP,(7 : Int)) else if partsErr p.parts p.stream ≠ 0 then (noPP,partsErr p.parts p.stream) else (⟨isAbs s,p.parts,p.stream⟩,0)):=by
  intro ok p e ha
  unfold errI
  rw [e]
  cases ok with
  | false=>rfl
  | true=>
   simp only [if_true,firstE_0,Bool.true_eq_false,if_false]
   have e2 : firstE [firstE (p.parts.map partErr),streamErr p.stream,if p.parts.length ≤ 16 then 0 else 8] = partsErr p.parts p.stream:=by
    unfold partsErr streamErr
    by_cases hl : p.parts.length ≤ 16
    ·rw [if_pos hl,if_neg (show ¬ 16 < p.parts.length by omega)]
    ·rw [if_neg hl,if_pos (show 16 < p.parts.length by omega)]
   rw [e2]
   by_cases h0 : partsErr p.parts p.stream = 0
   ·rw [if_pos h0,if_neg (fun h=>h h0),← ha]
   ·rw [if_neg h0,if_pos h0]
 by_cases hc : 58 ∈ lastOf (cut 47 (restOf s))
 ·have hcc : (lastOf (cut 47 (restOf s))).contains 58 = true:=by simpa using hc
  rw [key _ _ (splitI_c hr hcc) rfl]
  unfold colons
  rw [show (cut 47 (restOf s)).getLastD [] = lastOf (cut 47 (restOf s)) from rfl,cut_mem_at hc]
  by_cases h5 : 58 ∈ pieceB (lastOf (cut 47 (restOf s)))
  ·have hb : bad (pieceB (lastOf (cut 47 (restOf s)))) = true:=by unfold bad;simp [h5]
   rw [hb]
   rw [show List.drop (List.idxOf 58 (lastOf (cut 47 (restOf s))) + 1) (lastOf (cut 47 (restOf s))) = pieceB (lastOf (cut 47 (restOf s))) from rfl,cut_mem_at h5]
   cases h6 : cut 58 (List.drop (List.idxOf 58 (pieceB (lastOf (cut 47 (restOf s)))) + 1) (pieceB (lastOf (cut 47 (restOf s))))) with
   | nil=>exact absurd h6 (cut_ne _ _)
   | cons x l=>simp
  ·rw [show List.drop (List.idxOf 58 (lastOf (cut 47 (restOf s))) + 1) (lastOf (cut 47 (restOf s))) = pieceB (lastOf (cut 47 (restOf s))) from rfl,cut_none h5]
   rw [show List.take (List.idxOf 58 (lastOf (cut 47 (restOf s)))) (lastOf (cut 47 (restOf s))) = pieceA (lastOf (cut 47 (restOf s))) from rfl]
   generalize pieceB (lastOf (cut 47 (restOf s))) = t at *
   generalize pieceA (lastOf (cut 47 (restOf s))) = a at *
   have hb : bad t = decide (t = []):=by unfold bad;simp [h5]
   rw [hb]
   by_cases h7 : dots a = true ∨ t = []
   ·simp only [if_pos h7]
    have : (!decide (t = []) && !dots a) = false:=by rcases h7 with h | h<;>simp [h]
    rw [this];simp
   ·simp only [if_neg h7]
    have : (!decide (t = []) && !dots a) = true:=by
     have h8 : t ≠ []:=fun h=>h7 (.inr h)
     have h9 : dots a = false:=by cases h : dots a<;>simp_all
     simp [h8,h9]
    rw [this,Bool.and_true,← any_bad]
 ·have hcc : ¬ (lastOf (cut 47 (restOf s))).contains 58 = true:=by simpa using hc
  rw [key _ _ (splitI_n hr hcc) rfl]
  unfold colons
  rw [show (cut 47 (restOf s)).getLastD [] = lastOf (cut 47 (restOf s)) from rfl,cut_none hc]
  simp only [← any_bad]
end Paths
namespace Paths
def pathErr (s : Bs) : Int:=if (parse s).2 = 0 then plainErr (parse s).1 else (parse s).2
def partsOf (s : Bs) : List Bs:=(parse s).1.parts
def hasBit (filter action : Int) : Bool:=!decide (filter.tdiv action % 2 = 0)
def sameHead (a b : List Bs) : Bool:=decide (a.map fold = (b.take a.length).map fold)
def below (wp : Bs) (deep : Bool) (filter : Int) (action : Int) (path : Bs) : Bs × Bool:=
 if hasBit filter action = false ∨ (partsOf path).length ≤ (partsOf wp).length ∨ (deep = false ∧ (partsOf wp).length + 1 < (partsOf path).length) then ([],false)
 else if sameHead (partsOf wp) (partsOf path) = true then (glue 47 ((partsOf path).drop (partsOf wp).length),true) else ([],false)
theorem good_parse {s : Bs} (h : (parse s).2 = 0) : ∀ x ∈ (parse s).1.parts,Good x:=fun x hx=>((parse_good h).1 x hx).1
theorem pathErr_ok {s : Bs} (h : pathErr s = 0) : (parse s).2 = 0 ∧ (parse s).1.abs = true ∧ (normal (parse s).1).parts = (parse s).1.parts ∧ (parse s).1.stream = []:=by
 unfold pathErr at h
 split at h
 ·rename_i h1
  unfold plainErr at h
  split at h
  ·cases h
  ·rename_i h2
   refine ⟨h1,?_,?_,?_⟩
   ·cases h3 : (parse s).1.abs<;>simp_all
   ·by_cases h3 : (normal (parse s).1).parts = (parse s).1.parts
    ·exact h3
    ·exact absurd (.inr (.inl h3)) h2
   ·by_cases h3 : (parse s).1.stream = []
    ·exact h3
    ·exact absurd (.inr (.inr h3)) h2
 ·rename_i h1;exact absurd h h1
theorem step_nodots {out : List Bs} {s : Bs} (h : ∀ x ∈ out,dots x = false) : ∀ x ∈ normStep true out s,dots x = false:=by
 intro x hx
 unfold normStep at hx
 split at hx
 ·exact h x hx
 ·rename_i h1
  split at hx
  ·rename_i h2
   rcases List.mem_append.1 hx with hx | hx
   ·exact h x hx
   ·rw [List.mem_singleton] at hx;subst hx
    unfold dots;simp [h1,h2]
  ·split at hx
   ·exact h x ((List.dropLast_sublist out).mem hx)
   ·rw [if_pos rfl] at hx;exact h x hx
theorem fold_nodots : ∀ {l out : List Bs},(∀ x ∈ out,dots x = false) → ∀ x ∈ l.foldl (normStep true) out,dots x = false
 | [],out,h=>h
 | s :: l,out,h=>fold_nodots (l:=l) (step_nodots h)
theorem plain_legal {s : Bs} (h : pathErr s = 0) : ∀ x ∈ partsOf s,nameErr x = 0:=by
 obtain ⟨h1,h2,h3,h4⟩:=pathErr_ok h
 intro x hx
 have hd : dots x = false:=by
  unfold partsOf at hx
  rw [← h3] at hx
  unfold normal at hx
  simp only [h2] at hx
  rw [if_neg (by simp)] at hx
  exact fold_nodots (fun x hx=>by cases hx) x hx
 have:=((parse_good h1).1 x hx).2
 unfold partErr at this
 rw [hd] at this
 exact this
end Paths
namespace Go.Proofs.YtpfokhdelnlciaaGreatDoor
open Go Go.Shelf
def lays156_ren : Go.Shelf.Ren:=⟨fun | 156=>88 | 165=>122 | 166=>123 | 169=>124 | 240=>140 | 241=>141 | 276=>161 | 277=>162 | n=>n,fun | 31=>59 | 9=>9 | 3=>3 | 4=>4 | 0=>0 | 20=>20 | 72=>158 | 76=>162 | 70=>156 | 37=>140 | 75=>161 | 127=>184 | 164=>198 | 5=>5 | 80=>164 | n=>n,fun | n=>n⟩
theorem lays156 : Go.Proofs.Lays.n156 Tryz.prog lays156_ren:={
 mixed:=by kernel_rfl
 f156:=Tryz.func88.trans (congrArg some (by kernel_rfl))
 f165:=Tryz.func122.trans (congrArg some (by kernel_rfl))
 f166:=Tryz.func123.trans (congrArg some (by kernel_rfl))
 f169:=Tryz.func124.trans (congrArg some (by kernel_rfl))
 f240:=Tryz.func140.trans (congrArg some (by kernel_rfl))
 f241:=Tryz.func141.trans (congrArg some (by kernel_rfl))
 f276:=Tryz.func161.trans (congrArg some (by kernel_rfl))
 f277:=Tryz.func162.trans (congrArg some (by kernel_rfl))
 t0:=Tryz.underlying0
 a0:=Tryz.isAgg0
 z0:=Tryz.sizeOf0
 v0:=Tryz.zeroValue0
 t3:=Tryz.underlying3
 a3:=Tryz.isAgg3
 z3:=Tryz.sizeOf3
 v3:=Tryz.zeroValue3
 t4:=Tryz.underlying4
 a4:=Tryz.isAgg4
 z4:=Tryz.sizeOf4
 v4:=Tryz.zeroValue4
 t9:=Tryz.underlying9
 a9:=Tryz.isAgg9
 z9:=Tryz.sizeOf9
 v9:=Tryz.zeroValue9
 t20:=Tryz.underlying20
 a20:=Tryz.isAgg20
 z20:=Tryz.sizeOf20
 v20:=Tryz.zeroValue20
 t31:=Tryz.underlying59
 a31:=Tryz.isAgg59
 z31:=Tryz.sizeOf59
 v31:=Tryz.zeroValue59
 t37:=Tryz.underlying140
 a37:=Tryz.isAgg140
 z37:=Tryz.sizeOf140
 v37:=Tryz.zeroValue140
 t70:=Tryz.underlying156
 a70:=Tryz.isAgg156
 z70:=Tryz.sizeOf156
 v70:=Tryz.zeroValue156
 t72:=Tryz.underlying158
 a72:=Tryz.isAgg158
 z72:=Tryz.sizeOf158
 v72:=Tryz.zeroValue158
 t75:=Tryz.underlying161
 a75:=Tryz.isAgg161
 z75:=Tryz.sizeOf161
 v75:=Tryz.zeroValue161
 t76:=Tryz.underlying162
 a76:=Tryz.isAgg162
 z76:=Tryz.sizeOf162
 v76:=Tryz.zeroValue162
 t127:=Tryz.underlying184
 a127:=Tryz.isAgg184
 z127:=Tryz.sizeOf184
 v127:=Tryz.zeroValue184
 t164:=Tryz.underlying198
 a164:=Tryz.isAgg198
 z164:=Tryz.sizeOf198
 v164:=Tryz.zeroValue198 }
theorem builder156 : Builder.Extra Tryz.prog lays156_ren:={
 sizeBuilder:=by kernel_rfl
 liesBuilder:=by kernel_rfl
 t5:=Tryz.underlying5
 a5:=Tryz.isAgg5
 z5:=Tryz.sizeOf5
 v5:=Tryz.zeroValue5
 infoByte:=by kernel_rfl
 cellsByte:=by kernel_rfl
 sizeByte:=by kernel_rfl
 neB5:=by decide }
def lays190_ren : Go.Shelf.Ren:=⟨fun | 190=>116 | 125=>139 | 258=>138 | 128=>159 | 129=>160 | 302=>150 | 303=>151 | 304=>152 | 305=>153 | 306=>154 | 307=>155 | 308=>156 | 309=>157 | 310=>158 | 333=>171 | 329=>172 | 330=>173 | 334=>174 | 335=>175 | 336=>176 | 344=>180 | n=>n,fun | 31=>59 | 9=>9 | 3=>3 | 46=>137 | 0=>0 | 51=>169 | 53=>172 | 4=>4 | 183=>190 | 182=>189 | 131=>194 | 5=>5 | 218=>205 | 222=>209 | 228=>212 | 229=>50 | n=>n,fun | n=>n⟩
theorem lays190 : Go.Proofs.Lays.n190 Tryz.prog lays190_ren:={
 mixed:=by kernel_rfl
 f125:=Tryz.func139.trans (congrArg some (by kernel_rfl))
 f128:=Tryz.func159.trans (congrArg some (by kernel_rfl))
 f129:=Tryz.func160.trans (congrArg some (by kernel_rfl))
 f190:=Tryz.func116.trans (congrArg some (by kernel_rfl))
 f258:=Tryz.func138.trans (congrArg some (by kernel_rfl))
 f302:=Tryz.func150.trans (congrArg some (by kernel_rfl))
 f303:=Tryz.func151.trans (congrArg some (by kernel_rfl))
 f304:=Tryz.func152.trans (congrArg some (by kernel_rfl))
 f305:=Tryz.func153.trans (congrArg some (by kernel_rfl))
 f306:=Tryz.func154.trans (congrArg some (by kernel_rfl))
 f307:=Tryz.func155.trans (congrArg some (by kernel_rfl))
 f308:=Tryz.func156.trans (congrArg some (by kernel_rfl))
 f309:=Tryz.func157.trans (congrArg some (by kernel_rfl))
 f310:=Tryz.func158.trans (congrArg some (by kernel_rfl))
 f329:=Tryz.func172.trans (congrArg some (by kernel_rfl))
 f330:=Tryz.func173.trans (congrArg some (by kernel_rfl))
 f333:=Tryz.func171.trans (congrArg some (by kernel_rfl))
 f334:=Tryz.func174.trans (congrArg some (by kernel_rfl))
 f335:=Tryz.func175.trans (congrArg some (by kernel_rfl))
 f336:=Tryz.func176.trans (congrArg some (by kernel_rfl))
 f344:=Tryz.func180.trans (congrArg some (by kernel_rfl))
 t0:=Tryz.underlying0
 a0:=Tryz.isAgg0
 z0:=Tryz.sizeOf0
 v0:=Tryz.zeroValue0
 t3:=Tryz.underlying3
 a3:=Tryz.isAgg3
 z3:=Tryz.sizeOf3
 v3:=Tryz.zeroValue3
 t4:=Tryz.underlying4
 a4:=Tryz.isAgg4
 z4:=Tryz.sizeOf4
 v4:=Tryz.zeroValue4
 t5:=Tryz.underlying5
 a5:=Tryz.isAgg5
 z5:=Tryz.sizeOf5
 v5:=Tryz.zeroValue5
 t9:=Tryz.underlying9
 a9:=Tryz.isAgg9
 z9:=Tryz.sizeOf9
 v9:=Tryz.zeroValue9
 t31:=Tryz.underlying59
 a31:=Tryz.isAgg59
 z31:=Tryz.sizeOf59
 v31:=Tryz.zeroValue59
 t46:=Tryz.underlying137
 a46:=Tryz.isAgg137
 z46:=Tryz.sizeOf137
 v46:=Tryz.zeroValue137
 t51:=Tryz.underlying169
 a51:=Tryz.isAgg169
 z51:=Tryz.sizeOf169
 v51:=Tryz.zeroValue169
 t53:=Tryz.underlying172
 a53:=Tryz.isAgg172
 z53:=Tryz.sizeOf172
 v53:=Tryz.zeroValue172
 t131:=Tryz.underlying194
 a131:=Tryz.isAgg194
 z131:=Tryz.sizeOf194
 v131:=Tryz.zeroValue194
 t182:=Tryz.underlying189
 a182:=Tryz.isAgg189
 z182:=Tryz.sizeOf189
 v182:=Tryz.zeroValue189
 t183:=Tryz.underlying190
 a183:=Tryz.isAgg190
 z183:=Tryz.sizeOf190
 v183:=Tryz.zeroValue190
 t218:=Tryz.underlying205
 a218:=Tryz.isAgg205
 z218:=Tryz.sizeOf205
 v218:=Tryz.zeroValue205
 t222:=Tryz.underlying209
 a222:=Tryz.isAgg209
 z222:=Tryz.sizeOf209
 v222:=Tryz.zeroValue209
 t228:=Tryz.underlying212
 a228:=Tryz.isAgg212
 z228:=Tryz.sizeOf212
 v228:=Tryz.zeroValue212
 t229:=Tryz.underlying50
 a229:=Tryz.isAgg50
 z229:=Tryz.sizeOf50
 v229:=Tryz.zeroValue50 }
open Dw Go.RowKit
set_option maxRecDepth 100000
theorem enters88 : ∀ vs w,(callFunc 88 vs).run Tryz.prog w = .ok (.enter 88 vs) w:=enters_of Tryz.func88 (by kernel_rfl) rfl
theorem join_glue (c : UInt8) : ∀ xs : List Bs,Lib.join xs [c] = Paths.glue c xs
 | []=>rfl
 | [x]=>Lib.join_one x [c]
 | x :: y :: r=>by
  have ih:=join_glue c (y :: r)
  rw [Lib.join_cons,Lib.joinTail] at ih ⊢
  rw [Paths.glue,← ih];simp
theorem c88 (st : List Bs) (c : UInt8) (h1 : st.length ≤ 1000000) (h2 : (Paths.glue c st).length ≤ 100000000) : Fn 88 [.fs (st.map .str),.str [c]] (.str (Paths.glue c st)):=by
 refine run_calls enters88 fun B W w s vs hw ha=>?_
 simp only [List.map_cons,List.map_nil,aVs,aC,cC,AV.isAgg] at ha
 obtain ⟨v,r,us,rfl,hv,⟨a,k0,rfl,hc,hmem⟩,v2,r2,us2,rfl,hv2,rfl,rfl⟩:=ha
 simp only [Bool.false_eq_true,if_false,List.cons.injEq,and_true] at hv hv2
 subst hv;subst hv2
 refine ⟨.string ⟨(Paths.glue c st).toArray⟩,fun w'=>⟨[.string ⟨(Paths.glue c st).toArray⟩],rfl,rfl⟩,?_⟩
 rw [List.length_map] at hc ⊢
 cases hst : st with
 | nil=>
  subst hst
  refine (Any.strings_Join_none lays156 builder156 a k0 ⟨#[c]⟩ w).mono ?_
  rintro e w' ⟨h,rfl⟩
  exact ⟨h,Below.refl _ _⟩
 | cons x0 r0=>
  obtain ⟨b,o,k,rfl,hS,hk,hels⟩:=hmem (by rw [hst];simp)
  rw [cEls_iff] at hels
  have hk1 : k = 1:=by
   obtain ⟨us,e1,e2,_⟩:=hels 0 (.str x0) (by rw [hst];rfl)
   simp only [cC] at e2
   rw [e2] at e1;simp at e1;exact e1.symm
  subst hk1
  have hxs : (st.map fun s=>(⟨s.toArray⟩ : ByteArray)).map (fun z=>z.data.toList) = st:=by
   rw [List.map_map];simp [Function.comp_def]
  have:=Any.strings_Join lays156 builder156 b o k0 (st.map fun s=>(⟨s.toArray⟩ : ByteArray)) ⟨#[c]⟩ w (fun j x hx=>by
   rw [List.getElem?_map] at hx
   cases hj : st[j]? with
   | none=>rw [hj] at hx;cases hx
   | some y=>
    rw [hj] at hx;cases hx
    obtain ⟨us,_,e2,e3⟩:=hels j (.str y) (by rw [List.getElem?_map,hj];rfl)
    simp only [cC] at e2
    subst e2
    rw [Nat.mul_one] at e3
    exact e3.1) (hw.stab b hS) (by rw [List.length_map];omega) (by rw [List.length_map];exact hc) (by
     rw [hxs]
     have : (⟨#[c]⟩ : ByteArray).data.toList = [c]:=rfl
     rw [this,join_glue];omega)
  rw [hxs,List.length_map] at this
  have e0 : (⟨#[c]⟩ : ByteArray).data.toList = [c]:=rfl
  rw [e0,join_glue] at this
  rw [← hst]
  exact this
def sortB (l : List Bs) : List Bs:=l.mergeSort fun x y=>decide (x ≤ y)
theorem sortB_length (l : List Bs) : (sortB l).length = l.length:=List.length_mergeSort _
theorem sortB_nil : sortB [] = []:=by simp [sortB]
theorem sortB_one (x : Bs) : sortB [x] = [x]:=by simp [sortB]
theorem enters116 : ∀ vs w,(callFunc 116 vs).run Tryz.prog w = .ok (.enter 116 vs) w:=enters_of Tryz.func116 (by kernel_rfl) rfl
theorem c116 (l : List Bs) (h0 : l ≠ []) (hl : l.length < 1000000) (c : Option Nat) (more : List AV) :
  Run Tryz.prog 116 [.sl 0 0 l.length 1 c] [{ elems:=l.map (fun x=>.d (.str x)) ++ more,k:=1,st:=0 }] (.tup []) [{ elems:=(sortB l).map (fun x=>.d (.str x)) ++ more,k:=1,st:=0 }]:=
 run_sortG encStr D.str (fun _ _ x us=>str_aC x us) enters116 l (sortB l) (sortB_length l) h0 (fun blk off cap w hH hb=>Any.slices_Sort_string lays190 blk off cap l w hH hb (by omega)) c more
theorem c116n : Run Tryz.prog 116 [.sl 0 0 0 1 none] [⟨[],1,0⟩] (.tup []) [⟨[],1,0⟩]:=
 run_calls enters116 fun B W w s vs hw ha=>by
  simp only [aVs] at ha
  obtain ⟨v,r,us,rfl,h2,h3,rfl⟩:=ha
  obtain ⟨a,c,rfl,_⟩:=aV_sl.1 ⟨us,h2,h3⟩
  refine ⟨.tuple #[],fun w'=>aV_one rfl (by simp [aC,aVs]),(Any.slices_Sort_string_none lays190 a c w).mono ?_⟩
  rintro e w' ⟨h,rfl⟩
  exact ⟨h,Below.refl _ _⟩
theorem c116r (l : List Bs) (hl : l.length < 1000000) : Run Tryz.prog 116 (.sl 0 0 l.length 1 none :: ([] : List D).map .d) [⟨(l.map D.str).map .d,1,0⟩] (.tup []) [⟨((sortB l).map D.str).map .d,1,0⟩]:=by
 by_cases h0 : l = []
 ·subst h0;rw [sortB_nil];exact c116n
 ·have:=c116 l h0 hl none []
  simpa [List.map_map,Function.comp_def] using this
end Go.Proofs.YtpfokhdelnlciaaGreatDoor
namespace Go.Proofs.YtpfokhdelnlciaaGreatDoor
open Go Dw
set_option maxRecDepth 10000
end Go.Proofs.YtpfokhdelnlciaaGreatDoor
namespace Go.Proofs.YtpfokhdelnlciaaGreatDoor
open Go Dw
set_option maxRecDepth 10000
attribute [local irreducible] Run
set_option maxHeartbeats 4000000
open Paths
abbrev u8 (b : UInt8) : D:=.int .u8 b.toNat
def within (n lo hi : Int) : Bool:=decide (lo ≤ n) && decide (n ≤ hi)
theorem firstE_nil : firstE [] = 0:=rfl
theorem firstE_cons (e : Int) (l : List Int) : firstE (e :: l) = if e = 0 then firstE l else e:=rfl
theorem firstE_drop (l : List Int) (k : Nat) (h : k < l.length) : firstE (l.drop k) = if l[k] = 0 then firstE (l.drop (k + 1)) else l[k]:=by
 rw [List.drop_eq_getElem_cons h];rfl
theorem indexByte_eq (c : UInt8) : ∀ s : Bs,Lib.indexByte s c = if c ∈ s then (s.idxOf c : Int) else -1
 | []=>rfl
 | b :: s=>by
  have ih:=indexByte_eq c s
  rw [Lib.indexByte,ih,List.idxOf_cons]
  by_cases h : b = c
  ·subst h;simp
  ·have h2 : (b == c) = false:=by simp [h]
   rw [h2]
   simp only [Bool.false_eq_true,if_false,cond_false]
   by_cases h3 : c ∈ s
   ·have h4 : c ∈ b :: s:=by simp [h3]
    have h5 : ((s.idxOf c : Int) == -1) = false:=by rw [beq_eq_false_iff_ne];omega
    rw [if_pos h3,if_pos h4,h5];rfl
   ·have h4 : ¬ c ∈ b :: s:=by
     intro m
     rcases List.mem_cons.1 m with m | m
     ·exact h m.symm
     ·exact h3 m
    rw [if_neg h3,if_neg h4];rfl
def badAt : Bs → Nat → Int
 | [],_=>-1
 | b :: l,k=>if legalByte b = true then badAt l (k + 1) else (k : Int)
theorem badAt_drop {l : Bs} {k : Nat} (h : k < l.length) : badAt (l.drop k) k = if legalByte l[k] = true then badAt (l.drop (k + 1)) (k + 1) else (k : Int):=by
 rw [List.drop_eq_getElem_cons h];rfl
theorem badAt_end {l : Bs} {k : Nat} (h : l.length ≤ k) : badAt (l.drop k) k = -1:=by
 rw [List.drop_eq_nil_of_le h];rfl
theorem badAt_all : ∀ (l : Bs) (k : Nat),(!decide (0 ≤ badAt l k)) = l.all legalByte
 | [],k=>rfl
 | b :: l,k=>by
  have ih:=badAt_all l (k + 1)
  rw [badAt,List.all_cons,← ih]
  by_cases h : legalByte b = true
  ·rw [if_pos h,h,Bool.true_and]
  ·rw [if_neg h];simp [h]
theorem legal_iff (b : UInt8) : legalByte b = (decide ((32 : Int) ≤ b.toNat) && (decide ((b.toNat : Int) ≤ 126) && decide (Lib.indexByte refused (b.toNat : Int).toNat.toUInt8 < 0))):=by
 rw [show (b.toNat : Int).toNat.toUInt8 = b by simp,indexByte_eq]
 unfold legalByte
 rw [← Bool.and_assoc]
 congr 1
 ·congr 1<;>rw [decide_eq_decide]<;>omega
 ·by_cases h : b ∈ refused
  ·rw [if_pos h];simp [h]
  ·rw [if_neg h];simp [h]
def legalN (s : Bs) : Bool:=!decide (s = []) && (decide (s.length ≤ 32) && (s.all legalByte && (!decide (s = [46,46]) && (!decide (s.getLast? = some 32) && !decide (s.getLast? = some 46)))))
theorem nameErr_eq (s : Bs) : nameErr s = firstE [if decide (s.length ≤ 32) = true then 0 else 8,if legalN s = true then 0 else 4]:=by
 unfold nameErr legalN
 simp only [firstE_cons,firstE_nil,decide_eq_true_eq]
 by_cases h : 32 < s.length
 ·have h' : ¬ s.length ≤ 32:=by omega
  simp [h,h']
 ·have h' : s.length ≤ 32:=by omega
  rw [if_neg h, if_pos h', if_pos rfl]
  by_cases h1 : s = []
  ·subst h1;simp
  ·by_cases h2 : s = [46]
   ·subst h2;decide
   ·by_cases h3 : s = [46,46]
    ·subst h3;decide
    ·by_cases h4 : s.getLast? = some 32
     ·simp [h4]
     ·by_cases h5 : s.getLast? = some 46
      ·simp [h5]
      ·have hd : dots s = false:=by unfold dots;simp [h2,h3]
       cases ha : s.all legalByte<;>simp [h1,hd,h3,h4,h5,h']
theorem suffix1 (s : Bs) (c : UInt8) (h : 1 ≤ s.length) : decide (s.drop (s.length - 1) = [c]) = decide (s.getLast? = some c):=by
 rw [decide_eq_decide]
 rcases List.eq_nil_or_concat s with rfl | ⟨l,x,rfl⟩
 ·simp at h
 ·simp
attribute [local irreducible] legalN nameErr
theorem c18 (n lo hi : Int) : Fn 18 [i n,i lo,i hi] (.bool (within n lo hi)):=by
 refine run_walkF eok Tryz.func18 rfl (by kernel_rfl) ?_
 conv=>whnf
 repeat' (first
 | ((with_reducible refine on_dec (fun h=>?_) (fun h=>?_))<;>(try simp only [List.length_map] at h)<;>conv=>whnf)
 | ((with_reducible refine endx_go ?_);first | (exact endx (congrArg D.bool (by simp [within, *]));done))
  | fail
  )
theorem c53 (a : Bool) (e : Int) : Fn 53 [.bool a,i e] (i (if a then 0 else e)):=by
 refine run_walkF eok Tryz.func53 rfl (by kernel_rfl) ?_
 conv=>whnf
 repeat' (first
 | ((with_reducible refine onBool_split (fun h=>?_) (fun h=>?_))<;>conv=>whnf)
 | ((with_reducible refine endx_go ?_);first | (exact endx (congrArg i (by simp [h]));done))
  | fail
  )
theorem c98 (a : Bool) (e : Int) : Fn 98 [.bool a,i e] (i (if a then 0 else e)):=by
 refine run_walkF eok Tryz.func98 rfl (by kernel_rfl) ?_
 conv=>whnf
 repeat' (first
 | ((with_reducible refine onBool_split (fun h=>?_) (fun h=>?_))<;>conv=>whnf)
 | ((with_reducible refine endx_go ?_);first | (exact endx (congrArg i (by simp [h]));done))
  | fail
  )
theorem c52 (l : List Int) (hl : l.length < 1000000) : Fn 52 [.fs (l.map i)] (i (firstE l)):=by
 refine run_walkF eok Tryz.func52 rfl (by kernel_rfl) ?_
 conv=>whnf
 repeat' (first
 | ((with_reducible refine on_dec (fun h=>?_) (fun h=>?_))<;>(try simp only [List.length_map] at h)<;>conv=>whnf)
 | ((with_reducible refine on_ndec (fun h=>?_) (fun h=>?_))<;>(try simp only [List.length_map] at h)<;>conv=>whnf)
 | ((with_reducible refine loop_go ?_);first | (refine loop1 (fun (k : Nat)=>l.length - k) (fun (k : Nat)=>k ≤ l.length ∧ firstE l = firstE (l.drop k)) (fun (k : Nat)=>[(5,.d (.fs (l.map i))),(6,.d (i l.length)),(7,.d (i k))]) (fun (k : Nat)=>[]) (0) (by first | (simp;done) ) ?_ (fun k C hI hC=>?_);(exact ⟨[],rfl,rfl,⟨(by first | (show (_ : D) = _;with_reducible rfl) ),(by first | exact congrArg (D.int .i64) (by simp only [List.length_map]) ),(by first | exact congrArg (D.int .i64) (by omega) ),trivial⟩,trivial⟩);all_goals (conv=>whnf)))
 | ((with_reducible show C _ _);first | (refine hC (k + 1) _ _ ?_ (by omega) ?_;clear hC;rotate_left;(exact ⟨[],rfl,rfl,⟨(by first | (show (_ : D) = _;with_reducible rfl) ),(by first | (show (_ : D) = _;with_reducible rfl) ),(by first | exact congrArg (D.int .i64) (by omega) ),trivial⟩,trivial⟩);(exact ⟨by omega,by rw [hI.2,firstE_drop _ _ (by omega),if_pos h]⟩)))
 | (refine ix_map (by omega) ?_;conv=>whnf)
 | (refine wrap64 (by omega) ?_;conv=>whnf)
 | ((with_reducible refine endx_go ?_);first | (exact endx (congrArg i (by rw [hI.2,firstE_drop _ _ (by omega),if_neg h]));done) | (exact endx (congrArg i (by rw [hI.2,List.drop_eq_nil_of_le (by omega),firstE_nil]));done))
  | fail
  )
theorem c97 (l : List Int) (hl : l.length < 1000000) : Fn 97 [.fs (l.map i)] (i (firstE l)):=by
 refine run_walkF eok Tryz.func97 rfl (by kernel_rfl) ?_
 conv=>whnf
 repeat' (first
 | ((with_reducible refine on_dec (fun h=>?_) (fun h=>?_))<;>(try simp only [List.length_map] at h)<;>conv=>whnf)
 | ((with_reducible refine on_ndec (fun h=>?_) (fun h=>?_))<;>(try simp only [List.length_map] at h)<;>conv=>whnf)
 | ((with_reducible refine loop_go ?_);first | (refine loop1 (fun (k : Nat)=>l.length - k) (fun (k : Nat)=>k ≤ l.length ∧ firstE l = firstE (l.drop k)) (fun (k : Nat)=>[(5,.d (.fs (l.map i))),(6,.d (i l.length)),(7,.d (i k))]) (fun (k : Nat)=>[]) (0) (by first | (simp;done) ) ?_ (fun k C hI hC=>?_);(exact ⟨[],rfl,rfl,⟨(by first | (show (_ : D) = _;with_reducible rfl) ),(by first | exact congrArg (D.int .i64) (by simp only [List.length_map]) ),(by first | exact congrArg (D.int .i64) (by omega) ),trivial⟩,trivial⟩);all_goals (conv=>whnf)))
 | ((with_reducible show C _ _);first | (refine hC (k + 1) _ _ ?_ (by omega) ?_;clear hC;rotate_left;(exact ⟨[],rfl,rfl,⟨(by first | (show (_ : D) = _;with_reducible rfl) ),(by first | (show (_ : D) = _;with_reducible rfl) ),(by first | exact congrArg (D.int .i64) (by omega) ),trivial⟩,trivial⟩);(exact ⟨by omega,by rw [hI.2,firstE_drop _ _ (by omega),if_pos h]⟩)))
 | (refine ix_map (by omega) ?_;conv=>whnf)
 | (refine wrap64 (by omega) ?_;conv=>whnf)
 | ((with_reducible refine endx_go ?_);first | (exact endx (congrArg i (by rw [hI.2,firstE_drop _ _ (by omega),if_neg h]));done) | (exact endx (congrArg i (by rw [hI.2,List.drop_eq_nil_of_le (by omega),firstE_nil]));done))
  | fail
  )
theorem c164 (s : Bs) (c : Int) : Fn 164 [.str s,.int .u8 c] (i (Lib.indexByte s c.toNat.toUInt8)):=by
 refine run_walkF eok Tryz.func164 rfl (by kernel_rfl) ?_
 conv=>whnf
 repeat' (first
 | ((with_reducible refine call_go ?_);(first | refine call_step (run_view (c177 _ _) rfl rfl) ?_);conv=>whnf)
 | ((with_reducible refine endx_go ?_);first | (exact endx rfl;done))
  | fail
  )
theorem c144 (s : Bs) (c : Int) : Fn 144 [.str s,.int .u8 c] (i (Lib.indexByte s c.toNat.toUInt8)):=by
 refine run_walkF eok Tryz.func144 rfl (by kernel_rfl) ?_
 conv=>whnf
 repeat' (first
 | ((with_reducible refine call_go ?_);(first | refine call_step (run_view (c164 _ _) rfl rfl) ?_);conv=>whnf)
 | ((with_reducible refine endx_go ?_);first | (exact endx rfl;done))
  | fail
  )
theorem c127 (b : UInt8) : Fn 127 [u8 b] (.bool (legalByte b)):=by
 refine run_walkF eok Tryz.func127 rfl (by kernel_rfl) ?_
 conv=>whnf
 repeat' (first
 | ((with_reducible refine on_dec (fun h=>?_) (fun h=>?_))<;>(try simp only [List.length_map] at h)<;>conv=>whnf)
 | ((with_reducible refine call_go ?_);(first | refine call_step (run_view (c144 _ _) rfl rfl) ?_);conv=>whnf)
 | ((with_reducible refine endx_go ?_);first | (refine endx (congrArg D.bool ?_);rw [legal_iff];simp_all [refused];done;done) | (refine endx (congrArg D.bool ?_);rw [legal_iff];simp_all [refused];intros;omega;done))
  | fail
  )
theorem c143 (b : UInt8) : Fn 143 [u8 b,.fp (.fn 127 [] []) 0] (.bool (!legalByte b)):=by
 refine run_walkF eok Tryz.func143 rfl (by kernel_rfl) ?_
 conv=>whnf
 repeat' (first
 | ((with_reducible refine call_go ?_);(first | refine call_step (run_view (c127 _) rfl rfl) ?_);conv=>whnf)
 | ((with_reducible refine endx_go ?_);first | (exact endx rfl;done))
  | fail
  )
theorem c163 (s : Bs) (hs : s.length < 1000000) : Fn 163 [.fs (s.map u8),.fn 143 [] [.fp (.fn 127 [] []) 0]] (i (badAt s 0)):=by
 refine run_walkF eok Tryz.func163 rfl (by kernel_rfl) ?_
 conv=>whnf
 repeat' (first
 | ((with_reducible refine on_dec (fun h=>?_) (fun h=>?_))<;>(try simp only [List.length_map] at h)<;>conv=>whnf)
 | ((with_reducible refine on_not (fun h=>?_) (fun h=>?_))<;>conv=>whnf)
 | ((with_reducible refine call_go ?_);(first | refine call_step (run_view (c143 _) rfl rfl) ?_);conv=>whnf)
 | ((with_reducible refine loop_go ?_);first | (refine loop1 (fun (k : Nat)=>s.length - k) (fun (k : Nat)=>k ≤ s.length ∧ badAt s 0 = badAt (s.drop k) k) (fun (k : Nat)=>[(0,.d (.fs (s.map u8))),(1,.d (.fn 143 [] [.fp (.fn 127 [] []) 0])),(7,.d (i s.length)),(8,.d (i k))]) (fun (k : Nat)=>[]) (0) (by first | (simp;done) ) ?_ (fun k C hI hC=>?_);(exact ⟨[],rfl,rfl,⟨(by first | (show (_ : D) = _;with_reducible rfl) ),(by first | (show (_ : D) = _;with_reducible rfl) ),(by first | exact congrArg (D.int .i64) (by simp only [List.length_map]) ),(by first | exact congrArg (D.int .i64) (by omega) ),trivial⟩,trivial⟩);all_goals (conv=>whnf)))
 | ((with_reducible show C _ _);first | (refine hC (k + 1) _ _ ?_ (by omega) ?_;clear hC;rotate_left;(exact ⟨[],rfl,rfl,⟨(by first | (show (_ : D) = _;with_reducible rfl) ),(by first | (show (_ : D) = _;with_reducible rfl) ),(by first | (show (_ : D) = _;with_reducible rfl) ),(by first | exact congrArg (D.int .i64) (by omega) ),trivial⟩,trivial⟩);(exact ⟨by omega,by rw [hI.2,badAt_drop (by omega),if_pos (by simpa using h)]⟩)))
 | (refine ix_map (by omega) ?_;conv=>whnf)
 | (refine wrap64 (by omega) ?_;conv=>whnf)
 | ((with_reducible refine endx_go ?_);first | (exact endx (congrArg i (by rw [hI.2,badAt_drop (by omega),if_neg (by simpa using h)]));done) | (exact endx (congrArg i (by rw [hI.2,badAt_end (by omega)]));done))
  | fail
  )
theorem c142 (s : Bs) (hs : s.length < 1000000) : Fn 142 [.fs (s.map u8),.fn 143 [] [.fp (.fn 127 [] []) 0]] (.bool (decide (0 ≤ badAt s 0))):=by
 refine run_walkF eok Tryz.func142 rfl (by kernel_rfl) ?_
 conv=>whnf
 repeat' (first
 | ((with_reducible refine call_go ?_);(first | refine call_step (run_view (c163 s hs) rfl rfl) ?_);conv=>whnf)
 | ((with_reducible refine endx_go ?_);first | (exact endx rfl;done))
  | fail
  )
theorem c126 (s : Bs) (hs : s.length < 1000000) : Fn 126 [.str s,.fn 127 [] []] (.bool (s.all legalByte)):=by
 refine run_walkF eok Tryz.func126 rfl (by kernel_rfl) ?_
 conv=>whnf
 repeat' (first
 | ((with_reducible refine call_go ?_);(first | refine call_step (run_view (c142 s hs) rfl (vl2 (view_bytes rfl (by decide)) rfl)) ?_);conv=>whnf)
 | ((with_reducible refine endx_go ?_);first | (exact endx (congrArg D.bool (badAt_all s 0));done))
  | fail
  )
theorem c145 (s : Bs) (c : UInt8) (hs : s.length < 1000000) : Fn 145 [.str s,.str [c]] (.bool (decide (s.getLast? = some c))):=by
 refine run_walkF eok Tryz.func145 rfl (by kernel_rfl) ?_
 conv=>whnf
 repeat' (first
 | ((with_reducible refine on_dec (fun h=>?_) (fun h=>?_))<;>(try simp only [List.length_map] at h)<;>conv=>whnf)
 | (refine wrap64 (by omega) ?_;conv=>whnf)
 | (refine sl_str (s.length - 1) s.length (by simp only [List.length_cons,List.length_nil] at h ⊢;omega) (by omega) (by omega) ?_;conv=>whnf)
 | ((with_reducible refine endx_go ?_);first | (exact endx (congrArg D.bool (by rw [List.take_length];exact suffix1 s c (by simp only [List.length_cons,List.length_nil] at h;omega)));done) | (exact endx (congrArg D.bool (by have h0 : s.length = 0:=(by simp only [List.length_cons,List.length_nil] at h;omega);rw [List.length_eq_zero_iff] at h0;subst h0;rfl));done))
  | fail
  )
theorem c128 (s : Bs) (c : UInt8) (hs : s.length < 1000000) : Fn 128 [.str s,.str [c]] (.bool (decide (s.getLast? = some c))):=by
 refine run_walkF eok Tryz.func128 rfl (by kernel_rfl) ?_
 conv=>whnf
 repeat' (first
 | ((with_reducible refine call_go ?_);(first | refine call_step (run_view (c145 s _ hs) rfl rfl) ?_);conv=>whnf)
 | ((with_reducible refine endx_go ?_);first | (exact endx rfl;done))
  | fail
  )
theorem c99 (s : Bs) (hs : s.length < 1000000) : Fn 99 [.str s] (.bool (legalN s)):=by
 refine run_walkF eok Tryz.func99 rfl (by kernel_rfl) ?_
 conv=>whnf
 repeat' (first
 | ((with_reducible refine on_dec (fun h=>?_) (fun h=>?_))<;>(try simp only [List.length_map] at h)<;>conv=>whnf)
 | ((with_reducible refine on_ndec (fun h=>?_) (fun h=>?_))<;>(try simp only [List.length_map] at h)<;>conv=>whnf)
 | ((with_reducible refine on_not (fun h=>?_) (fun h=>?_))<;>conv=>whnf)
 | ((with_reducible refine onBool_split (fun h=>?_) (fun h=>?_))<;>conv=>whnf)
 | ((with_reducible refine call_go ?_);(first | refine call_step (run_view (c126 s (by omega)) rfl rfl) ?_ | refine call_step (run_view (c128 s _ hs) rfl rfl) ?_);conv=>whnf)
 | ((with_reducible refine endx_go ?_);first | (exact endx (congrArg D.bool (by unfold legalN;grind));done))
  | fail
  )
theorem c63 (s : Bs) (hs : s.length < 1000000) : Fn 63 [.str s] (i (nameErr s)):=by
 refine run_walkF eok Tryz.func63 rfl (by kernel_rfl) ?_
 conv=>whnf
 repeat' (first
 | ((with_reducible refine call_go ?_);(first | refine call_step (run_view (c98 _ _) rfl rfl) ?_ | refine call_step (run_view (c99 s hs) rfl rfl) ?_ | refine call_step (run_view (c97 [_,_] (by simp)) rfl rfl) ?_ );conv=>whnf)
 | ((with_reducible refine endx_go ?_);first | (exact endx (congrArg i (by rw [nameErr_eq,show decide ((s.length : Int) ≤ 32) = decide (s.length ≤ 32) by rw [decide_eq_decide];omega]));done))
  | fail
  )
end Go.Proofs.YtpfokhdelnlciaaGreatDoor
namespace Go.Proofs.YtpfokhdelnlciaaGreatDoor
open Go Dw
set_option maxRecDepth 10000
attribute [local irreducible] Run
set_option maxHeartbeats 4000000
open Paths
attribute [local irreducible] nameErr
def upTab : Bs:=(List.range 128).map fun n=>upper n.toUInt8
theorem upTab_len : upTab.length = 128:=rfl
theorem upTab_get {b : UInt8} (h : b.toNat < 128) (h2 : b.toNat < upTab.length) : upTab[b.toNat] = upper b:=by
 have : upTab[b.toNat]? = some (upper b):=by
  unfold upTab
  rw [List.getElem?_map,List.getElem?_range h];simp
 rw [List.getElem?_eq_getElem h2] at this
 exact Option.some.inj this
def tbU (k : Nat) : Bs:=(List.range k).map (fun n=>upper n.toUInt8) ++ List.replicate (128 - k) 0
theorem tbU_len {k : Nat} (h : k ≤ 128) : (tbU k).length = 128:=by unfold tbU;simp;omega
theorem tbU_set {k : Nat} {b : UInt8} (h : k < 128) (hb : b = upper k.toUInt8) : (tbU k).set k b = tbU (k + 1):=by
 subst hb
 have e : List.replicate (128 - k) (0 : UInt8) = 0 :: List.replicate (128 - (k + 1)) 0:=by
  rw [show 128 - k = (128 - (k + 1)) + 1 by omega];rfl
 unfold tbU
 rw [e,List.set_append_right _ _ (by simp),List.range_succ]
 simp
theorem tbU_lo : ∀ k < 128,¬ (97 ≤ k ∧ k ≤ 122) → k.toUInt8 = upper k.toUInt8:=by decide +kernel
theorem tbU_hi : ∀ k < 128,97 ≤ k → k ≤ 122 → (k - 97 + 65).toUInt8 = upper k.toUInt8:=by decide +kernel
theorem tbU_end : tbU 128 = upTab:=by unfold tbU upTab;simp
theorem u8_of {k : Nat} (h : k < 256) {z : Int} (hz : z = k) : (D.int .u8 z) = u8 k.toUInt8:=by
 subst hz
 show D.int .u8 _ = D.int .u8 _
 congr 1
 simp
 omega
theorem set_u8 {l : Bs} {n k : Nat} {z : Int} (hn : n = k) (hk : k < 128) {K : List AV → Prop} (c : Nat) (hc : c < 256) (hz : z = c) (h : K (((l.set k c.toUInt8).map u8).map .d)) : setK ((l.map u8).map AV.d) n (.d (.int .u8 z)) K:=by
 subst hn
 refine setK_of ?_
 rw [u8_of hc hz]
 have : ((l.map u8).map AV.d).set n (.d (u8 c.toUInt8)) = ((l.set n c.toUInt8).map u8).map .d:=by rw [List.map_set,List.map_set]
 rw [this];exact h
theorem wrap_c {k : IntKind} {x : Int} {K : Int → Prop} (h : K (k.wrap x)) : wrapK k x K:=by rw [wrapK_eq];exact h
theorem u8_wrap {x : Int} {c : Nat} (hx : x = c) (hc : c < 256) : IntKind.u8.wrap x = c:=by subst hx;exact IntWalk.u8_in _ (by omega)
section
attribute [local irreducible] tbU
theorem c129 : Fn 129 [] (.str upTab):=by
 have hlu:=fun k (h : k ≤ 128)=>tbU_len h
 refine run_walkF eok Tryz.func129 rfl (by kernel_rfl) ?_
 conv=>whnf
 repeat' (first
 | ((with_reducible refine on_dec (fun h=>?_) (fun h=>?_))<;>(try simp only [List.length_map] at h)<;>conv=>whnf)
 | ((with_reducible refine loop_go ?_);first | (refine loop1 (fun (k : Nat)=>128 - k) (fun (k : Nat)=>k ≤ 128) (fun (k : Nat)=>[(1,.sl 0 0 128 1 (some 128)),(5,.d (i 128)),(6,.d (i k))]) (fun (k : Nat)=>[⟨((tbU k).map u8).map .d,1,0⟩]) (0) (by exact Nat.zero_le _) ?_ (fun k C hI hC=>?_);(exact ⟨[.old 0],rfl,rfl,⟨(by first | exact ⟨rfl,rfl,rfl,rfl,rfl⟩ ),(by first | exact congrArg (D.int .i64) (by omega) ),(by first | exact congrArg (D.int .i64) (by omega) ),trivial⟩,⟨⟨rfl,rfl,.inl ⟨((tbU 0).map u8),(by unfold tbU;rfl),rfl⟩⟩,trivial⟩⟩);all_goals (conv=>whnf)))
 | ((with_reducible show C _ _);first | (refine hC (k + 1) _ _ ?_ (by omega) ?_;clear hC;rotate_left;(exact ⟨[.old 0],rfl,rfl,⟨(by first | exact ⟨rfl,rfl,rfl,rfl,rfl⟩ ),(by first | (show (_ : D) = _;with_reducible rfl) ),(by first | exact congrArg (D.int .i64) (by omega) ),trivial⟩,⟨⟨rfl,rfl,.inl ⟨_,(by rw [tbU_set (by omega) (tbU_lo k (by omega) (by omega))]),rfl⟩⟩,trivial⟩⟩);(exact by omega)) | (refine hC (k + 1) _ _ ?_ (by omega) ?_;clear hC;rotate_left;(exact ⟨[.old 0],rfl,rfl,⟨(by first | exact ⟨rfl,rfl,rfl,rfl,rfl⟩ ),(by first | (show (_ : D) = _;with_reducible rfl) ),(by first | exact congrArg (D.int .i64) (by omega) ),trivial⟩,⟨⟨rfl,rfl,.inl ⟨_,(by rw [List.set_set,tbU_set (by omega) (tbU_hi k (by omega) (by omega) (by omega))]),rfl⟩⟩,trivial⟩⟩);(exact by omega)))
 | (refine wrap64 (by omega) ?_;conv=>whnf)
 | (refine nthK_rowi (l:=tbU k) k (by omega) (by rw [hlu k hI];omega) ?_;conv=>whnf)
 | (refine nthK_rowi (l:=(tbU k).set k k.toUInt8) k (by omega) (by rw [List.length_set,hlu k hI];omega) ?_;conv=>whnf)
 | (refine ⟨⟨by decide,by decide,by decide,by decide⟩,?_⟩;conv=>whnf)
 | (refine ⟨⟨by omega,by omega⟩,?_⟩;conv=>whnf)
 | (refine set_u8 (k:=k) (by omega) (by omega) k (by omega) (u8_wrap rfl (by omega)) ?_;conv=>whnf)
 | (refine set_u8 (k:=k) (by omega) (by omega) (k - 97 + 65) (by omega) (u8_wrap (by omega) (by omega)) ?_;conv=>whnf)
 | (refine wrap_c ?_;conv=>whnf)
 | (refine ⟨tbU 128,⟨(by rw [List.length_map,List.length_map];rw [hlu k hI];omega),(by rw [show k = 128 by omega,List.drop_zero,List.take_of_length_le (by simp only [List.length_map];rw [tbU_len (by omega)];omega),List.map_map];rfl)⟩,?_⟩;conv=>whnf)
 | ((with_reducible refine endx_go ?_);first | (exact endx (congrArg D.str tbU_end);done))
  | fail
  )
end
def upd (s : Bs) (k : Nat) : Bs:=(s.take k).map upper ++ s.drop k
theorem upd_len (s : Bs) (k : Nat) : (upd s k).length = s.length:=by
 unfold upd;rw [List.length_append,List.length_map,List.length_take,List.length_drop];omega
theorem upd_zero (s : Bs) : upd s 0 = s:=rfl
theorem upd_get {s : Bs} {k : Nat} (h : k < s.length) (h2 : k < (upd s k).length) : (upd s k)[k] = s[k]:=by
 have e : ((s.take k).map upper).length = k:=by rw [List.length_map,List.length_take];omega
 have : (upd s k)[k]? = some s[k]:=by
  unfold upd
  rw [List.getElem?_append_right (by omega),e,Nat.sub_self,List.getElem?_drop,Nat.add_zero,List.getElem?_eq_getElem h]
 rw [List.getElem?_eq_getElem h2] at this
 exact Option.some.inj this
theorem upd_set {s : Bs} {k : Nat} (h : k < s.length) : (upd s k).set k (upper s[k]) = upd s (k + 1):=by
 unfold upd
 have e : ((s.take k).map upper).length = k:=by rw [List.length_map,List.length_take];omega
 rw [List.set_append_right _ _ (by omega),e,Nat.sub_self,List.drop_eq_getElem_cons h,List.set_cons_zero,List.take_succ_eq_append_getElem h,List.map_append,List.append_assoc]
 rfl
theorem upd_end (s : Bs) {k : Nat} (h : s.length ≤ k) : upd s k = s.map upper:=by
 unfold upd;rw [List.take_of_length_le h,List.drop_eq_nil_of_le h,List.append_nil]
theorem legal_low {s : Bs} (h : nameErr s = 0) : ∀ b ∈ s,b.toNat < 128:=by
 intro b hb
 unfold nameErr at h
 split at h
 ·cases h
 ·split at h
  ·cases h
  ·split at h
   ·rename_i h3
    have:=List.all_eq_true.1 h3 b hb
    unfold legalByte at this
    simp only [Bool.and_eq_true,decide_eq_true_eq] at this
    omega
   ·cases h
theorem upd_tab {s : Bs} (hb : ∀ b ∈ s,b.toNat < 128) (k : Nat) (h : k < s.length) (h1 : k < (upd s k).length) (h2 : (upd s k)[k].toNat < upTab.length) : (upd s k).set k upTab[(upd s k)[k].toNat] = upd s (k + 1):=by
 have e:=upd_get h h1
 have e2 : upTab[(upd s k)[k].toNat] = upper s[k]:=by
  rw [upTab_get (by rw [e];exact hb _ (List.getElem_mem _)),e]
 rw [e2,upd_set h]
theorem c130 (s : Bs) (hs : s.length < 1000000) (hb : ∀ b ∈ s,b.toNat < 128) : Fn 130 [.str upTab,.str s] (.str (s.map upper)):=by
 have hlu:=upd_len s;have hix : ∀ k : Nat,0 + ((k : Int)).toNat = k:=(fun k=>by omega);have hset:=upd_tab hb
 refine run_walkF eok Tryz.func130 rfl (by kernel_rfl) ?_
 conv=>whnf
 repeat' (first
 | ((with_reducible refine on_dec (fun h=>?_) (fun h=>?_))<;>(try simp only [List.length_map] at h)<;>conv=>whnf)
 | ((with_reducible refine loop_go ?_);first | (refine loop1 (fun (k : Nat)=>s.length - k) (fun (k : Nat)=>k ≤ s.length) (fun (k : Nat)=>[(0,.d (.str upTab)),(5,.sl 0 0 s.length 1 none),(10,.sl 0 0 s.length 1 none),(11,.d (i s.length)),(12,.d (i k))]) (fun (k : Nat)=>[⟨((upd s k).map u8).map .d,1,0⟩]) (0) (by exact Nat.zero_le _) ?_ (fun k C hI hC=>?_);(exact ⟨[.old 0],rfl,rfl,⟨(by first | (show (_ : D) = _;with_reducible rfl) ),(by first | exact ⟨rfl,rfl,rfl,rfl,rfl⟩ ),(by first | exact ⟨rfl,rfl,rfl,rfl,rfl⟩ ),(by first | (show (_ : D) = _;with_reducible rfl) ),(by first | exact congrArg (D.int .i64) (by omega) ),trivial⟩,⟨⟨rfl,rfl,.inl ⟨_,(by rw [upd_zero,List.map_map];rfl),rfl⟩⟩,trivial⟩⟩);all_goals (conv=>whnf)))
 | ((with_reducible show C _ _);first | (refine hC (k + 1) _ _ ?_ (by omega) ?_;clear hC;rotate_left;(exact ⟨[.old 0],rfl,rfl,⟨(by first | (show (_ : D) = _;with_reducible rfl) ),(by first | exact ⟨rfl,rfl,rfl,rfl,rfl⟩ ),(by first | exact ⟨rfl,rfl,rfl,rfl,rfl⟩ ),(by first | (show (_ : D) = _;with_reducible rfl) ),(by first | exact congrArg (D.int .i64) (by omega) ),trivial⟩,⟨⟨rfl,rfl,.inl ⟨_,(by rw [hix,set_row,hset _ (by omega)]),rfl⟩⟩,trivial⟩⟩);(exact (by omega : k + 1 ≤ s.length))))
 | (refine wrap64 (by omega) ?_;conv=>whnf)
 | (refine nthK_rowi (l:=upd s k) k (by omega) (by rw [hlu];omega) ?_;conv=>whnf)
 | (refine ix_str (by rw [upTab_len,upd_get (by omega)];exact hb _ (List.getElem_mem _)) ?_;conv=>whnf)
 | (refine setK_of ?_;conv=>whnf)
 | (refine ⟨⟨by omega,by omega⟩,?_⟩;conv=>whnf)
 | (refine ⟨upd s k,⟨(by simp only [List.length_map,hlu];omega),(by rw [List.drop_zero,List.take_of_length_le (by simp only [List.length_map,hlu];omega),List.map_map];rfl)⟩,?_⟩;conv=>whnf)
 | ((with_reducible refine endx_go ?_);first | (exact endx (congrArg D.str (by rw [upd_end s (by omega)]));done))
  | fail
  )
theorem c105 (s : Bs) (hs : s.length < 1000000) (h0 : nameErr s = 0) : Fn 105 [.str s] (.tup [.str (fold s),i 0]):=by
 refine run_walkF eok Tryz.func105 rfl (by kernel_rfl) ?_
 conv=>whnf
 repeat' (first
 | ((with_reducible refine on_ndec_t (by first | assumption ) ?_);conv=>whnf)
 | ((with_reducible refine call_go ?_);(first | refine call_step (run_view (c63 s hs) rfl rfl) ?_ | refine call_step (run_view c129 rfl rfl) ?_ | refine call_step (run_view (c130 s hs (legal_low (by assumption))) rfl rfl) ?_);conv=>whnf)
 | ((with_reducible refine endx_go ?_);first | (exact endx2 rfl;done))
  | fail
  )
theorem c105n (s : Bs) (hs : s.length < 1000000) (h0 : ¬ nameErr s = 0) : Fn 105 [.str s] (.tup [.str [],i (nameErr s)]):=by
 refine run_walkF eok Tryz.func105 rfl (by kernel_rfl) ?_
 conv=>whnf
 repeat' (first
 | ((with_reducible refine on_ndec_f (by assumption) ?_);conv=>whnf)
 | ((with_reducible refine call_go ?_);(first | refine call_step (run_view (c63 s hs) rfl rfl) ?_ );conv=>whnf)
 | ((with_reducible refine endx_go ?_);first | (exact endx2 rfl;done))
  | fail
  )
theorem not_take {s : Bs} {c : UInt8} {k : Nat} (h : c ∉ s.take k) (hk : k < s.length) (e : s[k] ≠ c) : c ∉ s.take (k + 1):=by
 rw [List.take_succ_eq_append_getElem hk]
 intro m
 rcases List.mem_append.1 m with m | m
 ·exact h m
 ·rw [List.mem_singleton] at m;exact e m.symm
theorem u8_inj {a b : UInt8} (h : (a.toNat : Int) = (b.toNat : Int)) : a = b:=UInt8.toNat_inj.1 (by omega)
theorem c103 (c : UInt8) (s : Bs) (hs : s.length < 1000000) : Fn 103 [u8 c,.str s] (.bool (s.contains c)):=by
 refine run_walkF eok Tryz.func103 rfl (by kernel_rfl) ?_
 conv=>whnf
 repeat' (first
 | ((with_reducible refine on_dec (fun h=>?_) (fun h=>?_))<;>(try simp only [List.length_map] at h)<;>conv=>whnf)
 | ((with_reducible refine loop_go ?_);first | (refine loop1 (fun (k : Nat)=>s.length - k) (fun (k : Nat)=>k ≤ s.length ∧ c ∉ s.take k) (fun (k : Nat)=>[(0,.d (u8 c)),(1,.d (.str s)),(5,.d (i k))]) (fun (k : Nat)=>[]) (0) (by first | (simp;done) ) ?_ (fun k C hI hC=>?_);(exact ⟨[],rfl,rfl,⟨(by first | (show (_ : D) = _;with_reducible rfl) ),(by first | (show (_ : D) = _;with_reducible rfl) ),(by first | exact congrArg (D.int .i64) (by omega) ),trivial⟩,trivial⟩);all_goals (conv=>whnf)))
 | ((with_reducible show C _ _);first | (refine hC (k + 1) _ _ ?_ (by omega) ?_;clear hC;rotate_left;(exact ⟨[],rfl,rfl,⟨(by first | (show (_ : D) = _;with_reducible rfl) ),(by first | (show (_ : D) = _;with_reducible rfl) ),(by first | exact congrArg (D.int .i64) (by omega) ),trivial⟩,trivial⟩);(exact ⟨by omega,not_take hI.2 (by omega) (by intro e;apply h;rw [e])⟩)))
 | (refine ix_str (by omega) ?_;conv=>whnf)
 | (refine wrap64 (by omega) ?_;conv=>whnf)
 | ((with_reducible refine endx_go ?_);first | (refine endx (congrArg D.bool ?_);have e:=u8_inj h;symm;rw [List.contains_iff_mem];rw [← e];exact List.getElem_mem _;done) | (refine endx (congrArg D.bool ?_);have:=hI.2;rw [List.take_of_length_le (by omega)] at this;symm;simpa using this;done))
  | fail
  )
theorem all_take {p : UInt8 → Bool} {s : Bs} {k : Nat} (h : (s.take k).all p = true) (hk : k < s.length) (e : p s[k] = true) : (s.take (k + 1)).all p = true:=by
 rw [List.take_succ_eq_append_getElem hk,List.all_append,h];simp [e]
theorem legal2 (b : UInt8) : legalByte b = (within b.toNat 32 126 && !refused.contains b):=by
 unfold legalByte within
 congr 1;congr 1<;>rw [decide_eq_decide]<;>omega
theorem legal_t {b : UInt8} (h : within b.toNat 32 126 = true) (h2 : refused.contains b = false) : legalByte b = true:=by rw [legal2,h,h2];rfl
theorem legal_f1 {b : UInt8} (h : within b.toNat 32 126 = false) : legalByte b = false:=by rw [legal2,h];rfl
theorem legal_f2 {b : UInt8} (h2 : refused.contains b = true) : legalByte b = false:=by rw [legal2,h2];simp
theorem nameErr_bad {s : Bs} {k : Nat} (h32 : ¬ ((32 : Int) < s.length)) (hk : k < s.length) (h : legalByte s[k] = false) : nameErr s = 4:=by
 have h9 : s.all legalByte = false:=by rw [List.all_eq_false];exact ⟨s[k],List.getElem_mem _,by simp [h]⟩
 unfold nameErr
 rw [if_neg (by omega)]
 split
 ·rfl
 ·rw [h9];rfl
theorem ix_last {s : Bs} {K : UInt8 → Prop} (h : s ≠ []) (hk : K (s.getLast h)) : 0 ≤ (s.length : Int) - 1 ∧ nthK s ((s.length : Int) - 1).toNat K:=by
 have hp:=List.length_pos_iff.2 h
 refine ⟨by omega,nthK_of (x:=s.getLast h) ?_ hk⟩
 rw [List.getLast_eq_getElem,List.getElem?_eq_getElem (by omega)]
 congr 2;omega
theorem last_is {s : Bs} (h : s ≠ []) (c : UInt8) (n : Int) (e : n = c.toNat) : ((s.getLast h).toNat : Int) = n ↔ s.getLast? = some c:=by
 subst e
 rw [List.getLast?_eq_some_getLast h,Option.some.injEq]
 exact ⟨u8_inj,fun e=>by rw [e]⟩
attribute [local irreducible] legalByte within
theorem c67a (s : Bs) (hs : s.length < 1000000) (h0 : s ≠ []) : Fn 67 [.str s] (i (nameErr s)):=by
 have e1:=last_is h0 32 32 rfl;have e2:=last_is h0 46 46 rfl
 refine run_walkF eok Tryz.func67 rfl (by kernel_rfl) ?_
 conv=>whnf
 repeat' (first
 | ((with_reducible refine on_dec (fun h=>?_) (fun h=>?_))<;>(try simp only [List.length_map] at h)<;>conv=>whnf)
 | ((with_reducible refine on_not (fun h=>?_) (fun h=>?_))<;>conv=>whnf)
 | ((with_reducible refine onBool_split (fun h=>?_) (fun h=>?_))<;>conv=>whnf)
 | ((with_reducible refine call_go ?_);(first | refine call_step (run_view (c18 _ _ _) rfl rfl) ?_ | refine call_step (run_view (c103 _ _ (by decide)) rfl rfl) ?_);conv=>whnf)
 | ((with_reducible refine loop_go ?_);first | (refine loop1 (fun (k : Nat)=>s.length - k) (fun (k : Nat)=>k ≤ s.length ∧ (s.take k).all legalByte = true) (fun (k : Nat)=>[(0,.d (.str s)),(3,.d (i k))]) (fun (k : Nat)=>[]) (0) (by first | (simp;done) ) ?_ (fun k C hI hC=>?_);(exact ⟨[],rfl,rfl,⟨(by first | (show (_ : D) = _;with_reducible rfl) ),(by first | exact congrArg (D.int .i64) (by omega) ),trivial⟩,trivial⟩);all_goals (conv=>whnf)))
 | ((with_reducible show C _ _);first | (refine hC (k + 1) _ _ ?_ (by omega) ?_;clear hC;rotate_left;(exact ⟨[],rfl,rfl,⟨(by first | (show (_ : D) = _;with_reducible rfl) ),(by first | exact congrArg (D.int .i64) (by omega) ),trivial⟩,trivial⟩);(exact ⟨by omega,all_take hI.2 (by omega) (legal_t (by assumption) h)⟩)))
 | (refine ix_str (by omega) ?_;conv=>whnf)
 | (refine wrap64 (by omega) ?_;conv=>whnf)
 | (refine ix_last h0 ?_;conv=>whnf)
 | (refine wrap64u8 ?_;conv=>whnf)
 | ((with_reducible refine endx_go ?_);first | (exact absurd (of_decide_eq_true h) h0;done) | (refine endx (congrArg i ?_);exact (nameErr_bad (by omega) (by omega) (legal_f1 h)).symm;done) | (refine endx (congrArg i ?_);exact (nameErr_bad (by omega) (by omega) (legal_f2 h)).symm;done) | (refine endx (congrArg i ?_);unfold nameErr dots;simp_all;done;done) | (refine endx (congrArg i ?_);unfold nameErr dots;grind;done))
  | fail
  )
theorem c67b : Fn 67 [.str []] (i (nameErr [])):=by
 refine run_walkF eok Tryz.func67 rfl (by kernel_rfl) ?_
 conv=>whnf
 repeat' (first
 | ((with_reducible refine endx_go ?_);first | (exact endx (congrArg i (by unfold nameErr;rfl));done) )
  | fail
  )
theorem c67 (s : Bs) (hs : s.length < 1000000) : Fn 67 [.str s] (i (nameErr s)):=by
 by_cases h : s = []
 ·subst h;exact c67b
 ·exact c67a s hs h
theorem c74 (s : Bs) : Fn 74 [.str s] (.bool (dots s)):=by
 refine run_walkF eok Tryz.func74 rfl (by kernel_rfl) ?_
 conv=>whnf
 repeat' (first
 | ((with_reducible refine on_dec (fun h=>?_) (fun h=>?_))<;>(try simp only [List.length_map] at h)<;>conv=>whnf)
 | ((with_reducible refine endx_go ?_);first | (refine endx (congrArg D.bool ?_);(unfold dots;simp_all;done);done))
  | fail
  )
theorem c80 (s : Bs) : Fn 80 [.str s] (.bool (dots s)):=by
 refine run_walkF eok Tryz.func80 rfl (by kernel_rfl) ?_
 conv=>whnf
 repeat' (first
 | ((with_reducible refine on_dec (fun h=>?_) (fun h=>?_))<;>(try simp only [List.length_map] at h)<;>conv=>whnf)
 | ((with_reducible refine endx_go ?_);first | (refine endx (congrArg D.bool ?_);(unfold dots;simp_all;done);done))
  | fail
  )
theorem own_bytes (l : Bs) : 0 + l.length ≤ ((l.map u8).map AV.d).length ∧ (((l.map u8).map AV.d).drop 0).take l.length = l.map byteV:=by
 refine ⟨by simp only [List.length_map];omega,?_⟩
 rw [List.drop_zero,List.take_of_length_le (by simp only [List.length_map];omega),List.map_map];rfl
theorem upT_succ {s : Bs} {k : Nat} (h : k < s.length) : (s.take (k + 1)).map upper = (s.take k).map upper ++ [upper s[k]]:=by
 rw [List.take_succ_eq_append_getElem h,List.map_append];rfl
theorem upT_len (s : Bs) (k : Nat) (h : k ≤ s.length) : ((s.take k).map upper).length = k:=by rw [List.length_map,List.length_take];omega
theorem up_in {b : UInt8} (h : within b.toNat 97 122 = true) : u8 (upper b) = .int .u8 ((b.toNat : Int) - 97 + 65):=by
 unfold within at h
 simp only [Bool.and_eq_true,decide_eq_true_eq] at h
 unfold upper
 rw [if_pos (by omega)]
 have e:=UInt8.toNat_sub_of_le b 32 (by rw [UInt8.le_iff_toNat_le];show 32 ≤ b.toNat;omega)
 show D.int .u8 ((b - 32).toNat : Int) = _
 rw [e];congr 1;show ((b.toNat - 32 : Nat) : Int) = _;omega
theorem up_out {b : UInt8} (h : within b.toNat 97 122 = false) : u8 (upper b) = u8 b:=by
 unfold within at h
 unfold upper
 rw [if_neg]
 intro hc
 have : (decide ((97 : Int) ≤ b.toNat) && decide ((b.toNat : Int) ≤ 122)) = true:=by
  simp only [Bool.and_eq_true,decide_eq_true_eq];omega
 rw [h] at this;cases this
theorem c76 (s : Bs) (hs : s.length < 1000000) : Fn 76 [.str s] (.str (fold s)):=by
 have hut:=upT_len s
 refine run_walkF eok Tryz.func76 rfl (by kernel_rfl) ?_
 conv=>whnf
 repeat' (first
 | ((with_reducible refine on_dec_f ?_ ?_);(focus ((try simp only [List.length_map,List.length_cons,List.length_nil,List.length_append]);omega));conv=>whnf)
 | ((with_reducible refine on_dec (fun h=>?_) (fun h=>?_))<;>(try simp only [List.length_map] at h)<;>conv=>whnf)
 | ((with_reducible refine onBool_split (fun h=>?_) (fun h=>?_))<;>conv=>whnf)
 | ((with_reducible refine call_go ?_);(first | refine call_step (run_view (c18 _ _ _) rfl rfl) ?_);conv=>whnf)
 | ((with_reducible refine loop_go ?_);first | (refine loop1 (fun (k : Nat)=>s.length - k) (fun (k : Nat)=>k ≤ s.length) (fun (k : Nat)=>[(0,.d (.str s)),(3,.sl 0 0 ((s.take k).map upper).length 1 none),(4,.d (i k))]) (fun (k : Nat)=>[⟨(((s.take k).map upper).map u8).map .d,1,0⟩]) (0) (by exact Nat.zero_le _) ?_ (fun k C hI hC=>?_);(exact ⟨[.void 1],rfl,rfl,⟨rfl,⟨rfl,rfl,rfl,rfl⟩,rfl,trivial⟩,⟨⟨rfl,rfl,(by decide),rfl⟩,trivial⟩⟩);all_goals (conv=>whnf)))
 | ((with_reducible show C _ _);first | (refine hC (k + 1) _ _ ?_ (by omega) ?_;clear hC;rotate_left;(exact ⟨[.old 2],rfl,rfl,⟨(by first | (show (_ : D) = _;with_reducible rfl) ),⟨rfl,rfl,(by rw [hut k (by omega),hut (k + 1) (by omega)];rfl),rfl,rfl⟩,(by first | exact congrArg (D.int .i64) (by omega) ),trivial⟩,⟨⟨rfl,rfl,.inr (by rw [upT_succ (by omega)];exact wks_add (wksd _ _) (by first | exact (up_in h).symm | exact (up_out h).symm))⟩,trivial⟩⟩);(exact (by omega : k + 1 ≤ s.length))))
 | (refine ix_str (by omega) ?_;conv=>whnf)
 | (refine wrap64 (by omega) ?_;conv=>whnf)
 | (refine ⟨Nat.le_refl _,?_⟩;conv=>whnf)
 | (refine ⟨⟨(by simp only [List.length_map,List.length_append];omega),cap_ok (by have:=List.length_take_le k s;simp only [List.length_map,List.length_cons,List.length_nil,List.length_append];omega) rfl⟩,?_⟩;conv=>whnf)
 | (refine ⟨_,own_bytes _,?_⟩;conv=>whnf)
 | (refine wrap64u8 ?_;conv=>whnf)
 | (refine wrapU8 (by unfold within at h;simp only [Bool.and_eq_true,decide_eq_true_eq] at h;omega) ?_;conv=>whnf)
 | ((with_reducible refine endx_go ?_);first | (refine endx (congrArg D.str ?_);(rw [List.take_of_length_le (by omega)];rfl);done))
  | fail
  )
theorem c34 (a b : Bs) (ha : a.length < 1000000) (hb : b.length < 1000000) : Fn 34 [.str a,.str b] (.bool (decide (fold a = fold b))):=by
 refine run_walkF eok Tryz.func34 rfl (by kernel_rfl) ?_
 conv=>whnf
 repeat' (first
 | ((with_reducible refine call_go ?_);(first | refine call_step (run_view (c76 _ (by omega)) rfl rfl) ?_);conv=>whnf)
 | ((with_reducible refine endx_go ?_);first | (exact endx rfl;done))
  | fail
  )
theorem same_take {a b : List Bs} {k : Nat} (h : a.take k = b.take k) (ha : k < a.length) (hb : k < b.length) (e : a[k] = b[k]) : a.take (k + 1) = b.take (k + 1):=by
 rw [List.take_succ_eq_append_getElem ha,List.take_succ_eq_append_getElem hb,h,e]
attribute [local irreducible] cut
theorem c45 (a b : List Bs) (ha : a.length < 1000000) (hb : b.length < 1000000) : Fn 45 [.fs (a.map .str),.fs (b.map .str)] (.bool (decide (a = b))):=by
 refine run_walkF eok Tryz.func45 rfl (by kernel_rfl) ?_
 conv=>whnf
 repeat' (first
 | ((with_reducible refine on_dec (fun h=>?_) (fun h=>?_))<;>(try simp only [List.length_map] at h)<;>conv=>whnf)
 | ((with_reducible refine on_ndec (fun h=>?_) (fun h=>?_))<;>(try simp only [List.length_map] at h)<;>conv=>whnf)
 | (refine ⟨[],[],(by decide +kernel),?_⟩;conv=>whnf)
 | ((with_reducible refine loop_go ?_);first | (refine loop1 (fun (k : Nat)=>a.length - k) (fun (k : Nat)=>k ≤ a.length ∧ a.take k = b.take k) (fun (k : Nat)=>[(0,.d (.fs (a.map .str))),(1,.d (.fs (b.map .str))),(5,.d (i k))]) (fun (k : Nat)=>[]) (0) (by first | (simp;done) ) ?_ (fun k C hI hC=>?_);(exact ⟨[],rfl,rfl,⟨(by first | (show (_ : D) = _;with_reducible rfl) ),(by first | (show (_ : D) = _;with_reducible rfl) ),(by first | exact congrArg (D.int .i64) (by omega) ),trivial⟩,trivial⟩);all_goals (conv=>whnf)))
 | ((with_reducible show C _ _);first | (refine hC (k + 1) _ _ ?_ (by omega) ?_;clear hC;rotate_left;(exact ⟨[],rfl,rfl,⟨(by first | (show (_ : D) = _;with_reducible rfl) ),(by first | (show (_ : D) = _;with_reducible rfl) ),(by first | exact congrArg (D.int .i64) (by omega) ),trivial⟩,trivial⟩);(exact ⟨by omega,same_take hI.2 (by omega) (by omega) (by first | simpa using h)⟩)))
 | (refine ix_map (by omega) ?_;conv=>whnf)
 | (refine wrap64 (by omega) ?_;conv=>whnf)
 | ((with_reducible refine endx_go ?_);first | (refine endx (congrArg D.bool ?_);(symm;rw [decide_eq_false_iff_not];intro e;subst e;simp_all;done);done) | (refine endx (congrArg D.bool ?_);(have:=hI.2;rw [List.take_of_length_le (by omega),List.take_of_length_le (by omega)] at this;symm;rw [decide_eq_true_eq];exact this);done))
  | fail
  )
theorem c47 (s : Bs) (c : UInt8) (hs : s.length < 1000000) : Fn 47 [.str s,u8 c] (.fs ((cut c s).map .str)):=by
 refine run_walkF eok Tryz.func47 rfl (by kernel_rfl) ?_
 conv=>whnf
 repeat' (first
 | ((with_reducible refine on_dec_f ?_ ?_);(focus ((try simp only [List.length_map,List.length_cons,List.length_nil,List.length_append]);omega));conv=>whnf)
 | ((with_reducible refine on_dec (fun h=>?_) (fun h=>?_))<;>(try simp only [List.length_map] at h)<;>conv=>whnf)
 | ((with_reducible refine loop_go ?_);first | (refine loop3 (fun (out : List Bs) (a : Nat) (k : Nat)=>s.length - k) (fun (out : List Bs) (a : Nat) (k : Nat)=>k ≤ s.length ∧ a ≤ k ∧ out.length ≤ k ∧ CutI c s out a k) (fun (out : List Bs) (a : Nat) (k : Nat)=>[(0,.d (.str s)),(1,.d (u8 c)),(5,.sl 0 0 out.length 1 none),(6,.d (i a)),(7,.d (i k))]) (fun (out : List Bs) (a : Nat) (k : Nat)=>[⟨(out.map D.str).map .d,1,0⟩]) ([]) (0) (0) (by exact ⟨Nat.zero_le _,Nat.le_refl _,Nat.le_refl _,CutI.zero _ _⟩) ?_ (fun out a k C hI hC=>?_);(exact ⟨[.void 1],rfl,rfl,⟨rfl,rfl,⟨rfl,rfl,rfl,rfl⟩,rfl,rfl,trivial⟩,⟨⟨rfl,rfl,(by decide),rfl⟩,trivial⟩⟩);all_goals (conv=>whnf)))
 | ((with_reducible show C _ _);first | (refine hC (out ++ [(s.take k).drop a]) (k + 1) (k + 1) _ _ ?_ (by omega) ?_;clear hC;rotate_left;(exact ⟨[.old 2],rfl,rfl,⟨(by first | (show (_ : D) = _;with_reducible rfl) ),(by first | (show (_ : D) = _;with_reducible rfl) ),⟨rfl,rfl,(by simp),rfl,rfl⟩,(by first | exact congrArg (D.int .i64) (by omega) ),(by first | exact congrArg (D.int .i64) (by omega) ),trivial⟩,⟨⟨rfl,rfl,.inr (wks_add (wksd _ _) rfl)⟩,trivial⟩⟩);(exact ⟨by omega,by omega,by simp;omega,hI.2.2.2.hit (by omega) (u8_inj h)⟩)) | (refine hC (out) (a) (k + 1) _ _ ?_ (by omega) ?_;clear hC;rotate_left;(exact ⟨[.old 0],rfl,rfl,⟨(by first | (show (_ : D) = _;with_reducible rfl) ),(by first | (show (_ : D) = _;with_reducible rfl) ),(by first | exact ⟨rfl,rfl,rfl,rfl,rfl⟩ ),(by first | (show (_ : D) = _;with_reducible rfl) ),(by first | exact congrArg (D.int .i64) (by omega) ),trivial⟩,⟨⟨rfl,rfl,.inr (wksd _ _)⟩,trivial⟩⟩);(exact ⟨by omega,by omega,by omega,hI.2.2.2.miss (by omega) (fun e=>h (by rw [e]))⟩)))
 | (refine ⟨⟨(by first | (simp;done)),cap_ok (by simp only [List.length_map,List.length_cons,List.length_nil,List.length_append];omega) rfl⟩,?_⟩;conv=>whnf)
 | (refine ix_str (by omega) ?_;conv=>whnf)
 | (refine wrap64 (by omega) ?_;conv=>whnf)
 | (refine sl_str a s.length (by omega) (by omega) (by omega) ?_;conv=>whnf)
 | (refine sl_str a k (by omega) (by omega) (by omega) ?_;conv=>whnf)
 | (refine ⟨Nat.le_refl _,?_⟩;conv=>whnf)
 | ((with_reducible refine endx_go ?_);first | (exact endxv (view_snoc rfl Nat.two_pos rfl) (congrArg D.fs (by rw [← hI.2.2.2.done (by omega)];simp));done))
  | fail
  )
end Go.Proofs.YtpfokhdelnlciaaGreatDoor
namespace Go.Proofs.YtpfokhdelnlciaaGreatDoor
open Go Dw
set_option maxRecDepth 10000
attribute [local irreducible] Run
set_option maxHeartbeats 4000000
open Paths
attribute [local irreducible] nameErr cut
def PPe (p : PP) : D:=.agg [.bool p.abs,.fs (p.parts.map .str),.str p.stream]
theorem lit1 (c : UInt8) : ({ data:=#[c] } : ByteArray).data.toList.length = 1:=rfl
theorem stream_len (p : PP) : p.stream.length ≤ (text p).length:=by
 unfold text
 by_cases h : p.stream = []
 ·rw [h];simp
 ·rw [if_neg h];simp only [List.length_append,List.length_cons];omega
end Go.Proofs.YtpfokhdelnlciaaGreatDoor
namespace Go.Proofs.YtpfokhdelnlciaaGreatDoor
open Go Dw
set_option maxRecDepth 10000
attribute [local irreducible] Run
set_option maxHeartbeats 4000000
open Paths
attribute [local irreducible] nameErr cut
theorem norm_drop {l out : List Bs} {ab : Bool} {k : Nat} (h : k < l.length) : (l.drop k).foldl (normStep ab) out = (l.drop (k + 1)).foldl (normStep ab) (normStep ab out l[k]):=by
 rw [List.drop_eq_getElem_cons h];rfl
theorem st_dot {ab : Bool} {out : List Bs} {s : Bs} (h : s = [46]) : normStep ab out s = out:=if_pos h
theorem st_app {ab : Bool} {out : List Bs} {s : Bs} (h : ¬ s = [46]) (h2 : ¬ s = [46,46]) : normStep ab out s = out ++ [s]:=by
 unfold normStep;rw [if_neg h,if_pos h2]
theorem last_eq {out : List Bs} (h : 0 < out.length) (x : Bs) : out.getLast? = some x ↔ out[out.length - 1]'(by omega) = x:=by
 rw [List.getLast?_eq_some_getLast (by intro e;subst e;simp at h),List.getLast_eq_getElem,Option.some.injEq]
theorem st_pop {ab : Bool} {out : List Bs} {s : Bs} (h : s = [46,46]) (h2 : 0 < out.length) (h3 : ¬ out[out.length - 1]'(by omega) = [46,46]) : normStep ab out s = out.dropLast:=by
 subst h
 unfold normStep
 rw [if_neg (by decide),if_neg (by simp),if_pos ⟨by intro e;subst e;simp at h2,fun e=>h3 ((last_eq h2 _).1 e)⟩]
theorem pop_eq {out : List Bs} (h : 0 < out.length) : (out.map D.str).map AV.d = (out.dropLast.map D.str).map AV.d ++ [.d (.str (out[out.length - 1]'(by omega)))]:=by
 have e : out = out.dropLast ++ [out[out.length - 1]'(by omega)]:=by
  conv=>lhs;rw [← List.dropLast_concat_getLast (l:=out) (by intro e;subst e;simp at h)]
  rw [List.getLast_eq_getElem]
 conv=>lhs;rw [e]
 simp only [List.map_append,List.map_cons,List.map_nil]
theorem norm_end {p : PP} {out : List Bs} {k : Nat} (hk : ¬ ((k : Int) < p.parts.length)) (h : p.parts.foldl (normStep p.abs) [] = (p.parts.drop k).foldl (normStep p.abs) out) (hne : out.length ≠ 0 ∨ p.abs = true) : D.agg [.bool p.abs,.fs (out.map .str),.str p.stream] = PPe (normal p):=by
 rw [List.drop_eq_nil_of_le (by omega),List.foldl_nil] at h
 unfold PPe normal
 simp only [h]
 rw [if_neg]
 rintro ⟨e1,e2⟩
 rcases hne with hne | hne
 ·exact hne (by rw [e1];rfl)
 ·rw [e2] at hne;cases hne
theorem norm_end0 {p : PP} {out : List Bs} {k : Nat} (hk : ¬ ((k : Int) < p.parts.length)) (h : p.parts.foldl (normStep p.abs) [] = (p.parts.drop k).foldl (normStep p.abs) out) (hne : out.length = 0) (hab : p.abs = false) : D.agg [.bool p.abs,.fs [.str [46]],.str p.stream] = PPe (normal p):=by
 rw [List.drop_eq_nil_of_le (by omega),List.foldl_nil] at h
 have e : out = []:=List.length_eq_zero_iff.1 hne
 unfold PPe normal
 simp only [h]
 rw [if_pos ⟨e,hab⟩];rfl
theorem st_top {ab : Bool} {out : List Bs} {s : Bs} (h : s = [46,46]) (h2 : ¬ 0 < out.length ∨ ∃ h : 0 < out.length,out[out.length - 1]'(by omega) = [46,46]) : normStep ab out s = if ab then out else out ++ [s]:=by
 subst h
 unfold normStep
 rw [if_neg (by decide),if_neg (by simp),if_neg]
 rintro ⟨e1,e2⟩
 rcases h2 with h2 | ⟨h2,h3⟩
 ·exact e1 (by cases out with | nil=>rfl | cons x l=>simp at h2)
 ·exact e2 ((last_eq h2 _).2 h3)
theorem norm_len (p : PP) : (normal p).parts.length ≤ p.parts.length + 1:=by
 have key : ∀ (l out : List Bs),(l.foldl (normStep p.abs) out).length ≤ l.length + out.length:=by
  intro l
  induction l with
  | nil=>intro out;simp
  | cons s l ih=>
   intro out
   have h1:=ih (normStep p.abs out s)
   have h2 : (normStep p.abs out s).length ≤ out.length + 1:=by
    unfold normStep
    split
    ·omega
    ·split
     ·simp
     ·split
      ·simp;omega
      ·split<;>simp
   simp only [List.foldl_cons,List.length_cons];omega
 have h:=key p.parts []
 unfold normal
 simp only
 split
 ·simp
 ·simp only [List.length_nil] at h;omega
attribute [local irreducible] normal
end Go.Proofs.YtpfokhdelnlciaaGreatDoor
namespace Paths
theorem glue_cons {c : UInt8} (p : Bs) (l : List Bs) (h : l ≠ []) : glue c (p :: l) = p ++ c :: glue c l:=by
 cases l with
 | nil=>exact absurd rfl h
 | cons q l=>rfl
theorem glue_ne {c : UInt8} {l : List Bs} (h : l ≠ []) (hp : ∀ p ∈ l,p ≠ []) : glue c l ≠ []:=by
 cases l with
 | nil=>exact absurd rfl h
 | cons p l=>
  have hp0:=hp p (by simp)
  cases l with
  | nil=>exact hp0
  | cons q l=>rw [glue_cons p (q :: l) (by simp)];intro e;exact hp0 (List.append_eq_nil_iff.1 e).1
theorem glue_head {l : List Bs} (h : l ≠ []) (hp : ∀ p ∈ l,p ≠ [] ∧ 47 ∉ p) : (glue 47 l).head? ≠ some 47:=by
 cases l with
 | nil=>exact absurd rfl h
 | cons p l=>
  obtain ⟨h1,h2⟩:=hp p (by simp)
  cases p with
  | nil=>exact absurd rfl h1
  | cons a p=>
   have ha : a ≠ 47:=fun e=>h2 (by simp [e])
   cases l with
   | nil=>simpa [glue] using ha
   | cons q l=>rw [glue_cons _ (q :: l) (by simp)];simpa using ha
theorem name_dots {s : Bs} (h : nameErr s = 0) : dots s = false:=by
 cases hd : dots s with
 | false=>rfl
 | true=>
  exfalso
  unfold dots at hd
  rw [Bool.or_eq_true,decide_eq_true_eq,decide_eq_true_eq] at hd
  rcases hd with rfl | rfl<;>revert h<;>decide
end Paths
