/-
  Own lemmas, no conditions: Dt, Da, Pa, Pb, Pc, Pd, Pe, Pf, Jn, Or, Wa, Wb, Wc, Wd, We, Wf, Wg, Wy, Wp, Aw, Ph, Pg, Wh, Wi, Wr, Wj, Wk, Wl, Wm, Wn, Pi, Wo, Pj, Wq, Ws, Wt, Wu, Wv, Pk, Pl, Ww, Pm, Wx, Wz, Xa, Xb, Pn, Xc, Xd, Xg.
-/
import Derived.Test.YtkmhnaojgkcjoaaGreatDoorGrpI
import Derived.Lib.Bytealg
import Derived.Lib.Split
import Derived.Shelf.Strings.OnBuilder
import Derived.Shelf.Sort.Plain
import Derived.Shelf.Slices.In.SortNone
set_option linter.unusedVariables false
set_option linter.unusedSimpArgs false
namespace Go.Proofs.YtkmhnaojgkcjoaaGreatDoor
open Go Dw
abbrev Bs:=List UInt8
abbrev i (n : Int) : D:=.int .i64 n
def Fn (f : Nat) (xs : List D) (r : D) : Prop:=Run Tryz.prog f (xs.map .d) [] (.d r) []
structure Ent where
 name : Bs
 node : Int
 deriving DecidableEq
def Ent.enc (x : Ent) : D:=.agg [.str x.name,i x.node]
structure Nod where
 kind : Int
 ents : List Ent
 target : Bs
 deriving DecidableEq
def Nod.enc (x : Nod) : D:=.agg [i x.kind,.fs (x.ents.map Ent.enc),.str x.target]
def treeD (t : List Nod) : D:=.fs (t.map Nod.enc)
abbrev Way:=Int × Bs
def wayE (w : Way) : D:=.agg [i w.1,.str w.2]
end Go.Proofs.YtkmhnaojgkcjoaaGreatDoor
namespace Go.Proofs.YtkmhnaojgkcjoaaGreatDoor
open Go Dw
set_option maxRecDepth 10000
theorem c243 (s : Bs) (c : Int) : Fn 243 [.str s,.int .u8 c] (i (Lib.indexByte s c.toNat.toUInt8)):=
 run_leafSC fun w=>by
  rw [run_callFunc_extern Tryz.func243 (by kernel_rfl) (by kernel_rfl) (by kernel_rfl) (e:=Extern.BytealgIndexByte.indexByte) (by kernel_rfl),Lib.run_indexByteString]
  rfl
theorem c250 (s : Bs) (c : Int) : Fn 250 [.str s,.int .u8 c] (i (Lib.countByte s c.toNat.toUInt8)):=
 run_leafSC fun w=>by
  rw [run_callFunc_extern Tryz.func250 (by kernel_rfl) (by kernel_rfl) (by kernel_rfl) (e:=Extern.BytealgCount.count) (by kernel_rfl),Lib.run_countString]
  rfl
end Go.Proofs.YtkmhnaojgkcjoaaGreatDoor
namespace Paths
abbrev Bs:=List UInt8
def cut (c : UInt8) : Bs → List Bs
 | []=>[[]]
 | x :: s=>if x = c then [] :: cut c s else match cut c s with
  | p :: l=>(x :: p) :: l
  | []=>[[x]]
theorem cut_ne (c : UInt8) : ∀ s,cut c s ≠ []
 | []=>by simp [cut]
 | x :: s=>by
  unfold cut
  split
  ·simp
  ·cases h : cut c s<;>simp
theorem cut_none {c : UInt8} : ∀ {s : Bs},c ∉ s → cut c s = [s]
 | [],_=>rfl
 | x :: s,h=>by
  have h1 : x ≠ c:=fun e=>h (by simp [e])
  rw [cut,if_neg h1,cut_none fun m=>h (by simp [m])]
theorem cut_at {c : UInt8} : ∀ {a : Bs} (b : Bs),c ∉ a → cut c (a ++ c :: b) = a :: cut c b
 | [],b,_=>by simp [cut]
 | x :: a,b,h=>by
  have h1 : x ≠ c:=fun e=>h (by simp [e])
  rw [List.cons_append,cut,if_neg h1,cut_at b fun m=>h (by simp [m])]
structure CutI (c : UInt8) (s : Bs) (out : List Bs) (a i : Nat) : Prop where
 le : a ≤ i
 out : out ++ cut c (s.drop a) = cut c s
 no : ∀ k,a ≤ k → k < i → ∀ h : k < s.length,s[k] ≠ c
theorem CutI.zero (c : UInt8) (s : Bs) : CutI c s [] 0 0:=⟨Nat.le_refl _,rfl,fun k _ h=>by omega⟩
theorem not_mem_of {c : UInt8} {s : Bs} {a i : Nat} (no : ∀ k,a ≤ k → k < i → ∀ h : k < s.length,s[k] ≠ c) : c ∉ (s.take i).drop a:=by
 intro h
 obtain ⟨j,hj,e⟩:=List.getElem_of_mem h
 simp only [List.length_drop,List.length_take] at hj
 rw [List.getElem_drop,List.getElem_take] at e
 exact no (a + j) (by omega) (by omega) (by omega) e
theorem CutI.hit {c : UInt8} {s : Bs} {out : List Bs} {a i : Nat} (I : CutI c s out a i) (h : i < s.length) (e : s[i] = c) : CutI c s (out ++ [(s.take i).drop a]) (i + 1) (i + 1):=by
 refine ⟨Nat.le_refl _,?_,fun k h1 h2=>by omega⟩
 have hs : s.drop a = (s.take i).drop a ++ c :: s.drop (i + 1):=by
  rw [← e,← List.drop_eq_getElem_cons h]
  conv=>lhs;rw [← List.take_append_drop i s]
  rw [List.drop_append_of_le_length (by rw [List.length_take];have:=I.le;omega)]
 rw [← I.out,hs,cut_at _ (not_mem_of I.no),List.append_assoc];rfl
theorem CutI.miss {c : UInt8} {s : Bs} {out : List Bs} {a i : Nat} (I : CutI c s out a i) (h : i < s.length) (e : s[i] ≠ c) : CutI c s out a (i + 1):=by
 refine ⟨by have:=I.le;omega,I.out,fun k h1 h2 hk=>?_⟩
 by_cases d : k = i
 ·subst d;exact e
 ·exact I.no k h1 (by omega) hk
theorem CutI.done {c : UInt8} {s : Bs} {out : List Bs} {a i : Nat} (I : CutI c s out a i) (h : s.length ≤ i) : out ++ [s.drop a] = cut c s:=by
 rw [← I.out,cut_none]
 have:=not_mem_of (i:=i) I.no
 rwa [List.take_of_length_le h] at this
theorem cut_len (c : UInt8) : ∀ s : Bs,(cut c s).length = s.count c + 1
 | []=>rfl
 | x :: s=>by
  have ih:=cut_len c s
  unfold cut
  by_cases h : x = c
  ·subst h;simp [ih]
  ·rw [if_neg h,List.count_cons_of_ne h]
   cases e : cut c s with
   | nil=>exact absurd e (cut_ne c s)
   | cons p l=>rw [e] at ih;simpa using ih
theorem cut_mem {c : UInt8} : ∀ {s p : Bs},p ∈ cut c s → c ∉ p ∧ p.length ≤ s.length
 | [],p,h=>by simp [cut] at h;subst h;simp
 | x :: s,p,h=>by
  unfold cut at h
  by_cases e : x = c
  ·rw [if_pos e] at h
   rcases List.mem_cons.1 h with rfl | h
   ·simp
   ·have:=cut_mem h;exact ⟨this.1,by simp;omega⟩
  ·rw [if_neg e] at h
   cases d : cut c s with
   | nil=>exact absurd d (cut_ne c s)
   | cons q l=>
    rw [d] at h
    simp only [List.mem_cons] at h
    rcases h with rfl | h
    ·have:=cut_mem (c:=c) (s:=s) (p:=q) (by rw [d];simp)
     exact ⟨by simp [Ne.symm e,this.1],by simp;omega⟩
    ·have:=cut_mem (c:=c) (s:=s) (p:=p) (by rw [d];simp [h])
     exact ⟨this.1,by simp;omega⟩
def glue (c : UInt8) : List Bs → Bs
 | []=>[]
 | [p]=>p
 | p :: q :: l=>p ++ c :: glue c (q :: l)
end Paths
namespace Paths
def refused : Bs:=[34,42,47,58,60,62,63,92,124]
def legalByte (c : UInt8) : Bool:=decide (32 ≤ c.toNat) && decide (c.toNat ≤ 126) && !refused.contains c
def dots (s : Bs) : Bool:=decide (s = [46]) || decide (s = [46,46])
def nameErr (s : Bs) : Int:=
 if 32 < s.length then 8 else if s = [] ∨ dots s = true ∨ s.getLast? = some 32 ∨ s.getLast? = some 46 then 4 else if s.all legalByte then 0 else 4
def upper (c : UInt8) : UInt8:=if 97 ≤ c.toNat ∧ c.toNat ≤ 122 then c - 32 else c
def fold (s : Bs) : Bs:=s.map upper
structure PP where
 abs : Bool
 parts : List Bs
 stream : Bs
deriving DecidableEq
def partErr (s : Bs) : Int:=if dots s then 0 else nameErr s
def firstE : List Int → Int
 | []=>0
 | e :: l=>if e = 0 then firstE l else e
def colons (l : List Bs) : Option (List Bs × Bs):=
 match cut 58 (l.getLastD []) with
 | [_]=>some (l,[])
 | [a,b]=>if dots a = true ∨ b = [] then none else some (l.dropLast ++ [a],b)
 | _=>none
def wellParts (l : List Bs) : Bool:=l.all fun p=>!decide (p = []) && !p.contains 58
def restOf (s : Bs) : Bs:=if s.head? = some 47 then s.tail else s
def isAbs (s : Bs) : Bool:=decide (s.head? = some 47)
def noPP : PP:=⟨false,[],[]⟩
def partsErr (l : List Bs) (t : Bs) : Int:=
 firstE [firstE (l.map partErr),if t = [] then 0 else nameErr t,if 16 < l.length then 8 else 0]
def parse (s : Bs) : PP × Int:=
 if 200 < s.length then (noPP,8)
 else if s = [] then (noPP,7)
 else if s = [47] then (⟨true,[],[]⟩,0)
 else match colons (cut 47 (restOf s)) with
  | none=>(noPP,7)
  | some (l,t)=>if wellParts l = false then (noPP,7) else if partsErr l t ≠ 0 then (noPP,partsErr l t) else (⟨isAbs s,l,t⟩,0)
def text (p : PP) : Bs:=(if p.abs then [47] else []) ++ glue 47 p.parts ++ (if p.stream = [] then [] else 58 :: p.stream)
def normStep (abs : Bool) (out : List Bs) (s : Bs) : List Bs:=
 if s = [46] then out
 else if s ≠ [46,46] then out ++ [s]
 else if out ≠ [] ∧ out.getLast? ≠ some [46,46] then out.dropLast
 else if abs then out else out ++ [s]
def normal (p : PP) : PP:=
 let l:=p.parts.foldl (normStep p.abs) []
 ⟨p.abs,if l = [] ∧ p.abs = false then [[46]] else l,p.stream⟩
def plainErr (p : PP) : Int:=if p.abs = false ∨ (normal p).parts ≠ p.parts ∨ p.stream ≠ [] then 3 else 0
end Paths
namespace Paths
theorem rest_abs (s : Bs) : (if isAbs s then [47] else []) ++ restOf s = s:=by
 unfold isAbs restOf
 cases s with
 | nil=>rfl
 | cons x s=>
  by_cases h : x = 47
  ·subst h;rfl
  ·have : ¬ (some x = some (47 : UInt8)):=fun e=>h (Option.some.inj e)
   simp [h]
end Paths
namespace Paths
def Good (p : Bs) : Prop:=47 ∉ p ∧ 58 ∉ p ∧ p ≠ []
end Paths
namespace Paths
def bad (s : Bs) : Bool:=decide (s = []) || s.contains 58
def pieceA (s : Bs) : Bs:=s.take (s.idxOf 58)
def pieceB (s : Bs) : Bs:=s.drop (s.idxOf 58 + 1)
def lastOf (l : List Bs) : Bs:=l.getLastD []
def splitI (s : Bs) : PP × Bool:=
 if restOf s = [] then (⟨isAbs s,[],[]⟩,isAbs s)
 else if (lastOf (cut 47 (restOf s))).contains 58 then
  (⟨isAbs s,(cut 47 (restOf s)).dropLast ++ [pieceA (lastOf (cut 47 (restOf s)))],pieceB (lastOf (cut 47 (restOf s)))⟩,
   !((cut 47 (restOf s)).dropLast ++ [pieceA (lastOf (cut 47 (restOf s)))]).any bad && (!bad (pieceB (lastOf (cut 47 (restOf s)))) && !dots (pieceA (lastOf (cut 47 (restOf s))))))
 else (⟨isAbs s,cut 47 (restOf s),[]⟩,!(cut 47 (restOf s)).any bad)
def streamErr (s : Bs) : Int:=if s = [] then 0 else nameErr s
def errI (s : Bs) : Int:=firstE [if (splitI s).2 = true then 0 else 7,firstE ((splitI s).1.parts.map partErr),streamErr (splitI s).1.stream,if (splitI s).1.parts.length ≤ 16 then 0 else 8]
def parseI (s : Bs) : PP × Int:=
 if 200 < s.length then (noPP,8) else if errI s = 0 then ((splitI s).1,0) else (noPP,errI s)
theorem idxOf_le {c : UInt8} : ∀ {s : Bs} {j : Nat} (h : j < s.length),s[j] = c → s.idxOf c ≤ j
 | x :: s,0,h,e=>by
  simp only [List.getElem_cons_zero] at e
  simp [List.idxOf_cons,e]
 | x :: s,j + 1,h,e=>by
  simp only [List.getElem_cons_succ] at e
  have ih:=idxOf_le (s:=s) (j:=j) (by simpa using h) e
  rw [List.idxOf_cons]
  cases x == c<;>simp<;>omega
theorem cut_mem_at {c : UInt8} {s : Bs} (h : c ∈ s) : cut c s = s.take (s.idxOf c) :: cut c (s.drop (s.idxOf c + 1)):=by
 have hi:=List.idxOf_lt_length_iff.2 h
 have e : s = s.take (s.idxOf c) ++ c :: s.drop (s.idxOf c + 1):=by
  conv=>lhs;rw [← List.take_append_drop (s.idxOf c) s]
  rw [List.drop_eq_getElem_cons hi,List.getElem_idxOf]
 have hn : c ∉ s.take (s.idxOf c):=by
  intro m
  obtain ⟨j,hj,ej⟩:=List.getElem_of_mem m
  simp only [List.length_take] at hj
  rw [List.getElem_take] at ej
  have hj2 : j < s.length:=by omega
  have h1 : s.idxOf c ≤ j:=idxOf_le hj2 ej
  omega
 conv=>lhs;rw [e]
 exact cut_at _ hn
theorem any_bad (l : List Bs) : wellParts l = !l.any bad:=by
 unfold wellParts bad
 induction l with
 | nil=>rfl
 | cons x l ih=>simp only [List.all_cons,List.any_cons,ih,Bool.not_or]
theorem firstE_0 (l : List Int) : firstE (0 :: l) = firstE l:=rfl
theorem splitI_c {s : Bs} (hr : restOf s ≠ []) (hc : (lastOf (cut 47 (restOf s))).contains 58 = true) : splitI s =
  (⟨isAbs s,(cut 47 (restOf s)).dropLast ++ [pieceA (lastOf (cut 47 (restOf s)))],pieceB (lastOf (cut 47 (restOf s)))⟩,
   !((cut 47 (restOf s)).dropLast ++ [pieceA (lastOf (cut 47 (restOf s)))]).any bad && (!bad (pieceB (lastOf (cut 47 (restOf s)))) && !dots (pieceA (lastOf (cut 47 (restOf s)))))):=by
 unfold splitI;rw [if_neg hr,if_pos hc]
theorem splitI_n {s : Bs} (hr : restOf s ≠ []) (hc : ¬ (lastOf (cut 47 (restOf s))).contains 58 = true) : splitI s = (⟨isAbs s,cut 47 (restOf s),[]⟩,!(cut 47 (restOf s)).any bad):=by
 unfold splitI;rw [if_neg hr,if_neg hc]
theorem parse_eq (s : Bs) : parseI s = parse s:=by
 unfold parseI parse
 by_cases h1 : 200 < s.length
 ·rw [if_pos h1,if_pos h1]
 rw [if_neg h1,if_neg h1]
 by_cases h2 : s = []
 ·subst h2;rfl
 rw [if_neg h2]
 by_cases h3 : s = [47]
 ·subst h3;rfl
 rw [if_neg h3]
 have hr : restOf s ≠ []:=by
  intro e
  have:=rest_abs s
  rw [e] at this
  unfold isAbs at this
  split at this
  ·exact h3 this.symm
  ·exact h2 this.symm
 have hne:=cut_ne 47 (restOf s)
 have key : ∀ (ok : Bool) (p : PP),splitI s = (p,ok) → p.abs = isAbs s → ((if errI s = 0 then ((splitI s).1,0) else (noPP,errI s)) = if ok = false then (noPP,(7 : Int)) else if partsErr p.parts p.stream ≠ 0 then (noPP,partsErr p.parts p.stream) else (⟨isAbs s,p.parts,p.stream⟩,0)):=by
  intro ok p e ha
  unfold errI
  rw [e]
  cases ok with
  | false=>rfl
  | true=>
   simp only [if_true,firstE_0,Bool.true_eq_false,if_false]
   have e2 : firstE [firstE (p.parts.map partErr),streamErr p.stream,if p.parts.length ≤ 16 then 0 else 8] = partsErr p.parts p.stream:=by
    unfold partsErr streamErr
    by_cases hl : p.parts.length ≤ 16
    ·rw [if_pos hl,if_neg (show ¬ 16 < p.parts.length by omega)]
    ·rw [if_neg hl,if_pos (show 16 < p.parts.length by omega)]
   rw [e2]
   by_cases h0 : partsErr p.parts p.stream = 0
   ·rw [if_pos h0,if_neg (fun h=>h h0),← ha]
   ·rw [if_neg h0,if_pos h0]
 by_cases hc : 58 ∈ lastOf (cut 47 (restOf s))
 ·have hcc : (lastOf (cut 47 (restOf s))).contains 58 = true:=by simpa using hc
  rw [key _ _ (splitI_c hr hcc) rfl]
  unfold colons
  rw [show (cut 47 (restOf s)).getLastD [] = lastOf (cut 47 (restOf s)) from rfl,cut_mem_at hc]
  by_cases h5 : 58 ∈ pieceB (lastOf (cut 47 (restOf s)))
  ·have hb : bad (pieceB (lastOf (cut 47 (restOf s)))) = true:=by unfold bad;simp [h5]
   rw [hb]
   rw [show List.drop (List.idxOf 58 (lastOf (cut 47 (restOf s))) + 1) (lastOf (cut 47 (restOf s))) = pieceB (lastOf (cut 47 (restOf s))) from rfl,cut_mem_at h5]
   cases h6 : cut 58 (List.drop (List.idxOf 58 (pieceB (lastOf (cut 47 (restOf s)))) + 1) (pieceB (lastOf (cut 47 (restOf s))))) with
   | nil=>exact absurd h6 (cut_ne _ _)
   | cons x l=>simp
  ·rw [show List.drop (List.idxOf 58 (lastOf (cut 47 (restOf s))) + 1) (lastOf (cut 47 (restOf s))) = pieceB (lastOf (cut 47 (restOf s))) from rfl,cut_none h5]
   rw [show List.take (List.idxOf 58 (lastOf (cut 47 (restOf s)))) (lastOf (cut 47 (restOf s))) = pieceA (lastOf (cut 47 (restOf s))) from rfl]
   generalize pieceB (lastOf (cut 47 (restOf s))) = t at *
   generalize pieceA (lastOf (cut 47 (restOf s))) = a at *
   have hb : bad t = decide (t = []):=by unfold bad;simp [h5]
   rw [hb]
   by_cases h7 : dots a = true ∨ t = []
   ·simp only [if_pos h7]
    have : (!decide (t = []) && !dots a) = false:=by rcases h7 with h | h<;>simp [h]
    rw [this];simp
   ·simp only [if_neg h7]
    have : (!decide (t = []) && !dots a) = true:=by
     have h8 : t ≠ []:=fun h=>h7 (.inr h)
     have h9 : dots a = false:=by cases h : dots a<;>simp_all
     simp [h8,h9]
    rw [this,Bool.and_true,← any_bad]
 ·have hcc : ¬ (lastOf (cut 47 (restOf s))).contains 58 = true:=by simpa using hc
  rw [key _ _ (splitI_n hr hcc) rfl]
  unfold colons
  rw [show (cut 47 (restOf s)).getLastD [] = lastOf (cut 47 (restOf s)) from rfl,cut_none hc]
  simp only [← any_bad]
end Paths
namespace Paths
def partsOf (s : Bs) : List Bs:=(parse s).1.parts
def hasBit (filter action : Int) : Bool:=!decide (filter.tdiv action % 2 = 0)
def sameHead (a b : List Bs) : Bool:=decide (a.map fold = (b.take a.length).map fold)
def below (wp : Bs) (deep : Bool) (filter : Int) (action : Int) (path : Bs) : Bs × Bool:=
 if hasBit filter action = false ∨ (partsOf path).length ≤ (partsOf wp).length ∨ (deep = false ∧ (partsOf wp).length + 1 < (partsOf path).length) then ([],false)
 else if sameHead (partsOf wp) (partsOf path) = true then (glue 47 ((partsOf path).drop (partsOf wp).length),true) else ([],false)
end Paths
namespace Go.Proofs.YtkmhnaojgkcjoaaGreatDoor
open Go Go.Shelf
def lays156_ren : Go.Shelf.Ren:=⟨fun | 156=>93 | 165=>135 | 166=>136 | 169=>137 | 240=>178 | 241=>179 | 276=>207 | 277=>208 | n=>n,fun | 31=>57 | 9=>9 | 3=>3 | 4=>4 | 0=>0 | 20=>20 | 72=>195 | 76=>199 | 70=>193 | 37=>192 | 75=>198 | 127=>233 | 164=>255 | 5=>5 | 80=>201 | n=>n,fun | n=>n⟩
theorem lays156 : Go.Proofs.Lays.n156 Tryz.prog lays156_ren:={
 mixed:=by kernel_rfl
 f156:=Tryz.func93.trans (congrArg some (by kernel_rfl))
 f165:=Tryz.func135.trans (congrArg some (by kernel_rfl))
 f166:=Tryz.func136.trans (congrArg some (by kernel_rfl))
 f169:=Tryz.func137.trans (congrArg some (by kernel_rfl))
 f240:=Tryz.func178.trans (congrArg some (by kernel_rfl))
 f241:=Tryz.func179.trans (congrArg some (by kernel_rfl))
 f276:=Tryz.func207.trans (congrArg some (by kernel_rfl))
 f277:=Tryz.func208.trans (congrArg some (by kernel_rfl))
 t0:=Tryz.underlying0
 a0:=Tryz.isAgg0
 z0:=Tryz.sizeOf0
 v0:=Tryz.zeroValue0
 t3:=Tryz.underlying3
 a3:=Tryz.isAgg3
 z3:=Tryz.sizeOf3
 v3:=Tryz.zeroValue3
 t4:=Tryz.underlying4
 a4:=Tryz.isAgg4
 z4:=Tryz.sizeOf4
 v4:=Tryz.zeroValue4
 t9:=Tryz.underlying9
 a9:=Tryz.isAgg9
 z9:=Tryz.sizeOf9
 v9:=Tryz.zeroValue9
 t20:=Tryz.underlying20
 a20:=Tryz.isAgg20
 z20:=Tryz.sizeOf20
 v20:=Tryz.zeroValue20
 t31:=Tryz.underlying57
 a31:=Tryz.isAgg57
 z31:=Tryz.sizeOf57
 v31:=Tryz.zeroValue57
 t37:=Tryz.underlying192
 a37:=Tryz.isAgg192
 z37:=Tryz.sizeOf192
 v37:=Tryz.zeroValue192
 t70:=Tryz.underlying193
 a70:=Tryz.isAgg193
 z70:=Tryz.sizeOf193
 v70:=Tryz.zeroValue193
 t72:=Tryz.underlying195
 a72:=Tryz.isAgg195
 z72:=Tryz.sizeOf195
 v72:=Tryz.zeroValue195
 t75:=Tryz.underlying198
 a75:=Tryz.isAgg198
 z75:=Tryz.sizeOf198
 v75:=Tryz.zeroValue198
 t76:=Tryz.underlying199
 a76:=Tryz.isAgg199
 z76:=Tryz.sizeOf199
 v76:=Tryz.zeroValue199
 t127:=Tryz.underlying233
 a127:=Tryz.isAgg233
 z127:=Tryz.sizeOf233
 v127:=Tryz.zeroValue233
 t164:=Tryz.underlying255
 a164:=Tryz.isAgg255
 z164:=Tryz.sizeOf255
 v164:=Tryz.zeroValue255 }
theorem builder156 : Builder.Extra Tryz.prog lays156_ren:={
 sizeBuilder:=by kernel_rfl
 liesBuilder:=by kernel_rfl
 t5:=Tryz.underlying5
 a5:=Tryz.isAgg5
 z5:=Tryz.sizeOf5
 v5:=Tryz.zeroValue5
 infoByte:=by kernel_rfl
 cellsByte:=by kernel_rfl
 sizeByte:=by kernel_rfl
 neB5:=by decide }
def lays190_ren : Go.Shelf.Ren:=⟨fun | 190=>58 | 125=>66 | 258=>94 | 128=>109 | 129=>110 | 302=>138 | 303=>139 | 304=>140 | 305=>141 | 306=>142 | 307=>143 | 308=>144 | 309=>145 | 310=>146 | 333=>180 | 329=>153 | 330=>154 | 334=>181 | 335=>182 | 336=>183 | 344=>209 | n=>n,fun | 31=>57 | 9=>9 | 3=>3 | 46=>127 | 0=>0 | 51=>171 | 53=>173 | 4=>4 | 183=>164 | 182=>163 | 131=>111 | 5=>5 | 218=>215 | 222=>219 | 228=>238 | 229=>95 | n=>n,fun | n=>n⟩
theorem lays190 : Go.Proofs.Lays.n190 Tryz.prog lays190_ren:={
 mixed:=by kernel_rfl
 f125:=Tryz.func66.trans (congrArg some (by kernel_rfl))
 f128:=Tryz.func109.trans (congrArg some (by kernel_rfl))
 f129:=Tryz.func110.trans (congrArg some (by kernel_rfl))
 f190:=Tryz.func58.trans (congrArg some (by kernel_rfl))
 f258:=Tryz.func94.trans (congrArg some (by kernel_rfl))
 f302:=Tryz.func138.trans (congrArg some (by kernel_rfl))
 f303:=Tryz.func139.trans (congrArg some (by kernel_rfl))
 f304:=Tryz.func140.trans (congrArg some (by kernel_rfl))
 f305:=Tryz.func141.trans (congrArg some (by kernel_rfl))
 f306:=Tryz.func142.trans (congrArg some (by kernel_rfl))
 f307:=Tryz.func143.trans (congrArg some (by kernel_rfl))
 f308:=Tryz.func144.trans (congrArg some (by kernel_rfl))
 f309:=Tryz.func145.trans (congrArg some (by kernel_rfl))
 f310:=Tryz.func146.trans (congrArg some (by kernel_rfl))
 f329:=Tryz.func153.trans (congrArg some (by kernel_rfl))
 f330:=Tryz.func154.trans (congrArg some (by kernel_rfl))
 f333:=Tryz.func180.trans (congrArg some (by kernel_rfl))
 f334:=Tryz.func181.trans (congrArg some (by kernel_rfl))
 f335:=Tryz.func182.trans (congrArg some (by kernel_rfl))
 f336:=Tryz.func183.trans (congrArg some (by kernel_rfl))
 f344:=Tryz.func209.trans (congrArg some (by kernel_rfl))
 t0:=Tryz.underlying0
 a0:=Tryz.isAgg0
 z0:=Tryz.sizeOf0
 v0:=Tryz.zeroValue0
 t3:=Tryz.underlying3
 a3:=Tryz.isAgg3
 z3:=Tryz.sizeOf3
 v3:=Tryz.zeroValue3
 t4:=Tryz.underlying4
 a4:=Tryz.isAgg4
 z4:=Tryz.sizeOf4
 v4:=Tryz.zeroValue4
 t5:=Tryz.underlying5
 a5:=Tryz.isAgg5
 z5:=Tryz.sizeOf5
 v5:=Tryz.zeroValue5
 t9:=Tryz.underlying9
 a9:=Tryz.isAgg9
 z9:=Tryz.sizeOf9
 v9:=Tryz.zeroValue9
 t31:=Tryz.underlying57
 a31:=Tryz.isAgg57
 z31:=Tryz.sizeOf57
 v31:=Tryz.zeroValue57
 t46:=Tryz.underlying127
 a46:=Tryz.isAgg127
 z46:=Tryz.sizeOf127
 v46:=Tryz.zeroValue127
 t51:=Tryz.underlying171
 a51:=Tryz.isAgg171
 z51:=Tryz.sizeOf171
 v51:=Tryz.zeroValue171
 t53:=Tryz.underlying173
 a53:=Tryz.isAgg173
 z53:=Tryz.sizeOf173
 v53:=Tryz.zeroValue173
 t131:=Tryz.underlying111
 a131:=Tryz.isAgg111
 z131:=Tryz.sizeOf111
 v131:=Tryz.zeroValue111
 t182:=Tryz.underlying163
 a182:=Tryz.isAgg163
 z182:=Tryz.sizeOf163
 v182:=Tryz.zeroValue163
 t183:=Tryz.underlying164
 a183:=Tryz.isAgg164
 z183:=Tryz.sizeOf164
 v183:=Tryz.zeroValue164
 t218:=Tryz.underlying215
 a218:=Tryz.isAgg215
 z218:=Tryz.sizeOf215
 v218:=Tryz.zeroValue215
 t222:=Tryz.underlying219
 a222:=Tryz.isAgg219
 z222:=Tryz.sizeOf219
 v222:=Tryz.zeroValue219
 t228:=Tryz.underlying238
 a228:=Tryz.isAgg238
 z228:=Tryz.sizeOf238
 v228:=Tryz.zeroValue238
 t229:=Tryz.underlying95
 a229:=Tryz.isAgg95
 z229:=Tryz.sizeOf95
 v229:=Tryz.zeroValue95 }
open Dw Go.RowKit
set_option maxRecDepth 100000
theorem enters93 : ∀ vs w,(callFunc 93 vs).run Tryz.prog w = .ok (.enter 93 vs) w:=enters_of Tryz.func93 (by kernel_rfl) rfl
theorem join_glue (c : UInt8) : ∀ xs : List Bs,Lib.join xs [c] = Paths.glue c xs
 | []=>rfl
 | [x]=>Lib.join_one x [c]
 | x :: y :: r=>by
  have ih:=join_glue c (y :: r)
  rw [Lib.join_cons,Lib.joinTail] at ih ⊢
  rw [Paths.glue,← ih];simp
theorem c93 (st : List Bs) (c : UInt8) (h1 : st.length ≤ 2000000) (h2 : (Paths.glue c st).length ≤ 100000000) : Fn 93 [.fs (st.map .str),.str [c]] (.str (Paths.glue c st)):=by
 refine run_calls enters93 fun B W w s vs hw ha=>?_
 simp only [List.map_cons,List.map_nil,aVs,aC,cC,AV.isAgg] at ha
 obtain ⟨v,r,us,rfl,hv,⟨a,k0,rfl,hc,hmem⟩,v2,r2,us2,rfl,hv2,rfl,rfl⟩:=ha
 simp only [Bool.false_eq_true,if_false,List.cons.injEq,and_true] at hv hv2
 subst hv;subst hv2
 refine ⟨.string ⟨(Paths.glue c st).toArray⟩,fun w'=>⟨[.string ⟨(Paths.glue c st).toArray⟩],rfl,rfl⟩,?_⟩
 rw [List.length_map] at hc ⊢
 cases hst : st with
 | nil=>
  subst hst
  refine (Any.strings_Join_none lays156 builder156 a k0 ⟨#[c]⟩ w).mono ?_
  rintro e w' ⟨h,rfl⟩
  exact ⟨h,Below.refl _ _⟩
 | cons x0 r0=>
  obtain ⟨b,o,k,rfl,hS,hk,hels⟩:=hmem (by rw [hst];simp)
  rw [cEls_iff] at hels
  have hk1 : k = 1:=by
   obtain ⟨us,e1,e2,_⟩:=hels 0 (.str x0) (by rw [hst];rfl)
   simp only [cC] at e2
   rw [e2] at e1;simp at e1;exact e1.symm
  subst hk1
  have hxs : (st.map fun s=>(⟨s.toArray⟩ : ByteArray)).map (fun z=>z.data.toList) = st:=by
   rw [List.map_map];simp [Function.comp_def]
  have:=Any.strings_Join lays156 builder156 b o k0 (st.map fun s=>(⟨s.toArray⟩ : ByteArray)) ⟨#[c]⟩ w (fun j x hx=>by
   rw [List.getElem?_map] at hx
   cases hj : st[j]? with
   | none=>rw [hj] at hx;cases hx
   | some y=>
    rw [hj] at hx;cases hx
    obtain ⟨us,_,e2,e3⟩:=hels j (.str y) (by rw [List.getElem?_map,hj];rfl)
    simp only [cC] at e2
    subst e2
    rw [Nat.mul_one] at e3
    exact e3.1) (hw.stab b hS) (by rw [List.length_map];omega) (by rw [List.length_map];exact hc) (by
     rw [hxs]
     have : (⟨#[c]⟩ : ByteArray).data.toList = [c]:=rfl
     rw [this,join_glue];omega)
  rw [hxs,List.length_map] at this
  have e0 : (⟨#[c]⟩ : ByteArray).data.toList = [c]:=rfl
  rw [e0,join_glue] at this
  rw [← hst]
  exact this
def sortB (l : List Bs) : List Bs:=l.mergeSort fun x y=>decide (x ≤ y)
theorem sortB_length (l : List Bs) : (sortB l).length = l.length:=List.length_mergeSort _
theorem sortB_nil : sortB [] = []:=by simp [sortB]
theorem sortB_one (x : Bs) : sortB [x] = [x]:=by simp [sortB]
theorem enters58 : ∀ vs w,(callFunc 58 vs).run Tryz.prog w = .ok (.enter 58 vs) w:=enters_of Tryz.func58 (by kernel_rfl) rfl
theorem c58 (l : List Bs) (h0 : l ≠ []) (hl : l.length < 2000000) (c : Option Nat) (more : List AV) :
  Run Tryz.prog 58 [.sl 0 0 l.length 1 c] [{ elems:=l.map (fun x=>.d (.str x)) ++ more,k:=1,st:=0 }] (.tup []) [{ elems:=(sortB l).map (fun x=>.d (.str x)) ++ more,k:=1,st:=0 }]:=
 run_sortG encStr D.str (fun _ _ x us=>str_aC x us) enters58 l (sortB l) (sortB_length l) h0 (fun blk off cap w hH hb=>Any.slices_Sort_string lays190 blk off cap l w hH hb (by omega)) c more
theorem c58n : Run Tryz.prog 58 [.sl 0 0 0 1 none] [⟨[],1,0⟩] (.tup []) [⟨[],1,0⟩]:=
 run_calls enters58 fun B W w s vs hw ha=>by
  simp only [aVs] at ha
  obtain ⟨v,r,us,rfl,h2,h3,rfl⟩:=ha
  obtain ⟨a,c,rfl,_⟩:=aV_sl.1 ⟨us,h2,h3⟩
  refine ⟨.tuple #[],fun w'=>aV_one rfl (by simp [aC,aVs]),(Any.slices_Sort_string_none lays190 a c w).mono ?_⟩
  rintro e w' ⟨h,rfl⟩
  exact ⟨h,Below.refl _ _⟩
theorem c58r (l : List Bs) (hl : l.length < 2000000) : Run Tryz.prog 58 (.sl 0 0 l.length 1 none :: ([] : List D).map .d) [⟨(l.map D.str).map .d,1,0⟩] (.tup []) [⟨((sortB l).map D.str).map .d,1,0⟩]:=by
 by_cases h0 : l = []
 ·subst h0;rw [sortB_nil];exact c58n
 ·have:=c58 l h0 hl none []
  simpa [List.map_map,Function.comp_def] using this
end Go.Proofs.YtkmhnaojgkcjoaaGreatDoor
namespace Go.Proofs.YtkmhnaojgkcjoaaGreatDoor
open Go Dw
set_option maxRecDepth 10000
def g177 : List D → Option D
 | [.str s,.int .u8 c]=>frcI (Lib.indexByte s c.toNat.toUInt8) fun n=>some (i n)
 | _=>none
def g167 : List D → Option D
 | [.str s,.int .u8 c]=>frcN (Lib.countByte s c.toNat.toUInt8) fun n=>some (i n)
 | _=>none
def strsOf : List D → Option (List Bs)
 | []=>some []
 | .str s :: l=>(match strsOf l with
  | some r=>some (s :: r)
  | none=>none)
 | _=>none
theorem strsOf_ok : ∀ {l : List D} {r : List Bs},strsOf l = some r → l = r.map .str
 | [],r,h=>by simp only [strsOf,Option.some.injEq] at h;subst h;rfl
 | x :: l,r,h=>by
  cases x<;>simp only [strsOf,reduceCtorEq] at h
  split at h
  ·rename_i r' hr;cases h;rw [strsOf_ok hr];rfl
  ·cases h
def g88 : List D → Option D
 | [.fs l,.str [c]]=>(match strsOf l with
  | some r=>if decide (r.length ≤ 100000 ∧ (Paths.glue c r).length ≤ 100000) then some (.str (Paths.glue c r)) else none
  | none=>none)
 | _=>none
def orc27 (f : Nat) : Option Orc:=if Nat.beq f 243 then some (.fn g177) else if Nat.beq f 250 then some (.fn g167) else if Nat.beq f 93 then some (.fn g88) else none
theorem horc27 : OrcOk Tryz.prog orc27:=by
 intro f o h
 unfold orc27 at h
 split at h
 ·rename_i h1;cases h;rw [Nat.eq_of_beq_eq_true h1]
  intro xs y e
  unfold g177 at e
  split at e
  ·rw [frcI_eq] at e;cases e;exact c243 _ _
  ·cases e
 split at h
 ·rename_i h1;cases h;rw [Nat.eq_of_beq_eq_true h1]
  intro xs y e
  unfold g167 at e
  split at e
  ·rw [frcN_eq] at e;cases e;exact c250 _ _
  ·cases e
 split at h
 ·rename_i h1;cases h;rw [Nat.eq_of_beq_eq_true h1]
  intro xs y e
  unfold g88 at e
  split at e
  ·split at e
   ·rename_i r hr
    split at e
    ·rename_i h2;cases e;rw [strsOf_ok hr]
     have:=of_decide_eq_true h2
     exact c93 r _ (by omega) (by omega)
    ·cases e
   ·cases e
  ·cases e
 ·cases h
theorem names_ok : Tryz.prog.funcs.toList.all (fun fn => !(fn.name == "runtime.NumGoroutine")) = true := by kernel_rfl
end Go.Proofs.YtkmhnaojgkcjoaaGreatDoor
namespace Go.Proofs.YtkmhnaojgkcjoaaGreatDoor
open Go Dw
set_option maxRecDepth 10000
attribute [local irreducible] Run
set_option maxHeartbeats 4000000
open Paths
abbrev u8 (b : UInt8) : D:=.int .u8 b.toNat
def within (n lo hi : Int) : Bool:=decide (lo ≤ n) && decide (n ≤ hi)
theorem firstE_nil : firstE [] = 0:=rfl
theorem firstE_cons (e : Int) (l : List Int) : firstE (e :: l) = if e = 0 then firstE l else e:=rfl
theorem firstE_drop (l : List Int) (k : Nat) (h : k < l.length) : firstE (l.drop k) = if l[k] = 0 then firstE (l.drop (k + 1)) else l[k]:=by
 rw [List.drop_eq_getElem_cons h];rfl
theorem indexByte_eq (c : UInt8) : ∀ s : Bs,Lib.indexByte s c = if c ∈ s then (s.idxOf c : Int) else -1
 | []=>rfl
 | b :: s=>by
  have ih:=indexByte_eq c s
  rw [Lib.indexByte,ih,List.idxOf_cons]
  by_cases h : b = c
  ·subst h;simp
  ·have h2 : (b == c) = false:=by simp [h]
   rw [h2]
   simp only [Bool.false_eq_true,if_false,cond_false]
   by_cases h3 : c ∈ s
   ·have h4 : c ∈ b :: s:=by simp [h3]
    have h5 : ((s.idxOf c : Int) == -1) = false:=by rw [beq_eq_false_iff_ne];omega
    rw [if_pos h3,if_pos h4,h5];rfl
   ·have h4 : ¬ c ∈ b :: s:=by
     intro m
     rcases List.mem_cons.1 m with m | m
     ·exact h m.symm
     ·exact h3 m
    rw [if_neg h3,if_neg h4];rfl
def badAt : Bs → Nat → Int
 | [],_=>-1
 | b :: l,k=>if legalByte b = true then badAt l (k + 1) else (k : Int)
theorem badAt_drop {l : Bs} {k : Nat} (h : k < l.length) : badAt (l.drop k) k = if legalByte l[k] = true then badAt (l.drop (k + 1)) (k + 1) else (k : Int):=by
 rw [List.drop_eq_getElem_cons h];rfl
theorem badAt_end {l : Bs} {k : Nat} (h : l.length ≤ k) : badAt (l.drop k) k = -1:=by
 rw [List.drop_eq_nil_of_le h];rfl
theorem badAt_all : ∀ (l : Bs) (k : Nat),(!decide (0 ≤ badAt l k)) = l.all legalByte
 | [],k=>rfl
 | b :: l,k=>by
  have ih:=badAt_all l (k + 1)
  rw [badAt,List.all_cons,← ih]
  by_cases h : legalByte b = true
  ·rw [if_pos h,h,Bool.true_and]
  ·rw [if_neg h];simp [h]
theorem legal_iff (b : UInt8) : legalByte b = (decide ((32 : Int) ≤ b.toNat) && (decide ((b.toNat : Int) ≤ 126) && decide (Lib.indexByte refused (b.toNat : Int).toNat.toUInt8 < 0))):=by
 rw [show (b.toNat : Int).toNat.toUInt8 = b by simp,indexByte_eq]
 unfold legalByte
 rw [← Bool.and_assoc]
 congr 1
 ·congr 1<;>rw [decide_eq_decide]<;>omega
 ·by_cases h : b ∈ refused
  ·rw [if_pos h];simp [h]
  ·rw [if_neg h];simp [h]
def legalN (s : Bs) : Bool:=!decide (s = []) && (decide (s.length ≤ 32) && (s.all legalByte && (!decide (s = [46,46]) && (!decide (s.getLast? = some 32) && !decide (s.getLast? = some 46)))))
theorem nameErr_eq (s : Bs) : nameErr s = firstE [if decide (s.length ≤ 32) = true then 0 else 8,if legalN s = true then 0 else 4]:=by
 unfold nameErr legalN
 simp only [firstE_cons,firstE_nil,decide_eq_true_eq]
 by_cases h : 32 < s.length
 ·have h' : ¬ s.length ≤ 32:=by omega
  simp [h,h']
 ·have h' : s.length ≤ 32:=by omega
  rw [if_neg h, if_pos h', if_pos rfl]
  by_cases h1 : s = []
  ·subst h1;simp
  ·by_cases h2 : s = [46]
   ·subst h2;decide
   ·by_cases h3 : s = [46,46]
    ·subst h3;decide
    ·by_cases h4 : s.getLast? = some 32
     ·simp [h4]
     ·by_cases h5 : s.getLast? = some 46
      ·simp [h5]
      ·have hd : dots s = false:=by unfold dots;simp [h2,h3]
       cases ha : s.all legalByte<;>simp [h1,hd,h3,h4,h5,h']
theorem suffix1 (s : Bs) (c : UInt8) (h : 1 ≤ s.length) : decide (s.drop (s.length - 1) = [c]) = decide (s.getLast? = some c):=by
 rw [decide_eq_decide]
 rcases List.eq_nil_or_concat s with rfl | ⟨l,x,rfl⟩
 ·simp at h
 ·simp
attribute [local irreducible] legalN nameErr
theorem c17 (n lo hi : Int) : Fn 17 [i n,i lo,i hi] (.bool (within n lo hi)):=by
 refine run_walkF eok Tryz.func17 rfl (by kernel_rfl) ?_
 conv=>whnf
 repeat' (first
 | ((with_reducible refine on_dec (fun h=>?_) (fun h=>?_))<;>(try simp only [List.length_map] at h)<;>conv=>whnf)
 | ((with_reducible refine endx_go ?_);first | (exact endx (congrArg D.bool (by simp [within, *]));done))
  | fail
  )
theorem c112 (a : Bool) (e : Int) : Fn 112 [.bool a,i e] (i (if a then 0 else e)):=by
 refine run_walkF eok Tryz.func112 rfl (by kernel_rfl) ?_
 conv=>whnf
 repeat' (first
 | ((with_reducible refine onBool_split (fun h=>?_) (fun h=>?_))<;>conv=>whnf)
 | ((with_reducible refine endx_go ?_);first | (exact endx (congrArg i (by simp [h]));done))
  | fail
  )
theorem c166 (a : Bool) (e : Int) : Fn 166 [.bool a,i e] (i (if a then 0 else e)):=by
 refine run_walkF eok Tryz.func166 rfl (by kernel_rfl) ?_
 conv=>whnf
 repeat' (first
 | ((with_reducible refine onBool_split (fun h=>?_) (fun h=>?_))<;>conv=>whnf)
 | ((with_reducible refine endx_go ?_);first | (exact endx (congrArg i (by simp [h]));done))
  | fail
  )
theorem c111 (l : List Int) (hl : l.length < 2000000) : Fn 111 [.fs (l.map i)] (i (firstE l)):=by
 refine run_walkF eok Tryz.func111 rfl (by kernel_rfl) ?_
 conv=>whnf
 repeat' (first
 | ((with_reducible refine on_dec (fun h=>?_) (fun h=>?_))<;>(try simp only [List.length_map] at h)<;>conv=>whnf)
 | ((with_reducible refine on_ndec (fun h=>?_) (fun h=>?_))<;>(try simp only [List.length_map] at h)<;>conv=>whnf)
 | ((with_reducible refine loop_go ?_);first | (refine loop1 (fun (k : Nat)=>l.length - k) (fun (k : Nat)=>k ≤ l.length ∧ firstE l = firstE (l.drop k)) (fun (k : Nat)=>[(5,.d (.fs (l.map i))),(6,.d (i l.length)),(7,.d (i k))]) (fun (k : Nat)=>[]) (0) (by first | (simp;done) ) ?_ (fun k C hI hC=>?_);(exact ⟨[],rfl,rfl,⟨(by first | (show (_ : D) = _;with_reducible rfl) ),(by first | exact congrArg (D.int .i64) (by simp only [List.length_map]) ),(by first | exact congrArg (D.int .i64) (by omega) ),trivial⟩,trivial⟩);all_goals (conv=>whnf)))
 | ((with_reducible show C _ _);first | (refine hC (k + 1) _ _ ?_ (by omega) ?_;clear hC;rotate_left;(exact ⟨[],rfl,rfl,⟨(by first | (show (_ : D) = _;with_reducible rfl) ),(by first | (show (_ : D) = _;with_reducible rfl) ),(by first | exact congrArg (D.int .i64) (by omega) ),trivial⟩,trivial⟩);(exact ⟨by omega,by rw [hI.2,firstE_drop _ _ (by omega),if_pos h]⟩)))
 | (refine ix_map (by omega) ?_;conv=>whnf)
 | (refine wrap64 (by omega) ?_;conv=>whnf)
 | ((with_reducible refine endx_go ?_);first | (exact endx (congrArg i (by rw [hI.2,firstE_drop _ _ (by omega),if_neg h]));done) | (exact endx (congrArg i (by rw [hI.2,List.drop_eq_nil_of_le (by omega),firstE_nil]));done))
  | fail
  )
theorem c165 (l : List Int) (hl : l.length < 2000000) : Fn 165 [.fs (l.map i)] (i (firstE l)):=by
 refine run_walkF eok Tryz.func165 rfl (by kernel_rfl) ?_
 conv=>whnf
 repeat' (first
 | ((with_reducible refine on_dec (fun h=>?_) (fun h=>?_))<;>(try simp only [List.length_map] at h)<;>conv=>whnf)
 | ((with_reducible refine on_ndec (fun h=>?_) (fun h=>?_))<;>(try simp only [List.length_map] at h)<;>conv=>whnf)
 | ((with_reducible refine loop_go ?_);first | (refine loop1 (fun (k : Nat)=>l.length - k) (fun (k : Nat)=>k ≤ l.length ∧ firstE l = firstE (l.drop k)) (fun (k : Nat)=>[(5,.d (.fs (l.map i))),(6,.d (i l.length)),(7,.d (i k))]) (fun (k : Nat)=>[]) (0) (by first | (simp;done) ) ?_ (fun k C hI hC=>?_);(exact ⟨[],rfl,rfl,⟨(by first | (show (_ : D) = _;with_reducible rfl) ),(by first | exact congrArg (D.int .i64) (by simp only [List.length_map]) ),(by first | exact congrArg (D.int .i64) (by omega) ),trivial⟩,trivial⟩);all_goals (conv=>whnf)))
 | ((with_reducible show C _ _);first | (refine hC (k + 1) _ _ ?_ (by omega) ?_;clear hC;rotate_left;(exact ⟨[],rfl,rfl,⟨(by first | (show (_ : D) = _;with_reducible rfl) ),(by first | (show (_ : D) = _;with_reducible rfl) ),(by first | exact congrArg (D.int .i64) (by omega) ),trivial⟩,trivial⟩);(exact ⟨by omega,by rw [hI.2,firstE_drop _ _ (by omega),if_pos h]⟩)))
 | (refine ix_map (by omega) ?_;conv=>whnf)
 | (refine wrap64 (by omega) ?_;conv=>whnf)
 | ((with_reducible refine endx_go ?_);first | (exact endx (congrArg i (by rw [hI.2,firstE_drop _ _ (by omega),if_neg h]));done) | (exact endx (congrArg i (by rw [hI.2,List.drop_eq_nil_of_le (by omega),firstE_nil]));done))
  | fail
  )
theorem c234 (s : Bs) (c : Int) : Fn 234 [.str s,.int .u8 c] (i (Lib.indexByte s c.toNat.toUInt8)):=by
 refine run_walkF eok Tryz.func234 rfl (by kernel_rfl) ?_
 conv=>whnf
 repeat' (first
 | ((with_reducible refine call_go ?_);(first | refine call_step (run_view (c243 _ _) rfl rfl) ?_);conv=>whnf)
 | ((with_reducible refine endx_go ?_);first | (exact endx rfl;done))
  | fail
  )
theorem c216 (s : Bs) (c : Int) : Fn 216 [.str s,.int .u8 c] (i (Lib.indexByte s c.toNat.toUInt8)):=by
 refine run_walkF eok Tryz.func216 rfl (by kernel_rfl) ?_
 conv=>whnf
 repeat' (first
 | ((with_reducible refine call_go ?_);(first | refine call_step (run_view (c234 _ _) rfl rfl) ?_);conv=>whnf)
 | ((with_reducible refine endx_go ?_);first | (exact endx rfl;done))
  | fail
  )
theorem c194 (b : UInt8) : Fn 194 [u8 b] (.bool (legalByte b)):=by
 refine run_walkF eok Tryz.func194 rfl (by kernel_rfl) ?_
 conv=>whnf
 repeat' (first
 | ((with_reducible refine on_dec (fun h=>?_) (fun h=>?_))<;>(try simp only [List.length_map] at h)<;>conv=>whnf)
 | ((with_reducible refine call_go ?_);(first | refine call_step (run_view (c216 _ _) rfl rfl) ?_);conv=>whnf)
 | ((with_reducible refine endx_go ?_);first | (refine endx (congrArg D.bool ?_);rw [legal_iff];simp_all [refused];done;done) | (refine endx (congrArg D.bool ?_);rw [legal_iff];simp_all [refused];intros;omega;done))
  | fail
  )
theorem c215 (b : UInt8) : Fn 215 [u8 b,.fp (.fn 194 [] []) 0] (.bool (!legalByte b)):=by
 refine run_walkF eok Tryz.func215 rfl (by kernel_rfl) ?_
 conv=>whnf
 repeat' (first
 | ((with_reducible refine call_go ?_);(first | refine call_step (run_view (c194 _) rfl rfl) ?_);conv=>whnf)
 | ((with_reducible refine endx_go ?_);first | (exact endx rfl;done))
  | fail
  )
theorem c233 (s : Bs) (hs : s.length < 2000000) : Fn 233 [.fs (s.map u8),.fn 215 [] [.fp (.fn 194 [] []) 0]] (i (badAt s 0)):=by
 refine run_walkF eok Tryz.func233 rfl (by kernel_rfl) ?_
 conv=>whnf
 repeat' (first
 | ((with_reducible refine on_dec (fun h=>?_) (fun h=>?_))<;>(try simp only [List.length_map] at h)<;>conv=>whnf)
 | ((with_reducible refine on_not (fun h=>?_) (fun h=>?_))<;>conv=>whnf)
 | ((with_reducible refine call_go ?_);(first | refine call_step (run_view (c215 _) rfl rfl) ?_);conv=>whnf)
 | ((with_reducible refine loop_go ?_);first | (refine loop1 (fun (k : Nat)=>s.length - k) (fun (k : Nat)=>k ≤ s.length ∧ badAt s 0 = badAt (s.drop k) k) (fun (k : Nat)=>[(0,.d (.fs (s.map u8))),(1,.d (.fn 215 [] [.fp (.fn 194 [] []) 0])),(7,.d (i s.length)),(8,.d (i k))]) (fun (k : Nat)=>[]) (0) (by first | (simp;done) ) ?_ (fun k C hI hC=>?_);(exact ⟨[],rfl,rfl,⟨(by first | (show (_ : D) = _;with_reducible rfl) ),(by first | (show (_ : D) = _;with_reducible rfl) ),(by first | exact congrArg (D.int .i64) (by simp only [List.length_map]) ),(by first | exact congrArg (D.int .i64) (by omega) ),trivial⟩,trivial⟩);all_goals (conv=>whnf)))
 | ((with_reducible show C _ _);first | (refine hC (k + 1) _ _ ?_ (by omega) ?_;clear hC;rotate_left;(exact ⟨[],rfl,rfl,⟨(by first | (show (_ : D) = _;with_reducible rfl) ),(by first | (show (_ : D) = _;with_reducible rfl) ),(by first | (show (_ : D) = _;with_reducible rfl) ),(by first | exact congrArg (D.int .i64) (by omega) ),trivial⟩,trivial⟩);(exact ⟨by omega,by rw [hI.2,badAt_drop (by omega),if_pos (by simpa using h)]⟩)))
 | (refine ix_map (by omega) ?_;conv=>whnf)
 | (refine wrap64 (by omega) ?_;conv=>whnf)
 | ((with_reducible refine endx_go ?_);first | (exact endx (congrArg i (by rw [hI.2,badAt_drop (by omega),if_neg (by simpa using h)]));done) | (exact endx (congrArg i (by rw [hI.2,badAt_end (by omega)]));done))
  | fail
  )
theorem c214 (s : Bs) (hs : s.length < 2000000) : Fn 214 [.fs (s.map u8),.fn 215 [] [.fp (.fn 194 [] []) 0]] (.bool (decide (0 ≤ badAt s 0))):=by
 refine run_walkF eok Tryz.func214 rfl (by kernel_rfl) ?_
 conv=>whnf
 repeat' (first
 | ((with_reducible refine call_go ?_);(first | refine call_step (run_view (c233 s hs) rfl rfl) ?_);conv=>whnf)
 | ((with_reducible refine endx_go ?_);first | (exact endx rfl;done))
  | fail
  )
theorem c193 (s : Bs) (hs : s.length < 2000000) : Fn 193 [.str s,.fn 194 [] []] (.bool (s.all legalByte)):=by
 refine run_walkF eok Tryz.func193 rfl (by kernel_rfl) ?_
 conv=>whnf
 repeat' (first
 | ((with_reducible refine call_go ?_);(first | refine call_step (run_view (c214 s hs) rfl (vl2 (view_bytes rfl (by decide)) rfl)) ?_);conv=>whnf)
 | ((with_reducible refine endx_go ?_);first | (exact endx (congrArg D.bool (badAt_all s 0));done))
  | fail
  )
theorem c217 (s : Bs) (c : UInt8) (hs : s.length < 2000000) : Fn 217 [.str s,.str [c]] (.bool (decide (s.getLast? = some c))):=by
 refine run_walkF eok Tryz.func217 rfl (by kernel_rfl) ?_
 conv=>whnf
 repeat' (first
 | ((with_reducible refine on_dec (fun h=>?_) (fun h=>?_))<;>(try simp only [List.length_map] at h)<;>conv=>whnf)
 | (refine wrap64 (by omega) ?_;conv=>whnf)
 | (refine sl_str (s.length - 1) s.length (by simp only [List.length_cons,List.length_nil] at h ⊢;omega) (by omega) (by omega) ?_;conv=>whnf)
 | ((with_reducible refine endx_go ?_);first | (exact endx (congrArg D.bool (by rw [List.take_length];exact suffix1 s c (by simp only [List.length_cons,List.length_nil] at h;omega)));done) | (exact endx (congrArg D.bool (by have h0 : s.length = 0:=(by simp only [List.length_cons,List.length_nil] at h;omega);rw [List.length_eq_zero_iff] at h0;subst h0;rfl));done))
  | fail
  )
theorem c195 (s : Bs) (c : UInt8) (hs : s.length < 2000000) : Fn 195 [.str s,.str [c]] (.bool (decide (s.getLast? = some c))):=by
 refine run_walkF eok Tryz.func195 rfl (by kernel_rfl) ?_
 conv=>whnf
 repeat' (first
 | ((with_reducible refine call_go ?_);(first | refine call_step (run_view (c217 s _ hs) rfl rfl) ?_);conv=>whnf)
 | ((with_reducible refine endx_go ?_);first | (exact endx rfl;done))
  | fail
  )
theorem c167 (s : Bs) (hs : s.length < 2000000) : Fn 167 [.str s] (.bool (legalN s)):=by
 refine run_walkF eok Tryz.func167 rfl (by kernel_rfl) ?_
 conv=>whnf
 repeat' (first
 | ((with_reducible refine on_dec (fun h=>?_) (fun h=>?_))<;>(try simp only [List.length_map] at h)<;>conv=>whnf)
 | ((with_reducible refine on_ndec (fun h=>?_) (fun h=>?_))<;>(try simp only [List.length_map] at h)<;>conv=>whnf)
 | ((with_reducible refine on_not (fun h=>?_) (fun h=>?_))<;>conv=>whnf)
 | ((with_reducible refine onBool_split (fun h=>?_) (fun h=>?_))<;>conv=>whnf)
 | ((with_reducible refine call_go ?_);(first | refine call_step (run_view (c193 s (by omega)) rfl rfl) ?_ | refine call_step (run_view (c195 s _ hs) rfl rfl) ?_);conv=>whnf)
 | ((with_reducible refine endx_go ?_);first | (exact endx (congrArg D.bool (by unfold legalN;grind));done))
  | fail
  )
theorem c123 (s : Bs) (hs : s.length < 2000000) : Fn 123 [.str s] (i (nameErr s)):=by
 refine run_walkF eok Tryz.func123 rfl (by kernel_rfl) ?_
 conv=>whnf
 repeat' (first
 | ((with_reducible refine call_go ?_);(first | refine call_step (run_view (c166 _ _) rfl rfl) ?_ | refine call_step (run_view (c167 s hs) rfl rfl) ?_ | refine call_step (run_view (c165 [_,_] (by simp)) rfl rfl) ?_ );conv=>whnf)
 | ((with_reducible refine endx_go ?_);first | (exact endx (congrArg i (by rw [nameErr_eq,show decide ((s.length : Int) ≤ 32) = decide (s.length ≤ 32) by rw [decide_eq_decide];omega]));done))
  | fail
  )
end Go.Proofs.YtkmhnaojgkcjoaaGreatDoor
namespace Go.Proofs.YtkmhnaojgkcjoaaGreatDoor
open Go Dw
set_option maxRecDepth 10000
attribute [local irreducible] Run
set_option maxHeartbeats 4000000
open Paths
attribute [local irreducible] nameErr
def upTab : Bs:=(List.range 128).map fun n=>upper n.toUInt8
theorem upTab_len : upTab.length = 128:=rfl
theorem upTab_get {b : UInt8} (h : b.toNat < 128) (h2 : b.toNat < upTab.length) : upTab[b.toNat] = upper b:=by
 have : upTab[b.toNat]? = some (upper b):=by
  unfold upTab
  rw [List.getElem?_map,List.getElem?_range h];simp
 rw [List.getElem?_eq_getElem h2] at this
 exact Option.some.inj this
def tbU (k : Nat) : Bs:=(List.range k).map (fun n=>upper n.toUInt8) ++ List.replicate (128 - k) 0
theorem tbU_len {k : Nat} (h : k ≤ 128) : (tbU k).length = 128:=by unfold tbU;simp;omega
theorem tbU_set {k : Nat} {b : UInt8} (h : k < 128) (hb : b = upper k.toUInt8) : (tbU k).set k b = tbU (k + 1):=by
 subst hb
 have e : List.replicate (128 - k) (0 : UInt8) = 0 :: List.replicate (128 - (k + 1)) 0:=by
  rw [show 128 - k = (128 - (k + 1)) + 1 by omega];rfl
 unfold tbU
 rw [e,List.set_append_right _ _ (by simp),List.range_succ]
 simp
theorem tbU_lo : ∀ k < 128,¬ (97 ≤ k ∧ k ≤ 122) → k.toUInt8 = upper k.toUInt8:=by decide +kernel
theorem tbU_hi : ∀ k < 128,97 ≤ k → k ≤ 122 → (k - 97 + 65).toUInt8 = upper k.toUInt8:=by decide +kernel
theorem tbU_end : tbU 128 = upTab:=by unfold tbU upTab;simp
theorem u8_of {k : Nat} (h : k < 256) {z : Int} (hz : z = k) : (D.int .u8 z) = u8 k.toUInt8:=by
 subst hz
 show D.int .u8 _ = D.int .u8 _
 congr 1
 simp
 omega
theorem set_u8 {l : Bs} {n k : Nat} {z : Int} (hn : n = k) (hk : k < 128) {K : List AV → Prop} (c : Nat) (hc : c < 256) (hz : z = c) (h : K (((l.set k c.toUInt8).map u8).map .d)) : setK ((l.map u8).map AV.d) n (.d (.int .u8 z)) K:=by
 subst hn
 refine setK_of ?_
 rw [u8_of hc hz]
 have : ((l.map u8).map AV.d).set n (.d (u8 c.toUInt8)) = ((l.set n c.toUInt8).map u8).map .d:=by rw [List.map_set,List.map_set]
 rw [this];exact h
theorem wrap_c {k : IntKind} {x : Int} {K : Int → Prop} (h : K (k.wrap x)) : wrapK k x K:=by rw [wrapK_eq];exact h
theorem u8_wrap {x : Int} {c : Nat} (hx : x = c) (hc : c < 256) : IntKind.u8.wrap x = c:=by subst hx;exact IntWalk.u8_in _ (by omega)
section
attribute [local irreducible] tbU
theorem c191 : Fn 191 [] (.str upTab):=by
 have hlu:=fun k (h : k ≤ 128)=>tbU_len h
 refine run_walkF eok Tryz.func191 rfl (by kernel_rfl) ?_
 conv=>whnf
 repeat' (first
 | ((with_reducible refine on_dec (fun h=>?_) (fun h=>?_))<;>(try simp only [List.length_map] at h)<;>conv=>whnf)
 | ((with_reducible refine loop_go ?_);first | (refine loop1 (fun (k : Nat)=>128 - k) (fun (k : Nat)=>k ≤ 128) (fun (k : Nat)=>[(1,.sl 0 0 128 1 (some 128)),(5,.d (i 128)),(6,.d (i k))]) (fun (k : Nat)=>[⟨((tbU k).map u8).map .d,1,0⟩]) (0) (by exact Nat.zero_le _) ?_ (fun k C hI hC=>?_);(exact ⟨[.old 0],rfl,rfl,⟨(by first | exact ⟨rfl,rfl,rfl,rfl,rfl⟩ ),(by first | exact congrArg (D.int .i64) (by omega) ),(by first | exact congrArg (D.int .i64) (by omega) ),trivial⟩,⟨⟨rfl,rfl,.inl ⟨((tbU 0).map u8),(by unfold tbU;rfl),rfl⟩⟩,trivial⟩⟩);all_goals (conv=>whnf)))
 | ((with_reducible show C _ _);first | (refine hC (k + 1) _ _ ?_ (by omega) ?_;clear hC;rotate_left;(exact ⟨[.old 0],rfl,rfl,⟨(by first | exact ⟨rfl,rfl,rfl,rfl,rfl⟩ ),(by first | (show (_ : D) = _;with_reducible rfl) ),(by first | exact congrArg (D.int .i64) (by omega) ),trivial⟩,⟨⟨rfl,rfl,.inl ⟨_,(by rw [tbU_set (by omega) (tbU_lo k (by omega) (by omega))]),rfl⟩⟩,trivial⟩⟩);(exact by omega)) | (refine hC (k + 1) _ _ ?_ (by omega) ?_;clear hC;rotate_left;(exact ⟨[.old 0],rfl,rfl,⟨(by first | exact ⟨rfl,rfl,rfl,rfl,rfl⟩ ),(by first | (show (_ : D) = _;with_reducible rfl) ),(by first | exact congrArg (D.int .i64) (by omega) ),trivial⟩,⟨⟨rfl,rfl,.inl ⟨_,(by rw [List.set_set,tbU_set (by omega) (tbU_hi k (by omega) (by omega) (by omega))]),rfl⟩⟩,trivial⟩⟩);(exact by omega)))
 | (refine wrap64 (by omega) ?_;conv=>whnf)
 | (refine nthK_rowi (l:=tbU k) k (by omega) (by rw [hlu k hI];omega) ?_;conv=>whnf)
 | (refine nthK_rowi (l:=(tbU k).set k k.toUInt8) k (by omega) (by rw [List.length_set,hlu k hI];omega) ?_;conv=>whnf)
 | (refine ⟨⟨by decide,by decide,by decide,by decide⟩,?_⟩;conv=>whnf)
 | (refine ⟨⟨by omega,by omega⟩,?_⟩;conv=>whnf)
 | (refine set_u8 (k:=k) (by omega) (by omega) k (by omega) (u8_wrap rfl (by omega)) ?_;conv=>whnf)
 | (refine set_u8 (k:=k) (by omega) (by omega) (k - 97 + 65) (by omega) (u8_wrap (by omega) (by omega)) ?_;conv=>whnf)
 | (refine wrap_c ?_;conv=>whnf)
 | (refine ⟨tbU 128,⟨(by rw [List.length_map,List.length_map];rw [hlu k hI];omega),(by rw [show k = 128 by omega,List.drop_zero,List.take_of_length_le (by simp only [List.length_map];rw [tbU_len (by omega)];omega),List.map_map];rfl)⟩,?_⟩;conv=>whnf)
 | ((with_reducible refine endx_go ?_);first | (exact endx (congrArg D.str tbU_end);done))
  | fail
  )
end
def upd (s : Bs) (k : Nat) : Bs:=(s.take k).map upper ++ s.drop k
theorem upd_len (s : Bs) (k : Nat) : (upd s k).length = s.length:=by
 unfold upd;rw [List.length_append,List.length_map,List.length_take,List.length_drop];omega
theorem upd_zero (s : Bs) : upd s 0 = s:=rfl
theorem upd_get {s : Bs} {k : Nat} (h : k < s.length) (h2 : k < (upd s k).length) : (upd s k)[k] = s[k]:=by
 have e : ((s.take k).map upper).length = k:=by rw [List.length_map,List.length_take];omega
 have : (upd s k)[k]? = some s[k]:=by
  unfold upd
  rw [List.getElem?_append_right (by omega),e,Nat.sub_self,List.getElem?_drop,Nat.add_zero,List.getElem?_eq_getElem h]
 rw [List.getElem?_eq_getElem h2] at this
 exact Option.some.inj this
theorem upd_set {s : Bs} {k : Nat} (h : k < s.length) : (upd s k).set k (upper s[k]) = upd s (k + 1):=by
 unfold upd
 have e : ((s.take k).map upper).length = k:=by rw [List.length_map,List.length_take];omega
 rw [List.set_append_right _ _ (by omega),e,Nat.sub_self,List.drop_eq_getElem_cons h,List.set_cons_zero,List.take_succ_eq_append_getElem h,List.map_append,List.append_assoc]
 rfl
theorem upd_end (s : Bs) {k : Nat} (h : s.length ≤ k) : upd s k = s.map upper:=by
 unfold upd;rw [List.take_of_length_le h,List.drop_eq_nil_of_le h,List.append_nil]
theorem legal_low {s : Bs} (h : nameErr s = 0) : ∀ b ∈ s,b.toNat < 128:=by
 intro b hb
 unfold nameErr at h
 split at h
 ·cases h
 ·split at h
  ·cases h
  ·split at h
   ·rename_i h3
    have:=List.all_eq_true.1 h3 b hb
    unfold legalByte at this
    simp only [Bool.and_eq_true,decide_eq_true_eq] at this
    omega
   ·cases h
theorem upd_tab {s : Bs} (hb : ∀ b ∈ s,b.toNat < 128) (k : Nat) (h : k < s.length) (h1 : k < (upd s k).length) (h2 : (upd s k)[k].toNat < upTab.length) : (upd s k).set k upTab[(upd s k)[k].toNat] = upd s (k + 1):=by
 have e:=upd_get h h1
 have e2 : upTab[(upd s k)[k].toNat] = upper s[k]:=by
  rw [upTab_get (by rw [e];exact hb _ (List.getElem_mem _)),e]
 rw [e2,upd_set h]
theorem c192 (s : Bs) (hs : s.length < 2000000) (hb : ∀ b ∈ s,b.toNat < 128) : Fn 192 [.str upTab,.str s] (.str (s.map upper)):=by
 have hlu:=upd_len s;have hix : ∀ k : Nat,0 + ((k : Int)).toNat = k:=(fun k=>by omega);have hset:=upd_tab hb
 refine run_walkF eok Tryz.func192 rfl (by kernel_rfl) ?_
 conv=>whnf
 repeat' (first
 | ((with_reducible refine on_dec (fun h=>?_) (fun h=>?_))<;>(try simp only [List.length_map] at h)<;>conv=>whnf)
 | ((with_reducible refine loop_go ?_);first | (refine loop1 (fun (k : Nat)=>s.length - k) (fun (k : Nat)=>k ≤ s.length) (fun (k : Nat)=>[(0,.d (.str upTab)),(5,.sl 0 0 s.length 1 none),(10,.sl 0 0 s.length 1 none),(11,.d (i s.length)),(12,.d (i k))]) (fun (k : Nat)=>[⟨((upd s k).map u8).map .d,1,0⟩]) (0) (by exact Nat.zero_le _) ?_ (fun k C hI hC=>?_);(exact ⟨[.old 0],rfl,rfl,⟨(by first | (show (_ : D) = _;with_reducible rfl) ),(by first | exact ⟨rfl,rfl,rfl,rfl,rfl⟩ ),(by first | exact ⟨rfl,rfl,rfl,rfl,rfl⟩ ),(by first | (show (_ : D) = _;with_reducible rfl) ),(by first | exact congrArg (D.int .i64) (by omega) ),trivial⟩,⟨⟨rfl,rfl,.inl ⟨_,(by rw [upd_zero,List.map_map];rfl),rfl⟩⟩,trivial⟩⟩);all_goals (conv=>whnf)))
 | ((with_reducible show C _ _);first | (refine hC (k + 1) _ _ ?_ (by omega) ?_;clear hC;rotate_left;(exact ⟨[.old 0],rfl,rfl,⟨(by first | (show (_ : D) = _;with_reducible rfl) ),(by first | exact ⟨rfl,rfl,rfl,rfl,rfl⟩ ),(by first | exact ⟨rfl,rfl,rfl,rfl,rfl⟩ ),(by first | (show (_ : D) = _;with_reducible rfl) ),(by first | exact congrArg (D.int .i64) (by omega) ),trivial⟩,⟨⟨rfl,rfl,.inl ⟨_,(by rw [hix,set_row,hset _ (by omega)]),rfl⟩⟩,trivial⟩⟩);(exact (by omega : k + 1 ≤ s.length))))
 | (refine wrap64 (by omega) ?_;conv=>whnf)
 | (refine nthK_rowi (l:=upd s k) k (by omega) (by rw [hlu];omega) ?_;conv=>whnf)
 | (refine ix_str (by rw [upTab_len,upd_get (by omega)];exact hb _ (List.getElem_mem _)) ?_;conv=>whnf)
 | (refine setK_of ?_;conv=>whnf)
 | (refine ⟨⟨by omega,by omega⟩,?_⟩;conv=>whnf)
 | (refine ⟨upd s k,⟨(by simp only [List.length_map,hlu];omega),(by rw [List.drop_zero,List.take_of_length_le (by simp only [List.length_map,hlu];omega),List.map_map];rfl)⟩,?_⟩;conv=>whnf)
 | ((with_reducible refine endx_go ?_);first | (exact endx (congrArg D.str (by rw [upd_end s (by omega)]));done))
  | fail
  )
theorem c164 (s : Bs) (hs : s.length < 2000000) (h0 : nameErr s = 0) : Fn 164 [.str s] (.tup [.str (fold s),i 0]):=by
 refine run_walkF eok Tryz.func164 rfl (by kernel_rfl) ?_
 conv=>whnf
 repeat' (first
 | ((with_reducible refine on_ndec_t (by first | assumption ) ?_);conv=>whnf)
 | ((with_reducible refine call_go ?_);(first | refine call_step (run_view (c123 s hs) rfl rfl) ?_ | refine call_step (run_view c191 rfl rfl) ?_ | refine call_step (run_view (c192 s hs (legal_low (by assumption))) rfl rfl) ?_);conv=>whnf)
 | ((with_reducible refine endx_go ?_);first | (exact endx2 rfl;done))
  | fail
  )
theorem c164n (s : Bs) (hs : s.length < 2000000) (h0 : ¬ nameErr s = 0) : Fn 164 [.str s] (.tup [.str [],i (nameErr s)]):=by
 refine run_walkF eok Tryz.func164 rfl (by kernel_rfl) ?_
 conv=>whnf
 repeat' (first
 | ((with_reducible refine on_ndec_f (by assumption) ?_);conv=>whnf)
 | ((with_reducible refine call_go ?_);(first | refine call_step (run_view (c123 s hs) rfl rfl) ?_ );conv=>whnf)
 | ((with_reducible refine endx_go ?_);first | (exact endx2 rfl;done))
  | fail
  )
theorem not_take {s : Bs} {c : UInt8} {k : Nat} (h : c ∉ s.take k) (hk : k < s.length) (e : s[k] ≠ c) : c ∉ s.take (k + 1):=by
 rw [List.take_succ_eq_append_getElem hk]
 intro m
 rcases List.mem_append.1 m with m | m
 ·exact h m
 ·rw [List.mem_singleton] at m;exact e m.symm
theorem u8_inj {a b : UInt8} (h : (a.toNat : Int) = (b.toNat : Int)) : a = b:=UInt8.toNat_inj.1 (by omega)
theorem c150 (c : UInt8) (s : Bs) (hs : s.length < 2000000) : Fn 150 [u8 c,.str s] (.bool (s.contains c)):=by
 refine run_walkF eok Tryz.func150 rfl (by kernel_rfl) ?_
 conv=>whnf
 repeat' (first
 | ((with_reducible refine on_dec (fun h=>?_) (fun h=>?_))<;>(try simp only [List.length_map] at h)<;>conv=>whnf)
 | ((with_reducible refine loop_go ?_);first | (refine loop1 (fun (k : Nat)=>s.length - k) (fun (k : Nat)=>k ≤ s.length ∧ c ∉ s.take k) (fun (k : Nat)=>[(0,.d (u8 c)),(1,.d (.str s)),(5,.d (i k))]) (fun (k : Nat)=>[]) (0) (by first | (simp;done) ) ?_ (fun k C hI hC=>?_);(exact ⟨[],rfl,rfl,⟨(by first | (show (_ : D) = _;with_reducible rfl) ),(by first | (show (_ : D) = _;with_reducible rfl) ),(by first | exact congrArg (D.int .i64) (by omega) ),trivial⟩,trivial⟩);all_goals (conv=>whnf)))
 | ((with_reducible show C _ _);first | (refine hC (k + 1) _ _ ?_ (by omega) ?_;clear hC;rotate_left;(exact ⟨[],rfl,rfl,⟨(by first | (show (_ : D) = _;with_reducible rfl) ),(by first | (show (_ : D) = _;with_reducible rfl) ),(by first | exact congrArg (D.int .i64) (by omega) ),trivial⟩,trivial⟩);(exact ⟨by omega,not_take hI.2 (by omega) (by intro e;apply h;rw [e])⟩)))
 | (refine ix_str (by omega) ?_;conv=>whnf)
 | (refine wrap64 (by omega) ?_;conv=>whnf)
 | ((with_reducible refine endx_go ?_);first | (refine endx (congrArg D.bool ?_);have e:=u8_inj h;symm;rw [List.contains_iff_mem];rw [← e];exact List.getElem_mem _;done) | (refine endx (congrArg D.bool ?_);have:=hI.2;rw [List.take_of_length_le (by omega)] at this;symm;simpa using this;done))
  | fail
  )
theorem all_take {p : UInt8 → Bool} {s : Bs} {k : Nat} (h : (s.take k).all p = true) (hk : k < s.length) (e : p s[k] = true) : (s.take (k + 1)).all p = true:=by
 rw [List.take_succ_eq_append_getElem hk,List.all_append,h];simp [e]
theorem legal2 (b : UInt8) : legalByte b = (within b.toNat 32 126 && !refused.contains b):=by
 unfold legalByte within
 congr 1;congr 1<;>rw [decide_eq_decide]<;>omega
theorem legal_t {b : UInt8} (h : within b.toNat 32 126 = true) (h2 : refused.contains b = false) : legalByte b = true:=by rw [legal2,h,h2];rfl
theorem legal_f1 {b : UInt8} (h : within b.toNat 32 126 = false) : legalByte b = false:=by rw [legal2,h];rfl
theorem legal_f2 {b : UInt8} (h2 : refused.contains b = true) : legalByte b = false:=by rw [legal2,h2];simp
theorem nameErr_bad {s : Bs} {k : Nat} (h32 : ¬ ((32 : Int) < s.length)) (hk : k < s.length) (h : legalByte s[k] = false) : nameErr s = 4:=by
 have h9 : s.all legalByte = false:=by rw [List.all_eq_false];exact ⟨s[k],List.getElem_mem _,by simp [h]⟩
 unfold nameErr
 rw [if_neg (by omega)]
 split
 ·rfl
 ·rw [h9];rfl
theorem ix_last {s : Bs} {K : UInt8 → Prop} (h : s ≠ []) (hk : K (s.getLast h)) : 0 ≤ (s.length : Int) - 1 ∧ nthK s ((s.length : Int) - 1).toNat K:=by
 have hp:=List.length_pos_iff.2 h
 refine ⟨by omega,nthK_of (x:=s.getLast h) ?_ hk⟩
 rw [List.getLast_eq_getElem,List.getElem?_eq_getElem (by omega)]
 congr 2;omega
theorem last_is {s : Bs} (h : s ≠ []) (c : UInt8) (n : Int) (e : n = c.toNat) : ((s.getLast h).toNat : Int) = n ↔ s.getLast? = some c:=by
 subst e
 rw [List.getLast?_eq_some_getLast h,Option.some.injEq]
 exact ⟨u8_inj,fun e=>by rw [e]⟩
attribute [local irreducible] legalByte within
theorem c98a (s : Bs) (hs : s.length < 2000000) (h0 : s ≠ []) : Fn 98 [.str s] (i (nameErr s)):=by
 have e1:=last_is h0 32 32 rfl;have e2:=last_is h0 46 46 rfl
 refine run_walkF eok Tryz.func98 rfl (by kernel_rfl) ?_
 conv=>whnf
 repeat' (first
 | ((with_reducible refine on_dec (fun h=>?_) (fun h=>?_))<;>(try simp only [List.length_map] at h)<;>conv=>whnf)
 | ((with_reducible refine on_not (fun h=>?_) (fun h=>?_))<;>conv=>whnf)
 | ((with_reducible refine onBool_split (fun h=>?_) (fun h=>?_))<;>conv=>whnf)
 | ((with_reducible refine call_go ?_);(first | refine call_step (run_view (c17 _ _ _) rfl rfl) ?_ | refine call_step (run_view (c150 _ _ (by decide)) rfl rfl) ?_);conv=>whnf)
 | ((with_reducible refine loop_go ?_);first | (refine loop1 (fun (k : Nat)=>s.length - k) (fun (k : Nat)=>k ≤ s.length ∧ (s.take k).all legalByte = true) (fun (k : Nat)=>[(0,.d (.str s)),(3,.d (i k))]) (fun (k : Nat)=>[]) (0) (by first | (simp;done) ) ?_ (fun k C hI hC=>?_);(exact ⟨[],rfl,rfl,⟨(by first | (show (_ : D) = _;with_reducible rfl) ),(by first | exact congrArg (D.int .i64) (by omega) ),trivial⟩,trivial⟩);all_goals (conv=>whnf)))
 | ((with_reducible show C _ _);first | (refine hC (k + 1) _ _ ?_ (by omega) ?_;clear hC;rotate_left;(exact ⟨[],rfl,rfl,⟨(by first | (show (_ : D) = _;with_reducible rfl) ),(by first | exact congrArg (D.int .i64) (by omega) ),trivial⟩,trivial⟩);(exact ⟨by omega,all_take hI.2 (by omega) (legal_t (by assumption) h)⟩)))
 | (refine ix_str (by omega) ?_;conv=>whnf)
 | (refine wrap64 (by omega) ?_;conv=>whnf)
 | (refine ix_last h0 ?_;conv=>whnf)
 | (refine wrap64u8 ?_;conv=>whnf)
 | ((with_reducible refine endx_go ?_);first | (exact absurd (of_decide_eq_true h) h0;done) | (refine endx (congrArg i ?_);exact (nameErr_bad (by omega) (by omega) (legal_f1 h)).symm;done) | (refine endx (congrArg i ?_);exact (nameErr_bad (by omega) (by omega) (legal_f2 h)).symm;done) | (refine endx (congrArg i ?_);unfold nameErr dots;simp_all;done;done) | (refine endx (congrArg i ?_);unfold nameErr dots;grind;done))
  | fail
  )
theorem c98b : Fn 98 [.str []] (i (nameErr [])):=by
 refine run_walkF eok Tryz.func98 rfl (by kernel_rfl) ?_
 conv=>whnf
 repeat' (first
 | ((with_reducible refine endx_go ?_);first | (exact endx (congrArg i (by unfold nameErr;rfl));done) )
  | fail
  )
theorem c98 (s : Bs) (hs : s.length < 2000000) : Fn 98 [.str s] (i (nameErr s)):=by
 by_cases h : s = []
 ·subst h;exact c98b
 ·exact c98a s hs h
theorem c185 (s : Bs) : Fn 185 [.str s] (.bool (dots s)):=by
 refine run_walkF eok Tryz.func185 rfl (by kernel_rfl) ?_
 conv=>whnf
 repeat' (first
 | ((with_reducible refine on_dec (fun h=>?_) (fun h=>?_))<;>(try simp only [List.length_map] at h)<;>conv=>whnf)
 | ((with_reducible refine endx_go ?_);first | (refine endx (congrArg D.bool ?_);(unfold dots;simp_all;done);done))
  | fail
  )
theorem c230 (s : Bs) : Fn 230 [.str s] (.bool (dots s)):=by
 refine run_walkF eok Tryz.func230 rfl (by kernel_rfl) ?_
 conv=>whnf
 repeat' (first
 | ((with_reducible refine on_dec (fun h=>?_) (fun h=>?_))<;>(try simp only [List.length_map] at h)<;>conv=>whnf)
 | ((with_reducible refine endx_go ?_);first | (refine endx (congrArg D.bool ?_);(unfold dots;simp_all;done);done))
  | fail
  )
theorem own_bytes (l : Bs) : 0 + l.length ≤ ((l.map u8).map AV.d).length ∧ (((l.map u8).map AV.d).drop 0).take l.length = l.map byteV:=by
 refine ⟨by simp only [List.length_map];omega,?_⟩
 rw [List.drop_zero,List.take_of_length_le (by simp only [List.length_map];omega),List.map_map];rfl
theorem upT_succ {s : Bs} {k : Nat} (h : k < s.length) : (s.take (k + 1)).map upper = (s.take k).map upper ++ [upper s[k]]:=by
 rw [List.take_succ_eq_append_getElem h,List.map_append];rfl
theorem upT_len (s : Bs) (k : Nat) (h : k ≤ s.length) : ((s.take k).map upper).length = k:=by rw [List.length_map,List.length_take];omega
theorem up_in {b : UInt8} (h : within b.toNat 97 122 = true) : u8 (upper b) = .int .u8 ((b.toNat : Int) - 97 + 65):=by
 unfold within at h
 simp only [Bool.and_eq_true,decide_eq_true_eq] at h
 unfold upper
 rw [if_pos (by omega)]
 have e:=UInt8.toNat_sub_of_le b 32 (by rw [UInt8.le_iff_toNat_le];show 32 ≤ b.toNat;omega)
 show D.int .u8 ((b - 32).toNat : Int) = _
 rw [e];congr 1;show ((b.toNat - 32 : Nat) : Int) = _;omega
theorem up_out {b : UInt8} (h : within b.toNat 97 122 = false) : u8 (upper b) = u8 b:=by
 unfold within at h
 unfold upper
 rw [if_neg]
 intro hc
 have : (decide ((97 : Int) ≤ b.toNat) && decide ((b.toNat : Int) ≤ 122)) = true:=by
  simp only [Bool.and_eq_true,decide_eq_true_eq];omega
 rw [h] at this;cases this
theorem c97 (s : Bs) (hs : s.length < 2000000) : Fn 97 [.str s] (.str (fold s)):=by
 have hut:=upT_len s
 refine run_walkF eok Tryz.func97 rfl (by kernel_rfl) ?_
 conv=>whnf
 repeat' (first
 | ((with_reducible refine on_dec_f ?_ ?_);(focus ((try simp only [List.length_map,List.length_cons,List.length_nil,List.length_append]);omega));conv=>whnf)
 | ((with_reducible refine on_dec (fun h=>?_) (fun h=>?_))<;>(try simp only [List.length_map] at h)<;>conv=>whnf)
 | ((with_reducible refine onBool_split (fun h=>?_) (fun h=>?_))<;>conv=>whnf)
 | ((with_reducible refine call_go ?_);(first | refine call_step (run_view (c17 _ _ _) rfl rfl) ?_);conv=>whnf)
 | ((with_reducible refine loop_go ?_);first | (refine loop1 (fun (k : Nat)=>s.length - k) (fun (k : Nat)=>k ≤ s.length) (fun (k : Nat)=>[(0,.d (.str s)),(3,.sl 0 0 ((s.take k).map upper).length 1 none),(4,.d (i k))]) (fun (k : Nat)=>[⟨(((s.take k).map upper).map u8).map .d,1,0⟩]) (0) (by exact Nat.zero_le _) ?_ (fun k C hI hC=>?_);(exact ⟨[.void 1],rfl,rfl,⟨rfl,⟨rfl,rfl,rfl,rfl⟩,rfl,trivial⟩,⟨⟨rfl,rfl,(by decide),rfl⟩,trivial⟩⟩);all_goals (conv=>whnf)))
 | ((with_reducible show C _ _);first | (refine hC (k + 1) _ _ ?_ (by omega) ?_;clear hC;rotate_left;(exact ⟨[.old 2],rfl,rfl,⟨(by first | (show (_ : D) = _;with_reducible rfl) ),⟨rfl,rfl,(by rw [hut k (by omega),hut (k + 1) (by omega)];rfl),rfl,rfl⟩,(by first | exact congrArg (D.int .i64) (by omega) ),trivial⟩,⟨⟨rfl,rfl,.inr (by rw [upT_succ (by omega)];exact wks_add (wksd _ _) (by first | exact (up_in h).symm | exact (up_out h).symm))⟩,trivial⟩⟩);(exact (by omega : k + 1 ≤ s.length))))
 | (refine ix_str (by omega) ?_;conv=>whnf)
 | (refine wrap64 (by omega) ?_;conv=>whnf)
 | (refine ⟨Nat.le_refl _,?_⟩;conv=>whnf)
 | (refine ⟨⟨(by simp only [List.length_map,List.length_append];omega),cap_ok (by have:=List.length_take_le k s;simp only [List.length_map,List.length_cons,List.length_nil,List.length_append];omega) rfl⟩,?_⟩;conv=>whnf)
 | (refine ⟨_,own_bytes _,?_⟩;conv=>whnf)
 | (refine wrap64u8 ?_;conv=>whnf)
 | (refine wrapU8 (by unfold within at h;simp only [Bool.and_eq_true,decide_eq_true_eq] at h;omega) ?_;conv=>whnf)
 | ((with_reducible refine endx_go ?_);first | (refine endx (congrArg D.str ?_);(rw [List.take_of_length_le (by omega)];rfl);done))
  | fail
  )
theorem c147 (a b : Bs) (ha : a.length < 2000000) (hb : b.length < 2000000) : Fn 147 [.str a,.str b] (.bool (decide (fold a = fold b))):=by
 refine run_walkF eok Tryz.func147 rfl (by kernel_rfl) ?_
 conv=>whnf
 repeat' (first
 | ((with_reducible refine call_go ?_);(first | refine call_step (run_view (c97 _ (by omega)) rfl rfl) ?_);conv=>whnf)
 | ((with_reducible refine endx_go ?_);first | (exact endx rfl;done))
  | fail
  )
attribute [local irreducible] cut
theorem c184 (s : Bs) (c : UInt8) (hs : s.length < 2000000) : Fn 184 [.str s,u8 c] (.fs ((cut c s).map .str)):=by
 refine run_walkF eok Tryz.func184 rfl (by kernel_rfl) ?_
 conv=>whnf
 repeat' (first
 | ((with_reducible refine on_dec_f ?_ ?_);(focus ((try simp only [List.length_map,List.length_cons,List.length_nil,List.length_append]);omega));conv=>whnf)
 | ((with_reducible refine on_dec (fun h=>?_) (fun h=>?_))<;>(try simp only [List.length_map] at h)<;>conv=>whnf)
 | ((with_reducible refine loop_go ?_);first | (refine loop3 (fun (out : List Bs) (a : Nat) (k : Nat)=>s.length - k) (fun (out : List Bs) (a : Nat) (k : Nat)=>k ≤ s.length ∧ a ≤ k ∧ out.length ≤ k ∧ CutI c s out a k) (fun (out : List Bs) (a : Nat) (k : Nat)=>[(0,.d (.str s)),(1,.d (u8 c)),(5,.sl 0 0 out.length 1 none),(6,.d (i a)),(7,.d (i k))]) (fun (out : List Bs) (a : Nat) (k : Nat)=>[⟨(out.map D.str).map .d,1,0⟩]) ([]) (0) (0) (by exact ⟨Nat.zero_le _,Nat.le_refl _,Nat.le_refl _,CutI.zero _ _⟩) ?_ (fun out a k C hI hC=>?_);(exact ⟨[.void 1],rfl,rfl,⟨rfl,rfl,⟨rfl,rfl,rfl,rfl⟩,rfl,rfl,trivial⟩,⟨⟨rfl,rfl,(by decide),rfl⟩,trivial⟩⟩);all_goals (conv=>whnf)))
 | ((with_reducible show C _ _);first | (refine hC (out ++ [(s.take k).drop a]) (k + 1) (k + 1) _ _ ?_ (by omega) ?_;clear hC;rotate_left;(exact ⟨[.old 2],rfl,rfl,⟨(by first | (show (_ : D) = _;with_reducible rfl) ),(by first | (show (_ : D) = _;with_reducible rfl) ),⟨rfl,rfl,(by simp),rfl,rfl⟩,(by first | exact congrArg (D.int .i64) (by omega) ),(by first | exact congrArg (D.int .i64) (by omega) ),trivial⟩,⟨⟨rfl,rfl,.inr (wks_add (wksd _ _) rfl)⟩,trivial⟩⟩);(exact ⟨by omega,by omega,by simp;omega,hI.2.2.2.hit (by omega) (u8_inj h)⟩)) | (refine hC (out) (a) (k + 1) _ _ ?_ (by omega) ?_;clear hC;rotate_left;(exact ⟨[.old 0],rfl,rfl,⟨(by first | (show (_ : D) = _;with_reducible rfl) ),(by first | (show (_ : D) = _;with_reducible rfl) ),(by first | exact ⟨rfl,rfl,rfl,rfl,rfl⟩ ),(by first | (show (_ : D) = _;with_reducible rfl) ),(by first | exact congrArg (D.int .i64) (by omega) ),trivial⟩,⟨⟨rfl,rfl,.inr (wksd _ _)⟩,trivial⟩⟩);(exact ⟨by omega,by omega,by omega,hI.2.2.2.miss (by omega) (fun e=>h (by rw [e]))⟩)))
 | (refine ⟨⟨(by first | (simp;done)),cap_ok (by simp only [List.length_map,List.length_cons,List.length_nil,List.length_append];omega) rfl⟩,?_⟩;conv=>whnf)
 | (refine ix_str (by omega) ?_;conv=>whnf)
 | (refine wrap64 (by omega) ?_;conv=>whnf)
 | (refine sl_str a s.length (by omega) (by omega) (by omega) ?_;conv=>whnf)
 | (refine sl_str a k (by omega) (by omega) (by omega) ?_;conv=>whnf)
 | (refine ⟨Nat.le_refl _,?_⟩;conv=>whnf)
 | ((with_reducible refine endx_go ?_);first | (exact endxv (view_snoc rfl Nat.two_pos rfl) (congrArg D.fs (by rw [← hI.2.2.2.done (by omega)];simp));done))
  | fail
  )
end Go.Proofs.YtkmhnaojgkcjoaaGreatDoor
namespace Go.Proofs.YtkmhnaojgkcjoaaGreatDoor
open Go Dw
set_option maxRecDepth 10000
attribute [local irreducible] Run
set_option maxHeartbeats 4000000
open Paths
attribute [local irreducible] nameErr cut
def PPe (p : PP) : D:=.agg [.bool p.abs,.fs (p.parts.map .str),.str p.stream]
end Go.Proofs.YtkmhnaojgkcjoaaGreatDoor
namespace Go.Proofs.YtkmhnaojgkcjoaaGreatDoor
open Go Dw
set_option maxRecDepth 10000
attribute [local irreducible] Run
set_option maxHeartbeats 4000000
open Paths
attribute [local irreducible] nameErr cut
attribute [local irreducible] normal
end Go.Proofs.YtkmhnaojgkcjoaaGreatDoor
namespace Go.Proofs.YtkmhnaojgkcjoaaGreatDoor
open Go Dw
set_option maxRecDepth 10000
attribute [local irreducible] Run
set_option maxHeartbeats 4000000
open Paths
attribute [local irreducible] nameErr cut normal
theorem lastIx {l : List Bs} (h : l ≠ []) : l.length - 1 < l.length:=by have:=List.length_pos_iff.2 h;omega
theorem cut_one {c : UInt8} {x : Bs} : (cut c x).length ≤ 1 ↔ x.contains c = false:=by
 rw [cut_len]
 have:=List.count_eq_zero (a:=c) (l:=x)
 constructor
 ·intro h
  have : x.count c = 0:=by omega
  rw [List.count_eq_zero] at this;simpa using this
 ·intro h
  have h2 : ¬ c ∈ x:=by simpa using h
  rw [List.count_eq_zero.2 h2];exact Nat.le_refl _
theorem wp_take {l : List Bs} {k : Nat} (h : wellParts (l.take k) = true) (hk : k < l.length) (h1 : ¬ l[k] = []) (h2 : ¬ (1 : Int) < (cut 58 l[k]).length) : wellParts (l.take (k + 1)) = true:=by
 unfold wellParts at h ⊢
 rw [List.take_succ_eq_append_getElem hk,List.all_append,h]
 have:=cut_one (c:=58) (x:=l[k])
 have h3 : l[k].contains 58 = false:=this.1 (by omega)
 have h4 : ¬ 58 ∈ l[k]:=by simpa using h3
 simp [h1,h4]
theorem wp_bad {l : List Bs} {k : Nat} (hk : k < l.length) (h : l[k] = [] ∨ (1 : Int) < (cut 58 l[k]).length) : wellParts l = false:=by
 unfold wellParts
 rw [List.all_eq_false]
 refine ⟨l[k],List.getElem_mem _,?_⟩
 rcases h with h | h
 ·simp [h]
 ·have:=cut_one (c:=58) (x:=l[k])
  cases hc : l[k].contains 58
  ·have:=this.2 hc;omega
  ·have h4 : 58 ∈ l[k]:=by simpa using hc
   simp [h4]
theorem pe_drop {l : List Bs} {k : Nat} (hk : k < l.length) : firstE ((l.drop k).map partErr) = if partErr l[k] = 0 then firstE ((l.drop (k + 1)).map partErr) else partErr l[k]:=by
 rw [List.drop_eq_getElem_cons hk,List.map_cons,firstE_cons]
theorem pe_dots {x : Bs} (h : dots x = true) : partErr x = 0:=if_pos h
theorem pe_name {x : Bs} (h : dots x = false) : partErr x = nameErr x:=if_neg (by rw [h];decide)
theorem restOf_c (x : UInt8) (r : Bs) : restOf (x :: r) = if x = 47 then r else x :: r:=by
 unfold restOf
 by_cases h : x = 47
 ·rw [if_pos (by rw [h];rfl),if_pos h];rfl
 ·rw [if_neg (by simpa using h),if_neg h]
theorem isAbs_c (x : UInt8) (r : Bs) : isAbs (x :: r) = decide ((x.toNat : Int) = 47):=by
 unfold isAbs
 rw [decide_eq_decide]
 show some x = some 47 ↔ _
 constructor
 ·intro h;cases h;rfl
 ·intro h;rw [u8_inj (a:=x) (b:=47) (by rw [h];rfl)]
attribute [local irreducible] wellParts partErr restOf isAbs
theorem c184r (s : Bs) (c : UInt8) (l : List Bs) (hl : cut c s = l) (hs : s.length < 2000000) : Run Tryz.prog 184 [.d (.str s),.d (u8 c)] [] (.sl 0 0 l.length 1 none) [⟨(l.map D.str).map .d,1,0⟩]:=by
 refine run_walkV eok Tryz.func184 rfl (by kernel_rfl) [] (by rfl) [] ?_
 conv=>whnf
 repeat' (first
 | ((with_reducible refine on_dec_f ?_ ?_);(focus ((try simp only [List.length_map,List.length_cons,List.length_nil,List.length_append]);omega));conv=>whnf)
 | ((with_reducible refine on_dec (fun h=>?_) (fun h=>?_))<;>(try simp only [List.length_map] at h)<;>conv=>whnf)
 | ((with_reducible refine loop_go ?_);first | (refine loop3 (fun (out : List Bs) (a : Nat) (k : Nat)=>s.length - k) (fun (out : List Bs) (a : Nat) (k : Nat)=>k ≤ s.length ∧ a ≤ k ∧ out.length ≤ k ∧ CutI c s out a k) (fun (out : List Bs) (a : Nat) (k : Nat)=>[(0,.d (.str s)),(1,.d (u8 c)),(5,.sl 0 0 out.length 1 none),(6,.d (i a)),(7,.d (i k))]) (fun (out : List Bs) (a : Nat) (k : Nat)=>[⟨(out.map D.str).map .d,1,0⟩]) ([]) (0) (0) (by exact ⟨Nat.zero_le _,Nat.le_refl _,Nat.le_refl _,CutI.zero _ _⟩) ?_ (fun out a k C hI hC=>?_);(exact ⟨[.void 1],rfl,rfl,⟨rfl,rfl,⟨rfl,rfl,rfl,rfl⟩,rfl,rfl,trivial⟩,⟨⟨rfl,rfl,(by decide),rfl⟩,trivial⟩⟩);all_goals (conv=>whnf)))
 | ((with_reducible show C _ _);first | (refine hC (out ++ [(s.take k).drop a]) (k + 1) (k + 1) _ _ ?_ (by omega) ?_;clear hC;rotate_left;(exact ⟨[.old 2],rfl,rfl,⟨(by first | (show (_ : D) = _;with_reducible rfl) ),(by first | (show (_ : D) = _;with_reducible rfl) ),⟨rfl,rfl,(by simp),rfl,rfl⟩,(by first | exact congrArg (D.int .i64) (by omega) ),(by first | exact congrArg (D.int .i64) (by omega) ),trivial⟩,⟨⟨rfl,rfl,.inr (wks_add (wksd _ _) rfl)⟩,trivial⟩⟩);(exact ⟨by omega,by omega,by simp;omega,hI.2.2.2.hit (by omega) (u8_inj h)⟩)) | (refine hC (out) (a) (k + 1) _ _ ?_ (by omega) ?_;clear hC;rotate_left;(exact ⟨[.old 0],rfl,rfl,⟨(by first | (show (_ : D) = _;with_reducible rfl) ),(by first | (show (_ : D) = _;with_reducible rfl) ),(by first | exact ⟨rfl,rfl,rfl,rfl,rfl⟩ ),(by first | (show (_ : D) = _;with_reducible rfl) ),(by first | exact congrArg (D.int .i64) (by omega) ),trivial⟩,⟨⟨rfl,rfl,.inr (wksd _ _)⟩,trivial⟩⟩);(exact ⟨by omega,by omega,by omega,hI.2.2.2.miss (by omega) (fun e=>h (by rw [e]))⟩)))
 | (refine ⟨⟨(by first | (simp;done)),cap_ok (by simp only [List.length_map,List.length_cons,List.length_nil,List.length_append];omega) rfl⟩,?_⟩;conv=>whnf)
 | (refine ix_str (by omega) ?_;conv=>whnf)
 | (refine wrap64 (by omega) ?_;conv=>whnf)
 | (refine sl_str a s.length (by omega) (by omega) (by omega) ?_;conv=>whnf)
 | (refine sl_str a k (by omega) (by omega) (by omega) ?_;conv=>whnf)
 | (refine ⟨Nat.le_refl _,?_⟩;conv=>whnf)
 | ((with_reducible refine endx_go ?_);first | (refine endX_of (.inl ⟨[.old 2],rfl,rfl,⟨⟨rfl,rfl,?_,rfl,rfl⟩,trivial⟩,⟨⟨rfl,rfl,.inr ?_⟩,trivial⟩⟩);(focus (rw [← hl,← hI.2.2.2.done (by omega)];simp));rw [← hl,← hI.2.2.2.done (by omega)];exact wks_add (wksd _ _) (congrArg D.str (by rw [List.take_length]));done))
  | fail
  )
theorem set_str {l L : List Bs} {n m : Nat} {a : Bs} {K : List AV → Prop} (e : n = m) (hL : l.set m a = L) (hk : K ((L.map D.str).map .d)) : setK ((l.map D.str).map AV.d) n (.d (.str a)) K:=by
 subst e;subst hL
 rw [setK_eq,set_row];exact hk
def res (ab : Bool) (L : List Bs) (T : Bs) : PP × Int:=if wellParts L = false then (noPP,7) else if partsErr L T ≠ 0 then (noPP,partsErr L T) else (⟨ab,L,T⟩,0)
theorem wp_nil (l : List Bs) : wellParts (l.take 0) = true:=by rw [List.take_zero];unfold wellParts;rfl
theorem wp_end {l : List Bs} {k : Nat} (h : wellParts (l.take k) = true) (hk : ¬ ((k : Int) < l.length)) : wellParts l = true:=by
 rwa [List.take_of_length_le (by omega)] at h
theorem res_bad {ab : Bool} {L : List Bs} {T : Bs} (h : wellParts L = false) : D.tup [PPe noPP,i 7] = .tup [PPe (res ab L T).1,i (res ab L T).2]:=by
 unfold res;rw [if_pos h]
theorem res_err {ab : Bool} {L : List Bs} {T : Bs} {e : Int} (h : wellParts L = true) (h2 : partsErr L T = e) (h3 : ¬ e = 0) : D.tup [PPe noPP,i e] = .tup [PPe (res ab L T).1,i (res ab L T).2]:=by
 unfold res;rw [if_neg (by rw [h];decide),if_pos (by rw [h2];exact h3),h2]
theorem res_ok {ab : Bool} {L : List Bs} {T : Bs} (h : wellParts L = true) (h2 : partsErr L T = 0) : D.tup [PPe ⟨ab,L,T⟩,i 0] = .tup [PPe (res ab L T).1,i (res ab L T).2]:=by
 unfold res;rw [if_neg (by rw [h];decide),if_neg (by rw [h2];simp)]
theorem pe_part {L : List Bs} {T : Bs} {k : Nat} (hk : k < L.length) (hi : firstE (L.map partErr) = firstE ((L.drop k).map partErr)) (hd : dots L[k] = false) (hn : ¬ nameErr L[k] = 0) : partsErr L T = nameErr L[k]:=by
 unfold partsErr
 rw [hi,pe_drop hk,pe_name hd,if_neg hn,firstE_cons,if_neg hn]
theorem pe_parts {L : List Bs} {T : Bs} {k : Nat} (hk : ¬ ((k : Int) < L.length)) (hi : firstE (L.map partErr) = firstE ((L.drop k).map partErr)) : partsErr L T = firstE [if T = [] then 0 else nameErr T,if 16 < L.length then 8 else 0]:=by
 unfold partsErr
 rw [hi,List.drop_eq_nil_of_le (by omega),List.map_nil,firstE_nil,firstE_cons,if_pos rfl]
theorem pe_tail {L : List Bs} {T : Bs} (h : ¬ ((16 : Int) < L.length)) (hT : T = [] ∨ nameErr T = 0) : firstE [if T = [] then 0 else nameErr T,if 16 < L.length then 8 else 0] = 0:=by
 rw [if_neg (show ¬ 16 < L.length by omega)]
 rcases hT with hT | hT
 ·rw [if_pos hT];rfl
 ·rw [hT];simp [firstE_cons,firstE_nil]
theorem pe_tail_8 {L : List Bs} {T : Bs} (h : (16 : Int) < L.length) (hT : T = [] ∨ nameErr T = 0) : firstE [if T = [] then 0 else nameErr T,if 16 < L.length then 8 else 0] = 8:=by
 rw [if_pos (show 16 < L.length by omega)]
 rcases hT with hT | hT
 ·rw [if_pos hT];rfl
 ·rw [hT];simp [firstE_cons,firstE_nil]
theorem pe_tail_n {L : List Bs} {T : Bs} (hT : ¬ T = []) (hn : ¬ nameErr T = 0) : firstE [if T = [] then 0 else nameErr T,if 16 < L.length then 8 else 0] = nameErr T:=by
 rw [if_neg hT,firstE_cons,if_neg hn]
theorem set_small {l L : List Bs} {m : Nat} {a : Bs} (hL : l.set m a = L) (h : ∀ y ∈ l,y.length < 1000) (ha : a.length < 1000) : ∀ y ∈ L,y.length < 1000:=by
 intro y hy
 rw [← hL] at hy
 rcases List.mem_or_eq_of_mem_set hy with hy | rfl
 ·exact h y hy
 ·exact ha
theorem cut_small {c : UInt8} {s y : Bs} {l : List Bs} (h : cut c s = l) (hs : s.length < 1000) (hy : y ∈ l) : y.length < 1000:=by
 rw [← h] at hy
 have:=(cut_mem hy).2;omega
theorem rest_len (x : UInt8) (r : Bs) : (restOf (x :: r)).length ≤ r.length + 1:=by
 rw [restOf_c];split<;>simp
theorem c148at (x : UInt8) (r q : Bs) (l cs : List Bs) (hlen : r.length ≤ 199) (h47 : ¬ x :: r = [47]) (hq : restOf (x :: r) = q) (hl : cut 47 q = l) (hcs : cut 58 (l[l.length - 1]'(lastIx (by rw [← hl];exact cut_ne _ _))) = cs) (hx : (x.toNat : Int) = 47) (h2 : 2 < cs.length) : Fn 148 [.str (x :: r)] (.tup [PPe noPP,i 7]):=by
 have hl0 : 0 < l.length:=List.length_pos_iff.2 (by rw [← hl];exact cut_ne _ _);have hll : l.length < 1000:=(by rw [← hl,cut_len];have:=List.count_le_length (a:=47) (l:=q);have:=rest_len x r;rw [hq] at this;omega);have hpl : ∀ x ∈ l,x.length < 1000:=(by intro y hy;rw [← hl] at hy;have:=(cut_mem hy).2;have:=rest_len x r;rw [hq] at this;omega);have h97t : ((x :: r).take (r.length + 1)).drop 1 = q:=(by rw [← hq,restOf_c,if_pos (u8_inj (b:=47) hx)];simp);have hql : q.length ≤ 200:=(by have:=rest_len x r;rw [hq] at this;omega)
 refine run_walkF eok Tryz.func148 rfl (by kernel_rfl) ?_
 conv=>whnf
 repeat' (first
 | ((with_reducible refine on_dec_t (by assumption) ?_);conv=>whnf)
 | ((with_reducible refine on_dec_f (by assumption) ?_);conv=>whnf)
 | ((with_reducible refine on_dec_f ?_ ?_);(focus ((try simp only [List.length_map,List.length_cons,List.length_nil,List.length_append]);omega));conv=>whnf)
 | ((with_reducible refine on_dec_t ?_ ?_);(focus ((try simp only [List.length_map,List.length_cons,List.length_nil,List.length_append]);omega));conv=>whnf)
 | ((with_reducible refine call_go ?_);(first | refine call_step (run_new (l:=l) (c184r (((x :: r).take (r.length + 1)).drop 1) 47 l (by rw [h97t,hl]) (by rw [h97t];omega)) (fun _=>rfl) rfl) ?_ | refine call_step (run_new (l:=cs) (c184r (l[l.length - 1]'(by omega)) 58 cs hcs (by have:=hpl _ (List.getElem_mem (l:=l) (n:=l.length - 1) (by omega));omega)) (fun _=>rfl) rfl) ?_ );conv=>whnf)
 | (refine wrap64 (by omega) ?_;conv=>whnf)
 | (refine sl_str 1 (r.length + 1) (by omega) (by simp) (by simp) ?_;conv=>whnf)
 | (refine ⟨Int.le_refl 0,?_⟩;conv=>whnf)
 | (refine ⟨⟨by omega,by first | omega | (simp;done)⟩,?_⟩;conv=>whnf)
 | (refine nthK_rowi (l:=l) (l.length - 1) (by omega) (by omega) ?_;conv=>whnf)
 | ((with_reducible refine endx_go ?_);first | (exact endxv rfl rfl;done))
  | fail
  )
theorem c148bt (x : UInt8) (r q : Bs) (l : List Bs) (a b : Bs) (hlen : r.length ≤ 199) (h47 : ¬ x :: r = [47]) (hq : restOf (x :: r) = q) (hl : cut 47 q = l) (hcs : cut 58 (l[l.length - 1]'(lastIx (by rw [← hl];exact cut_ne _ _))) = [a,b]) (hx : (x.toNat : Int) = 47) (h2 : dots a = true) : Fn 148 [.str (x :: r)] (.tup [PPe noPP,i 7]):=by
 have hl0 : 0 < l.length:=List.length_pos_iff.2 (by rw [← hl];exact cut_ne _ _);have hll : l.length < 1000:=(by rw [← hl,cut_len];have:=List.count_le_length (a:=47) (l:=q);have:=rest_len x r;rw [hq] at this;omega);have hpl : ∀ x ∈ l,x.length < 1000:=(by intro y hy;rw [← hl] at hy;have:=(cut_mem hy).2;have:=rest_len x r;rw [hq] at this;omega);have h97t : ((x :: r).take (r.length + 1)).drop 1 = q:=(by rw [← hq,restOf_c,if_pos (u8_inj (b:=47) hx)];simp);have hql : q.length ≤ 200:=(by have:=rest_len x r;rw [hq] at this;omega)
 refine run_walkF eok Tryz.func148 rfl (by kernel_rfl) ?_
 conv=>whnf
 repeat' (first
 | ((with_reducible refine on_dec_t (by assumption) ?_);conv=>whnf)
 | ((with_reducible refine on_dec_f (by assumption) ?_);conv=>whnf)
 | ((with_reducible refine onBool_t (by assumption) ?_);conv=>whnf)
 | ((with_reducible refine on_dec_f ?_ ?_);(focus ((try simp only [List.length_map,List.length_cons,List.length_nil,List.length_append]);omega));conv=>whnf)
 | ((with_reducible refine call_go ?_);(first | refine call_step (run_new (l:=l) (c184r (((x :: r).take (r.length + 1)).drop 1) 47 l (by rw [h97t,hl]) (by rw [h97t];omega)) (fun _=>rfl) rfl) ?_ | refine call_step (run_new (l:=[a,b]) (c184r (l[l.length - 1]'(by omega)) 58 [a,b] hcs (by have:=hpl _ (List.getElem_mem (l:=l) (n:=l.length - 1) (by omega));omega)) (fun _=>rfl) rfl) ?_ | refine call_step (run_view (c185 _) rfl rfl) ?_);conv=>whnf)
 | (refine wrap64 (by omega) ?_;conv=>whnf)
 | (refine sl_str 1 (r.length + 1) (by omega) (by simp) (by simp) ?_;conv=>whnf)
 | (refine ⟨Int.le_refl 0,?_⟩;conv=>whnf)
 | (refine ⟨⟨by omega,by first | omega | (simp;done)⟩,?_⟩;conv=>whnf)
 | (refine nthK_rowi (l:=l) (l.length - 1) (by omega) (by omega) ?_;conv=>whnf)
 | ((with_reducible refine endx_go ?_);first | (exact endxv rfl rfl;done))
  | fail
  )
theorem c148ct (x : UInt8) (r q : Bs) (l : List Bs) (a b : Bs) (hlen : r.length ≤ 199) (h47 : ¬ x :: r = [47]) (hq : restOf (x :: r) = q) (hl : cut 47 q = l) (hcs : cut 58 (l[l.length - 1]'(lastIx (by rw [← hl];exact cut_ne _ _))) = [a,b]) (hx : (x.toNat : Int) = 47) (h2 : dots a = false) (h3 : b = []) : Fn 148 [.str (x :: r)] (.tup [PPe noPP,i 7]):=by
 have hl0 : 0 < l.length:=List.length_pos_iff.2 (by rw [← hl];exact cut_ne _ _);have hll : l.length < 1000:=(by rw [← hl,cut_len];have:=List.count_le_length (a:=47) (l:=q);have:=rest_len x r;rw [hq] at this;omega);have hpl : ∀ x ∈ l,x.length < 1000:=(by intro y hy;rw [← hl] at hy;have:=(cut_mem hy).2;have:=rest_len x r;rw [hq] at this;omega);have h97t : ((x :: r).take (r.length + 1)).drop 1 = q:=(by rw [← hq,restOf_c,if_pos (u8_inj (b:=47) hx)];simp);have hql : q.length ≤ 200:=(by have:=rest_len x r;rw [hq] at this;omega)
 refine run_walkF eok Tryz.func148 rfl (by kernel_rfl) ?_
 conv=>whnf
 repeat' (first
 | ((with_reducible refine on_dec_t (by assumption) ?_);conv=>whnf)
 | ((with_reducible refine on_dec_f (by assumption) ?_);conv=>whnf)
 | ((with_reducible refine onBool_f (by assumption) ?_);conv=>whnf)
 | ((with_reducible refine on_dec_f ?_ ?_);(focus ((try simp only [List.length_map,List.length_cons,List.length_nil,List.length_append]);omega));conv=>whnf)
 | ((with_reducible refine onBool_split (fun h=>?_) (fun h=>?_))<;>conv=>whnf)
 | ((with_reducible refine call_go ?_);(first | refine call_step (run_new (l:=l) (c184r (((x :: r).take (r.length + 1)).drop 1) 47 l (by rw [h97t,hl]) (by rw [h97t];omega)) (fun _=>rfl) rfl) ?_ | refine call_step (run_new (l:=[a,b]) (c184r (l[l.length - 1]'(by omega)) 58 [a,b] hcs (by have:=hpl _ (List.getElem_mem (l:=l) (n:=l.length - 1) (by omega));omega)) (fun _=>rfl) rfl) ?_ | refine call_step (run_view (c185 _) rfl rfl) ?_);conv=>whnf)
 | (refine ⟨[],[],(by decide +kernel),?_⟩;conv=>whnf)
 | (refine wrap64 (by omega) ?_;conv=>whnf)
 | (exact absurd h3 (of_decide_eq_false h))
 | (refine sl_str 1 (r.length + 1) (by omega) (by simp) (by simp) ?_;conv=>whnf)
 | (refine ⟨Int.le_refl 0,?_⟩;conv=>whnf)
 | (refine ⟨⟨by omega,by first | omega | (simp;done)⟩,?_⟩;conv=>whnf)
 | (refine nthK_rowi (l:=l) (l.length - 1) (by omega) (by omega) ?_;conv=>whnf)
 | ((with_reducible refine endx_go ?_);first | (exact endxv rfl rfl;done) )
  | fail
  )
theorem c148af (x : UInt8) (r q : Bs) (l cs : List Bs) (hlen : r.length ≤ 199) (h47 : ¬ x :: r = [47]) (hq : restOf (x :: r) = q) (hl : cut 47 q = l) (hcs : cut 58 (l[l.length - 1]'(lastIx (by rw [← hl];exact cut_ne _ _))) = cs) (hx : ¬ (x.toNat : Int) = 47) (h2 : 2 < cs.length) : Fn 148 [.str (x :: r)] (.tup [PPe noPP,i 7]):=by
 have hl0 : 0 < l.length:=List.length_pos_iff.2 (by rw [← hl];exact cut_ne _ _);have hll : l.length < 1000:=(by rw [← hl,cut_len];have:=List.count_le_length (a:=47) (l:=q);have:=rest_len x r;rw [hq] at this;omega);have hpl : ∀ x ∈ l,x.length < 1000:=(by intro y hy;rw [← hl] at hy;have:=(cut_mem hy).2;have:=rest_len x r;rw [hq] at this;omega);have h97f : x :: r = q:=(by rw [← hq,restOf_c,if_neg (fun e=>hx (by rw [e];rfl))]);have hql : q.length ≤ 200:=(by have:=rest_len x r;rw [hq] at this;omega)
 refine run_walkF eok Tryz.func148 rfl (by kernel_rfl) ?_
 conv=>whnf
 repeat' (first
 | ((with_reducible refine on_dec_f (by assumption) ?_);conv=>whnf)
 | ((with_reducible refine on_dec_f ?_ ?_);(focus ((try simp only [List.length_map,List.length_cons,List.length_nil,List.length_append]);omega));conv=>whnf)
 | ((with_reducible refine on_dec_t ?_ ?_);(focus ((try simp only [List.length_map,List.length_cons,List.length_nil,List.length_append]);omega));conv=>whnf)
 | ((with_reducible refine call_go ?_);(first | refine call_step (run_new (l:=l) (c184r (x :: r) 47 l (by rw [h97f,hl]) (by rw [h97f];omega)) (fun _=>rfl) rfl) ?_ | refine call_step (run_new (l:=cs) (c184r (l[l.length - 1]'(by omega)) 58 cs hcs (by have:=hpl _ (List.getElem_mem (l:=l) (n:=l.length - 1) (by omega));omega)) (fun _=>rfl) rfl) ?_ );conv=>whnf)
 | (refine wrap64 (by omega) ?_;conv=>whnf)
 | (refine ⟨Int.le_refl 0,?_⟩;conv=>whnf)
 | (refine ⟨⟨by omega,by first | omega | (simp;done)⟩,?_⟩;conv=>whnf)
 | (refine nthK_rowi (l:=l) (l.length - 1) (by omega) (by omega) ?_;conv=>whnf)
 | ((with_reducible refine endx_go ?_);first | (exact endxv rfl rfl;done))
  | fail
  )
theorem c148bf (x : UInt8) (r q : Bs) (l : List Bs) (a b : Bs) (hlen : r.length ≤ 199) (h47 : ¬ x :: r = [47]) (hq : restOf (x :: r) = q) (hl : cut 47 q = l) (hcs : cut 58 (l[l.length - 1]'(lastIx (by rw [← hl];exact cut_ne _ _))) = [a,b]) (hx : ¬ (x.toNat : Int) = 47) (h2 : dots a = true) : Fn 148 [.str (x :: r)] (.tup [PPe noPP,i 7]):=by
 have hl0 : 0 < l.length:=List.length_pos_iff.2 (by rw [← hl];exact cut_ne _ _);have hll : l.length < 1000:=(by rw [← hl,cut_len];have:=List.count_le_length (a:=47) (l:=q);have:=rest_len x r;rw [hq] at this;omega);have hpl : ∀ x ∈ l,x.length < 1000:=(by intro y hy;rw [← hl] at hy;have:=(cut_mem hy).2;have:=rest_len x r;rw [hq] at this;omega);have h97f : x :: r = q:=(by rw [← hq,restOf_c,if_neg (fun e=>hx (by rw [e];rfl))]);have hql : q.length ≤ 200:=(by have:=rest_len x r;rw [hq] at this;omega)
 refine run_walkF eok Tryz.func148 rfl (by kernel_rfl) ?_
 conv=>whnf
 repeat' (first
 | ((with_reducible refine on_dec_f (by assumption) ?_);conv=>whnf)
 | ((with_reducible refine onBool_t (by assumption) ?_);conv=>whnf)
 | ((with_reducible refine on_dec_f ?_ ?_);(focus ((try simp only [List.length_map,List.length_cons,List.length_nil,List.length_append]);omega));conv=>whnf)
 | ((with_reducible refine call_go ?_);(first | refine call_step (run_new (l:=l) (c184r (x :: r) 47 l (by rw [h97f,hl]) (by rw [h97f];omega)) (fun _=>rfl) rfl) ?_ | refine call_step (run_new (l:=[a,b]) (c184r (l[l.length - 1]'(by omega)) 58 [a,b] hcs (by have:=hpl _ (List.getElem_mem (l:=l) (n:=l.length - 1) (by omega));omega)) (fun _=>rfl) rfl) ?_ | refine call_step (run_view (c185 _) rfl rfl) ?_);conv=>whnf)
 | (refine wrap64 (by omega) ?_;conv=>whnf)
 | (refine ⟨Int.le_refl 0,?_⟩;conv=>whnf)
 | (refine ⟨⟨by omega,by first | omega | (simp;done)⟩,?_⟩;conv=>whnf)
 | (refine nthK_rowi (l:=l) (l.length - 1) (by omega) (by omega) ?_;conv=>whnf)
 | ((with_reducible refine endx_go ?_);first | (exact endxv rfl rfl;done))
  | fail
  )
theorem c148cf (x : UInt8) (r q : Bs) (l : List Bs) (a b : Bs) (hlen : r.length ≤ 199) (h47 : ¬ x :: r = [47]) (hq : restOf (x :: r) = q) (hl : cut 47 q = l) (hcs : cut 58 (l[l.length - 1]'(lastIx (by rw [← hl];exact cut_ne _ _))) = [a,b]) (hx : ¬ (x.toNat : Int) = 47) (h2 : dots a = false) (h3 : b = []) : Fn 148 [.str (x :: r)] (.tup [PPe noPP,i 7]):=by
 have hl0 : 0 < l.length:=List.length_pos_iff.2 (by rw [← hl];exact cut_ne _ _);have hll : l.length < 1000:=(by rw [← hl,cut_len];have:=List.count_le_length (a:=47) (l:=q);have:=rest_len x r;rw [hq] at this;omega);have hpl : ∀ x ∈ l,x.length < 1000:=(by intro y hy;rw [← hl] at hy;have:=(cut_mem hy).2;have:=rest_len x r;rw [hq] at this;omega);have h97f : x :: r = q:=(by rw [← hq,restOf_c,if_neg (fun e=>hx (by rw [e];rfl))]);have hql : q.length ≤ 200:=(by have:=rest_len x r;rw [hq] at this;omega)
 refine run_walkF eok Tryz.func148 rfl (by kernel_rfl) ?_
 conv=>whnf
 repeat' (first
 | ((with_reducible refine on_dec_f (by assumption) ?_);conv=>whnf)
 | ((with_reducible refine onBool_f (by assumption) ?_);conv=>whnf)
 | ((with_reducible refine on_dec_f ?_ ?_);(focus ((try simp only [List.length_map,List.length_cons,List.length_nil,List.length_append]);omega));conv=>whnf)
 | ((with_reducible refine onBool_split (fun h=>?_) (fun h=>?_))<;>conv=>whnf)
 | ((with_reducible refine call_go ?_);(first | refine call_step (run_new (l:=l) (c184r (x :: r) 47 l (by rw [h97f,hl]) (by rw [h97f];omega)) (fun _=>rfl) rfl) ?_ | refine call_step (run_new (l:=[a,b]) (c184r (l[l.length - 1]'(by omega)) 58 [a,b] hcs (by have:=hpl _ (List.getElem_mem (l:=l) (n:=l.length - 1) (by omega));omega)) (fun _=>rfl) rfl) ?_ | refine call_step (run_view (c185 _) rfl rfl) ?_);conv=>whnf)
 | (refine ⟨[],[],(by decide +kernel),?_⟩;conv=>whnf)
 | (refine wrap64 (by omega) ?_;conv=>whnf)
 | (exact absurd h3 (of_decide_eq_false h))
 | (refine ⟨Int.le_refl 0,?_⟩;conv=>whnf)
 | (refine ⟨⟨by omega,by first | omega | (simp;done)⟩,?_⟩;conv=>whnf)
 | (refine nthK_rowi (l:=l) (l.length - 1) (by omega) (by omega) ?_;conv=>whnf)
 | ((with_reducible refine endx_go ?_);first | (exact endxv rfl rfl;done) )
  | fail
  )
attribute [local irreducible] res
theorem c148dt (x : UInt8) (r q : Bs) (l L : List Bs) (a T : Bs) (hlen : r.length ≤ 199) (h47 : ¬ x :: r = [47]) (hq : restOf (x :: r) = q) (hl : cut 47 q = l) (hcs : cut 58 (l[l.length - 1]'(lastIx (by rw [← hl];exact cut_ne _ _))) = [a,T]) (hL : l.set (l.length - 1) a = L) (hx : (x.toNat : Int) = 47) (h2 : dots a = false) (h3 : ¬ T = []) : Fn 148 [.str (x :: r)] (.tup [PPe (res (decide ((x.toNat : Int) = 47)) L T).1,i (res (decide ((x.toNat : Int) = 47)) L T).2]):=by
 have hl0 : 0 < l.length:=List.length_pos_iff.2 (by rw [← hl];exact cut_ne _ _);have hll : l.length < 1000:=(by rw [← hl,cut_len];have:=List.count_le_length (a:=47) (l:=q);have:=rest_len x r;rw [hq] at this;omega);have hpl : ∀ x ∈ l,x.length < 1000:=(by intro y hy;rw [← hl] at hy;have:=(cut_mem hy).2;have:=rest_len x r;rw [hq] at this;omega);have h97t : ((x :: r).take (r.length + 1)).drop 1 = q:=(by rw [← hq,restOf_c,if_pos (u8_inj (b:=47) hx)];simp);have hql : q.length ≤ 200:=(by have:=rest_len x r;rw [hq] at this;omega);have hLl : l.length = L.length:=(by rw [← hL];simp);have hls : (l[l.length - 1]'(by omega)).length < 1000:=hpl _ (List.getElem_mem _);have hpT : T.length < 1000:=cut_small hcs hls (by simp);have hpL : ∀ y ∈ L,y.length < 1000:=set_small hL hpl (cut_small hcs hls (by simp))
 refine run_walkF eok Tryz.func148 rfl (by kernel_rfl) ?_
 conv=>whnf
 repeat' (first
 | ((with_reducible refine on_dec_t (by assumption) ?_);conv=>whnf)
 | ((with_reducible refine on_dec_f (by assumption) ?_);conv=>whnf)
 | ((with_reducible refine onBool_f (by assumption) ?_);conv=>whnf)
 | ((with_reducible refine on_nf (by assumption) ?_);conv=>whnf)
 | ((with_reducible refine on_dec_f ?_ ?_);(focus ((try simp only [List.length_map,List.length_cons,List.length_nil,List.length_append]);omega));conv=>whnf)
 | ((with_reducible refine on_dec (fun h=>?_) (fun h=>?_))<;>(try simp only [List.length_map] at h)<;>conv=>whnf)
 | ((with_reducible refine on_ndec (fun h=>?_) (fun h=>?_))<;>(try simp only [List.length_map] at h)<;>conv=>whnf)
 | ((with_reducible refine onBool_split (fun h=>?_) (fun h=>?_))<;>conv=>whnf)
 | ((with_reducible refine call_go ?_);(first | refine call_step (run_new (l:=l) (c184r (((x :: r).take (r.length + 1)).drop 1) 47 l (by rw [h97t,hl]) (by rw [h97t];omega)) (fun _=>rfl) rfl) ?_ | refine call_step (run_new (l:=[a,T]) (c184r (l[l.length - 1]'(by omega)) 58 [a,T] hcs (by have:=hpl _ (List.getElem_mem (l:=l) (n:=l.length - 1) (by omega));omega)) (fun _=>rfl) rfl) ?_ | refine call_step (run_viewF (c184 (L[k]'(by omega)) 58 (by have:=hpL _ (List.getElem_mem (l:=L) (n:=k) (by omega));omega)) rfl) ?_ | refine call_step (run_view (c185 _) rfl rfl) ?_ | refine call_step (run_view (c98 (L[k]'(by omega)) (by have:=hpL _ (List.getElem_mem (l:=L) (n:=k) (by omega));omega)) rfl rfl) ?_ | refine call_step (run_view (c98 T (by have:=hpT;omega)) rfl rfl) ?_);conv=>whnf)
 | (refine ⟨[],[],(by decide +kernel),?_⟩;conv=>whnf)
 | ((with_reducible refine loop_go ?_);first | (refine loop1 (fun (k : Nat)=>L.length - k) (fun (k : Nat)=>k ≤ L.length ∧ wellParts (L.take k) = true) (fun (k : Nat)=>[(2,.ptr 0 0 0),(4,.d (i 7)),(5,.ptr 1 0 0),(8,.d (i k))]) (fun (k : Nat)=>[⟨[.junk],3,0⟩,⟨[.agg [.d (.bool (decide ((x.toNat : Int) = 47))),.sl 2 0 L.length 1 none,.d (.str T)]],3,0⟩,⟨(L.map D.str).map .d,1,0⟩]) (0) (by exact ⟨Nat.zero_le _,wp_nil _⟩) ?_ (fun k C hI hC=>?_);(exact ⟨[.old 0,.old 1,.old 2],rfl,rfl,⟨⟨rfl,rfl,rfl⟩,(by first | (show (_ : D) = _;with_reducible rfl) ),⟨rfl,rfl,rfl⟩,(by first | exact congrArg (D.int .i64) (by omega) ),trivial⟩,⟨⟨rfl,rfl,.inr ⟨trivial,trivial⟩⟩,⟨rfl,rfl,.inr ⟨⟨rfl,⟨rfl,rfl,hLl,rfl,rfl⟩,rfl,trivial⟩,trivial⟩⟩,⟨rfl,rfl,.inr (wksd _ _)⟩,trivial⟩⟩);all_goals (conv=>whnf)) | (refine loop1 (fun (k : Nat)=>L.length - k) (fun (k : Nat)=>k ≤ L.length ∧ wellParts L = true ∧ firstE (L.map partErr) = firstE ((L.drop k).map partErr)) (fun (k : Nat)=>[(2,.ptr 0 0 0),(5,.ptr 1 0 0),(9,.d (i k))]) (fun (k : Nat)=>[⟨[.junk],3,0⟩,⟨[.agg [.d (.bool (decide ((x.toNat : Int) = 47))),.sl 2 0 L.length 1 none,.d (.str T)]],3,0⟩,⟨(L.map D.str).map .d,1,0⟩]) (0) (by exact ⟨Nat.zero_le _,wp_end hI.2 (by assumption),rfl⟩) ?_ (fun k C2 hI2 hC2=>?_);(exact ⟨[.old 0,.old 1,.old 2],rfl,rfl,⟨⟨rfl,rfl,rfl⟩,⟨rfl,rfl,rfl⟩,(by first | exact congrArg (D.int .i64) (by omega) ),trivial⟩,⟨⟨rfl,rfl,.inr ⟨trivial,trivial⟩⟩,⟨rfl,rfl,.inr ⟨⟨rfl,⟨rfl,rfl,rfl,rfl,rfl⟩,rfl,trivial⟩,trivial⟩⟩,⟨rfl,rfl,.inr (wksd _ _)⟩,trivial⟩⟩);all_goals (conv=>whnf)))
 | ((with_reducible show C _ _);first | (refine hC (k + 1) _ _ ?_ (by omega) ?_;clear hC;rotate_left;(exact ⟨[.old 0,.old 1,.old 2],rfl,rfl,⟨⟨rfl,rfl,rfl⟩,(by first | (show (_ : D) = _;with_reducible rfl) ),⟨rfl,rfl,rfl⟩,(by first | exact congrArg (D.int .i64) (by omega) ),trivial⟩,⟨⟨rfl,rfl,.inr ⟨trivial,trivial⟩⟩,⟨rfl,rfl,.inr ⟨⟨rfl,⟨rfl,rfl,rfl,rfl,rfl⟩,rfl,trivial⟩,trivial⟩⟩,⟨rfl,rfl,.inr (wksd _ _)⟩,trivial⟩⟩);(exact ⟨by omega,wp_take hI.2 (by omega) (of_decide_eq_false (by assumption)) (by assumption)⟩)))
 | ((with_reducible show C2 _ _);first | (refine hC2 (k + 1) _ _ ?_ (by omega) ?_;clear hC2;rotate_left;(exact ⟨[.old 0,.old 1,.old 2],rfl,rfl,⟨⟨rfl,rfl,rfl⟩,⟨rfl,rfl,rfl⟩,(by first | exact congrArg (D.int .i64) (by omega) ),trivial⟩,⟨⟨rfl,rfl,.inr ⟨trivial,trivial⟩⟩,⟨rfl,rfl,.inr ⟨⟨rfl,⟨rfl,rfl,rfl,rfl,rfl⟩,rfl,trivial⟩,trivial⟩⟩,⟨rfl,rfl,.inr (wksd _ _)⟩,trivial⟩⟩);(exact ⟨by omega,hI2.2.1,by rw [hI2.2.2,pe_drop (by omega),if_pos (by first | exact pe_dots (by assumption) | (rw [pe_name (by assumption)];assumption))]⟩)))
 | (refine wrap64 (by omega) ?_;conv=>whnf)
 | (exact absurd (of_decide_eq_true h) h3)
 | (refine nthK_rowi (l:=L) k (by omega) (by omega) ?_;conv=>whnf)
 | (refine set_str (l:=l) (L:=L) (m:=l.length - 1) (by omega) hL ?_;conv=>whnf)
 | (refine sl_str 1 (r.length + 1) (by omega) (by simp) (by simp) ?_;conv=>whnf)
 | (refine ⟨Int.le_refl 0,?_⟩;conv=>whnf)
 | (refine ⟨⟨by omega,by first | omega | (simp;done)⟩,?_⟩;conv=>whnf)
 | (refine nthK_rowi (l:=l) (l.length - 1) (by omega) (by omega) ?_;conv=>whnf)
 | ((with_reducible refine endx_go ?_);first | (exact endxv rfl (res_bad (wp_bad (k:=k) (by omega) (by first | exact .inl (of_decide_eq_true (by assumption)) | exact .inr (by assumption))));done) | (exact endxv rfl (res_err hI2.2.1 (pe_part (by omega) hI2.2.2 (by assumption) (by assumption)) (by assumption));done) | (exact endxv rfl (res_err hI2.2.1 (by rw [pe_parts (by assumption) hI2.2.2];exact pe_tail_8 (by assumption) (.inr (by assumption))) (by decide));done) | (exact endxv rfl (res_err hI2.2.1 (by rw [pe_parts (by assumption) hI2.2.2];exact pe_tail_n (by assumption) (by assumption)) (by assumption));done) | (exact endxv (view_tup (vlc (view_agg (vlc rfl (vlc (view_map rfl Nat.two_pos) (vlc rfl vln)))) (vlc rfl vln))) (res_ok hI2.2.1 (by rw [pe_parts (by assumption) hI2.2.2];exact pe_tail (by assumption) (.inr (by assumption))));done))
  | fail
  )
theorem c148et (x : UInt8) (r q : Bs) (l : List Bs) (a : Bs) (hlen : r.length ≤ 199) (h47 : ¬ x :: r = [47]) (hq : restOf (x :: r) = q) (hl : cut 47 q = l) (hcs : cut 58 (l[l.length - 1]'(lastIx (by rw [← hl];exact cut_ne _ _))) = [a]) (hx : (x.toNat : Int) = 47) : Fn 148 [.str (x :: r)] (.tup [PPe (res (decide ((x.toNat : Int) = 47)) l []).1,i (res (decide ((x.toNat : Int) = 47)) l []).2]):=by
 have hl0 : 0 < l.length:=List.length_pos_iff.2 (by rw [← hl];exact cut_ne _ _);have hll : l.length < 1000:=(by rw [← hl,cut_len];have:=List.count_le_length (a:=47) (l:=q);have:=rest_len x r;rw [hq] at this;omega);have hpl : ∀ x ∈ l,x.length < 1000:=(by intro y hy;rw [← hl] at hy;have:=(cut_mem hy).2;have:=rest_len x r;rw [hq] at this;omega);have h97t : ((x :: r).take (r.length + 1)).drop 1 = q:=(by rw [← hq,restOf_c,if_pos (u8_inj (b:=47) hx)];simp);have hql : q.length ≤ 200:=(by have:=rest_len x r;rw [hq] at this;omega)
 refine run_walkF eok Tryz.func148 rfl (by kernel_rfl) ?_
 conv=>whnf
 repeat' (first
 | ((with_reducible refine on_dec_t (by assumption) ?_);conv=>whnf)
 | ((with_reducible refine on_dec_f (by assumption) ?_);conv=>whnf)
 | ((with_reducible refine on_dec_f ?_ ?_);(focus ((try simp only [List.length_map,List.length_cons,List.length_nil,List.length_append]);omega));conv=>whnf)
 | ((with_reducible refine on_dec (fun h=>?_) (fun h=>?_))<;>(try simp only [List.length_map] at h)<;>conv=>whnf)
 | ((with_reducible refine on_ndec (fun h=>?_) (fun h=>?_))<;>(try simp only [List.length_map] at h)<;>conv=>whnf)
 | ((with_reducible refine onBool_split (fun h=>?_) (fun h=>?_))<;>conv=>whnf)
 | ((with_reducible refine call_go ?_);(first | refine call_step (run_new (l:=l) (c184r (((x :: r).take (r.length + 1)).drop 1) 47 l (by rw [h97t,hl]) (by rw [h97t];omega)) (fun _=>rfl) rfl) ?_ | refine call_step (run_new (l:=[a]) (c184r (l[l.length - 1]'(by omega)) 58 [a] hcs (by have:=hpl _ (List.getElem_mem (l:=l) (n:=l.length - 1) (by omega));omega)) (fun _=>rfl) rfl) ?_ | refine call_step (run_viewF (c184 (l[k]'(by omega)) 58 (by have:=hpl _ (List.getElem_mem (l:=l) (n:=k) (by omega));omega)) rfl) ?_ | refine call_step (run_view (c185 _) rfl rfl) ?_ | refine call_step (run_view (c98 (l[k]'(by omega)) (by have:=hpl _ (List.getElem_mem (l:=l) (n:=k) (by omega));omega)) rfl rfl) ?_);conv=>whnf)
 | ((with_reducible refine loop_go ?_);first | (refine loop1 (fun (k : Nat)=>l.length - k) (fun (k : Nat)=>k ≤ l.length ∧ wellParts (l.take k) = true) (fun (k : Nat)=>[(2,.ptr 0 0 0),(4,.d (i 7)),(5,.ptr 1 0 0),(8,.d (i k))]) (fun (k : Nat)=>[⟨[.junk],3,0⟩,⟨[.agg [.d (.bool (decide ((x.toNat : Int) = 47))),.sl 2 0 l.length 1 none,.d (.str [])]],3,0⟩,⟨(l.map D.str).map .d,1,0⟩]) (0) (by exact ⟨Nat.zero_le _,wp_nil _⟩) ?_ (fun k C hI hC=>?_);(exact ⟨[.old 0,.old 1,.old 2],rfl,rfl,⟨⟨rfl,rfl,rfl⟩,(by first | (show (_ : D) = _;with_reducible rfl) ),⟨rfl,rfl,rfl⟩,(by first | exact congrArg (D.int .i64) (by omega) ),trivial⟩,⟨⟨rfl,rfl,.inr ⟨trivial,trivial⟩⟩,⟨rfl,rfl,.inr ⟨⟨rfl,⟨rfl,rfl,rfl,rfl,rfl⟩,rfl,trivial⟩,trivial⟩⟩,⟨rfl,rfl,.inr (wksd _ _)⟩,trivial⟩⟩);all_goals (conv=>whnf)) | (refine loop1 (fun (k : Nat)=>l.length - k) (fun (k : Nat)=>k ≤ l.length ∧ wellParts l = true ∧ firstE (l.map partErr) = firstE ((l.drop k).map partErr)) (fun (k : Nat)=>[(2,.ptr 0 0 0),(5,.ptr 1 0 0),(9,.d (i k))]) (fun (k : Nat)=>[⟨[.junk],3,0⟩,⟨[.agg [.d (.bool (decide ((x.toNat : Int) = 47))),.sl 2 0 l.length 1 none,.d (.str [])]],3,0⟩,⟨(l.map D.str).map .d,1,0⟩]) (0) (by exact ⟨Nat.zero_le _,wp_end hI.2 (by assumption),rfl⟩) ?_ (fun k C2 hI2 hC2=>?_);(exact ⟨[.old 0,.old 1,.old 2],rfl,rfl,⟨⟨rfl,rfl,rfl⟩,⟨rfl,rfl,rfl⟩,(by first | exact congrArg (D.int .i64) (by omega) ),trivial⟩,⟨⟨rfl,rfl,.inr ⟨trivial,trivial⟩⟩,⟨rfl,rfl,.inr ⟨⟨rfl,⟨rfl,rfl,rfl,rfl,rfl⟩,rfl,trivial⟩,trivial⟩⟩,⟨rfl,rfl,.inr (wksd _ _)⟩,trivial⟩⟩);all_goals (conv=>whnf)))
 | ((with_reducible show C _ _);first | (refine hC (k + 1) _ _ ?_ (by omega) ?_;clear hC;rotate_left;(exact ⟨[.old 0,.old 1,.old 2],rfl,rfl,⟨⟨rfl,rfl,rfl⟩,(by first | (show (_ : D) = _;with_reducible rfl) ),⟨rfl,rfl,rfl⟩,(by first | exact congrArg (D.int .i64) (by omega) ),trivial⟩,⟨⟨rfl,rfl,.inr ⟨trivial,trivial⟩⟩,⟨rfl,rfl,.inr ⟨⟨rfl,⟨rfl,rfl,rfl,rfl,rfl⟩,rfl,trivial⟩,trivial⟩⟩,⟨rfl,rfl,.inr (wksd _ _)⟩,trivial⟩⟩);(exact ⟨by omega,wp_take hI.2 (by omega) (of_decide_eq_false (by assumption)) (by assumption)⟩)))
 | ((with_reducible show C2 _ _);first | (refine hC2 (k + 1) _ _ ?_ (by omega) ?_;clear hC2;rotate_left;(exact ⟨[.old 0,.old 1,.old 2],rfl,rfl,⟨⟨rfl,rfl,rfl⟩,⟨rfl,rfl,rfl⟩,(by first | exact congrArg (D.int .i64) (by omega) ),trivial⟩,⟨⟨rfl,rfl,.inr ⟨trivial,trivial⟩⟩,⟨rfl,rfl,.inr ⟨⟨rfl,⟨rfl,rfl,rfl,rfl,rfl⟩,rfl,trivial⟩,trivial⟩⟩,⟨rfl,rfl,.inr (wksd _ _)⟩,trivial⟩⟩);(exact ⟨by omega,hI2.2.1,by rw [hI2.2.2,pe_drop (by omega),if_pos (by first | exact pe_dots (by assumption) | (rw [pe_name (by assumption)];assumption))]⟩)))
 | (refine wrap64 (by omega) ?_;conv=>whnf)
 | (refine nthK_rowi (l:=l) k (by omega) (by omega) ?_;conv=>whnf)
 | (refine sl_str 1 (r.length + 1) (by omega) (by simp) (by simp) ?_;conv=>whnf)
 | (refine ⟨Int.le_refl 0,?_⟩;conv=>whnf)
 | (refine ⟨⟨by omega,by first | omega | (simp;done)⟩,?_⟩;conv=>whnf)
 | (refine nthK_rowi (l:=l) (l.length - 1) (by omega) (by omega) ?_;conv=>whnf)
 | ((with_reducible refine endx_go ?_);first | (exact endxv rfl (res_bad (wp_bad (k:=k) (by omega) (by first | exact .inl (of_decide_eq_true (by assumption)) | exact .inr (by assumption))));done) | (exact endxv rfl (res_err hI2.2.1 (pe_part (by omega) hI2.2.2 (by assumption) (by assumption)) (by assumption));done) | (exact endxv rfl (res_err hI2.2.1 (by rw [pe_parts (by assumption) hI2.2.2];exact pe_tail_8 (by assumption) (.inl rfl)) (by decide));done) | (exact endxv (view_tup (vlc (view_agg (vlc rfl (vlc (view_map rfl Nat.two_pos) (vlc rfl vln)))) (vlc rfl vln))) (res_ok hI2.2.1 (by rw [pe_parts (by assumption) hI2.2.2];exact pe_tail (by assumption) (.inl rfl)));done))
  | fail
  )
theorem c148df (x : UInt8) (r q : Bs) (l L : List Bs) (a T : Bs) (hlen : r.length ≤ 199) (h47 : ¬ x :: r = [47]) (hq : restOf (x :: r) = q) (hl : cut 47 q = l) (hcs : cut 58 (l[l.length - 1]'(lastIx (by rw [← hl];exact cut_ne _ _))) = [a,T]) (hL : l.set (l.length - 1) a = L) (hx : ¬ (x.toNat : Int) = 47) (h2 : dots a = false) (h3 : ¬ T = []) : Fn 148 [.str (x :: r)] (.tup [PPe (res (decide ((x.toNat : Int) = 47)) L T).1,i (res (decide ((x.toNat : Int) = 47)) L T).2]):=by
 have hl0 : 0 < l.length:=List.length_pos_iff.2 (by rw [← hl];exact cut_ne _ _);have hll : l.length < 1000:=(by rw [← hl,cut_len];have:=List.count_le_length (a:=47) (l:=q);have:=rest_len x r;rw [hq] at this;omega);have hpl : ∀ x ∈ l,x.length < 1000:=(by intro y hy;rw [← hl] at hy;have:=(cut_mem hy).2;have:=rest_len x r;rw [hq] at this;omega);have h97f : x :: r = q:=(by rw [← hq,restOf_c,if_neg (fun e=>hx (by rw [e];rfl))]);have hql : q.length ≤ 200:=(by have:=rest_len x r;rw [hq] at this;omega);have hLl : l.length = L.length:=(by rw [← hL];simp);have hls : (l[l.length - 1]'(by omega)).length < 1000:=hpl _ (List.getElem_mem _);have hpT : T.length < 1000:=cut_small hcs hls (by simp);have hpL : ∀ y ∈ L,y.length < 1000:=set_small hL hpl (cut_small hcs hls (by simp))
 refine run_walkF eok Tryz.func148 rfl (by kernel_rfl) ?_
 conv=>whnf
 repeat' (first
 | ((with_reducible refine on_dec_f (by assumption) ?_);conv=>whnf)
 | ((with_reducible refine onBool_f (by assumption) ?_);conv=>whnf)
 | ((with_reducible refine on_nf (by assumption) ?_);conv=>whnf)
 | ((with_reducible refine on_dec_f ?_ ?_);(focus ((try simp only [List.length_map,List.length_cons,List.length_nil,List.length_append]);omega));conv=>whnf)
 | ((with_reducible refine on_dec (fun h=>?_) (fun h=>?_))<;>(try simp only [List.length_map] at h)<;>conv=>whnf)
 | ((with_reducible refine on_ndec (fun h=>?_) (fun h=>?_))<;>(try simp only [List.length_map] at h)<;>conv=>whnf)
 | ((with_reducible refine onBool_split (fun h=>?_) (fun h=>?_))<;>conv=>whnf)
 | ((with_reducible refine call_go ?_);(first | refine call_step (run_new (l:=l) (c184r (x :: r) 47 l (by rw [h97f,hl]) (by rw [h97f];omega)) (fun _=>rfl) rfl) ?_ | refine call_step (run_new (l:=[a,T]) (c184r (l[l.length - 1]'(by omega)) 58 [a,T] hcs (by have:=hpl _ (List.getElem_mem (l:=l) (n:=l.length - 1) (by omega));omega)) (fun _=>rfl) rfl) ?_ | refine call_step (run_viewF (c184 (L[k]'(by omega)) 58 (by have:=hpL _ (List.getElem_mem (l:=L) (n:=k) (by omega));omega)) rfl) ?_ | refine call_step (run_view (c185 _) rfl rfl) ?_ | refine call_step (run_view (c98 (L[k]'(by omega)) (by have:=hpL _ (List.getElem_mem (l:=L) (n:=k) (by omega));omega)) rfl rfl) ?_ | refine call_step (run_view (c98 T (by have:=hpT;omega)) rfl rfl) ?_);conv=>whnf)
 | (refine ⟨[],[],(by decide +kernel),?_⟩;conv=>whnf)
 | ((with_reducible refine loop_go ?_);first | (refine loop1 (fun (k : Nat)=>L.length - k) (fun (k : Nat)=>k ≤ L.length ∧ wellParts (L.take k) = true) (fun (k : Nat)=>[(2,.ptr 0 0 0),(4,.d (i 7)),(5,.ptr 1 0 0),(8,.d (i k))]) (fun (k : Nat)=>[⟨[.junk],3,0⟩,⟨[.agg [.d (.bool (decide ((x.toNat : Int) = 47))),.sl 2 0 L.length 1 none,.d (.str T)]],3,0⟩,⟨(L.map D.str).map .d,1,0⟩]) (0) (by exact ⟨Nat.zero_le _,wp_nil _⟩) ?_ (fun k C hI hC=>?_);(exact ⟨[.old 0,.old 1,.old 2],rfl,rfl,⟨⟨rfl,rfl,rfl⟩,(by first | (show (_ : D) = _;with_reducible rfl) ),⟨rfl,rfl,rfl⟩,(by first | exact congrArg (D.int .i64) (by omega) ),trivial⟩,⟨⟨rfl,rfl,.inr ⟨trivial,trivial⟩⟩,⟨rfl,rfl,.inr ⟨⟨rfl,⟨rfl,rfl,hLl,rfl,rfl⟩,rfl,trivial⟩,trivial⟩⟩,⟨rfl,rfl,.inr (wksd _ _)⟩,trivial⟩⟩);all_goals (conv=>whnf)) | (refine loop1 (fun (k : Nat)=>L.length - k) (fun (k : Nat)=>k ≤ L.length ∧ wellParts L = true ∧ firstE (L.map partErr) = firstE ((L.drop k).map partErr)) (fun (k : Nat)=>[(2,.ptr 0 0 0),(5,.ptr 1 0 0),(9,.d (i k))]) (fun (k : Nat)=>[⟨[.junk],3,0⟩,⟨[.agg [.d (.bool (decide ((x.toNat : Int) = 47))),.sl 2 0 L.length 1 none,.d (.str T)]],3,0⟩,⟨(L.map D.str).map .d,1,0⟩]) (0) (by exact ⟨Nat.zero_le _,wp_end hI.2 (by assumption),rfl⟩) ?_ (fun k C2 hI2 hC2=>?_);(exact ⟨[.old 0,.old 1,.old 2],rfl,rfl,⟨⟨rfl,rfl,rfl⟩,⟨rfl,rfl,rfl⟩,(by first | exact congrArg (D.int .i64) (by omega) ),trivial⟩,⟨⟨rfl,rfl,.inr ⟨trivial,trivial⟩⟩,⟨rfl,rfl,.inr ⟨⟨rfl,⟨rfl,rfl,rfl,rfl,rfl⟩,rfl,trivial⟩,trivial⟩⟩,⟨rfl,rfl,.inr (wksd _ _)⟩,trivial⟩⟩);all_goals (conv=>whnf)))
 | ((with_reducible show C _ _);first | (refine hC (k + 1) _ _ ?_ (by omega) ?_;clear hC;rotate_left;(exact ⟨[.old 0,.old 1,.old 2],rfl,rfl,⟨⟨rfl,rfl,rfl⟩,(by first | (show (_ : D) = _;with_reducible rfl) ),⟨rfl,rfl,rfl⟩,(by first | exact congrArg (D.int .i64) (by omega) ),trivial⟩,⟨⟨rfl,rfl,.inr ⟨trivial,trivial⟩⟩,⟨rfl,rfl,.inr ⟨⟨rfl,⟨rfl,rfl,rfl,rfl,rfl⟩,rfl,trivial⟩,trivial⟩⟩,⟨rfl,rfl,.inr (wksd _ _)⟩,trivial⟩⟩);(exact ⟨by omega,wp_take hI.2 (by omega) (of_decide_eq_false (by assumption)) (by assumption)⟩)))
 | ((with_reducible show C2 _ _);first | (refine hC2 (k + 1) _ _ ?_ (by omega) ?_;clear hC2;rotate_left;(exact ⟨[.old 0,.old 1,.old 2],rfl,rfl,⟨⟨rfl,rfl,rfl⟩,⟨rfl,rfl,rfl⟩,(by first | exact congrArg (D.int .i64) (by omega) ),trivial⟩,⟨⟨rfl,rfl,.inr ⟨trivial,trivial⟩⟩,⟨rfl,rfl,.inr ⟨⟨rfl,⟨rfl,rfl,rfl,rfl,rfl⟩,rfl,trivial⟩,trivial⟩⟩,⟨rfl,rfl,.inr (wksd _ _)⟩,trivial⟩⟩);(exact ⟨by omega,hI2.2.1,by rw [hI2.2.2,pe_drop (by omega),if_pos (by first | exact pe_dots (by assumption) | (rw [pe_name (by assumption)];assumption))]⟩)))
 | (refine wrap64 (by omega) ?_;conv=>whnf)
 | (exact absurd (of_decide_eq_true h) h3)
 | (refine nthK_rowi (l:=L) k (by omega) (by omega) ?_;conv=>whnf)
 | (refine set_str (l:=l) (L:=L) (m:=l.length - 1) (by omega) hL ?_;conv=>whnf)
 | (refine ⟨Int.le_refl 0,?_⟩;conv=>whnf)
 | (refine ⟨⟨by omega,by first | omega | (simp;done)⟩,?_⟩;conv=>whnf)
 | (refine nthK_rowi (l:=l) (l.length - 1) (by omega) (by omega) ?_;conv=>whnf)
 | ((with_reducible refine endx_go ?_);first | (exact endxv rfl (res_bad (wp_bad (k:=k) (by omega) (by first | exact .inl (of_decide_eq_true (by assumption)) | exact .inr (by assumption))));done) | (exact endxv rfl (res_err hI2.2.1 (pe_part (by omega) hI2.2.2 (by assumption) (by assumption)) (by assumption));done) | (exact endxv rfl (res_err hI2.2.1 (by rw [pe_parts (by assumption) hI2.2.2];exact pe_tail_8 (by assumption) (.inr (by assumption))) (by decide));done) | (exact endxv rfl (res_err hI2.2.1 (by rw [pe_parts (by assumption) hI2.2.2];exact pe_tail_n (by assumption) (by assumption)) (by assumption));done) | (exact endxv (view_tup (vlc (view_agg (vlc rfl (vlc (view_map rfl Nat.two_pos) (vlc rfl vln)))) (vlc rfl vln))) (res_ok hI2.2.1 (by rw [pe_parts (by assumption) hI2.2.2];exact pe_tail (by assumption) (.inr (by assumption))));done))
  | fail
  )
theorem c148ef (x : UInt8) (r q : Bs) (l : List Bs) (a : Bs) (hlen : r.length ≤ 199) (h47 : ¬ x :: r = [47]) (hq : restOf (x :: r) = q) (hl : cut 47 q = l) (hcs : cut 58 (l[l.length - 1]'(lastIx (by rw [← hl];exact cut_ne _ _))) = [a]) (hx : ¬ (x.toNat : Int) = 47) : Fn 148 [.str (x :: r)] (.tup [PPe (res (decide ((x.toNat : Int) = 47)) l []).1,i (res (decide ((x.toNat : Int) = 47)) l []).2]):=by
 have hl0 : 0 < l.length:=List.length_pos_iff.2 (by rw [← hl];exact cut_ne _ _);have hll : l.length < 1000:=(by rw [← hl,cut_len];have:=List.count_le_length (a:=47) (l:=q);have:=rest_len x r;rw [hq] at this;omega);have hpl : ∀ x ∈ l,x.length < 1000:=(by intro y hy;rw [← hl] at hy;have:=(cut_mem hy).2;have:=rest_len x r;rw [hq] at this;omega);have h97f : x :: r = q:=(by rw [← hq,restOf_c,if_neg (fun e=>hx (by rw [e];rfl))]);have hql : q.length ≤ 200:=(by have:=rest_len x r;rw [hq] at this;omega)
 refine run_walkF eok Tryz.func148 rfl (by kernel_rfl) ?_
 conv=>whnf
 repeat' (first
 | ((with_reducible refine on_dec_f (by assumption) ?_);conv=>whnf)
 | ((with_reducible refine on_dec_f ?_ ?_);(focus ((try simp only [List.length_map,List.length_cons,List.length_nil,List.length_append]);omega));conv=>whnf)
 | ((with_reducible refine on_dec (fun h=>?_) (fun h=>?_))<;>(try simp only [List.length_map] at h)<;>conv=>whnf)
 | ((with_reducible refine on_ndec (fun h=>?_) (fun h=>?_))<;>(try simp only [List.length_map] at h)<;>conv=>whnf)
 | ((with_reducible refine onBool_split (fun h=>?_) (fun h=>?_))<;>conv=>whnf)
 | ((with_reducible refine call_go ?_);(first | refine call_step (run_new (l:=l) (c184r (x :: r) 47 l (by rw [h97f,hl]) (by rw [h97f];omega)) (fun _=>rfl) rfl) ?_ | refine call_step (run_new (l:=[a]) (c184r (l[l.length - 1]'(by omega)) 58 [a] hcs (by have:=hpl _ (List.getElem_mem (l:=l) (n:=l.length - 1) (by omega));omega)) (fun _=>rfl) rfl) ?_ | refine call_step (run_viewF (c184 (l[k]'(by omega)) 58 (by have:=hpl _ (List.getElem_mem (l:=l) (n:=k) (by omega));omega)) rfl) ?_ | refine call_step (run_view (c185 _) rfl rfl) ?_ | refine call_step (run_view (c98 (l[k]'(by omega)) (by have:=hpl _ (List.getElem_mem (l:=l) (n:=k) (by omega));omega)) rfl rfl) ?_);conv=>whnf)
 | ((with_reducible refine loop_go ?_);first | (refine loop1 (fun (k : Nat)=>l.length - k) (fun (k : Nat)=>k ≤ l.length ∧ wellParts (l.take k) = true) (fun (k : Nat)=>[(2,.ptr 0 0 0),(4,.d (i 7)),(5,.ptr 1 0 0),(8,.d (i k))]) (fun (k : Nat)=>[⟨[.junk],3,0⟩,⟨[.agg [.d (.bool (decide ((x.toNat : Int) = 47))),.sl 2 0 l.length 1 none,.d (.str [])]],3,0⟩,⟨(l.map D.str).map .d,1,0⟩]) (0) (by exact ⟨Nat.zero_le _,wp_nil _⟩) ?_ (fun k C hI hC=>?_);(exact ⟨[.old 0,.old 1,.old 2],rfl,rfl,⟨⟨rfl,rfl,rfl⟩,(by first | (show (_ : D) = _;with_reducible rfl) ),⟨rfl,rfl,rfl⟩,(by first | exact congrArg (D.int .i64) (by omega) ),trivial⟩,⟨⟨rfl,rfl,.inr ⟨trivial,trivial⟩⟩,⟨rfl,rfl,.inr ⟨⟨rfl,⟨rfl,rfl,rfl,rfl,rfl⟩,rfl,trivial⟩,trivial⟩⟩,⟨rfl,rfl,.inr (wksd _ _)⟩,trivial⟩⟩);all_goals (conv=>whnf)) | (refine loop1 (fun (k : Nat)=>l.length - k) (fun (k : Nat)=>k ≤ l.length ∧ wellParts l = true ∧ firstE (l.map partErr) = firstE ((l.drop k).map partErr)) (fun (k : Nat)=>[(2,.ptr 0 0 0),(5,.ptr 1 0 0),(9,.d (i k))]) (fun (k : Nat)=>[⟨[.junk],3,0⟩,⟨[.agg [.d (.bool (decide ((x.toNat : Int) = 47))),.sl 2 0 l.length 1 none,.d (.str [])]],3,0⟩,⟨(l.map D.str).map .d,1,0⟩]) (0) (by exact ⟨Nat.zero_le _,wp_end hI.2 (by assumption),rfl⟩) ?_ (fun k C2 hI2 hC2=>?_);(exact ⟨[.old 0,.old 1,.old 2],rfl,rfl,⟨⟨rfl,rfl,rfl⟩,⟨rfl,rfl,rfl⟩,(by first | exact congrArg (D.int .i64) (by omega) ),trivial⟩,⟨⟨rfl,rfl,.inr ⟨trivial,trivial⟩⟩,⟨rfl,rfl,.inr ⟨⟨rfl,⟨rfl,rfl,rfl,rfl,rfl⟩,rfl,trivial⟩,trivial⟩⟩,⟨rfl,rfl,.inr (wksd _ _)⟩,trivial⟩⟩);all_goals (conv=>whnf)))
 | ((with_reducible show C _ _);first | (refine hC (k + 1) _ _ ?_ (by omega) ?_;clear hC;rotate_left;(exact ⟨[.old 0,.old 1,.old 2],rfl,rfl,⟨⟨rfl,rfl,rfl⟩,(by first | (show (_ : D) = _;with_reducible rfl) ),⟨rfl,rfl,rfl⟩,(by first | exact congrArg (D.int .i64) (by omega) ),trivial⟩,⟨⟨rfl,rfl,.inr ⟨trivial,trivial⟩⟩,⟨rfl,rfl,.inr ⟨⟨rfl,⟨rfl,rfl,rfl,rfl,rfl⟩,rfl,trivial⟩,trivial⟩⟩,⟨rfl,rfl,.inr (wksd _ _)⟩,trivial⟩⟩);(exact ⟨by omega,wp_take hI.2 (by omega) (of_decide_eq_false (by assumption)) (by assumption)⟩)))
 | ((with_reducible show C2 _ _);first | (refine hC2 (k + 1) _ _ ?_ (by omega) ?_;clear hC2;rotate_left;(exact ⟨[.old 0,.old 1,.old 2],rfl,rfl,⟨⟨rfl,rfl,rfl⟩,⟨rfl,rfl,rfl⟩,(by first | exact congrArg (D.int .i64) (by omega) ),trivial⟩,⟨⟨rfl,rfl,.inr ⟨trivial,trivial⟩⟩,⟨rfl,rfl,.inr ⟨⟨rfl,⟨rfl,rfl,rfl,rfl,rfl⟩,rfl,trivial⟩,trivial⟩⟩,⟨rfl,rfl,.inr (wksd _ _)⟩,trivial⟩⟩);(exact ⟨by omega,hI2.2.1,by rw [hI2.2.2,pe_drop (by omega),if_pos (by first | exact pe_dots (by assumption) | (rw [pe_name (by assumption)];assumption))]⟩)))
 | (refine wrap64 (by omega) ?_;conv=>whnf)
 | (refine nthK_rowi (l:=l) k (by omega) (by omega) ?_;conv=>whnf)
 | (refine ⟨Int.le_refl 0,?_⟩;conv=>whnf)
 | (refine ⟨⟨by omega,by first | omega | (simp;done)⟩,?_⟩;conv=>whnf)
 | (refine nthK_rowi (l:=l) (l.length - 1) (by omega) (by omega) ?_;conv=>whnf)
 | ((with_reducible refine endx_go ?_);first | (exact endxv rfl (res_bad (wp_bad (k:=k) (by omega) (by first | exact .inl (of_decide_eq_true (by assumption)) | exact .inr (by assumption))));done) | (exact endxv rfl (res_err hI2.2.1 (pe_part (by omega) hI2.2.2 (by assumption) (by assumption)) (by assumption));done) | (exact endxv rfl (res_err hI2.2.1 (by rw [pe_parts (by assumption) hI2.2.2];exact pe_tail_8 (by assumption) (.inl rfl)) (by decide));done) | (exact endxv (view_tup (vlc (view_agg (vlc rfl (vlc (view_map rfl Nat.two_pos) (vlc rfl vln)))) (vlc rfl vln))) (res_ok hI2.2.1 (by rw [pe_parts (by assumption) hI2.2.2];exact pe_tail (by assumption) (.inl rfl)));done))
  | fail
  )
theorem c148L (s : Bs) (h1 : (200 : Int) < s.length) : Fn 148 [.str s] (.tup [PPe noPP,i 8]):=by
 refine run_walkF eok Tryz.func148 rfl (by kernel_rfl) ?_
 conv=>whnf
 repeat' (first
 | ((with_reducible refine on_dec_t (by assumption) ?_);conv=>whnf)
 | ((with_reducible refine endx_go ?_);first | (exact endxv rfl rfl;done))
  | fail
  )
theorem c148n : Fn 148 [.str []] (.tup [PPe noPP,i 7]):=by
 refine run_walkF eok Tryz.func148 rfl (by kernel_rfl) ?_
 conv=>whnf
 repeat' (first
 | ((with_reducible refine endx_go ?_);first | (exact endxv (view_tup (vlc (view_agg (vlc rfl (vlc rfl (vlc rfl vln)))) (vlc rfl vln))) rfl;done))
  | fail
  )
theorem c148s : Fn 148 [.str [47]] (.tup [PPe ⟨true,[],[]⟩,i 0]):=by
 refine run_walkF eok Tryz.func148 rfl (by kernel_rfl) ?_
 conv=>whnf
 repeat' (first
 | ((with_reducible refine endx_go ?_);first | (exact endxv (view_tup (vlc (view_agg (vlc rfl (vlc rfl (vlc rfl vln)))) (vlc rfl vln))) rfl;done))
  | fail
  )
theorem parse_c {x : UInt8} {r : Bs} (hlen : r.length ≤ 199) (h47 : ¬ x :: r = [47]) : parse (x :: r) = match colons (cut 47 (restOf (x :: r))) with
  | none=>(noPP,7)
  | some (l,t)=>res (decide ((x.toNat : Int) = 47)) l t:=by
 unfold parse
 rw [if_neg (by simp;omega),if_neg (by simp),if_neg h47,isAbs_c]
 split<;>rename_i h
 ·first | (rw [h];done) | rfl
 ·first | (rw [h];unfold res;rfl) | (unfold res;rfl)
theorem last_get {l : List Bs} (h : l ≠ []) : l.getLastD [] = l[l.length - 1]'(lastIx h):=by
 rw [List.getLastD_eq_getLast?,List.getLast?_eq_some_getLast h,Option.getD_some,List.getLast_eq_getElem]
theorem set_last {l : List Bs} (h : l ≠ []) (a : Bs) : l.set (l.length - 1) a = l.dropLast ++ [a]:=by
 conv=>lhs;rw [← List.dropLast_concat_getLast h]
 rw [List.set_append_right _ _ (by simp)]
 simp
theorem c148 (s : Bs) : Fn 148 [.str s] (.tup [PPe (parse s).1,i (parse s).2]):=by
 by_cases h1 : 200 < s.length
 ·have e : parse s = (noPP,8):=by unfold parse;rw [if_pos h1]
  rw [e];exact c148L s (by omega)
 cases s with
 | nil=>exact c148n
 | cons x r=>
  by_cases h47 : x :: r = [47]
  ·rw [h47];exact c148s
  have hlen : r.length ≤ 199:=by simp at h1;omega
  have hne : cut 47 (restOf (x :: r)) ≠ []:=cut_ne _ _
  rw [parse_c hlen h47]
  unfold colons
  rw [last_get hne]
  by_cases hx : (x.toNat : Int) = 47
  ·match hcs : cut 58 ((cut 47 (restOf (x :: r)))[(cut 47 (restOf (x :: r))).length - 1]'(lastIx hne)) with
   | []=>exact absurd hcs (cut_ne _ _)
   | [a]=>exact c148et x r _ _ a hlen h47 rfl rfl hcs hx
   | [a,b]=>
    simp only
    by_cases h2 : dots a = true
    ·rw [if_pos (.inl h2)]
     exact c148bt x r _ _ a b hlen h47 rfl rfl hcs hx h2
    ·have h2' : dots a = false:=by simpa using h2
     by_cases h3 : b = []
     ·rw [if_pos (.inr h3)]
      exact c148ct x r _ _ a b hlen h47 rfl rfl hcs hx h2' h3
     ·rw [if_neg (by rintro (h | h);exact h2 h;exact h3 h)]
      exact c148dt x r _ _ _ a b hlen h47 rfl rfl hcs (set_last hne a) hx h2' h3
   | a :: b :: c :: cs=>
    simp only
    exact c148at x r _ _ _ hlen h47 rfl rfl hcs hx (by simp)
  ·match hcs : cut 58 ((cut 47 (restOf (x :: r)))[(cut 47 (restOf (x :: r))).length - 1]'(lastIx hne)) with
   | []=>exact absurd hcs (cut_ne _ _)
   | [a]=>exact c148ef x r _ _ a hlen h47 rfl rfl hcs hx
   | [a,b]=>
    simp only
    by_cases h2 : dots a = true
    ·rw [if_pos (.inl h2)]
     exact c148bf x r _ _ a b hlen h47 rfl rfl hcs hx h2
    ·have h2' : dots a = false:=by simpa using h2
     by_cases h3 : b = []
     ·rw [if_pos (.inr h3)]
      exact c148cf x r _ _ a b hlen h47 rfl rfl hcs hx h2' h3
     ·rw [if_neg (by rintro (h | h);exact h2 h;exact h3 h)]
      exact c148df x r _ _ _ a b hlen h47 rfl rfl hcs (set_last hne a) hx h2' h3
   | a :: b :: c :: cs=>
    simp only
    exact c148af x r _ _ _ hlen h47 rfl rfl hcs hx (by simp)
attribute [local irreducible] parse
end Go.Proofs.YtkmhnaojgkcjoaaGreatDoor
namespace Go.Proofs.YtkmhnaojgkcjoaaGreatDoor
open Go Dw
set_option maxRecDepth 10000
attribute [local irreducible] Run
set_option maxHeartbeats 4000000
open Paths
attribute [local irreducible] nameErr cut normal
theorem run_newC {P : Program} {f k : Nat} {c : Option Nat} {xs : List D} {α : Type} {g : α → D} {l : List α} (hf : Run P f (xs.map .d) [] (.sl 0 0 l.length k c) [⟨(l.map g).map .d,k,0⟩]) (hg : ∀ x,(g x).flat = true) {H : Heap} {args : List AV} (hv : vl (view 8 H) args = some xs) :
  Run P f args H (.sl H.length 0 l.length k c) (H ++ [⟨(l.map g).map .d,k,0⟩]):=by
 refine run_at (σ:=[]) (F:=args.flatMap (reach 8 H)) (fl:=true) hf List.nodup_nil (fun _ _ h=>by cases h) (embs_views H args xs _ (fun _ h=>h) hv) (by simp [embH]) (fun _=>⟨rfl,fun o ho=>?_⟩) ?_ ?_
 ·simp only [List.mem_singleton] at ho
  subst ho
  exact ⟨flats_map _ (flat_of_map hg),Nat.zero_ne_one⟩
 ·simp [ren,tau]
 ·simp only [outH,setAll,List.length_nil,List.drop_zero,List.map_cons,List.map_nil,renO,rens_D,if_true]
theorem u8i (c : UInt8) : (c.toNat : Int).toNat.toUInt8 = c:=by simp
def idx (s : Bs) (c : UInt8) : Int:=if c ∈ s then (s.idxOf c : Int) else -1
theorem idx_eq (s : Bs) (c : UInt8) : Lib.indexByte s (c.toNat : Int).toNat.toUInt8 = idx s c:=by rw [u8i,indexByte_eq];rfl
theorem c247 (s : Bs) (c : UInt8) : Fn 247 [.str s,.str [c]] (i (idx s c)):=by
 refine run_walkF eok Tryz.func247 rfl (by kernel_rfl) ?_
 conv=>whnf
 repeat' (first
 | ((with_reducible refine on_dec (fun h=>?_) (fun h=>?_))<;>(try simp only [List.length_map] at h)<;>conv=>whnf)
 | ((with_reducible refine call_go ?_);(first | refine call_step (run_view (c234 _ _) rfl rfl) ?_);conv=>whnf)
 | (refine ⟨Int.le_refl 0,?_⟩;conv=>whnf)
 | ((with_reducible refine endx_go ?_);first | (refine endx (congrArg i ?_);exact idx_eq s c;done) | (refine endx (congrArg i ?_);subst h;simp [idx];done))
  | fail
  )
theorem c241 (s : Bs) (c : UInt8) : Fn 241 [.str s,.str [c]] (i (idx s c)):=by
 refine run_walkF eok Tryz.func241 rfl (by kernel_rfl) ?_
 conv=>whnf
 repeat' (first
 | ((with_reducible refine call_go ?_);(first | refine call_step (run_view (c247 _ _) rfl rfl) ?_);conv=>whnf)
 | ((with_reducible refine endx_go ?_);first | (exact endx rfl;done))
  | fail
  )
theorem idx_ge (s : Bs) (c : UInt8) : decide (0 ≤ idx s c) = s.contains c:=by
 unfold idx
 by_cases h : c ∈ s
 ·rw [if_pos h];simp [h]
 ·rw [if_neg h];simp [h]
theorem idx_in {s : Bs} {c : UInt8} (h : c ∈ s) : idx s c = (s.idxOf c : Int) ∧ s.idxOf c < s.length:=⟨if_pos h,List.idxOf_lt_length_iff.2 h⟩
theorem idx_out {s : Bs} {c : UInt8} (h : ¬ c ∈ s) : idx s c = -1:=if_neg h
attribute [local irreducible] idx
theorem c228 (s : Bs) (c : UInt8) : Fn 228 [.str s,.str [c]] (.bool (s.contains c)):=by
 refine run_walkF eok Tryz.func228 rfl (by kernel_rfl) ?_
 conv=>whnf
 repeat' (first
 | ((with_reducible refine call_go ?_);(first | refine call_step (run_view (c241 _ _) rfl rfl) ?_);conv=>whnf)
 | ((with_reducible refine endx_go ?_);first | (exact endx (congrArg D.bool (idx_ge s c));done))
  | fail
  )
theorem c240t (s : Bs) (c : UInt8) (hs : s.length < 2000000) (hc : c ∈ s) : Fn 240 [.str s,.str [c]] (.tup [.str (s.take (s.idxOf c)),.str (s.drop (s.idxOf c + 1)),.bool true]):=by
 obtain ⟨he,hl⟩:=idx_in hc
 refine run_walkF eok Tryz.func240 rfl (by kernel_rfl) ?_
 conv=>whnf
 repeat' (first
 | ((with_reducible refine on_dec_t ?_ ?_);(focus ((try simp only [List.length_map,List.length_cons,List.length_nil,List.length_append]);omega));conv=>whnf)
 | ((with_reducible refine call_go ?_);(first | refine call_step (run_view (c247 _ _) rfl rfl) ?_);conv=>whnf)
 | (refine ⟨[],[],(by decide +kernel),?_⟩;conv=>whnf)
 | (refine sl_str 0 (s.idxOf c) (by omega) (by omega) (by omega) ?_;conv=>whnf)
 | (refine sl_str (s.idxOf c + 1) s.length (by simp only [List.length_cons,List.length_nil];omega) (by omega) (by omega) ?_;conv=>whnf)
 | (refine wrap64 (by simp only [List.length_cons,List.length_nil];omega) ?_;conv=>whnf)
 | ((with_reducible refine endx_go ?_);first | (exact endx3 (by rw [List.drop_zero,List.take_length]);done))
  | fail
  )
theorem c240f (s : Bs) (c : UInt8) (hs : s.length < 2000000) (hc : ¬ c ∈ s) : Fn 240 [.str s,.str [c]] (.tup [.str s,.str [],.bool false]):=by
 have he:=idx_out hc
 refine run_walkF eok Tryz.func240 rfl (by kernel_rfl) ?_
 conv=>whnf
 repeat' (first
 | ((with_reducible refine on_dec_f ?_ ?_);(focus ((try simp only [List.length_map,List.length_cons,List.length_nil,List.length_append]);omega));conv=>whnf)
 | ((with_reducible refine call_go ?_);(first | refine call_step (run_view (c247 _ _) rfl rfl) ?_);conv=>whnf)
 | ((with_reducible refine endx_go ?_);first | (exact endx3 rfl;done))
  | fail
  )
theorem c226t (s : Bs) (c : UInt8) (hs : s.length < 2000000) (hc : c ∈ s) : Fn 226 [.str s,.str [c]] (.tup [.str (s.take (s.idxOf c)),.str (s.drop (s.idxOf c + 1)),.bool true]):=by
 refine run_walkF eok Tryz.func226 rfl (by kernel_rfl) ?_
 conv=>whnf
 repeat' (first
 | ((with_reducible refine call_go ?_);(first | refine call_step (run_view (c240t s c hs hc) rfl rfl) ?_);conv=>whnf)
 | ((with_reducible refine endx_go ?_);first | (exact endx3 rfl;done))
  | fail
  )
theorem c226f (s : Bs) (c : UInt8) (hs : s.length < 2000000) (hc : ¬ c ∈ s) : Fn 226 [.str s,.str [c]] (.tup [.str s,.str [],.bool false]):=by
 refine run_walkF eok Tryz.func226 rfl (by kernel_rfl) ?_
 conv=>whnf
 repeat' (first
 | ((with_reducible refine call_go ?_);(first | refine call_step (run_view (c240f s c hs hc) rfl rfl) ?_);conv=>whnf)
 | ((with_reducible refine endx_go ?_);first | (exact endx3 rfl;done))
  | fail
  )
theorem c244 (x c : UInt8) (s : Bs) (hs : s.length < 2000000) : Fn 244 [.str (x :: s),.str [c]] (.bool (decide (x = c))):=by
 refine run_walkF eok Tryz.func244 rfl (by kernel_rfl) ?_
 conv=>whnf
 repeat' (first
 | ((with_reducible refine on_dec_t ?_ ?_);(focus ((try simp only [List.length_map,List.length_cons,List.length_nil,List.length_append]);omega));conv=>whnf)
 | (refine sl_str 0 1 (by omega) (by simp) (by simp) ?_;conv=>whnf)
 | ((with_reducible refine endx_go ?_);first | (refine endx (congrArg D.bool ?_);rw [decide_eq_decide];simp;done))
  | fail
  )
theorem c244n (c : UInt8) : Fn 244 [.str [],.str [c]] (.bool false):=by
 refine run_walkF eok Tryz.func244 rfl (by kernel_rfl) ?_
 conv=>whnf
 repeat' (first
 | ((with_reducible refine endx_go ?_);first | (exact endx rfl;done))
  | fail
  )
theorem c238t (x : UInt8) (s : Bs) (hs : s.length < 2000000) (hx : x = 47) : Fn 238 [.str (x :: s),.str [47]] (.tup [.str s,.bool true]):=by
 refine run_walkF eok Tryz.func238 rfl (by kernel_rfl) ?_
 conv=>whnf
 repeat' (first
 | ((with_reducible refine on_ndec_t (by first | assumption ) ?_);conv=>whnf)
 | ((with_reducible refine call_go ?_);(first | refine call_step (run_view (c244 x 47 s hs) rfl rfl) ?_);conv=>whnf)
 | (refine sl_str 1 (s.length + 1) (by simp) (by simp) (by simp) ?_;conv=>whnf)
 | ((with_reducible refine endx_go ?_);first | (exact endx2 (by simp);done))
  | fail
  )
theorem c238f (x : UInt8) (s : Bs) (hs : s.length < 2000000) (hx : ¬ x = 47) : Fn 238 [.str (x :: s),.str [47]] (.tup [.str (x :: s),.bool false]):=by
 refine run_walkF eok Tryz.func238 rfl (by kernel_rfl) ?_
 conv=>whnf
 repeat' (first
 | ((with_reducible refine on_ndec_f (by assumption) ?_);conv=>whnf)
 | ((with_reducible refine call_go ?_);(first | refine call_step (run_view (c244 x 47 s hs) rfl rfl) ?_);conv=>whnf)
 | ((with_reducible refine endx_go ?_);first | (exact endx2 rfl;done))
  | fail
  )
theorem c238n : Fn 238 [.str [],.str [47]] (.tup [.str [],.bool false]):=by
 refine run_walkF eok Tryz.func238 rfl (by kernel_rfl) ?_
 conv=>whnf
 repeat' (first
 | ((with_reducible refine call_go ?_);(first | refine call_step (run_view (c244n 47) rfl rfl) ?_);conv=>whnf)
 | ((with_reducible refine endx_go ?_);first | (exact endx2 rfl;done))
  | fail
  )
theorem c238 (s : Bs) (hs : s.length < 2000000) : Fn 238 [.str s,.str [47]] (.tup [.str (restOf s),.bool (isAbs s)]):=by
 cases s with
 | nil=>exact c238n
 | cons x r=>
  have hr : r.length < 2000000:=by simp at hs;omega
  rw [restOf_c,isAbs_c]
  by_cases h : x = 47
  ·rw [if_pos h,decide_eq_true (show (x.toNat : Int) = 47 by rw [h];rfl)];exact c238t x r hr h
  ·rw [if_neg h,decide_eq_false (show ¬ (x.toNat : Int) = 47 from fun e=>h (u8_inj (b:=47) e))];exact c238f x r hr h
theorem c224 (s : Bs) (hs : s.length < 2000000) : Fn 224 [.str s,.str [47]] (.tup [.str (restOf s),.bool (isAbs s)]):=by
 refine run_walkF eok Tryz.func224 rfl (by kernel_rfl) ?_
 conv=>whnf
 repeat' (first
 | ((with_reducible refine call_go ?_);(first | refine call_step (run_view (c238 s hs) rfl rfl) ?_);conv=>whnf)
 | ((with_reducible refine endx_go ?_);first | (exact endx2 rfl;done))
  | fail
  )
theorem c246 (s : Bs) (c : UInt8) : Fn 246 [.str s,.str [c]] (i (s.count c)):=by
 refine run_walkF eok Tryz.func246 rfl (by kernel_rfl) ?_
 conv=>whnf
 repeat' (first
 | ((with_reducible refine call_go ?_);(first | refine call_step (run_view (c250 _ _) rfl rfl) ?_ );conv=>whnf)
 | (refine ⟨Int.le_refl 0,?_⟩;conv=>whnf)
 | ((with_reducible refine endx_go ?_);first | (refine endx (congrArg i ?_);rw [u8i];rfl;done))
  | fail
  )
def rowS (out : List Bs) (n : Nat) : List Bs:=out ++ List.replicate n []
theorem rowS_len (out : List Bs) (n : Nat) : (rowS out n).length = out.length + n:=by unfold rowS;simp
theorem rowS_set (out : List Bs) (n : Nat) (p : Bs) : (rowS out (n + 1)).set out.length p = rowS (out ++ [p]) n:=by
 unfold rowS
 rw [List.set_append_right _ _ (Nat.le_refl _),Nat.sub_self,List.replicate_succ,List.set_cons_zero,List.append_assoc];rfl
theorem rowS_setN {out : List Bs} {n : Nat} {p : Bs} (h : out.length < n) : (rowS out (n - out.length)).set out.length p = rowS (out ++ [p]) (n - (out ++ [p]).length):=by
 have e : n - out.length = (n - (out ++ [p]).length) + 1:=by simp;omega
 rw [e,rowS_set]
theorem rowS_zero (n : Nat) : (List.replicate n (AV.d (D.str []))) = ((rowS [] n).map D.str).map .d:=by
 unfold rowS;simp
theorem rowS_end (out : List Bs) : rowS out 0 = out:=by unfold rowS;simp
structure SpI (c : UInt8) (s : Bs) (l out : List Bs) (cur : Bs) : Prop where
 eq : out ++ cut c cur = l
 le : cur.length ≤ s.length
theorem SpI.len {c : UInt8} {s cur : Bs} {l out : List Bs} (I : SpI c s l out cur) : l.length = out.length + (cut c cur).length:=by rw [← I.eq];simp
theorem SpI.step {c : UInt8} {s cur : Bs} {l out : List Bs} (I : SpI c s l out cur) (h : c ∈ cur) : SpI c s l (out ++ [cur.take (cur.idxOf c)]) (cur.drop (cur.idxOf c + 1)):=by
 refine ⟨?_,by have:=I.le;rw [List.length_drop];omega⟩
 rw [← I.eq,cut_mem_at h,List.append_assoc];rfl
theorem SpI.in {c : UInt8} {s cur : Bs} {l out : List Bs} (I : SpI c s l out cur) (h : (out.length : Int) < (l.length : Int) - 1) : c ∈ cur:=by
 have e:=I.len
 rw [cut_len] at e
 exact List.count_pos_iff.1 (by omega)
theorem SpI.out {c : UInt8} {s cur : Bs} {l out : List Bs} (I : SpI c s l out cur) (h : ¬ (out.length : Int) < (l.length : Int) - 1) : l = out ++ [cur]:=by
 have e:=I.len
 rw [cut_len] at e
 rw [← I.eq,cut_none (List.count_eq_zero.1 (by omega))]
attribute [local irreducible] rowS
theorem c239 (s : Bs) (c : UInt8) (l : List Bs) (hl : cut c s = l) (hs : s.length < 2000000) : Run Tryz.prog 239 [.d (.str s),.d (.str [c]),.d (i 0),.d (i (-1))] [] (.sl 0 0 l.length 1 (some l.length)) [⟨(l.map D.str).map .d,1,0⟩]:=by
 have hcn : s.count c + 1 = l.length:=(by rw [← hl,cut_len]);have hcl:=List.count_le_length (a:=c) (l:=s);have hl1 : ([] : List Bs).length < l.length:=(by rw [List.length_nil];omega);have hgm : goMin (((s.count c : Nat) : Int) + 1) ((s.length : Int) + 1) = (l.length : Int):=(by unfold goMin;split<;>omega)
 refine run_walkV eok Tryz.func239 rfl (by kernel_rfl) [] (by rfl) [] ?_
 conv=>whnf
 repeat' (first
 | ((with_reducible refine on_dec_f ?_ ?_);(focus (have:=hix (by omega);omega));conv=>whnf)
 | ((with_reducible refine on_dec (fun h=>?_) (fun h=>?_))<;>(try simp only [List.length_map] at h)<;>conv=>whnf)
 | ((with_reducible refine call_go ?_);(first | refine call_step (run_view (c246 _ _) rfl rfl) ?_ | refine call_step (run_view (c241 _ _) rfl rfl) ?_);conv=>whnf)
 | ((with_reducible refine loop_go ?_);first | (refine loop2 (fun (out : List Bs) (cur : Bs)=>l.length - out.length) (fun (out : List Bs) (cur : Bs)=>SpI c s l out cur ∧ out.length < l.length) (fun (out : List Bs) (cur : Bs)=>[(0,.d (.str cur)),(1,.d (.str [c])),(2,.d (i 0)),(3,.d (i ((l.length : Int) - 1))),(9,.sl 0 0 l.length 1 (some l.length)),(10,.d (i out.length))]) (fun (out : List Bs) (cur : Bs)=>[⟨((rowS out (l.length - out.length)).map D.str).map .d,1,0⟩]) ([]) (s) (by exact ⟨⟨hl,Nat.le_refl _⟩,hl1⟩) ?_ (fun out cur C hI hC=>?_);(exact ⟨[.old 0],rfl,rfl,⟨(by first | (show (_ : D) = _;with_reducible rfl) ),(by first | (show (_ : D) = _;with_reducible rfl) ),(by first | (show (_ : D) = _;with_reducible rfl) ),(by first | (show (_ : D) = _;with_reducible rfl) ),(by first | exact ⟨rfl,rfl,rfl,rfl,rfl⟩ ),(by first | exact rfl),trivial⟩,⟨⟨rfl,rfl,.inl ⟨_,(by rw [← rowS_zero];rfl),rfl⟩⟩,trivial⟩⟩);have hix : (out.length : Int) < (l.length : Int) - 1 → idx cur c = (cur.idxOf c : Int) ∧ cur.idxOf c < cur.length:=fun h=>idx_in (hI.1.in h);have hcu:=hI.1.le;have hol:=hI.2;all_goals (conv=>whnf)))
 | ((with_reducible show C _ _);first | (refine hC (out ++ [cur.take (cur.idxOf c)]) (cur.drop (cur.idxOf c + 1)) _ _ ?_ (by simp only [List.length_append,List.length_cons,List.length_nil];omega) ?_;clear hC;rotate_left;(exact ⟨[.old 0],rfl,rfl,⟨(congrArg D.str (by rw [List.take_length])),(by first | (show (_ : D) = _;with_reducible rfl) ),(by first | (show (_ : D) = _;with_reducible rfl) ),(by first | (show (_ : D) = _;with_reducible rfl) ),(by first | exact ⟨rfl,rfl,rfl,rfl,rfl⟩ ),(congrArg (D.int .i64) (by simp)),trivial⟩,⟨⟨rfl,rfl,.inl ⟨_,rfl,rfl⟩⟩,trivial⟩⟩);(exact ⟨hI.1.step (hI.1.in (by assumption)),by simp;omega⟩)))
 | (refine wrap64 (by omega) ?_;conv=>whnf)
 | (rw [hgm];refine ⟨⟨by omega,Int.le_refl _,by omega,(capI (by omega) rfl).2.2⟩,?_⟩;conv=>whnf)
 | (refine ⟨⟨by omega,by omega⟩,?_⟩;conv=>whnf)
 | (refine sl_str 0 (cur.idxOf c) (by omega) (by have:=hix (by omega);omega) (by have:=hix (by omega);omega) ?_;conv=>whnf)
 | (refine sl_str (cur.idxOf c + 1) cur.length (by have:=hix (by omega);simp only [List.length_cons,List.length_nil];omega) (by omega) (by have:=hix (by omega);omega) ?_;conv=>whnf)
 | (refine nthK_rowi (l:=rowS out (l.length - out.length)) out.length (by omega) (by rw [rowS_len];omega) ?_;conv=>whnf)
 | (refine set_str (m:=out.length) (by omega) (rowS_setN hI.2) ?_;conv=>whnf)
 | (refine own_sl 0 (out.length + 1) (by omega) (by omega) (by omega) ?_;conv=>whnf)
 | (refine wrap64 (by have:=hix (by omega);simp only [List.length_cons,List.length_nil];omega) ?_;conv=>whnf)
 | ((with_reducible refine endx_go ?_);first | (have hlo:=hI.1.out (by assumption);refine endX_of (.inl ⟨[.old 0],rfl,rfl,⟨⟨rfl,rfl,?_,rfl,?_⟩,trivial⟩,⟨⟨rfl,rfl,.inl ⟨_,?_,rfl⟩⟩,trivial⟩⟩);(focus (rw [hlo];simp));(focus (rfl));(rw [hlo];simp [rowS_end]);done))
  | fail
  )
theorem c225 (s : Bs) (c : UInt8) (l : List Bs) (hl : cut c s = l) (hs : s.length < 2000000) : Run Tryz.prog 225 [.d (.str s),.d (.str [c])] [] (.sl 0 0 l.length 1 (some l.length)) [⟨(l.map D.str).map .d,1,0⟩]:=by
 refine run_walkV eok Tryz.func225 rfl (by kernel_rfl) [] (by rfl) [] ?_
 conv=>whnf
 repeat' (first
 | ((with_reducible refine call_go ?_);(first | refine call_step (run_newC (l:=l) (c239 s c l hl hs) (fun _=>rfl) rfl) ?_);conv=>whnf)
 | ((with_reducible refine endx_go ?_);first | (exact endX_of (.inl ⟨[.old 0],rfl,rfl,⟨⟨rfl,rfl,rfl,rfl,rfl⟩,trivial⟩,⟨⟨rfl,rfl,.inl ⟨_,rfl,rfl⟩⟩,trivial⟩⟩);done))
  | fail
  )
theorem c227 (s : Bs) : Fn 227 [.str s] (.bool (bad s)):=by
 refine run_walkF eok Tryz.func227 rfl (by kernel_rfl) ?_
 conv=>whnf
 repeat' (first
 | ((with_reducible refine onBool_split (fun h=>?_) (fun h=>?_))<;>conv=>whnf)
 | ((with_reducible refine call_go ?_);(first | refine call_step (run_view (c228 _ _) rfl rfl) ?_);conv=>whnf)
 | ((with_reducible refine endx_go ?_);first | (refine endx (congrArg D.bool ?_);unfold bad;(simp_all;done);done) )
  | fail
  )
def ixBad : List Bs → Nat → Int
 | [],_=>-1
 | x :: l,k=>if bad x = true then (k : Int) else ixBad l (k + 1)
theorem ixBad_drop {l : List Bs} {k : Nat} (h : k < l.length) : ixBad (l.drop k) k = if bad l[k] = true then (k : Int) else ixBad (l.drop (k + 1)) (k + 1):=by
 rw [List.drop_eq_getElem_cons h];rfl
theorem ixBad_end {l : List Bs} {k : Nat} (h : l.length ≤ k) : ixBad (l.drop k) k = -1:=by
 rw [List.drop_eq_nil_of_le h];rfl
theorem ixBad_any : ∀ (l : List Bs) (k : Nat),decide (0 ≤ ixBad l k) = l.any bad
 | [],k=>rfl
 | x :: l,k=>by
  have ih:=ixBad_any l (k + 1)
  rw [ixBad,List.any_cons,← ih]
  by_cases h : bad x = true
  ·rw [if_pos h,h];simp
  ·rw [if_neg h];simp [h]
attribute [local irreducible] bad
theorem c242 (l : List Bs) (hs : l.length < 2000000) : Fn 242 [.fs (l.map .str),.fn 227 [] []] (i (ixBad l 0)):=by
 refine run_walkF eok Tryz.func242 rfl (by kernel_rfl) ?_
 conv=>whnf
 repeat' (first
 | ((with_reducible refine on_dec (fun h=>?_) (fun h=>?_))<;>(try simp only [List.length_map] at h)<;>conv=>whnf)
 | ((with_reducible refine onBool_split (fun h=>?_) (fun h=>?_))<;>conv=>whnf)
 | ((with_reducible refine call_go ?_);(first | refine call_step (run_view (c227 _) rfl rfl) ?_);conv=>whnf)
 | ((with_reducible refine loop_go ?_);first | (refine loop1 (fun (k : Nat)=>l.length - k) (fun (k : Nat)=>k ≤ l.length ∧ ixBad l 0 = ixBad (l.drop k) k) (fun (k : Nat)=>[(0,.d (.fs (l.map .str))),(1,.d (.fn 227 [] [])),(7,.d (i l.length)),(8,.d (i k))]) (fun (k : Nat)=>[]) (0) (by first | (simp;done) ) ?_ (fun k C hI hC=>?_);(exact ⟨[],rfl,rfl,⟨(by first | (show (_ : D) = _;with_reducible rfl) ),(by first | (show (_ : D) = _;with_reducible rfl) ),(by first | exact congrArg (D.int .i64) (by simp only [List.length_map]) ),(by first | exact congrArg (D.int .i64) (by omega) ),trivial⟩,trivial⟩);all_goals (conv=>whnf)))
 | ((with_reducible show C _ _);first | (refine hC (k + 1) _ _ ?_ (by omega) ?_;clear hC;rotate_left;(exact ⟨[],rfl,rfl,⟨(by first | (show (_ : D) = _;with_reducible rfl) ),(by first | (show (_ : D) = _;with_reducible rfl) ),(by first | (show (_ : D) = _;with_reducible rfl) ),(by first | exact congrArg (D.int .i64) (by omega) ),trivial⟩,trivial⟩);(exact ⟨by omega,by rw [hI.2,ixBad_drop (by omega),if_neg (by simpa using h)]⟩)))
 | (refine ix_map (by omega) ?_;conv=>whnf)
 | (refine wrap64 (by omega) ?_;conv=>whnf)
 | ((with_reducible refine endx_go ?_);first | (exact endx (congrArg i (by rw [hI.2,ixBad_drop (by omega),if_pos h]));done) | (exact endx (congrArg i (by rw [hI.2,ixBad_end (by omega)]));done))
  | fail
  )
theorem c229 (l : List Bs) (hs : l.length < 2000000) : Fn 229 [.fs (l.map .str),.fn 227 [] []] (.bool (l.any bad)):=by
 refine run_walkF eok Tryz.func229 rfl (by kernel_rfl) ?_
 conv=>whnf
 repeat' (first
 | ((with_reducible refine call_go ?_);(first | refine call_step (run_view (c242 l hs) rfl rfl) ?_);conv=>whnf)
 | ((with_reducible refine endx_go ?_);first | (exact endx (congrArg D.bool (ixBad_any l 0));done))
  | fail
  )
attribute [local irreducible] restOf isAbs dots
theorem c211n (s : Bs) (hs : s.length < 2000000) (hr : restOf s = []) : Fn 211 [.str s] (.tup [PPe ⟨isAbs s,[],[]⟩,.bool (isAbs s)]):=by
 refine run_walkF eok Tryz.func211 rfl (by kernel_rfl) ?_
 conv=>whnf
 repeat' (first
 | (exact absurd (by assumption) (of_decide_eq_false h))
 | ((with_reducible refine onBool_split (fun h=>?_) (fun h=>?_))<;>conv=>whnf)
 | ((with_reducible refine call_go ?_);(first | refine call_step (run_view (c224 s hs) rfl rfl) ?_ );conv=>whnf)
 | ((with_reducible refine endx_go ?_);first | (exact endxv rfl rfl;done))
  | fail
  )
theorem rest_le (s : Bs) : (restOf s).length ≤ s.length:=by
 cases s with
 | nil=>unfold restOf;decide
 | cons x r=>exact rest_len x r
theorem c211f (s : Bs) (l : List Bs) (hs : s.length < 100000) (hr : ¬ restOf s = []) (hl : cut 47 (restOf s) = l) (hc : ¬ 58 ∈ (l[l.length - 1]'(lastIx (by rw [← hl];exact cut_ne _ _)))) : Fn 211 [.str s] (.tup [PPe ⟨isAbs s,l,[]⟩,.bool (!l.any bad)]):=by
 have hs : s.length < 2000000:=(by omega);have hl0 : 0 < l.length:=List.length_pos_iff.2 (by rw [← hl];exact cut_ne _ _);have hrl:=rest_le s;have hll : l.length < 200000:=(by rw [← hl,cut_len];have:=List.count_le_length (a:=47) (l:=restOf s);omega);have hpl : ∀ x ∈ l,x.length < 2000000:=(by intro y hy;rw [← hl] at hy;have:=(cut_mem hy).2;omega);have hls : (l[l.length - 1]'(by omega)).length < 2000000:=hpl _ (List.getElem_mem _)
 refine run_walkF eok Tryz.func211 rfl (by kernel_rfl) ?_
 conv=>whnf
 repeat' (first
 | (exact absurd (of_decide_eq_true h) (by assumption))
 | ((with_reducible refine on_not (fun h=>?_) (fun h=>?_))<;>conv=>whnf)
 | ((with_reducible refine onBool_split (fun h=>?_) (fun h=>?_))<;>conv=>whnf)
 | ((with_reducible refine call_go ?_);(first | refine call_step (run_view (c224 s hs) rfl rfl) ?_ | refine call_step (run_newC (l:=l) (c225 (restOf s) 47 l hl (by have:=rest_le s;omega)) (fun _=>rfl) rfl) ?_ | refine call_step (run_view (c226f _ 58 hls hc) rfl rfl) ?_ | refine call_step (run_view (c229 l (by omega)) rfl (vl2 (view_map rfl Nat.two_pos) rfl)) ?_ );conv=>whnf)
 | (refine ⟨[],[(0,4),(0,12),(0,16)],(by decide +kernel),?_⟩;conv=>whnf)
 | (refine wrap64 (by omega) ?_;conv=>whnf)
 | (refine ⟨⟨by omega,by omega⟩,?_⟩;conv=>whnf)
 | (refine nthK_rowi (l:=l) (l.length - 1) (by omega) (by omega) ?_;conv=>whnf)
 | ((with_reducible refine endx_go ?_);first | (refine endxv (view_tup (vlc (view_agg (vlc rfl (vlc (view_map rfl Nat.two_pos) (vlc rfl vln)))) (vlc rfl vln))) ?_;rw [h];rfl;done))
 | (refine ⟨rfl,?_⟩;conv=>whnf)
  | fail
  )
theorem view_mapL {α : Type} {f : α → D} {l : List α} {H : Heap} {id k k' st n len : Nat} {cap : Option Nat} (e : len = l.length) (h : H[id]? = some ⟨(l.map f).map .d,k,st⟩) (hst : st < 2) : view (n + 2) H (.sl id 0 len k' cap) = some (.fs (l.map f)):=by
 subst e;exact view_map h hst
theorem c211t (s : Bs) (l L : List Bs) (hs : s.length < 100000) (hr : ¬ restOf s = []) (hl : cut 47 (restOf s) = l) (hc : 58 ∈ (l[l.length - 1]'(lastIx (by rw [← hl];exact cut_ne _ _)))) (hL : l.set (l.length - 1) (pieceA (l[l.length - 1]'(lastIx (by rw [← hl];exact cut_ne _ _)))) = L) : Fn 211 [.str s] (.tup [PPe ⟨isAbs s,L,pieceB (l[l.length - 1]'(lastIx (by rw [← hl];exact cut_ne _ _)))⟩,.bool (!L.any bad && (!bad (pieceB (l[l.length - 1]'(lastIx (by rw [← hl];exact cut_ne _ _)))) && !dots (pieceA (l[l.length - 1]'(lastIx (by rw [← hl];exact cut_ne _ _))))))]):=by
 have hs : s.length < 2000000:=(by omega);have hl0 : 0 < l.length:=List.length_pos_iff.2 (by rw [← hl];exact cut_ne _ _);have hrl:=rest_le s;have hll : l.length < 200000:=(by rw [← hl,cut_len];have:=List.count_le_length (a:=47) (l:=restOf s);omega);have hpl : ∀ x ∈ l,x.length < 2000000:=(by intro y hy;rw [← hl] at hy;have:=(cut_mem hy).2;omega);have hls : (l[l.length - 1]'(by omega)).length < 2000000:=hpl _ (List.getElem_mem _);have hLl : L.length = l.length:=(by rw [← hL];simp)
 refine run_walkF eok Tryz.func211 rfl (by kernel_rfl) ?_
 conv=>whnf
 repeat' (first
 | (exact absurd (of_decide_eq_true h) (by assumption))
 | ((with_reducible refine on_not (fun h=>?_) (fun h=>?_))<;>conv=>whnf)
 | ((with_reducible refine onBool_split (fun h=>?_) (fun h=>?_))<;>conv=>whnf)
 | ((with_reducible refine call_go ?_);(first | refine call_step (run_view (c224 s hs) rfl rfl) ?_ | refine call_step (run_newC (l:=l) (c225 (restOf s) 47 l hl (by have:=rest_le s;omega)) (fun _=>rfl) rfl) ?_ | refine call_step (run_view (c226t _ 58 hls hc) rfl rfl) ?_ | refine call_step (run_view (c229 L (by omega)) rfl (vl2 (view_mapL hLl.symm rfl Nat.two_pos) rfl)) ?_ | refine call_step (run_view (c230 _) rfl rfl) ?_ | refine call_step (run_view (c227 _) rfl rfl) ?_);conv=>whnf)
 | (refine ⟨[],[(0,4),(0,12),(0,16)],(by decide +kernel),?_⟩;conv=>whnf)
 | (refine wrap64 (by omega) ?_;conv=>whnf)
 | (refine set_str (m:=l.length - 1) (L:=L) (by omega) hL ?_;conv=>whnf)
 | (refine ⟨⟨by omega,by omega⟩,?_⟩;conv=>whnf)
 | (refine nthK_rowi (l:=l) (l.length - 1) (by omega) (by omega) ?_;conv=>whnf)
 | ((with_reducible refine endx_go ?_);first | (refine endxv (view_tup (vlc (view_agg (vlc rfl (vlc (view_mapL hLl.symm rfl Nat.two_pos) (vlc rfl vln)))) (vlc rfl vln))) ?_;(simp_all [PPe,pieceA,pieceB];done);done) | (refine endxv (view_tup (vlc (view_agg (vlc rfl (vlc (view_mapL hLl.symm rfl Nat.two_pos) (vlc rfl vln)))) (vlc rfl vln))) ?_;rw [h];rfl;done))
 | (refine ⟨rfl,?_⟩;conv=>whnf)
  | fail
  )
theorem c211 (s : Bs) (hs : s.length < 100000) : Fn 211 [.str s] (.tup [PPe (splitI s).1,.bool (splitI s).2]):=by
 by_cases hr : restOf s = []
 ·have e : splitI s = (⟨isAbs s,[],[]⟩,isAbs s):=by unfold splitI;rw [if_pos hr]
  rw [e];exact c211n s (by omega) hr
 ·have hne : cut 47 (restOf s) ≠ []:=cut_ne _ _
  have el : lastOf (cut 47 (restOf s)) = (cut 47 (restOf s))[(cut 47 (restOf s)).length - 1]'(lastIx hne):=last_get hne
  by_cases hc : (lastOf (cut 47 (restOf s))).contains 58 = true
  ·rw [splitI_c hr hc]
   have hm : 58 ∈ lastOf (cut 47 (restOf s)):=by simpa using hc
   rw [el] at hm ⊢
   have:=c211t s (cut 47 (restOf s)) _ hs hr rfl hm rfl
   rw [set_last hne] at this
   exact this
  ·rw [splitI_n hr hc]
   have hm : ¬ 58 ∈ lastOf (cut 47 (restOf s)):=by simpa using hc
   rw [el] at hm
   exact c211f s _ hs hr rfl hm
end Go.Proofs.YtkmhnaojgkcjoaaGreatDoor
namespace Go.Proofs.YtkmhnaojgkcjoaaGreatDoor
open Go Dw
set_option maxRecDepth 10000
attribute [local irreducible] Run
set_option maxHeartbeats 4000000
open Paths
attribute [local irreducible] nameErr cut normal dots partErr
theorem cut_sum {c : UInt8} {s x : Bs} (h : x ∈ cut c s) : x.length ≤ s.length:=(cut_mem h).2
theorem split_len (s : Bs) : (∀ x ∈ (splitI s).1.parts,x.length ≤ s.length) ∧ (splitI s).1.stream.length ≤ s.length ∧ (splitI s).1.parts.length ≤ s.length + 1:=by
 have hr:=rest_le s
 unfold splitI
 split
 ·exact ⟨fun x h=>(by cases h),Nat.zero_le _,Nat.zero_le _⟩
 ·have hn : (cut 47 (restOf s)).length ≤ s.length + 1:=by rw [cut_len];have:=List.count_le_length (a:=47) (l:=restOf s);omega
  have hne : cut 47 (restOf s) ≠ []:=cut_ne _ _
  have hl : (lastOf (cut 47 (restOf s))).length ≤ s.length:=by
   rw [show lastOf (cut 47 (restOf s)) = _ from last_get hne]
   have:=cut_sum (List.getElem_mem (l:=cut 47 (restOf s)) (lastIx hne));omega
  split
  ·refine ⟨fun x h=>?_,?_,?_⟩
   ·rcases List.mem_append.1 h with h | h
    ·have:=cut_sum ((List.dropLast_sublist _).mem h);omega
    ·rw [List.mem_singleton] at h;subst h
     unfold pieceA;rw [List.length_take];omega
   ·unfold pieceB;simp only [List.length_drop];omega
   ·simp only [List.length_append,List.length_dropLast,List.length_cons,List.length_nil];omega
  ·refine ⟨fun x h=>?_,Nat.zero_le _,hn⟩
   have:=cut_sum h;omega
def eachP : List Bs → Nat → Int × Int
 | [],_=>(0,0)
 | x :: l,k=>if partErr x = 0 then eachP l (k + 1) else ((k : Int),partErr x)
theorem eachP_drop {l : List Bs} {k : Nat} (h : k < l.length) : eachP (l.drop k) k = if partErr l[k] = 0 then eachP (l.drop (k + 1)) (k + 1) else ((k : Int),partErr l[k]):=by
 rw [List.drop_eq_getElem_cons h];rfl
theorem eachP_end {l : List Bs} {k : Nat} (h : l.length ≤ k) : eachP (l.drop k) k = (0,0):=by
 rw [List.drop_eq_nil_of_le h];rfl
theorem eachP_first : ∀ (l : List Bs) (k : Nat),(eachP l k).2 = firstE (l.map partErr)
 | [],k=>rfl
 | x :: l,k=>by
  rw [eachP,List.map_cons,firstE_cons]
  split
  ·exact eachP_first l (k + 1)
  ·rfl
theorem c232 (n : Int) (s : Bs) (hs : s.length < 2000000) : Fn 232 [i n,.str s] (i (partErr s)):=by
 refine run_walkF eok Tryz.func232 rfl (by kernel_rfl) ?_
 conv=>whnf
 repeat' (first
 | ((with_reducible refine onBool_split (fun h=>?_) (fun h=>?_))<;>conv=>whnf)
 | ((with_reducible refine call_go ?_);(first | refine call_step (run_view (c230 _) rfl rfl) ?_ | refine call_step (run_view (c123 s hs) rfl rfl) ?_);conv=>whnf)
 | ((with_reducible refine endx_go ?_);first | (exact endx (congrArg i (pe_dots h).symm);done) | (exact endx (congrArg i (pe_name h).symm);done))
  | fail
  )
theorem c231 (l : List Bs) (hl : l.length < 2000000) (hb : ∀ x ∈ l,x.length < 2000000) : Fn 231 [.fs (l.map .str),.fn 232 [] []] (.tup [i (eachP l 0).1,i (eachP l 0).2]):=by
 refine run_walkF eok Tryz.func231 rfl (by kernel_rfl) ?_
 conv=>whnf
 repeat' (first
 | ((with_reducible refine on_dec (fun h=>?_) (fun h=>?_))<;>(try simp only [List.length_map] at h)<;>conv=>whnf)
 | ((with_reducible refine on_ndec (fun h=>?_) (fun h=>?_))<;>(try simp only [List.length_map] at h)<;>conv=>whnf)
 | ((with_reducible refine call_go ?_);(first | refine call_step (run_view (c232 _ _ (hb _ (List.getElem_mem _))) rfl rfl) ?_);conv=>whnf)
 | ((with_reducible refine loop_go ?_);first | (refine loop1 (fun (k : Nat)=>l.length - k) (fun (k : Nat)=>k ≤ l.length ∧ eachP l 0 = eachP (l.drop k) k) (fun (k : Nat)=>[(1,.d (.fn 232 [] [])),(9,.d (.fs (l.map .str))),(10,.d (i l.length)),(11,.d (i k))]) (fun (k : Nat)=>[]) (0) (by first | (simp;done) ) ?_ (fun k C hI hC=>?_);(exact ⟨[],rfl,rfl,⟨(by first | (show (_ : D) = _;with_reducible rfl) ),(by first | (show (_ : D) = _;with_reducible rfl) ),(by first | exact congrArg (D.int .i64) (by simp only [List.length_map]) ),(by first | exact congrArg (D.int .i64) (by omega) ),trivial⟩,trivial⟩);all_goals (conv=>whnf)))
 | ((with_reducible show C _ _);first | (refine hC (k + 1) _ _ ?_ (by omega) ?_;clear hC;rotate_left;(exact ⟨[],rfl,rfl,⟨(by first | (show (_ : D) = _;with_reducible rfl) ),(by first | (show (_ : D) = _;with_reducible rfl) ),(by first | (show (_ : D) = _;with_reducible rfl) ),(by first | exact congrArg (D.int .i64) (by omega) ),trivial⟩,trivial⟩);(exact ⟨by omega,by rw [hI.2,eachP_drop (by omega),if_pos h]⟩)))
 | (refine ix_map (by omega) ?_;conv=>whnf)
 | (refine wrap64 (by omega) ?_;conv=>whnf)
 | ((with_reducible refine endx_go ?_);first | (refine endx2 ?_;(rw [hI.2,eachP_drop (by omega),if_neg h])<;>rfl;done) | (refine endx2 ?_;(rw [hI.2,eachP_end (by omega)])<;>rfl;done))
  | fail
  )
theorem c212 (l : List Bs) (hl : l.length < 2000000) (hb : ∀ x ∈ l,x.length < 2000000) : Fn 212 [.fs (l.map .str)] (i (firstE (l.map partErr))):=by
 refine run_walkF eok Tryz.func212 rfl (by kernel_rfl) ?_
 conv=>whnf
 repeat' (first
 | ((with_reducible refine call_go ?_);(first | refine call_step (run_view (c231 l hl hb) rfl rfl) ?_);conv=>whnf)
 | ((with_reducible refine endx_go ?_);first | (exact endx (congrArg i (eachP_first l 0));done))
  | fail
  )
theorem c213 (s : Bs) (hs : s.length < 2000000) : Fn 213 [.str s] (i (streamErr s)):=by
 refine run_walkF eok Tryz.func213 rfl (by kernel_rfl) ?_
 conv=>whnf
 repeat' (first
 | ((with_reducible refine onBool_split (fun h=>?_) (fun h=>?_))<;>conv=>whnf)
 | ((with_reducible refine call_go ?_);(first | refine call_step (run_view (c123 s hs) rfl rfl) ?_);conv=>whnf)
 | ((with_reducible refine endx_go ?_);first | (refine endx (congrArg i ?_);have h9 : s = []:=of_decide_eq_true h;unfold streamErr;rw [if_pos h9];done) | (refine endx (congrArg i ?_);have h9 : ¬ s = []:=of_decide_eq_false h;unfold streamErr;rw [if_neg h9];done))
  | fail
  )
attribute [local irreducible] splitI streamErr
theorem errI_eq (s : Bs) : errI s = firstE [if (splitI s).2 = true then 0 else 7,firstE ((splitI s).1.parts.map partErr),streamErr (splitI s).1.stream,if decide (((splitI s).1.parts.length : Int) ≤ 16) = true then 0 else 8]:=by
 unfold errI
 have e : (if (splitI s).1.parts.length ≤ 16 then (0 : Int) else 8) = if decide (((splitI s).1.parts.length : Int) ≤ 16) = true then 0 else 8:=by
  by_cases h : (splitI s).1.parts.length ≤ 16
  ·rw [if_pos h,if_pos (decide_eq_true (by omega))]
  ·rw [if_neg h,if_neg (by simp;omega)]
 rw [e]
theorem parse_big {s : Bs} (h : (200 : Int) < s.length) : parse s = (noPP,8):=by
 rw [← parse_eq];unfold parseI;rw [if_pos (by omega)]
theorem parse_okI {s : Bs} (h : ¬ (200 : Int) < s.length) (h2 : errI s = 0) : parse s = ((splitI s).1,0):=by
 rw [← parse_eq];unfold parseI;rw [if_neg (by omega),if_pos h2]
theorem parse_noI {s : Bs} (h : ¬ (200 : Int) < s.length) (h2 : ¬ errI s = 0) : parse s = (noPP,errI s):=by
 rw [← parse_eq];unfold parseI;rw [if_neg (by omega),if_neg h2]
attribute [local irreducible] parse
theorem c189 (s : Bs) : Fn 189 [.str s] (.tup [PPe (parse s).1,i (parse s).2]):=by
 obtain ⟨hp1,hp2,hp3⟩:=split_len s
 refine run_walkF eok Tryz.func189 rfl (by kernel_rfl) ?_
 conv=>whnf
 repeat' (first
 | ((with_reducible refine on_dec (fun h=>?_) (fun h=>?_))<;>(try simp only [List.length_map] at h)<;>conv=>whnf)
 | ((with_reducible refine on_ndec (fun h=>?_) (fun h=>?_))<;>(try simp only [List.length_map] at h)<;>conv=>whnf)
 | ((with_reducible refine call_go ?_);(first | refine call_step (run_viewF (c211 s (by omega)) rfl) ?_ | refine call_step (run_view (c112 _ _) rfl rfl) ?_ | refine call_step (run_view (c212 _ (by omega) (fun x hx=>by have:=hp1 x hx;omega)) rfl rfl) ?_ | refine call_step (run_view (c213 _ (by omega)) rfl rfl) ?_ | refine call_step (run_view (c111 [_,_,_,_] (by simp)) rfl rfl) ?_);conv=>whnf)
 | (refine ⟨[],[(3,1),(6,1),(9,1),(6,4),(9,4),(9,7)],(by decide +kernel),?_⟩;conv=>whnf)
 | ((with_reducible refine endx_go ?_);first | (refine endxv rfl ?_;(rw [parse_big h])<;>rfl;done) | (refine endxv rfl ?_;rw [← errI_eq] at h;rw [parse_noI (by assumption) h];simp only [List.length_map];(rw [errI_eq])<;>rfl;done) | (refine endxv rfl ?_;rw [← errI_eq] at h;(rw [parse_okI (by assumption) h])<;>rfl;done))
 | (refine ⟨rfl,?_⟩;conv=>whnf)
  | fail
  )
attribute [local irreducible] glue
attribute [local irreducible] text
end Go.Proofs.YtkmhnaojgkcjoaaGreatDoor
namespace Go.Proofs.YtkmhnaojgkcjoaaGreatDoor
open Go Dw
set_option maxRecDepth 10000
attribute [local irreducible] Run
set_option maxHeartbeats 2000000
abbrev rowW (l : List Way) : List AV:=(l.map wayE).map .d
def capO : Bool → Nat → Option Nat
 | true,n=>some n
 | false,_=>none
theorem ix_nd {t : List Nod} {n : Int} {nd : Nod} {K : D → Prop} (h0 : 0 ≤ n) (h : t[n.toNat]? = some nd) (k : K nd.enc) : 0 ≤ n ∧ nthK (t.map Nod.enc) n.toNat K:=
 ⟨h0,nthK_of (x:=nd.enc) (by simp [h]) k⟩
theorem capO_eq {fr : Bool} {n m : Nat} (h : n = m) : capO fr n = capO fr m:=by rw [h]
theorem capO_pred {fr : Bool} {n : Nat} : (match capO fr (n + 1) with | some c=>some (c - 1) | none=>none) = capO fr n:=by cases fr<;>rfl
theorem dropN_of {α : Type} {n : Nat} {l : List α} {K : List α → Prop} (k : K (l.drop n)) : dropN n l K:=by rw [dropN_eq];exact k
end Go.Proofs.YtkmhnaojgkcjoaaGreatDoor
namespace Go.Proofs.YtkmhnaojgkcjoaaGreatDoor
open Go Dw
set_option maxRecDepth 10000
attribute [local irreducible] Run
set_option maxHeartbeats 2000000
theorem hpl {q : List Bs} : 0 + q.length = ((q.map D.str).map AV.d).length:=by simp
end Go.Proofs.YtkmhnaojgkcjoaaGreatDoor
namespace Go.Proofs.YtkmhnaojgkcjoaaGreatDoor
open Go Dw Paths
set_option maxRecDepth 100000
end Go.Proofs.YtkmhnaojgkcjoaaGreatDoor
namespace Paths
end Paths
namespace Paths
def fmtErr (p : PP) : Int:=
 firstE [if p.parts.length ≤ 16 then 0 else 8,firstE (p.parts.map partErr),streamErr p.stream,if p.stream = [] ∨ (p.parts ≠ [] ∧ dots (p.parts.getLastD []) = false) then 0 else 3,if p.parts ≠ [] ∨ p.abs = true then 0 else 7,if (text p).length ≤ 200 then 0 else 8]
end Paths
namespace Go.Proofs.YtkmhnaojgkcjoaaGreatDoor
open Go Dw
set_option maxRecDepth 10000
attribute [local irreducible] Run
set_option maxHeartbeats 2000000
open Paths
attribute [local irreducible] nameErr cut normal dots partErr text parse glue
theorem b4 {q : Prop} [Decidable q] {b : Bool} (h : q ↔ b = true) : (if q then (0 : Int) else 3) = if b = true then 0 else 3:=by
 cases b
 ·rw [if_neg (by rw [h];simp),if_neg (by simp)]
 ·rw [if_pos (h.2 rfl),if_pos rfl]
end Go.Proofs.YtkmhnaojgkcjoaaGreatDoor
namespace Go.Proofs.YtkmhnaojgkcjoaaGreatDoor
open Go Dw
set_option maxRecDepth 10000
attribute [local irreducible] Run
set_option maxHeartbeats 2000000
open Paths
attribute [local irreducible] nameErr cut normal dots partErr text parse glue fmtErr
end Go.Proofs.YtkmhnaojgkcjoaaGreatDoor
namespace Go.Proofs.YtkmhnaojgkcjoaaGreatDoor
open Go Dw
set_option maxRecDepth 10000
attribute [local irreducible] Run
set_option maxHeartbeats 2000000
open Paths
def longE (e : Ent) : Bool:=decide ((60 : Int) < e.name.length)
def smGo : List Nod → Int → Bool
 | [],n=>decide (n ≤ 80)
 | x :: l,n=>if decide ((24 : Int) < x.ents.length) || decide ((300 : Int) < x.target.length) then false else if x.ents.any longE then false else smGo l (n + x.ents.length)
theorem sm_take {l : List Ent} {m : Nat} (hm : m < l.length) (h : ∀ x ∈ l.take m,longE x = false) (h1 : ¬ (60 : Int) < l[m].name.length) : ∀ x ∈ l.take (m + 1),longE x = false:=by
 rw [List.take_succ_eq_append_getElem hm]
 intro x hx
 rcases List.mem_append.1 hx with hx | hx
 ·exact h x hx
 ·rw [List.mem_singleton] at hx;subst hx;exact decide_eq_false h1
attribute [local irreducible] smGo
end Go.Proofs.YtkmhnaojgkcjoaaGreatDoor
namespace Go.Proofs.YtkmhnaojgkcjoaaGreatDoor
open Go Dw
set_option maxRecDepth 10000
attribute [local irreducible] Run
set_option maxHeartbeats 2000000
open Paths
attribute [local irreducible] nameErr cut normal dots partErr text parse glue fmtErr
def sized (p : PP) : Bs × Int:=if 16 < p.parts.length ∨ 200 < (text p).length then ([],8) else (text p,0)
attribute [local irreducible] sized
abbrev rep (n : Nat) : List AV:=List.replicate n (.d (.str []))
abbrev rowL (l : List Bs) : D:=.fs (l.map .str)
end Go.Proofs.YtkmhnaojgkcjoaaGreatDoor
namespace Go.Proofs.YtkmhnaojgkcjoaaGreatDoor
open Go Dw
set_option maxRecDepth 10000
attribute [local irreducible] Run
set_option maxHeartbeats 2000000
open Paths
theorem step_bd {P : Bs → Prop} {abs : Bool} {out : List Bs} {s : Bs} (ho : ∀ x ∈ out,P x) (hs : P s) : (∀ x ∈ normStep abs out s,P x) ∧ (normStep abs out s).length ≤ out.length + 1:=by
 have ha : (∀ x ∈ out ++ [s],P x) ∧ (out ++ [s]).length ≤ out.length + 1:=⟨fun x hx=>by
  rcases List.mem_append.1 hx with hx | hx
  ·exact ho x hx
  ·rw [List.mem_singleton] at hx;subst hx;exact hs,by simp⟩
 have hz : (∀ x ∈ out,P x) ∧ out.length ≤ out.length + 1:=⟨ho,by omega⟩
 unfold normStep
 split
 ·exact hz
 ·split
  ·exact ha
  ·split
   ·exact ⟨fun x hx=>ho x ((List.dropLast_sublist _).mem hx),by rw [List.length_dropLast];omega⟩
   ·split
    ·exact hz
    ·exact ha
theorem foldn_bd {P : Bs → Prop} {abs : Bool} : ∀ {l out : List Bs},(∀ x ∈ out,P x) → (∀ x ∈ l,P x) → (∀ x ∈ l.foldl (normStep abs) out,P x) ∧ (l.foldl (normStep abs) out).length ≤ out.length + l.length
 | [],out,ho,_=>⟨ho,Nat.le_refl _⟩
 | s :: l,out,ho,h=>by
  have h1:=step_bd (abs:=abs) ho (h s (by simp))
  have ih:=foldn_bd (abs:=abs) (l:=l) h1.1 (fun x hx=>h x (by simp [hx]))
  refine ⟨ih.1,?_⟩
  have:=ih.2
  rw [List.foldl_cons,List.length_cons]
  omega
theorem normal_bd {P : Bs → Prop} {p : PP} (h : ∀ x ∈ p.parts,P x) (h0 : P [46]) : (∀ x ∈ (normal p).parts,P x) ∧ (normal p).parts.length ≤ p.parts.length + 1:=by
 have hf:=foldn_bd (abs:=p.abs) (l:=p.parts) (out:=[]) (fun x hx=>by cases hx) h
 unfold normal
 simp only
 split
 ·exact ⟨fun x hx=>by rw [List.mem_singleton] at hx;subst hx;exact h0,by simp⟩
 ·exact ⟨hf.1,by have:=hf.2;rw [List.length_nil] at this;omega⟩
def Sm (p : PP) : Prop:=p.parts.length ≤ 900 ∧ (∀ x ∈ p.parts,x.length ≤ 60) ∧ p.stream.length ≤ 200
theorem Sm.parts {p : PP} (h : Sm p) : p.parts.length < 2000000:=by have:=h.1;omega
theorem Sm.normal {p : PP} (h : p.parts.length ≤ 800) (hb : ∀ x ∈ p.parts,x.length ≤ 60) (ht : p.stream.length ≤ 200) : Sm (normal p):=by
 have:=normal_bd (P:=fun x=>x.length ≤ 60) hb (by decide)
 exact ⟨by have:=this.2;omega,this.1,ht⟩
def behind (a b : PP) : PP:=⟨true,a.parts ++ b.parts,b.stream⟩
def joinR (a b : Bs) : Bs × Int:=
 if (parse a).2 ≠ 0 then ([],(parse a).2) else if (parse b).2 ≠ 0 then ([],(parse b).2) else if (parse a).1.abs = false ∨ (parse a).1.stream ≠ [] then ([],3)
 else if (parse b).1.abs = true then sized (normal (parse b).1) else sized (normal (behind (parse a).1 (parse b).1))
attribute [local irreducible] nameErr cut normal dots partErr text parse glue fmtErr sized joinR
end Go.Proofs.YtkmhnaojgkcjoaaGreatDoor
namespace Go.Proofs.YtkmhnaojgkcjoaaGreatDoor
open Go Dw
set_option maxRecDepth 10000
attribute [local irreducible] Run
set_option maxHeartbeats 2000000
open Paths
def up : Bs:=[46,46]
attribute [local irreducible] nameErr cut normal dots partErr text parse glue fmtErr sized joinR fold
theorem fold_dec {a b : Bs} (h : a = b) : true = decide (fold a = fold b):=by rw [h];exact (decide_eq_true rfl).symm
theorem c162 (a b : Bs) (ha : a.length < 2000000) (hb : b.length < 2000000) (h0 : nameErr a = 0) (h1 : nameErr b = 0) : Fn 162 [.str a,.str b] (.bool (decide (fold a = fold b))):=by
 refine run_walkF eok Tryz.func162 rfl (by kernel_rfl) ?_
 conv=>whnf
 repeat' (first
 | ((with_reducible refine on_dec_f ?_ ?_);(focus ((try simp only [List.length_map,List.length_cons,List.length_nil,List.length_append]);omega));conv=>whnf)
 | ((with_reducible refine on_dec_t ?_ ?_);(focus ((try simp only [List.length_map,List.length_cons,List.length_nil,List.length_append]);omega));conv=>whnf)
 | ((with_reducible refine on_dec (fun h=>?_) (fun h=>?_))<;>(try simp only [List.length_map] at h)<;>conv=>whnf)
 | ((with_reducible refine on_ndec (fun h=>?_) (fun h=>?_))<;>(try simp only [List.length_map] at h)<;>conv=>whnf)
 | ((with_reducible refine on_not (fun h=>?_) (fun h=>?_))<;>conv=>whnf)
 | ((with_reducible refine onBool_split (fun h=>?_) (fun h=>?_))<;>conv=>whnf)
 | ((with_reducible refine call_go ?_);(first | refine call_step (run_view (c164 a ha h0) rfl rfl) ?_ | refine call_step (run_view (c164 b hb h1) rfl rfl) ?_);conv=>whnf)
 | (refine ⟨⟨(by first | rfl | (simp;done)),cap_ok (by simp only [List.length_map,List.length_cons,List.length_nil,List.length_append];omega) rfl⟩,?_⟩;conv=>whnf)
 | (refine ⟨mem_one ⟨rfl,rfl⟩,?_⟩;conv=>whnf)
 | (refine ⟨(by intro y hy;obtain ⟨x,_,rfl⟩:=List.mem_map.1 hy;first | rfl | exact ⟨rfl,rfl⟩),?_⟩;conv=>whnf)
 | (refine ⟨cap_ok (by first | omega | (simp only [List.length_map];omega)) rfl,?_⟩;conv=>whnf)
 | (refine ix_map (by omega) ?_;conv=>whnf)
 | (refine ix_str (by omega) ?_;conv=>whnf)
 | (refine wrap64 (by omega) ?_;conv=>whnf)
 | (refine wrap64 (by first | omega | (simp only [List.length_map];omega)) ?_;conv=>whnf)
 | (exfalso;simp only [List.length_map,List.length_cons,List.length_nil,List.length_append] at h;omega)
 | ((with_reducible refine endx_go ?_);first | (exact endx (congrArg D.bool (fold_dec h));done) | (exact endx rfl;done))
 | (refine ⟨rfl,?_⟩;conv=>whnf)
  | fail
  )
attribute [local irreducible] plainErr
end Go.Proofs.YtkmhnaojgkcjoaaGreatDoor
namespace Go.Proofs.YtkmhnaojgkcjoaaGreatDoor
open Go Dw
set_option maxRecDepth 10000
attribute [local irreducible] Run
set_option maxHeartbeats 2000000
open Paths
attribute [local irreducible] nameErr cut normal dots partErr text parse glue fmtErr sized joinR fold plainErr
def pre : List Bs → List Bs → Nat
 | x :: l,y :: m=>if fold x = fold y then pre l m + 1 else 0
 | _,_=>0
def relP (l m : List Bs) : List Bs:=if List.replicate (l.length - pre l m) up ++ m.drop (pre l m) = [] then [[46]] else List.replicate (l.length - pre l m) up ++ m.drop (pre l m)
def relR (a b : Bs) : Bs × Int:=
 if (parse a).2 ≠ 0 then ([],(parse a).2) else if (parse b).2 ≠ 0 then ([],(parse b).2) else if ¬ plainErr (parse a).1 = 0 ∨ ¬ plainErr (parse b).1 = 0 then ([],3)
 else sized ⟨false,relP (parse a).1.parts (parse b).1.parts,[]⟩
end Go.Proofs.YtkmhnaojgkcjoaaGreatDoor
namespace Go.Proofs.YtkmhnaojgkcjoaaGreatDoor
open Go Dw
set_option maxRecDepth 10000
attribute [local irreducible] Run
set_option maxHeartbeats 2000000
open Paths
attribute [local irreducible] nameErr cut normal dots partErr text parse glue fmtErr sized joinR fold plainErr relR relP
end Go.Proofs.YtkmhnaojgkcjoaaGreatDoor
namespace Go.Proofs.YtkmhnaojgkcjoaaGreatDoor
open Paths
end Go.Proofs.YtkmhnaojgkcjoaaGreatDoor
namespace Go.Proofs.YtkmhnaojgkcjoaaGreatDoor
open Go Dw
set_option maxRecDepth 10000
attribute [local irreducible] Run
set_option maxHeartbeats 2000000
open Paths
attribute [local irreducible] nameErr cut normal dots partErr text parse glue fmtErr sized joinR fold plainErr relR relP
end Go.Proofs.YtkmhnaojgkcjoaaGreatDoor
namespace Go.Proofs.YtkmhnaojgkcjoaaGreatDoor
open Paths
theorem fold_len (s : Bs) : (fold s).length = s.length:=by simp [fold]
def joined (l m : List Bs) : PP:=⟨true,l.take (pre l m) ++ m.drop (pre l m),[]⟩
end Go.Proofs.YtkmhnaojgkcjoaaGreatDoor
namespace Go.Proofs.YtkmhnaojgkcjoaaGreatDoor
open Go Dw
set_option maxRecDepth 10000
attribute [local irreducible] Run
set_option maxHeartbeats 2000000
open Paths
attribute [local irreducible] nameErr cut normal dots partErr text parse glue fmtErr sized joinR fold plainErr relR relP
def back (a b : Bs) : Bs:=text (joined (parse a).1.parts (parse b).1.parts)
attribute [local irreducible] back
end Go.Proofs.YtkmhnaojgkcjoaaGreatDoor
namespace Go.Proofs.YtkmhnaojgkcjoaaGreatDoor
open Go Dw
set_option maxRecDepth 10000
attribute [local irreducible] Run
set_option maxHeartbeats 2000000
open Paths
attribute [local irreducible] nameErr cut normal dots partErr text parse glue fold
def lookG (l : List Ent) (s : Bs) : Nat → Int
 | k=>match l with
  | []=>-1
  | x :: r=>if fold x.name = fold s then k else lookG r s (k + 1)
def look (l : List Ent) (s : Bs) : Int:=lookG l s 0
attribute [local irreducible] lookG
theorem c157 (n lo hi : Int) : Fn 157 [i n,i lo,i hi] (.bool (within n lo hi)):=by
 refine run_walkF eok Tryz.func157 rfl (by kernel_rfl) ?_
 conv=>whnf
 repeat' (first
 | ((with_reducible refine on_dec_f ?_ ?_);(focus ((try simp only [List.length_map,List.length_cons,List.length_nil,List.length_append]);omega));conv=>whnf)
 | ((with_reducible refine on_dec_t ?_ ?_);(focus ((try simp only [List.length_map,List.length_cons,List.length_nil,List.length_append]);omega));conv=>whnf)
 | ((with_reducible refine on_dec (fun h=>?_) (fun h=>?_))<;>(try simp only [List.length_map] at h)<;>conv=>whnf)
 | ((with_reducible refine on_ndec (fun h=>?_) (fun h=>?_))<;>(try simp only [List.length_map] at h)<;>conv=>whnf)
 | ((with_reducible refine on_not (fun h=>?_) (fun h=>?_))<;>conv=>whnf)
 | ((with_reducible refine onBool_split (fun h=>?_) (fun h=>?_))<;>conv=>whnf)
 | (refine ⟨⟨(by first | rfl | (simp;done)),cap_ok (by simp only [List.length_map,List.length_cons,List.length_nil,List.length_append];omega) rfl⟩,?_⟩;conv=>whnf)
 | (refine ⟨mem_one ⟨rfl,rfl⟩,?_⟩;conv=>whnf)
 | (refine ⟨(by intro y hy;obtain ⟨x,_,rfl⟩:=List.mem_map.1 hy;first | rfl | exact ⟨rfl,rfl⟩),?_⟩;conv=>whnf)
 | (refine ⟨cap_ok (by first | omega | (simp only [List.length_map];omega)) rfl,?_⟩;conv=>whnf)
 | (refine ix_map (by omega) ?_;conv=>whnf)
 | (refine ix_str (by omega) ?_;conv=>whnf)
 | (refine wrap64 (by omega) ?_;conv=>whnf)
 | (exfalso;simp only [List.length_map,List.length_cons,List.length_nil,List.length_append] at h;omega)
 | ((with_reducible refine endx_go ?_);first | (exact endx (congrArg D.bool (by simp [within, *]));done))
 | (refine ⟨rfl,?_⟩;conv=>whnf)
  | fail
  )
theorem c149 (b : Bool) : Fn 149 [.bool b] (i (if b = true then 1 else 0)):=by
 refine run_walkF eok Tryz.func149 rfl (by kernel_rfl) ?_
 conv=>whnf
 repeat' (first
 | ((with_reducible refine on_dec_f ?_ ?_);(focus ((try simp only [List.length_map,List.length_cons,List.length_nil,List.length_append]);omega));conv=>whnf)
 | ((with_reducible refine on_dec_t ?_ ?_);(focus ((try simp only [List.length_map,List.length_cons,List.length_nil,List.length_append]);omega));conv=>whnf)
 | ((with_reducible refine on_dec (fun h=>?_) (fun h=>?_))<;>(try simp only [List.length_map] at h)<;>conv=>whnf)
 | ((with_reducible refine on_ndec (fun h=>?_) (fun h=>?_))<;>(try simp only [List.length_map] at h)<;>conv=>whnf)
 | ((with_reducible refine on_not (fun h=>?_) (fun h=>?_))<;>conv=>whnf)
 | ((with_reducible refine onBool_split (fun h=>?_) (fun h=>?_))<;>conv=>whnf)
 | (refine ⟨⟨(by first | rfl | (simp;done)),cap_ok (by simp only [List.length_map,List.length_cons,List.length_nil,List.length_append];omega) rfl⟩,?_⟩;conv=>whnf)
 | (refine ⟨mem_one ⟨rfl,rfl⟩,?_⟩;conv=>whnf)
 | (refine ⟨(by intro y hy;obtain ⟨x,_,rfl⟩:=List.mem_map.1 hy;first | rfl | exact ⟨rfl,rfl⟩),?_⟩;conv=>whnf)
 | (refine ⟨cap_ok (by first | omega | (simp only [List.length_map];omega)) rfl,?_⟩;conv=>whnf)
 | (refine ix_map (by omega) ?_;conv=>whnf)
 | (refine ix_str (by omega) ?_;conv=>whnf)
 | (refine wrap64 (by omega) ?_;conv=>whnf)
 | (exfalso;simp only [List.length_map,List.length_cons,List.length_nil,List.length_append] at h;omega)
 | ((with_reducible refine endx_go ?_);first | (exact endx (congrArg i (if_pos h).symm);done) | (exact endx (congrArg i (if_pos rfl).symm);done) | (exact endx (congrArg i (by rw [h];rfl));done))
 | (refine ⟨rfl,?_⟩;conv=>whnf)
  | fail
  )
end Go.Proofs.YtkmhnaojgkcjoaaGreatDoor
namespace Go.Proofs.YtkmhnaojgkcjoaaGreatDoor
open Go Dw
set_option maxRecDepth 10000
attribute [local irreducible] Run
set_option maxHeartbeats 2000000
open Paths
attribute [local irreducible] nameErr cut normal dots partErr text parse glue fold
def leads (n : Int) : Bool:=decide (n = 2) || decide (n = 3)
def entE (len : Int) (ahead : List Ent) (x : Ent) : Int:=
 if nameErr x.name ≠ 0 then nameErr x.name else if ahead.any (fun y=>decide (fold y.name = fold x.name)) = true then 5 else if within x.node 1 (len - 1) = true then 0 else 6
def entsE (len : Int) (l : List Ent) : Nat → Nat → Int
 | 0,_=>0
 | n + 1,k=>match l[k]? with
  | none=>0
  | some x=>if entE len (l.take k) x ≠ 0 then entE len (l.take k) x else entsE len l n (k + 1)
def targE (x : Nod) : Int:=if (parse x.target).2 ≠ 0 then (parse x.target).2 else if (parse x.target).1.stream ≠ [] ∨ (x.kind = 3 ∧ (parse x.target).1.abs = false) then 3 else 0
def nodE (t : List Nod) (i : Int) (x : Nod) : Int:=
 if within x.kind 0 3 = false then 15 else if i = 0 ∧ x.kind ≠ 0 then 35 else if (x.kind ≠ 0 ∧ x.ents ≠ []) ∨ (leads x.kind = false ∧ x.target ≠ []) then 3
 else if entsE t.length x.ents x.ents.length 0 ≠ 0 then entsE t.length x.ents x.ents.length 0 else if leads x.kind = false then 0 else targE x
theorem ents_at {len : Int} {l : List Ent} {n k : Nat} (hk : k < l.length) (hn : n = l.length - k) : entsE len l n k = if entE len (l.take k) l[k] ≠ 0 then entE len (l.take k) l[k] else entsE len l (l.length - (k + 1)) (k + 1):=by
 subst hn
 rw [show l.length - k = (l.length - (k + 1)) + 1 by omega,entsE,List.getElem?_eq_getElem hk]
theorem ents_end {len : Int} {l : List Ent} {k : Nat} (hk : l.length ≤ k) : entsE len l (l.length - k) k = 0:=by
 rw [show l.length - k = 0 by omega];rfl
theorem ent_a {len : Int} {l : List Ent} {k : Nat} (hk : k < l.length) (h : ¬ nameErr l[k].name = 0) : entsE len l (l.length - k) k = nameErr l[k].name:=by
 have e : entE len (l.take k) l[k] = nameErr l[k].name:=if_pos h
 rw [ents_at hk rfl,e,if_pos h]
theorem ent_b {len : Int} {l : List Ent} {j k : Nat} (hk : k < l.length) (hj : j < k) (h : nameErr l[k].name = 0) (h2 : fold (l[j]'(by omega)).name = fold l[k].name) : entsE len l (l.length - k) k = 5:=by
 have e : entE len (l.take k) l[k] = 5:=by
  unfold entE
  rw [if_neg (by simpa using h),if_pos]
  refine List.any_eq_true.2 ⟨l[j]'(by omega),?_,decide_eq_true h2⟩
  rw [List.mem_take_iff_getElem]
  exact ⟨j,by omega,rfl⟩
 rw [ents_at hk rfl,e,if_pos (by decide)]
theorem ent_no {l : List Ent} {j k : Nat} {x : Ent} (hj : k ≤ j) (h : ∀ y ∈ l.take j,¬ fold y.name = fold x.name) : ¬ (l.take k).any (fun y=>decide (fold y.name = fold x.name)) = true:=by
 intro c
 obtain ⟨y,hy,he⟩:=List.any_eq_true.1 c
 exact h y (List.take_subset_take_left l hj hy) (of_decide_eq_true he)
theorem ent_c {len : Int} {l : List Ent} {j k : Nat} (hk : k < l.length) (hj : k ≤ j) (h : nameErr l[k].name = 0) (h2 : ∀ y ∈ l.take j,¬ fold y.name = fold l[k].name) (h3 : within l[k].node 1 (len - 1) = false) : entsE len l (l.length - k) k = 6:=by
 have e : entE len (l.take k) l[k] = 6:=by
  unfold entE
  rw [if_neg (by simpa using h),if_neg (ent_no hj h2),if_neg (by rw [h3];decide)]
 rw [ents_at hk rfl,e,if_pos (by decide)]
theorem ent_d {len : Int} {l : List Ent} {j k : Nat} (hk : k < l.length) (hj : k ≤ j) (h : nameErr l[k].name = 0) (h2 : ∀ y ∈ l.take j,¬ fold y.name = fold l[k].name) (h3 : within l[k].node 1 (len - 1) = true) : entsE len l (l.length - k) k = entsE len l (l.length - (k + 1)) (k + 1):=by
 have e : entE len (l.take k) l[k] = 0:=by
  unfold entE
  rw [if_neg (by simpa using h),if_neg (ent_no hj h2),if_pos h3]
 rw [ents_at hk rfl,e,if_neg (by decide)]
theorem take_ne {l : List Ent} {j : Nat} {x : Ent} (hj : j < l.length) (h : ∀ y ∈ l.take j,¬ fold y.name = fold x.name) (h1 : ¬ fold l[j].name = fold x.name) : ∀ y ∈ l.take (j + 1),¬ fold y.name = fold x.name:=by
 rw [List.take_succ_eq_append_getElem hj]
 intro y hy
 rcases List.mem_append.1 hy with hy | hy
 ·exact h y hy
 ·rw [List.mem_singleton] at hy;subst hy;exact h1
end Go.Proofs.YtkmhnaojgkcjoaaGreatDoor
namespace Go.Proofs.YtkmhnaojgkcjoaaGreatDoor
open Go Dw
set_option maxRecDepth 10000
attribute [local irreducible] Run
set_option maxHeartbeats 2000000
open Paths
attribute [local irreducible] nameErr cut normal dots partErr text parse glue fold entsE within
theorem c17z (n lo hi z : Int) (e : hi = z) : Fn 17 [i n,i lo,i hi] (.bool (within n lo z)):=by subst e;exact c17 n lo hi
theorem nd_k {t : List Nod} {d : Int} {x : Nod} (h : within x.kind 0 3 = false) : nodE t d x = 15:=by unfold nodE;rw [if_pos h]
theorem nd_0 {t : List Nod} {d : Int} {es : List Ent} {tg : Bs} : nodE t d ⟨0,es,tg⟩ = if tg = [] then entsE t.length es es.length 0 else 3:=by
 have w : within 0 0 3 = true:=by decide +kernel
 have l : leads 0 = false:=by decide
 unfold nodE
 rw [if_neg (by rw [w];decide),if_neg (by simp),l]
 by_cases h : tg = []
 ·rw [if_neg (by simp [h]),if_pos h]
  split
  ·rfl
  ·rename_i h1
   rw [if_pos rfl];exact (Classical.not_not.1 h1).symm
 ·rw [if_pos (by simp [h]),if_neg h]
theorem nd_1 {t : List Nod} {d : Int} {es : List Ent} {tg : Bs} : nodE t d ⟨1,es,tg⟩ = if d = 0 then 35 else if es = [] ∧ tg = [] then 0 else 3:=by
 have w : within 1 0 3 = true:=by decide +kernel
 have l : leads 1 = false:=by decide
 unfold nodE
 rw [if_neg (by rw [w];decide),l]
 by_cases h0 : d = 0
 ·rw [if_pos (by simp [h0]),if_pos h0]
 ·rw [if_neg (by simp [h0]),if_neg h0]
  by_cases h : es = [] ∧ tg = []
  ·rw [if_neg (by simp [h.1,h.2]),if_pos h,h.1];simp [entsE]
  ·rw [if_pos (by by_cases h1 : es = []<;>by_cases h2 : tg = []<;>simp_all),if_neg h]
theorem nd_l {t : List Nod} {d K : Int} {es : List Ent} {tg : Bs} (hK : K = 2 ∨ K = 3) : nodE t d ⟨K,es,tg⟩ = if d = 0 then 35 else if es = [] then targE ⟨K,es,tg⟩ else 3:=by
 have w : within K 0 3 = true:=by rcases hK with rfl | rfl<;>decide +kernel
 have l : leads K = true:=by rcases hK with rfl | rfl<;>decide
 have k0 : K ≠ 0:=by omega
 unfold nodE
 rw [if_neg (by rw [w];decide),l]
 by_cases h0 : d = 0
 ·rw [if_pos (by simp [h0,k0]),if_pos h0]
 ·rw [if_neg (by simp [h0]),if_neg h0]
  by_cases h : es = []
  ·rw [if_neg (by simp [h]),if_pos h,h];simp [entsE]
  ·rw [if_pos (by simp [h,k0]),if_neg h]
theorem tg_e {K : Int} {es : List Ent} {tg : Bs} (h : ¬ (parse tg).2 = 0) : targE ⟨K,es,tg⟩ = (parse tg).2:=if_pos h
theorem tg_3 {K : Int} {es : List Ent} {tg : Bs} (h : (parse tg).2 = 0) (h1 : (parse tg).1.stream ≠ [] ∨ (K = 3 ∧ (parse tg).1.abs = false)) : targE ⟨K,es,tg⟩ = 3:=by
 unfold targE;rw [if_neg (by simpa using h),if_pos h1]
theorem tg_o {K : Int} {es : List Ent} {tg : Bs} (h : (parse tg).2 = 0) (h1 : ¬ ((parse tg).1.stream ≠ [] ∨ (K = 3 ∧ (parse tg).1.abs = false))) : targE ⟨K,es,tg⟩ = 0:=by
 unfold targE;rw [if_neg (by simpa using h),if_neg h1]
attribute [local irreducible] nodE targE
theorem c95a (t : List Nod) (d : Int) (x : Nod) (h0 : 0 ≤ d) (hd : t[d.toNat]? = some x) (hk : within x.kind 0 3 = false) : Fn 95 [treeD t,i d] (i (nodE t d x)):=by
 refine run_walkF eok Tryz.func95 rfl (by kernel_rfl) ?_
 conv=>whnf
 repeat' (first
 | ((with_reducible refine on_nf (by assumption) ?_);conv=>whnf)
 | ((with_reducible refine call_go ?_);(first | refine call_step (run_view (c17 x.kind 0 3) rfl rfl) ?_ );conv=>whnf)
 | (refine ix_nd h0 hd ?_;conv=>whnf)
 | ((with_reducible refine endx_go ?_);first | (exact endx (congrArg i (nd_k hk).symm);done))
  | fail
  )
theorem c18w0 : Fn 17 [i 0,i 0,i 3] (.bool true):=by
 have:=c17 0 0 3
 rwa [show within 0 0 3 = true by decide +kernel] at this
theorem c18w1 : Fn 17 [i 1,i 0,i 3] (.bool true):=by
 have:=c17 1 0 3
 rwa [show within 1 0 3 = true by decide +kernel] at this
theorem c18w2 : Fn 17 [i 2,i 0,i 3] (.bool true):=by
 have:=c17 2 0 3
 rwa [show within 2 0 3 = true by decide +kernel] at this
theorem c18w3 : Fn 17 [i 3,i 0,i 3] (.bool true):=by
 have:=c17 3 0 3
 rwa [show within 3 0 3 = true by decide +kernel] at this
theorem c65k0 (t : List Nod) (d : Int) (es : List Ent) (tg : Bs) (h0 : 0 ≤ d) (hd : t[d.toNat]? = some ⟨0,es,tg⟩) (ht : t.length < 2000000) (hl : es.length < 2000000) (hb : ∀ y ∈ es,y.name.length < 2000000) : Fn 95 [treeD t,i d] (i (nodE t d ⟨0,es,tg⟩)):=by
 refine run_walkF eok Tryz.func95 rfl (by kernel_rfl) ?_
 conv=>whnf
 repeat' (first
 | ((with_reducible refine on_dec (fun h=>?_) (fun h=>?_))<;>(try simp only [List.length_map] at h)<;>conv=>whnf)
 | ((with_reducible refine on_ndec (fun h=>?_) (fun h=>?_))<;>(try simp only [List.length_map] at h)<;>conv=>whnf)
 | ((with_reducible refine on_not (fun h=>?_) (fun h=>?_))<;>conv=>whnf)
 | ((with_reducible refine call_go ?_);(first | refine call_step (run_view (c18w0) rfl rfl) ?_ | refine call_step (run_view (c17z (es[k]'(by omega)).node 1 _ ((t.length : Int) - 1) (by simp only [List.length_map])) rfl rfl) ?_ | refine call_step (run_view (c98 (es[k]'(by omega)).name (hb _ (List.getElem_mem _))) rfl rfl) ?_ | refine call_step (run_view (c147 (es[j]'(by omega)).name (es[k]'(by omega)).name (hb _ (List.getElem_mem _)) (hb _ (List.getElem_mem _))) rfl rfl) ?_ );conv=>whnf)
 | (refine ⟨[],[],(by decide +kernel),?_⟩;conv=>whnf)
 | ((with_reducible refine loop_go ?_);first | (refine loop1 (fun (j : Nat)=>k - j) (fun (j : Nat)=>j ≤ k ∧ ∀ y ∈ es.take j,¬ fold y.name = fold (es[k]'(by omega)).name) (fun (j : Nat)=>[(0,.d (treeD t)),(5,.ptr 0 0 0),(6,.d (.bool false)),(7,.d (i k)),(9,.d (i j))]) (fun (j : Nat)=>[⟨[.d (Nod.enc ⟨0,es,tg⟩)],3,0⟩]) (0) (by exact ⟨Nat.zero_le _,fun y hy=>by cases hy⟩) ?_ (fun j Cj hIj hCj=>?_);(exact ⟨[.old 0],rfl,rfl,⟨(by first | (show (_ : D) = _;with_reducible rfl) ),⟨rfl,rfl,rfl⟩,(by first | (show (_ : D) = _;with_reducible rfl) ),(by first | (show (_ : D) = _;with_reducible rfl) ),(by first | exact congrArg (D.int .i64) (by omega) ),trivial⟩,⟨⟨rfl,rfl,.inl ⟨[_],rfl,rfl⟩⟩,trivial⟩⟩);all_goals (conv=>whnf)) | (refine loop1 (fun (k : Nat)=>es.length - k) (fun (k : Nat)=>k ≤ es.length ∧ entsE t.length es es.length 0 = entsE t.length es (es.length - k) k) (fun (k : Nat)=>[(0,.d (treeD t)),(5,.ptr 0 0 0),(6,.d (.bool false)),(7,.d (i k))]) (fun (k : Nat)=>[⟨[.d (Nod.enc ⟨0,es,tg⟩)],3,0⟩]) (0) (by exact ⟨Nat.zero_le _,rfl⟩) ?_ (fun k C hI hC=>?_);(exact ⟨[.old 0],rfl,rfl,⟨(by first | (show (_ : D) = _;with_reducible rfl) ),⟨rfl,rfl,rfl⟩,(by first | (refine congrArg D.bool ?_;simp_all)),(by first | exact congrArg (D.int .i64) (by omega) ),trivial⟩,⟨⟨rfl,rfl,.inl ⟨[_],rfl,rfl⟩⟩,trivial⟩⟩);all_goals (conv=>whnf)))
 | ((with_reducible show C _ _);first | (refine hC (k + 1) _ _ ?_ (by omega) ?_;clear hC;rotate_left;(exact ⟨[.old 0],rfl,rfl,⟨(by first | (show (_ : D) = _;with_reducible rfl) ),⟨rfl,rfl,rfl⟩,(by first | (show (_ : D) = _;with_reducible rfl) ),(by first | exact congrArg (D.int .i64) (by omega) ),trivial⟩,⟨⟨rfl,rfl,.inl ⟨[_],rfl,rfl⟩⟩,trivial⟩⟩);(exact ⟨by omega,hI.2.trans (ent_d (j:=j) (by omega) (by omega) (by assumption) hIj.2 (by assumption))⟩)))
 | ((with_reducible show Cj _ _);first | (refine hCj (j + 1) _ _ ?_ (by omega) ?_;clear hCj;rotate_left;(exact ⟨[.old 0],rfl,rfl,⟨(by first | (show (_ : D) = _;with_reducible rfl) ),⟨rfl,rfl,rfl⟩,(by first | (show (_ : D) = _;with_reducible rfl) ),(by first | (show (_ : D) = _;with_reducible rfl) ),(by first | exact congrArg (D.int .i64) (by omega) ),trivial⟩,⟨⟨rfl,rfl,.inl ⟨[_],rfl,rfl⟩⟩,trivial⟩⟩);(exact ⟨by omega,take_ne (by omega) hIj.2 (by assumption)⟩)))
 | (refine wrap64 (by omega) ?_;conv=>whnf)
 | (refine wrap64 (by first | (simp only [List.length_map];omega)) ?_;conv=>whnf)
 | (refine ix_nd h0 hd ?_;conv=>whnf)
 | (refine ix_map (l:=es) (f:=Ent.enc) (by omega) ?_;conv=>whnf)
 | ((with_reducible refine endx_go ?_);first | (exact endx (congrArg i (nd_0.trans (if_neg (by first | exact of_decide_eq_false (by assumption)))).symm);done) | (exact endx (congrArg i ((nd_0.trans (if_pos (of_decide_eq_true (by assumption)))).trans (hI.2.trans (ent_a (by omega) h))).symm);done) | (exact endx (congrArg i ((nd_0.trans (if_pos (of_decide_eq_true (by assumption)))).trans (hI.2.trans (ent_b (j:=j) (by omega) (by omega) (by assumption) h))).symm);done) | (exact endx (congrArg i ((nd_0.trans (if_pos (of_decide_eq_true (by assumption)))).trans (hI.2.trans (ent_c (j:=j) (by omega) (by omega) (by assumption) hIj.2 (by assumption)))).symm);done) | (exact endx (congrArg i ((nd_0.trans (if_pos (of_decide_eq_true (by assumption)))).trans (hI.2.trans (ents_end (by omega)))).symm);done))
  | fail
  )
theorem c65k1 (t : List Nod) (d : Int) (es : List Ent) (tg : Bs) (h0 : 0 ≤ d) (hd : t[d.toNat]? = some ⟨1,es,tg⟩) (ht : t.length < 2000000) (hl : es.length < 2000000) (hb : ∀ y ∈ es,y.name.length < 2000000) : Fn 95 [treeD t,i d] (i (nodE t d ⟨1,es,tg⟩)):=by
 refine run_walkF eok Tryz.func95 rfl (by kernel_rfl) ?_
 conv=>whnf
 repeat' (first
 | ((with_reducible refine on_dec_f ?_ ?_);(focus ((try simp only [List.length_map,List.length_cons,List.length_nil,List.length_append]);omega));conv=>whnf)
 | ((with_reducible refine on_dec (fun h=>?_) (fun h=>?_))<;>(try simp only [List.length_map] at h)<;>conv=>whnf)
 | ((with_reducible refine on_not (fun h=>?_) (fun h=>?_))<;>conv=>whnf)
 | ((with_reducible refine call_go ?_);(first | refine call_step (run_view (c18w1) rfl rfl) ?_ );conv=>whnf)
 | ((with_reducible refine loop_go ?_);first | (refine loop1 (fun (k : Nat)=>es.length - k) (fun (k : Nat)=>k ≤ es.length ∧ entsE t.length es es.length 0 = entsE t.length es (es.length - k) k) (fun (k : Nat)=>[(0,.d (treeD t)),(5,.ptr 0 0 0),(6,.d (.bool false)),(7,.d (i k))]) (fun (k : Nat)=>[⟨[.d (Nod.enc ⟨1,es,tg⟩)],3,0⟩]) (0) (by exact ⟨Nat.zero_le _,rfl⟩) ?_ (fun k C hI hC=>?_);(exact ⟨[.old 0],rfl,rfl,⟨(by first | (show (_ : D) = _;with_reducible rfl) ),⟨rfl,rfl,rfl⟩,(by first | (refine congrArg D.bool ?_;simp_all)),(by first | exact congrArg (D.int .i64) (by omega) ),trivial⟩,⟨⟨rfl,rfl,.inl ⟨[_],rfl,rfl⟩⟩,trivial⟩⟩);all_goals (conv=>whnf)))
 | (refine ix_nd h0 hd ?_;conv=>whnf)
 | ((with_reducible refine endx_go ?_);first | (exact endx (congrArg i (nd_1.trans (if_pos h)).symm);done) | (exact endx (congrArg i (nd_1.trans ((if_neg (by omega)).trans (if_neg (fun hh=>by have:=congrArg List.length hh.1;simp only [List.length_nil] at this;omega)))).symm);done) | (exact endx (congrArg i (nd_1.trans ((if_neg (by omega)).trans (if_neg (fun hh=>(by first | exact (of_decide_eq_false h : ¬ tg = []) hh.2))))).symm);done) | (exact endx (congrArg i (nd_1.trans ((if_neg (by omega)).trans (if_pos ⟨List.length_eq_zero_iff.1 (by omega),of_decide_eq_true (by assumption)⟩))).symm);done))
  | fail
  )
theorem c65k2 (t : List Nod) (d : Int) (es : List Ent) (tg : Bs) (h0 : 0 ≤ d) (hd : t[d.toNat]? = some ⟨2,es,tg⟩) (ht : t.length < 2000000) (hl : es.length < 2000000) (hb : ∀ y ∈ es,y.name.length < 2000000) : Fn 95 [treeD t,i d] (i (nodE t d ⟨2,es,tg⟩)):=by
 refine run_walkF eok Tryz.func95 rfl (by kernel_rfl) ?_
 conv=>whnf
 repeat' (first
 | ((with_reducible refine on_dec_f ?_ ?_);(focus ((try simp only [List.length_map,List.length_cons,List.length_nil,List.length_append]);omega));conv=>whnf)
 | ((with_reducible refine on_dec (fun h=>?_) (fun h=>?_))<;>(try simp only [List.length_map] at h)<;>conv=>whnf)
 | ((with_reducible refine on_ndec (fun h=>?_) (fun h=>?_))<;>(try simp only [List.length_map] at h)<;>conv=>whnf)
 | ((with_reducible refine on_not (fun h=>?_) (fun h=>?_))<;>conv=>whnf)
 | ((with_reducible refine call_go ?_);(first | refine call_step (run_view (c18w2) rfl rfl) ?_ | refine call_step (run_viewF (c148 tg) rfl) ?_);conv=>whnf)
 | ((with_reducible refine loop_go ?_);first | (refine loop1 (fun (k : Nat)=>es.length - k) (fun (k : Nat)=>k ≤ es.length ∧ entsE t.length es es.length 0 = entsE t.length es (es.length - k) k) (fun (k : Nat)=>[(0,.d (treeD t)),(5,.ptr 0 0 0),(6,.d (.bool true)),(7,.d (i k))]) (fun (k : Nat)=>[⟨[.d (Nod.enc ⟨2,es,tg⟩)],3,0⟩]) (0) (by exact ⟨Nat.zero_le _,rfl⟩) ?_ (fun k C hI hC=>?_);(exact ⟨[.old 0],rfl,rfl,⟨(by first | (show (_ : D) = _;with_reducible rfl) ),⟨rfl,rfl,rfl⟩,(by first | (show (_ : D) = _;with_reducible rfl) ),(by first | exact congrArg (D.int .i64) (by omega) ),trivial⟩,⟨⟨rfl,rfl,.inl ⟨[_],rfl,rfl⟩⟩,trivial⟩⟩);all_goals (conv=>whnf)))
 | (refine ix_nd h0 hd ?_;conv=>whnf)
 | ((with_reducible refine endx_go ?_);first | (exact endx (congrArg i ((nd_l (by omega : (2 : Int) = 2 ∨ (2 : Int) = 3)).trans (if_pos h)).symm);done) | (exact endx (congrArg i ((nd_l (by omega : (2 : Int) = 2 ∨ (2 : Int) = 3)).trans ((if_neg (by omega)).trans (if_neg (fun hh=>by have:=congrArg List.length hh;simp only [List.length_nil] at this;omega)))).symm);done) | (exact endx (congrArg i ((nd_l (by omega : (2 : Int) = 2 ∨ (2 : Int) = 3)).trans ((if_neg (by omega)).trans ((if_pos (List.length_eq_zero_iff.1 (by omega))).trans (tg_e h)))).symm);done) | (exact endx (congrArg i ((nd_l (by omega : (2 : Int) = 2 ∨ (2 : Int) = 3)).trans ((if_neg (by omega)).trans ((if_pos (List.length_eq_zero_iff.1 (by omega))).trans (tg_3 (by assumption) (by simp_all))))).symm);done) | (exact endx (congrArg i ((nd_l (by omega : (2 : Int) = 2 ∨ (2 : Int) = 3)).trans ((if_neg (by omega)).trans ((if_pos (List.length_eq_zero_iff.1 (by omega))).trans (tg_o (by assumption) (by simp_all))))).symm);done))
  | fail
  )
theorem c65k3 (t : List Nod) (d : Int) (es : List Ent) (tg : Bs) (h0 : 0 ≤ d) (hd : t[d.toNat]? = some ⟨3,es,tg⟩) (ht : t.length < 2000000) (hl : es.length < 2000000) (hb : ∀ y ∈ es,y.name.length < 2000000) : Fn 95 [treeD t,i d] (i (nodE t d ⟨3,es,tg⟩)):=by
 refine run_walkF eok Tryz.func95 rfl (by kernel_rfl) ?_
 conv=>whnf
 repeat' (first
 | ((with_reducible refine on_dec_f ?_ ?_);(focus ((try simp only [List.length_map,List.length_cons,List.length_nil,List.length_append]);omega));conv=>whnf)
 | ((with_reducible refine on_dec (fun h=>?_) (fun h=>?_))<;>(try simp only [List.length_map] at h)<;>conv=>whnf)
 | ((with_reducible refine on_ndec (fun h=>?_) (fun h=>?_))<;>(try simp only [List.length_map] at h)<;>conv=>whnf)
 | ((with_reducible refine on_not (fun h=>?_) (fun h=>?_))<;>conv=>whnf)
 | ((with_reducible refine call_go ?_);(first | refine call_step (run_view (c18w3) rfl rfl) ?_ | refine call_step (run_viewF (c148 tg) rfl) ?_);conv=>whnf)
 | ((with_reducible refine loop_go ?_);first | (refine loop1 (fun (k : Nat)=>es.length - k) (fun (k : Nat)=>k ≤ es.length ∧ entsE t.length es es.length 0 = entsE t.length es (es.length - k) k) (fun (k : Nat)=>[(0,.d (treeD t)),(5,.ptr 0 0 0),(6,.d (.bool true)),(7,.d (i k))]) (fun (k : Nat)=>[⟨[.d (Nod.enc ⟨3,es,tg⟩)],3,0⟩]) (0) (by exact ⟨Nat.zero_le _,rfl⟩) ?_ (fun k C hI hC=>?_);(exact ⟨[.old 0],rfl,rfl,⟨(by first | (show (_ : D) = _;with_reducible rfl) ),⟨rfl,rfl,rfl⟩,(by first | (refine congrArg D.bool ?_;simp_all)),(by first | exact congrArg (D.int .i64) (by omega) ),trivial⟩,⟨⟨rfl,rfl,.inl ⟨[_],rfl,rfl⟩⟩,trivial⟩⟩);all_goals (conv=>whnf)))
 | (refine ix_nd h0 hd ?_;conv=>whnf)
 | ((with_reducible refine endx_go ?_);first | (exact endx (congrArg i ((nd_l (by omega : (3 : Int) = 2 ∨ (3 : Int) = 3)).trans (if_pos h)).symm);done) | (exact endx (congrArg i ((nd_l (by omega : (3 : Int) = 2 ∨ (3 : Int) = 3)).trans ((if_neg (by omega)).trans (if_neg (fun hh=>by have:=congrArg List.length hh;simp only [List.length_nil] at this;omega)))).symm);done) | (exact endx (congrArg i ((nd_l (by omega : (3 : Int) = 2 ∨ (3 : Int) = 3)).trans ((if_neg (by omega)).trans ((if_pos (List.length_eq_zero_iff.1 (by omega))).trans (tg_e h)))).symm);done) | (exact endx (congrArg i ((nd_l (by omega : (3 : Int) = 2 ∨ (3 : Int) = 3)).trans ((if_neg (by omega)).trans ((if_pos (List.length_eq_zero_iff.1 (by omega))).trans (tg_3 (by assumption) (by simp_all))))).symm);done) | (exact endx (congrArg i ((nd_l (by omega : (3 : Int) = 2 ∨ (3 : Int) = 3)).trans ((if_neg (by omega)).trans ((if_pos (List.length_eq_zero_iff.1 (by omega))).trans (tg_o (by assumption) (by simp_all))))).symm);done))
  | fail
  )
theorem c95 (t : List Nod) (d : Int) (x : Nod) (h0 : 0 ≤ d) (hd : t[d.toNat]? = some x) (ht : t.length < 2000000) (hl : x.ents.length < 2000000) (hb : ∀ y ∈ x.ents,y.name.length < 2000000) : Fn 95 [treeD t,i d] (i (nodE t d x)):=by
 cases hk : within x.kind 0 3 with
 | false=>exact c95a t d x h0 hd hk
 | true=>
  have hw : 0 ≤ x.kind ∧ x.kind ≤ 3:=(by simpa [within] using hk)
  obtain ⟨K,es,tg⟩:=x
  have : K = 0 ∨ K = 1 ∨ K = 2 ∨ K = 3:=by simp only at hw;omega
  rcases this with rfl | rfl | rfl | rfl
  ·exact c65k0 t d es tg h0 hd ht hl hb
  ·exact c65k1 t d es tg h0 hd ht hl hb
  ·exact c65k2 t d es tg h0 hd ht hl hb
  ·exact c65k3 t d es tg h0 hd ht hl hb
end Go.Proofs.YtkmhnaojgkcjoaaGreatDoor
namespace Go.Proofs.YtkmhnaojgkcjoaaGreatDoor
open Go Dw
set_option maxRecDepth 10000
attribute [local irreducible] Run
set_option maxHeartbeats 2000000
open Paths
attribute [local irreducible] nameErr cut normal dots partErr text parse glue fold within
def bitN (b : Bool) : Nat:=if b then 1 else 0
theorem c149n (b : Bool) : Fn 149 [.bool b] (i (bitN b : Nat)):=by
 have:=c149 b
 cases b<;>exact this
def cntE : List Ent → Int → Nat
 | [],_=>0
 | e :: l,n=>bitN (decide (e.node = n)) + cntE l n
def namesR : List Nod → Int → Nat
 | [],_=>0
 | x :: t,n=>cntE x.ents n + namesR t n
theorem cntE_take {n : Int} : ∀ (l : List Ent) (m : Nat) (h : m < l.length),cntE (l.take (m + 1)) n = cntE (l.take m) n + bitN (decide (l[m].node = n))
 | e :: l,0,_=>by simp [cntE]
 | e :: l,m + 1,h=>by
  have:=cntE_take (n:=n) l m (by simpa using h)
  simp only [List.take_succ_cons,cntE,List.getElem_cons_succ,this];omega
theorem cntE_le {n : Int} : ∀ (l : List Ent),cntE l n ≤ l.length
 | []=>by simp [cntE]
 | e :: l=>by
  have:=cntE_le (n:=n) l
  have : bitN (decide (e.node = n)) ≤ 1:=by unfold bitN;split<;>omega
  simp only [cntE,List.length_cons];omega
theorem names_take {n : Int} : ∀ (t : List Nod) (k : Nat) (h : k < t.length),namesR (t.take (k + 1)) n = namesR (t.take k) n + cntE t[k].ents n
 | x :: t,0,_=>by simp [namesR]
 | x :: t,k + 1,h=>by
  have:=names_take (n:=n) t k (by simpa using h)
  simp only [List.take_succ_cons,namesR,List.getElem_cons_succ,this];omega
theorem bitN_le (b : Bool) : bitN b ≤ 1:=by unfold bitN;split<;>omega
attribute [local irreducible] namesR cntE bitN
theorem c96 (t : List Nod) (n : Int) (ht : t.length < 2000000) (hb : ∀ x ∈ t,x.ents.length < 2000000) : Fn 96 [treeD t,i n] (i (namesR t n : Nat)):=by
 refine run_walkF eok Tryz.func96 rfl (by kernel_rfl) ?_
 conv=>whnf
 repeat' (first
 | ((with_reducible refine on_dec (fun h=>?_) (fun h=>?_))<;>(try simp only [List.length_map] at h)<;>conv=>whnf)
 | ((with_reducible refine call_go ?_);(first | refine call_step (run_data (xs:=[_]) (c149n _) _) ?_);conv=>whnf)
 | ((with_reducible refine loop_go ?_);first | (refine loop2 (fun (m : Nat) (b : Nat)=>(t[k]'(by omega)).ents.length - m) (fun (m : Nat) (b : Nat)=>m ≤ (t[k]'(by omega)).ents.length ∧ b = c + cntE ((t[k]'(by omega)).ents.take m) n ∧ b ≤ c + m) (fun (m : Nat) (b : Nat)=>[(0,.d (treeD t)),(1,.d (i n)),(5,.d (i b)),(6,.d (i k)),(7,.d (i m))]) (fun (m : Nat) (b : Nat)=>[]) (0) (c) (by exact ⟨Nat.zero_le _,(by rw [List.take_zero];unfold cntE;rfl),by omega⟩) ?_ (fun m b Cm hIm hCm=>?_);(exact ⟨[],rfl,rfl,⟨(by first | (show (_ : D) = _;with_reducible rfl) ),(by first | (show (_ : D) = _;with_reducible rfl) ),(by first | (show (_ : D) = _;with_reducible rfl) ),(by first | (show (_ : D) = _;with_reducible rfl) ),(by first | exact congrArg (D.int .i64) (by omega) ),trivial⟩,trivial⟩);all_goals (conv=>whnf)) | (refine loop2 (fun (k : Nat) (c : Nat)=>t.length - k) (fun (k : Nat) (c : Nat)=>k ≤ t.length ∧ c = namesR (t.take k) n ∧ c ≤ 2000000 * k) (fun (k : Nat) (c : Nat)=>[(0,.d (treeD t)),(1,.d (i n)),(5,.d (i c)),(6,.d (i k))]) (fun (k : Nat) (c : Nat)=>[]) (0) (0) (by exact ⟨Nat.zero_le _,(by unfold namesR;rfl),by omega⟩) ?_ (fun k c C hI hC=>?_);(exact ⟨[],rfl,rfl,⟨(by first | (show (_ : D) = _;with_reducible rfl) ),(by first | (show (_ : D) = _;with_reducible rfl) ),(by first | exact congrArg (D.int .i64) (by omega) ),(by first | exact congrArg (D.int .i64) (by omega) ),trivial⟩,trivial⟩);all_goals (conv=>whnf)))
 | ((with_reducible show C _ _);first | (refine hC (k + 1) (b) _ _ ?_ (by omega) ?_;clear hC;rotate_left;(exact ⟨[],rfl,rfl,⟨(by first | (show (_ : D) = _;with_reducible rfl) ),(by first | (show (_ : D) = _;with_reducible rfl) ),(by first | (show (_ : D) = _;with_reducible rfl) ),(by first | exact congrArg (D.int .i64) (by omega) ),trivial⟩,trivial⟩);(exact ⟨by omega,by rw [names_take t k (by omega),← hI.2.1,hIm.2.1,List.take_of_length_le (by omega)],by have:=hb _ (List.getElem_mem (by omega : k < t.length));have:=hIm.2.2;have:=hI.2.2;omega⟩)))
 | ((with_reducible show Cm _ _);first | (refine hCm (m + 1) (b + bitN (decide (((t[k]'(by omega)).ents[m]'(by omega)).node = n))) _ _ ?_ (by omega) ?_;clear hCm;rotate_left;(exact ⟨[],rfl,rfl,⟨(by first | (show (_ : D) = _;with_reducible rfl) ),(by first | (show (_ : D) = _;with_reducible rfl) ),(by first | exact congrArg (D.int .i64) (by omega) ),(by first | (show (_ : D) = _;with_reducible rfl) ),(by first | exact congrArg (D.int .i64) (by omega) ),trivial⟩,trivial⟩);(exact ⟨by omega,by rw [cntE_take _ m (by omega),hIm.2.1];omega,by have:=bitN_le (decide (((t[k]'(by omega)).ents[m]'(by omega)).node = n));have:=hIm.2.2;omega⟩)))
 | (refine ix_map (by omega) ?_;conv=>whnf)
 | (refine wrap64 (by omega) ?_;conv=>whnf)
 | (refine wrap64 (by have:=hb _ (List.getElem_mem (by omega : k < t.length));have:=bitN_le (decide (((t[k]'(by omega)).ents[m]'(by omega)).node = n));have:=hIm.2.2;have:=hI.2.2;omega) ?_;conv=>whnf)
 | ((with_reducible refine endx_go ?_);first | (exact endx (congrArg i (by rw [hI.2.1,List.take_of_length_le (by omega)]));done))
  | fail
  )
end Go.Proofs.YtkmhnaojgkcjoaaGreatDoor
namespace Go.Proofs.YtkmhnaojgkcjoaaGreatDoor
open Go Dw
def Good (t : List Nod) : Prop:=∀ x ∈ t,∀ e ∈ x.ents,1 ≤ e.node ∧ e.node ≤ (t.length : Int) - 1
inductive Reach (t : List Nod) (a : Nat) : Nat → Prop
 | refl : Reach t a a
 | step {b : Nat} {x : Nod} {e : Ent} : Reach t a b → t[b]? = some x → e ∈ x.ents → Reach t a e.node.toNat
def isT (R : List Bool) (k : Nat) : Prop:=R[k]? = some true
def setT (R : List Bool) (e : Ent) : List Bool:=R.set e.node.toNat true
def markE (R : List Bool) (l : List Ent) : List Bool:=l.foldl setT R
def markI (t : List Nod) (R : List Bool) (k : Nat) : List Bool:=match t[k]? with
 | some x=>if R[k]? = some true then markE R x.ents else R
 | none=>R
def roundP (t : List Nod) (R : List Bool) (k : Nat) : List Bool:=(List.range k).foldl (markI t) R
def roundsR (t : List Nod) (R : List Bool) : Nat → List Bool
 | 0=>R
 | n + 1=>roundP t (roundsR t R n) t.length
def startR (t : List Nod) (a : Nat) : List Bool:=(List.replicate t.length false).set a true
def rchF (t : List Nod) (a : Nat) : List Bool:=roundsR t (startR t a) t.length
theorem setT_len (R : List Bool) (e : Ent) : (setT R e).length = R.length:=by simp [setT]
theorem markE_len : ∀ (l : List Ent) (R : List Bool),(markE R l).length = R.length
 | [],R=>rfl
 | e :: l,R=>by
  show (markE (setT R e) l).length = _
  rw [markE_len l,setT_len]
theorem markE_snoc (R : List Bool) (l : List Ent) (e : Ent) : markE R (l ++ [e]) = setT (markE R l) e:=by simp [markE,List.foldl_append]
theorem isT_set {R : List Bool} {m k : Nat} : isT (R.set m true) k ↔ isT R k ∨ (m = k ∧ k < R.length):=by
 unfold isT
 rw [List.getElem?_set]
 by_cases h : m = k
 ·subst h
  by_cases h2 : m < R.length
  ·simp [h2]
  ·simp [h2]
 ·simp [h]
theorem isT_lt {R : List Bool} {k : Nat} (h : isT R k) : k < R.length:=(List.getElem?_eq_some_iff.1 h).1
theorem isT_markE {k : Nat} : ∀ (l : List Ent) (R : List Bool),isT (markE R l) k ↔ isT R k ∨ (k < R.length ∧ ∃ e ∈ l,e.node.toNat = k)
 | [],R=>by simp [markE]
 | e :: l,R=>by
  show isT (markE (setT R e) l) k ↔ _
  rw [isT_markE l,setT_len]
  unfold setT
  rw [isT_set]
  constructor
  ·rintro ((h | h) | h)
   ·exact .inl h
   ·exact .inr ⟨h.2,e,by simp,h.1⟩
   ·obtain ⟨h1, e', h2, h3⟩ := h
    exact .inr ⟨h1, e', by simp [h2], h3⟩
  ·rintro (h | ⟨h1, e', h2, h3⟩)
   ·exact .inl (.inl h)
   ·rcases List.mem_cons.1 h2 with rfl | h2
    ·exact .inl (.inr ⟨h3,h1⟩)
    ·exact .inr ⟨h1, e', h2, h3⟩
theorem markI_len (t : List Nod) (R : List Bool) (k : Nat) : (markI t R k).length = R.length:=by
 unfold markI
 split
 ·split
  ·exact markE_len _ _
  ·rfl
 ·rfl
theorem markI_mono {t : List Nod} {R : List Bool} {k j : Nat} (h : isT R j) : isT (markI t R k) j:=by
 unfold markI
 split
 ·split
  ·exact (isT_markE _ _).2 (.inl h)
  ·exact h
 ·exact h
theorem roundP_succ (t : List Nod) (R : List Bool) (k : Nat) : roundP t R (k + 1) = markI t (roundP t R k) k:=by simp [roundP,List.range_succ,List.foldl_append]
theorem roundP_len (t : List Nod) (R : List Bool) : ∀ k,(roundP t R k).length = R.length
 | 0=>rfl
 | k + 1=>by rw [roundP_succ,markI_len,roundP_len t R k]
theorem roundP_mono {t : List Nod} {R : List Bool} {j m : Nat} (h : isT (roundP t R m) j) : ∀ k,m ≤ k → isT (roundP t R k) j
  | 0, hk => by have : m = 0 := by omega
                subst this;exact h
  | k + 1,hk=>by
    by_cases e : m = k + 1
    · subst e;exact h
    · rw [roundP_succ];exact markI_mono (roundP_mono h k (by omega))
theorem rounds_len (t : List Nod) (R : List Bool) : ∀ n,(roundsR t R n).length = R.length
 | 0=>rfl
 | n + 1=>by show (roundP t (roundsR t R n) t.length).length = _;rw [roundP_len,rounds_len t R n]
theorem markI_sound {t : List Nod} {R : List Bool} {a k : Nat} (h : ∀ j,isT R j → Reach t a j) : ∀ j,isT (markI t R k) j → Reach t a j:=by
 intro j hj
 unfold markI at hj
 split at hj
 ·rename_i x hx
  split at hj
  ·rename_i hk
   rcases (isT_markE _ _).1 hj with hj | ⟨_,e,he,rfl⟩
   ·exact h j hj
   ·exact .step (h k hk) hx he
  ·exact h j hj
 ·exact h j hj
theorem roundP_sound {t : List Nod} {R : List Bool} {a : Nat} (h : ∀ j,isT R j → Reach t a j) : ∀ k j,isT (roundP t R k) j → Reach t a j
 | 0=>h
 | k + 1=>by rw [roundP_succ];exact markI_sound (roundP_sound h k)
theorem rounds_sound {t : List Nod} {R : List Bool} {a : Nat} (h : ∀ j,isT R j → Reach t a j) : ∀ n j,isT (roundsR t R n) j → Reach t a j
 | 0=>h
 | n + 1=>roundP_sound (rounds_sound h n) t.length
theorem start_T {t : List Nod} {a j : Nat} : isT (startR t a) j ↔ a = j ∧ j < t.length:=by
 unfold startR
 rw [isT_set]
 simp [isT,List.getElem?_replicate]
def Closed (t : List Nod) (R : List Bool) : Prop:=∀ k x,t[k]? = some x → isT R k → ∀ e ∈ x.ents,isT R e.node.toNat
theorem closed_all {t : List Nod} {R : List Bool} {a : Nat} (hc : Closed t R) (ha : isT R a) : ∀ j,Reach t a j → isT R j:=by
 intro j hj
 induction hj with
 | refl=>exact ha
 | step _ hx he ih=>exact hc _ _ hx ih _ he
theorem fix_closed {t : List Nod} {R : List Bool} (hg : Good t) (hl : R.length = t.length) (hf : roundP t R t.length = R) : Closed t R:=by
 intro k x hx hk e he
 have hkl : k < t.length:=(List.getElem?_eq_some_iff.1 hx).1
 have h1 : isT (roundP t R k) k:=roundP_mono (m:=0) hk k (by omega)
 have h2 : isT (roundP t R (k + 1)) e.node.toNat:=by
  rw [roundP_succ]
  unfold markI
  rw [hx]
  simp only
  rw [if_pos (show (roundP t R k)[k]? = some true from h1),isT_markE]
  have:=hg x (List.mem_of_getElem? hx) e he
  exact .inr ⟨by rw [roundP_len,hl];omega,e,he,rfl⟩
 have h3:=roundP_mono h2 t.length (by omega)
 rwa [hf] at h3
def cntT (R : List Bool) : Nat:=R.countP id
theorem cnt_le : ∀ (R S : List Bool),R.length = S.length → (∀ k,isT R k → isT S k) → cntT R ≤ cntT S ∧ (cntT R = cntT S → R = S)
 | [],[],_,_=>⟨Nat.le_refl _,fun _=>rfl⟩
 | [],_ :: _,h,_=>by simp at h
 | _ :: _,[],h,_=>by simp at h
 | a :: R,b :: S,h,hm=>by
  obtain ⟨h1,h2⟩:=cnt_le R S (by simpa using h) fun k hk=>by have:=hm (k + 1);simpa [isT] using this (by simpa [isT] using hk)
  have h0:=hm 0
  simp only [isT,List.getElem?_cons_zero,Option.some.injEq] at h0
  unfold cntT at *
  simp only [List.countP_cons,id]
  cases a<;>cases b
  ·simp only [Bool.false_eq_true,if_false,Nat.add_zero];exact ⟨h1,fun e=>by rw [h2 e]⟩
  ·simp only [Bool.false_eq_true,if_false,if_true];exact ⟨by omega,fun e=>by omega⟩
  ·exact absurd (h0 rfl) (by simp)
  ·simp only [if_true];exact ⟨by omega,fun e=>by rw [h2 (by omega)]⟩
theorem cnt_len (R : List Bool) : cntT R ≤ R.length:=List.countP_le_length
theorem rounds_fix {t : List Nod} {R : List Bool} (h1 : 1 ≤ cntT R) : ∀ n,roundP t (roundsR t R n) t.length = roundsR t R n ∨ n + 1 ≤ cntT (roundsR t R n)
 | 0=>.inr h1
 | n + 1=>by
  have hm:=cnt_le (roundsR t R n) (roundP t (roundsR t R n) t.length) (roundP_len _ _ _).symm fun k hk=>roundP_mono (m:=0) hk _ (by omega)
  rcases rounds_fix h1 n with h | h
  ·left
   show roundP t (roundP t (roundsR t R n) t.length) t.length = roundP t (roundsR t R n) t.length
   rw [h,h]
  ·by_cases e : roundP t (roundsR t R n) t.length = roundsR t R n
   ·left
    show roundP t (roundP t (roundsR t R n) t.length) t.length = roundP t (roundsR t R n) t.length
    rw [e,e]
   ·right
    show n + 1 + 1 ≤ cntT (roundP t (roundsR t R n) t.length)
    have : cntT (roundsR t R n) ≠ cntT (roundP t (roundsR t R n) t.length):=fun h2=>e (hm.2 h2).symm
    omega
theorem start_len (t : List Nod) (a : Nat) : (startR t a).length = t.length:=by simp [startR]
theorem rch_len (t : List Nod) (a : Nat) : (rchF t a).length = t.length:=by unfold rchF;rw [rounds_len,start_len]
theorem rch_iff {t : List Nod} {a : Nat} (hg : Good t) (ha : a < t.length) (j : Nat) : isT (rchF t a) j ↔ Reach t a j:=by
 have h0 : isT (startR t a) a:=start_T.2 ⟨rfl,ha⟩
 have hT : ∀ n,isT (roundsR t (startR t a) n) a:=by
  intro n
  induction n with
  | zero=>exact h0
  | succ n ih=>exact roundP_mono (m:=0) ih _ (by omega)
 constructor
 ·exact rounds_sound (fun j hj=>by obtain ⟨rfl,_⟩:=start_T.1 hj;exact .refl) _ j
 ·have h1 : 1 ≤ cntT (startR t a):=by
   have:=(List.getElem?_eq_some_iff.1 h0)
   exact List.countP_pos_iff.2 ⟨true,by obtain ⟨hl,e⟩:=this;rw [← e];exact List.getElem_mem _,rfl⟩
  have hf : roundP t (rchF t a) t.length = rchF t a:=by
   rcases rounds_fix (t:=t) h1 t.length with h | h
   ·exact h
   ·have:=cnt_len (roundsR t (startR t a) t.length)
    rw [rounds_len,start_len] at this
    omega
  exact closed_all (fix_closed hg (rch_len t a) hf) (hT _) j
theorem bools_ext {R S : List Bool} (h : R.length = S.length) (hi : ∀ j,isT R j ↔ isT S j) : R = S:=by
 apply List.ext_getElem h
 intro k h1 h2
 have:=hi k
 unfold isT at this
 rw [List.getElem?_eq_getElem h1,List.getElem?_eq_getElem h2] at this
 simp only [Option.some.injEq] at this
 cases hr : R[k]<;>cases hs : S[k]<;>simp_all
theorem rch_uniq {t : List Nod} {a : Nat} {R : List Bool} (hg : Good t) (ha : a < t.length) (hl : R.length = t.length) (h1 : isT R a) (h2 : ∀ j,isT R j → Reach t a j) (h3 : Closed t R) : R = rchF t a:=
 bools_ext (by rw [hl,rch_len]) fun j=>⟨fun h=>(rch_iff hg ha j).2 (h2 j h),fun h=>closed_all h3 h1 j ((rch_iff hg ha j).1 h)⟩
end Go.Proofs.YtkmhnaojgkcjoaaGreatDoor
namespace Go.Proofs.YtkmhnaojgkcjoaaGreatDoor
open Go Dw
structure Bf (t : List Nod) (a : Nat) (R : List Bool) (Q : List Int) : Prop where
 len : R.length = t.length
 st : isT R a
 snd : ∀ j,isT R j → Reach t a j
 q : ∀ q ∈ Q,0 ≤ q ∧ isT R q.toNat
 cl : ∀ k x,t[k]? = some x → isT R k → (k : Int) ∈ Q ∨ ∀ e ∈ x.ents,isT R e.node.toNat
 n : Q.length ≤ cntT R
theorem cnt_set : ∀ (R : List Bool) (m : Nat),R[m]? = some false → cntT (R.set m true) = cntT R + 1
 | [],m,h=>by simp at h
 | b :: R,0,h=>by
  simp only [List.getElem?_cons_zero,Option.some.injEq] at h
  subst h
  simp [cntT]
 | b :: R,m + 1,h=>by
  have:=cnt_set R m (by simpa using h)
  unfold cntT at *
  simp only [List.set_cons_succ,List.countP_cons,this];omega
theorem bf_0 {t : List Nod} {a : Nat} (ha : a < t.length) : Bf t a (startR t a) [(a : Int)]:=by
 have h0 : isT (startR t a) a:=start_T.2 ⟨rfl,ha⟩
 refine ⟨start_len t a,h0,fun j hj=>by obtain ⟨rfl,_⟩:=start_T.1 hj;exact .refl,fun q hq=>by rw [List.mem_singleton.1 hq];exact ⟨by omega,by simpa using h0⟩,fun k x _ hk=>.inl (by obtain ⟨rfl,_⟩:=start_T.1 hk;simp),?_⟩
 obtain ⟨hl,e⟩:=List.getElem?_eq_some_iff.1 h0
 exact List.countP_pos_iff.2 ⟨true,by rw [← e];exact List.getElem_mem _,rfl⟩
theorem bf_pop {t : List Nod} {a : Nat} {R : List Bool} {p : Int} {cur : List Int} {nd : Nod} (h : Bf t a R (p :: cur)) (hd : t[p.toNat]? = some nd) (hm : ∀ e ∈ nd.ents,isT R e.node.toNat) : Bf t a R cur:=by
 refine ⟨h.len,h.st,h.snd,fun q hq=>h.q q (by simp [hq]),fun k x hx hk=>?_,by have:=h.n;simp only [List.length_cons] at this;omega⟩
 rcases h.cl k x hx hk with hh | hh
 ·rcases List.mem_cons.1 hh with e | hh
  ·right
   have : p.toNat = k:=by omega
   rw [this,hx] at hd
   cases hd
   exact hm
  ·exact .inl hh
 ·exact .inr hh
theorem bf_push {t : List Nod} {a : Nat} {R : List Bool} {p : Int} {cur : List Int} {nd : Nod} {e : Ent} (hg : Good t) (h : Bf t a R (p :: cur)) (hd : t[p.toNat]? = some nd) (he : e ∈ nd.ents) (hf : R[e.node.toNat]? = some false) : Bf t a (setT R e) (p :: (cur ++ [e.node])):=by
 have hb:=hg nd (List.mem_of_getElem? hd) e he
 have hmo : ∀ j,isT R j → isT (setT R e) j:=fun j hj=>isT_set.2 (.inl hj)
 have hn : isT (setT R e) e.node.toNat:=isT_set.2 (.inr ⟨rfl,by rw [h.len];omega⟩)
 refine ⟨by rw [setT_len];exact h.len,hmo _ h.st,fun j hj=>?_,fun q hq=>?_,fun k x hx hk=>?_,?_⟩
 ·rcases isT_set.1 hj with hj | ⟨rfl,_⟩
  ·exact h.snd j hj
  ·exact .step (h.snd _ (h.q p (by simp)).2) hd he
 ·rw [← List.cons_append] at hq
  rcases List.mem_append.1 hq with hq | hq
  ·exact ⟨(h.q q hq).1,hmo _ (h.q q hq).2⟩
  ·rw [List.mem_singleton.1 hq];exact ⟨by omega,hn⟩
 ·rcases isT_set.1 hk with hk | ⟨rfl,_⟩
  ·rcases h.cl k x hx hk with hh | hh
   ·left;rw [← List.cons_append];exact List.mem_append_left _ hh
   ·exact .inr fun e' he'=>hmo _ (hh e' he')
  ·left
   rw [show ((e.node.toNat : Nat) : Int) = e.node by omega];simp
 ·unfold setT
  rw [cnt_set _ _ hf]
  have:=h.n
  simp only [List.length_cons,List.length_append,List.length_nil] at *;omega
theorem bf_end {t : List Nod} {a : Nat} {R : List Bool} (hg : Good t) (h : Bf t a R []) : R = rchF t a:=
 rch_uniq hg (by have:=isT_lt h.st;rw [h.len] at this;exact this) h.len h.st h.snd fun k x hx hk=>(h.cl k x hx hk).resolve_left (by simp)
structure Bi (t : List Nod) (a : Nat) (R : List Bool) (p : Int) (cur : List Int) (nd : Nod) (m : Nat) (R0 : List Bool) (cur0 : List Int) : Prop where
 b : Bf t a R (p :: cur)
 ml : m ≤ nd.ents.length
 mrk : ∀ e ∈ nd.ents.take m,isT R e.node.toNat
 n : cur.length + cntT R0 = cur0.length + cntT R
 le : cntT R0 ≤ cntT R
theorem bi_0 {t : List Nod} {a : Nat} {R : List Bool} {p : Int} {cur : List Int} {nd : Nod} (h : Bf t a R (p :: cur)) : Bi t a R p cur nd 0 R cur:=
 ⟨h,Nat.zero_le _,fun e he=>by simp at he,rfl,Nat.le_refl _⟩
section
variable {t : List Nod} {a : Nat} {R R0 : List Bool} {p : Int} {cur cur0 : List Int} {nd : Nod} {m : Nat} (hg : Good t) (h : Bi t a R p cur nd m R0 cur0)
include h in
theorem bi_skip (hm : m < nd.ents.length) (ht : isT R nd.ents[m].node.toNat) : Bi t a R p cur nd (m + 1) R0 cur0:=by
 refine ⟨h.b,hm,fun e he=>?_,h.n,h.le⟩
 rw [List.take_succ_eq_append_getElem hm] at he
 rcases List.mem_append.1 he with he | he
 ·exact h.mrk e he
 ·rw [List.mem_singleton.1 he];exact ht
include hg h in
theorem bi_push (hd : t[p.toNat]? = some nd) (hm : m < nd.ents.length) (hf : R[nd.ents[m].node.toNat]? = some false) : Bi t a (setT R nd.ents[m]) p (cur ++ [nd.ents[m].node]) nd (m + 1) R0 cur0:=by
 have hb:=bf_push hg h.b hd (List.getElem_mem hm) hf
 have hc : cntT (setT R nd.ents[m]) = cntT R + 1:=cnt_set _ _ hf
 refine ⟨hb,hm,fun e he=>?_,?_,?_⟩
 ·rw [List.take_succ_eq_append_getElem hm] at he
  rcases List.mem_append.1 he with he | he
  ·exact isT_set.2 (.inl (h.mrk e he))
  ·rw [List.mem_singleton.1 he]
   have:=hg nd (List.mem_of_getElem? hd) _ (List.getElem_mem hm)
   exact isT_set.2 (.inr ⟨rfl,by rw [h.b.len];omega⟩)
 ·have:=h.n
  rw [List.length_append,hc];simp only [List.length_cons,List.length_nil];omega
 ·have:=h.le
  omega
include h in
theorem bi_end (hd : t[p.toNat]? = some nd) (hm : nd.ents.length ≤ m) : Bf t a R cur ∧ 2 * (t.length - cntT R) + cur.length < 2 * (t.length - cntT R0) + (p :: cur0).length:=by
 have hk:=h.mrk
 rw [List.take_of_length_le hm] at hk
 refine ⟨bf_pop h.b hd hk,?_⟩
 have h1:=h.n
 have h2:=h.le
 have h3:=cnt_len R
 rw [h.b.len] at h3
 simp only [List.length_cons];omega
include h in
theorem bi_cnt : (p :: cur).length ≤ t.length:=by
 have h1:=h.b.n
 have h3:=cnt_len R
 rw [h.b.len] at h3
 omega
end
end Go.Proofs.YtkmhnaojgkcjoaaGreatDoor
namespace Go.Proofs.YtkmhnaojgkcjoaaGreatDoor
open Go Dw
set_option maxRecDepth 10000
attribute [local irreducible] Run
set_option maxHeartbeats 2000000
open Paths
attribute [local irreducible] nameErr cut normal dots partErr text parse glue fold within
abbrev rowB (R : List Bool) : List AV:=(R.map D.bool).map .d
abbrev rowI (l : List Int) : List AV:=(l.map i).map .d
theorem rowI_hd {pre q : List Int} {w : Int} {n : Nat} {K : AV → Prop} (hn : n = pre.length) (k : K (.d (i w))) : nthK (rowI (pre ++ w :: q)) n K:=by
 subst hn
 exact nthK_of (x:=.d (i w)) (by simp [rowI]) k
theorem rep_rowB (n : Nat) (b : Bool) : rowB (List.replicate n b) = List.replicate n (.d (.bool b)):=by simp [rowB]
theorem rep_rowI (n : Nat) (x : Int) : rowI (List.replicate n x) = List.replicate n (.d (i x)):=by simp [rowI]
theorem rowB_at {R : List Bool} {n m : Nat} {K : AV → Prop} (e : n = m) (h : m < R.length) (k : K (.d (.bool R[m]))) : nthK (rowB R) n K:=by
 subst e
 exact nthK_of (x:=.d (.bool R[n])) (by simp [rowB,h]) k
theorem rowB_set {R : List Bool} {n m : Nat} {K : List AV → Prop} (e : n = m) (k : K (rowB (R.set m true))) : setK (rowB R) n (.d (.bool true)) K:=by
 subst e
 refine setK_of ?_
 have : (rowB R).set n (.d (.bool true)) = rowB (R.set n true):=by simp [rowB,List.map_set]
 rw [this];exact k
theorem nb_of {t : List Nod} {a m : Nat} {R R0 : List Bool} {p : Int} {cur cur0 : List Int} {nd : Nod} (hg : Good t) (hd : t[p.toNat]? = some nd) (h : Bi t a R p cur nd m R0 cur0) (hm : m < nd.ents.length) : nd.ents[m].node.toNat < R.length ∧ 1 ≤ nd.ents[m].node ∧ nd.ents[m].node ≤ (t.length : Int) - 1:=by
 have:=hg nd (List.mem_of_getElem? hd) _ (List.getElem_mem hm)
 rw [h.b.len];omega
theorem bi_cap {t : List Nod} {a m : Nat} {R R0 : List Bool} {p : Int} {cur cur0 : List Int} {nd : Nod} (h : Bi t a R p cur nd m R0 cur0) (hl : t.length < 100000) : (p :: cur).length + 1 ≤ 10000000:=by
 have:=bi_cnt h;omega
theorem isT_of {R : List Bool} {k : Nat} (h : k < R.length) (e : R[k] = true) : isT R k:=by unfold isT;rw [List.getElem?_eq_getElem h,e]
theorem isF_of {R : List Bool} {k : Nat} (h : k < R.length) (e : R[k] = false) : R[k]? = some false:=by rw [List.getElem?_eq_getElem h,e]
theorem hd_of {t : List Nod} {a : Nat} {R : List Bool} {p : Int} {cur : List Int} (h : Bf t a R (p :: cur)) : ∃ nd,t[p.toNat]? = some nd ∧ 0 ≤ p:=by
 obtain ⟨h0,h1⟩:=h.q p (by simp)
 have:=isT_lt h1
 rw [h.len] at this
 exact ⟨t[p.toNat],List.getElem?_eq_getElem this,h0⟩
theorem rowI_next (pre q : List Int) (w : Int) : rowI (pre ++ w :: q) = rowI ((pre ++ [w]) ++ q):=by simp
theorem rowI_push {μ : List Mu} {pre cur : List Int} {w x : Int} {n : Nat} (hn : n = pre.length) : wks μ ((rowI (pre ++ w :: cur)).drop n ++ [.d (i x)]) (rowI ([] ++ w :: (cur ++ [x]))):=by
 subst hn
 have : (rowI (pre ++ w :: cur)).drop pre.length ++ [.d (i x)] = rowI ([] ++ w :: (cur ++ [x])):=by simp [rowI]
 rw [this];exact wksd _ _
theorem rowI_pushT {μ : List Mu} {pre cur : List Int} {w x : Int} {n k : Nat} (hn : n = pre.length) (hk : k = (w :: cur).length) : wks μ (((rowI (pre ++ w :: cur)).drop n).take k ++ [.d (i x)]) (rowI ([] ++ w :: (cur ++ [x]))):=by
 have h:=rowI_push (μ:=μ) (cur:=cur) (w:=w) (x:=x) hn
 rw [List.take_of_length_le (by subst hn;rw [hk];simp [rowI])]
 exact h
theorem appI_len {pre cur : List Int} {w : Int} : pre.length + (w :: cur).length = (rowI (pre ++ w :: cur)).length:=by simp [rowI]
theorem mk_rowB {n : Nat} {l : Int} {A : Prop} {h : Heap} {F : Nat → Heap → Prop} (hA : A) (hl : l = n) (hk : newD h ⟨rowB (List.replicate n false),1,0⟩ F) : A ∧ newD h ⟨List.replicate l.toNat (.d (.bool false)),1,0⟩ F:=by
 subst hl
 rw [rep_rowB] at hk
 exact ⟨hA,hk⟩
theorem mk_rowI {n : Nat} {l : Int} {A : Prop} {h : Heap} {F : Nat → Heap → Prop} (hA : A) (hl : l = n) (hk : newD h ⟨rowI (List.replicate n 0),1,0⟩ F) : A ∧ newD h ⟨List.replicate l.toNat (.d (i 0)),1,0⟩ F:=by
 subst hl
 rw [rep_rowI] at hk
 exact ⟨hA,hk⟩
attribute [local irreducible] Good rchF cntT
theorem c116 (t : List Nod) (a : Nat) (hg : Good t) (ha : a < t.length) (hl : t.length < 100000) (hb : ∀ x ∈ t,x.ents.length < 2000000) : Fn 116 [treeD t,i a] (.fs ((rchF t a).map D.bool)):=by
 refine run_walkF eok Tryz.func116 rfl (by kernel_rfl) ?_
 conv=>whnf
 repeat' (first
 | ((with_reducible refine on_dec_f ?_ ?_);(focus ((try simp only [List.length_map,List.length_cons,List.length_nil,List.length_append]);omega));conv=>whnf)
 | ((with_reducible refine on_dec_t ?_ ?_);(focus ((try simp only [List.length_map,List.length_cons,List.length_nil,List.length_append]);omega));conv=>whnf)
 | ((with_reducible refine on_dec (fun h=>?_) (fun h=>?_))<;>(try simp only [List.length_map] at h)<;>conv=>whnf)
 | ((with_reducible refine on_not (fun h=>?_) (fun h=>?_))<;>conv=>whnf)
 | ((with_reducible refine loop_go ?_);first | (refine loop5 (fun (m : Nat) (R2 : List Bool) (pre2 : List Int) (cur2 : List Int) (fr2 : Bool)=>nd.ents.length - m) (fun (m : Nat) (R2 : List Bool) (pre2 : List Int) (cur2 : List Int) (fr2 : Bool)=>Bi t a R2 w cur2 nd m R cur) (fun (m : Nat) (R2 : List Bool) (pre2 : List Int) (cur2 : List Int) (fr2 : Bool)=>[(0,.d (treeD t)),(5,.sl 0 0 t.length 1 (some t.length)),(6,.sl 1 pre2.length (w :: cur2).length 1 (capO fr2 (w :: cur2).length)),(28,.d (.fs (nd.ents.map Ent.enc))),(29,.d (i nd.ents.length)),(30,.d (i m))]) (fun (m : Nat) (R2 : List Bool) (pre2 : List Int) (cur2 : List Int) (fr2 : Bool)=>[⟨rowB R2,1,0⟩,⟨rowI (pre2 ++ w :: cur2),1,0⟩]) (0) (R) (pre) (cur) (false) (by exact bi_0 hI) ?_ (fun m R2 pre2 cur2 fr2 Ci hIi hCi=>?_);(exact ⟨[.old 0,.old 1],rfl,rfl,⟨(by first | (show (_ : D) = _;with_reducible rfl) ),(by first | exact ⟨rfl,rfl,rfl,rfl,rfl⟩ ),⟨rfl,rfl,(by simp),rfl,(capO_eq (fr:=false) (by simp))⟩,(by first | (show (_ : D) = _;with_reducible rfl) ),(congrArg (D.int .i64) (by simp only [List.length_map])),(by first | exact congrArg (D.int .i64) (by omega) ),trivial⟩,⟨⟨rfl,rfl,.inl ⟨_,rfl,rfl⟩⟩,⟨rfl,rfl,.inl ⟨_,rfl,rfl⟩⟩,trivial⟩⟩);cases fr2;all_goals (conv=>whnf)) | (refine loop5 (fun (m : Nat) (R2 : List Bool) (pre2 : List Int) (cur2 : List Int) (fr2 : Bool)=>nd.ents.length - m) (fun (m : Nat) (R2 : List Bool) (pre2 : List Int) (cur2 : List Int) (fr2 : Bool)=>Bi t a R2 w cur2 nd m R cur) (fun (m : Nat) (R2 : List Bool) (pre2 : List Int) (cur2 : List Int) (fr2 : Bool)=>[(0,.d (treeD t)),(5,.sl 0 0 t.length 1 (some t.length)),(6,.sl 1 pre2.length (w :: cur2).length 1 (capO fr2 (w :: cur2).length)),(28,.d (.fs (nd.ents.map Ent.enc))),(29,.d (i nd.ents.length)),(30,.d (i m))]) (fun (m : Nat) (R2 : List Bool) (pre2 : List Int) (cur2 : List Int) (fr2 : Bool)=>[⟨rowB R2,1,0⟩,⟨rowI (pre2 ++ w :: cur2),1,0⟩]) (0) (R) (pre) (cur) (true) (by exact bi_0 hI) ?_ (fun m R2 pre2 cur2 fr2 Ci hIi hCi=>?_);(exact ⟨[.old 0,.old 1],rfl,rfl,⟨(by first | (show (_ : D) = _;with_reducible rfl) ),(by first | exact ⟨rfl,rfl,rfl,rfl,rfl⟩ ),⟨rfl,rfl,(by simp),rfl,(capO_eq (fr:=true) (by simp))⟩,(by first | (show (_ : D) = _;with_reducible rfl) ),(congrArg (D.int .i64) (by simp only [List.length_map])),(by first | exact congrArg (D.int .i64) (by omega) ),trivial⟩,⟨⟨rfl,rfl,.inl ⟨_,rfl,rfl⟩⟩,⟨rfl,rfl,.inl ⟨_,rfl,rfl⟩⟩,trivial⟩⟩);cases fr2;all_goals (conv=>whnf)) | (refine loop4 (fun (R : List Bool) (pre : List Int) (q : List Int) (fr : Bool)=>2 * (t.length - cntT R) + q.length) (fun (R : List Bool) (pre : List Int) (q : List Int) (fr : Bool)=>Bf t a R q) (fun (R : List Bool) (pre : List Int) (q : List Int) (fr : Bool)=>[(0,.d (treeD t)),(5,.sl 0 0 t.length 1 (some t.length)),(6,.sl 1 pre.length q.length 1 (capO fr q.length))]) (fun (R : List Bool) (pre : List Int) (q : List Int) (fr : Bool)=>[⟨rowB R,1,0⟩,⟨rowI (pre ++ q),1,0⟩]) (startR t a) ([]) ([(a : Int)]) (true) (by exact bf_0 ha) ?_ (fun R pre q fr C hI hC=>?_);(exact ⟨[.old 0,.old 1],rfl,rfl,⟨(by first | (show (_ : D) = _;with_reducible rfl) ),⟨rfl,rfl,(by simp),rfl,(by simp)⟩,(by first | exact ⟨rfl,rfl,rfl,rfl,rfl⟩ ),trivial⟩,⟨⟨rfl,rfl,.inl ⟨_,rfl,rfl⟩⟩,⟨rfl,rfl,.inl ⟨_,rfl,rfl⟩⟩,trivial⟩⟩);(rcases q with (_ | ⟨w,cur⟩));(rotate_left;(obtain ⟨nd,hnd,hw0⟩:=hd_of hI);rotate_right);all_goals cases fr;all_goals (conv=>whnf)))
 | ((with_reducible show C _ _);first | (refine hC (R2) (pre2 ++ [w]) (cur2) (false) _ _ ?_ (by exact (bi_end hIi hnd (by omega)).2) ?_;clear hC;rotate_left;(exact ⟨[.old 0,.old 1],rfl,rfl,⟨(by first | (show (_ : D) = _;with_reducible rfl) ),(by first | exact ⟨rfl,rfl,rfl,rfl,rfl⟩ ),⟨rfl,(by simp only [List.length_append,List.length_cons,List.length_nil]),Nat.add_sub_cancel _ 1,rfl,capO_pred (fr:=false)⟩,trivial⟩,⟨⟨rfl,rfl,.inl ⟨_,rfl,rfl⟩⟩,⟨rfl,rfl,.inl ⟨_,rfl,(rowI_next _ _ _).symm⟩⟩,trivial⟩⟩);(exact (bi_end hIi hnd (by omega)).1)) | (refine hC (R2) (pre2 ++ [w]) (cur2) (true) _ _ ?_ (by exact (bi_end hIi hnd (by omega)).2) ?_;clear hC;rotate_left;(exact ⟨[.old 0,.old 1],rfl,rfl,⟨(by first | (show (_ : D) = _;with_reducible rfl) ),(by first | exact ⟨rfl,rfl,rfl,rfl,rfl⟩ ),⟨rfl,(by simp only [List.length_append,List.length_cons,List.length_nil]),Nat.add_sub_cancel _ 1,rfl,capO_pred (fr:=true)⟩,trivial⟩,⟨⟨rfl,rfl,.inl ⟨_,rfl,rfl⟩⟩,⟨rfl,rfl,.inl ⟨_,rfl,(rowI_next _ _ _).symm⟩⟩,trivial⟩⟩);(exact (bi_end hIi hnd (by omega)).1)))
 | ((with_reducible show Ci _ _);first | (refine hCi (m + 1) (R2) (pre2) (cur2) (true) _ _ ?_ (by omega) ?_;clear hCi;rotate_left;(exact ⟨[.old 0,.old 1],rfl,rfl,⟨(by first | (show (_ : D) = _;with_reducible rfl) ),(by first | exact ⟨rfl,rfl,rfl,rfl,rfl⟩ ),(by first | exact ⟨rfl,rfl,rfl,rfl,rfl⟩ ),(by first | (show (_ : D) = _;with_reducible rfl) ),(by first | (show (_ : D) = _;with_reducible rfl) ),(by first | exact congrArg (D.int .i64) (by omega) ),trivial⟩,⟨⟨rfl,rfl,.inl ⟨_,rfl,rfl⟩⟩,⟨rfl,rfl,.inl ⟨_,rfl,rfl⟩⟩,trivial⟩⟩);(exact bi_skip hIi (by omega) (isT_of (nb_of hg hnd hIi (by omega)).1 (by assumption)))) | (refine hCi (m + 1) (R2) (pre2) (cur2) (false) _ _ ?_ (by omega) ?_;clear hCi;rotate_left;(exact ⟨[.old 0,.old 1],rfl,rfl,⟨(by first | (show (_ : D) = _;with_reducible rfl) ),(by first | exact ⟨rfl,rfl,rfl,rfl,rfl⟩ ),(by first | exact ⟨rfl,rfl,rfl,rfl,rfl⟩ ),(by first | (show (_ : D) = _;with_reducible rfl) ),(by first | (show (_ : D) = _;with_reducible rfl) ),(by first | exact congrArg (D.int .i64) (by omega) ),trivial⟩,⟨⟨rfl,rfl,.inl ⟨_,rfl,rfl⟩⟩,⟨rfl,rfl,.inl ⟨_,rfl,rfl⟩⟩,trivial⟩⟩);(exact bi_skip hIi (by omega) (isT_of (nb_of hg hnd hIi (by omega)).1 (by assumption)))) | (refine hCi (m + 1) (setT R2 (nd.ents[m]'(by omega))) ([]) (cur2 ++ [(nd.ents[m]'(by omega)).node]) (false) _ _ ?_ (by omega) ?_;clear hCi;rotate_left;(exact ⟨[.old 0,.old 4],rfl,rfl,⟨(by first | (show (_ : D) = _;with_reducible rfl) ),(by first | exact ⟨rfl,rfl,rfl,rfl,rfl⟩ ),⟨rfl,rfl,(by simp),rfl,rfl⟩,(by first | (show (_ : D) = _;with_reducible rfl) ),(by first | (show (_ : D) = _;with_reducible rfl) ),(by first | exact congrArg (D.int .i64) (by omega) ),trivial⟩,⟨⟨rfl,rfl,.inl ⟨_,rfl,rfl⟩⟩,⟨rfl,rfl,.inr (rowI_push rfl)⟩,trivial⟩⟩);(exact bi_push hg hIi hnd (by omega) (isF_of (nb_of hg hnd hIi (by omega)).1 (by assumption)))) | (refine hCi (m + 1) (setT R2 (nd.ents[m]'(by omega))) ([]) (cur2 ++ [(nd.ents[m]'(by omega)).node]) (false) _ _ ?_ (by omega) ?_;clear hCi;rotate_left;(exact ⟨[.old 0,.old 4],rfl,rfl,⟨(by first | (show (_ : D) = _;with_reducible rfl) ),(by first | exact ⟨rfl,rfl,rfl,rfl,rfl⟩ ),⟨rfl,rfl,(by simp),rfl,rfl⟩,(by first | (show (_ : D) = _;with_reducible rfl) ),(by first | (show (_ : D) = _;with_reducible rfl) ),(by first | exact congrArg (D.int .i64) (by omega) ),trivial⟩,⟨⟨rfl,rfl,.inl ⟨_,rfl,rfl⟩⟩,⟨rfl,rfl,.inr (rowI_pushT rfl rfl)⟩,trivial⟩⟩);(exact bi_push hg hIi hnd (by omega) (isF_of (nb_of hg hnd hIi (by omega)).1 (by assumption)))) )
 | (refine ix_map (by omega) ?_;conv=>whnf)
 | (refine wrap64 (by have:=hb nd (List.mem_of_getElem? hnd);omega) ?_;conv=>whnf)
 | (refine mk_rowB (n:=t.length) (by rw [List.length_map];refine ⟨by omega,Int.le_refl _,by omega,?_⟩;show (t.length : Int) * ((1 : Nat) : Int) ≤ _;omega) (by rw [List.length_map]) ?_;conv=>whnf)
 | (refine ⟨⟨by omega,by (try simp only [List.length_map]);omega⟩,?_⟩;conv=>whnf)
 | (refine ⟨⟨by have:=nb_of hg hnd hIi (m:=m) (by omega);omega,by have:=nb_of hg hnd hIi (m:=m) (by omega);(try simp only [List.length_map]);omega⟩,?_⟩;conv=>whnf)
 | (refine rowB_at (m:=a) ?_ ?_ ?_;(focus omega);(focus (simpa using ha));conv=>whnf)
 | (refine rowB_set (m:=a) ?_ ?_;(focus omega);conv=>whnf)
 | (refine ⟨⟨by omega,by simp only [List.length_cons];omega⟩,?_⟩;conv=>whnf)
 | (refine rowB_at (m:=(nd.ents[m]'(by omega)).node.toNat) ?_ (nb_of hg hnd hIi (by omega)).1 ?_;(focus omega);conv=>whnf)
 | (refine rowB_set (m:=(nd.ents[m]'(by omega)).node.toNat) ?_ ?_;(focus omega);conv=>whnf)
 | ((with_reducible refine dropN_of ?_);conv=>whnf)
 | (refine ⟨⟨appI_len,cap_ok (bi_cap hIi hl) rfl⟩,?_⟩;conv=>whnf)
 | (refine ⟨⟨Nat.le_of_eq appI_len,cap_ok (bi_cap hIi hl) rfl⟩,?_⟩;conv=>whnf)
 | (refine ⟨Nat.le_refl _,?_⟩;conv=>whnf)
 | (refine own_sl 1 ((w :: cur2).length) rfl rfl ⟨by simp only [List.length_cons];omega,Nat.le_refl _⟩ ?_;conv=>whnf)
 | (refine ix_nd hw0 hnd ?_;conv=>whnf)
 | (refine rowI_hd (by first | rfl ) ?_;conv=>whnf)
 | ((with_reducible refine endx_go ?_);first | (exact endxv (view_mapL (f:=D.bool) (l:=R) hI.len.symm rfl (by decide)) (by rw [← bf_end hg hI]);done))
  | fail
  )
end Go.Proofs.YtkmhnaojgkcjoaaGreatDoor
namespace Go.Proofs.YtkmhnaojgkcjoaaGreatDoor
open Go Dw Paths
def frstG (f : Nat → Int) : Nat → Nat → Int × Int
 | 0,_=>(0,0)
 | n + 1,k=>if f k = 0 then frstG f n (k + 1) else ((k : Int),f k)
def frst (f : Nat → Int) (n k : Nat) : Int × Int:=frstG f (n - k) k
theorem frst_e {f : Nat → Int} {n k : Nat} (h : k < n) (e : ¬ f k = 0) : frst f n k = ((k : Int),f k):=by
 unfold frst
 rw [show n - k = (n - (k + 1)) + 1 by omega]
 simp only [frstG,if_neg e]
theorem frst_n {f : Nat → Int} {n k : Nat} (h : k < n) (e : f k = 0) : frst f n k = frst f n (k + 1):=by
 unfold frst
 rw [show n - k = (n - (k + 1)) + 1 by omega]
 simp only [frstG,if_pos e]
theorem frst_end {f : Nat → Int} {n k : Nat} (h : n ≤ k) : frst f n k = (0,0):=by
 unfold frst
 rw [show n - k = 0 by omega];rfl
theorem frst_ok {f : Nat → Int} {n : Nat} : ∀ (m k : Nat),m = n - k → (frst f n k).2 = 0 → ∀ j,k ≤ j → j < n → f j = 0
 | 0,k,hm,_,j,h1,h2=>by omega
 | m + 1,k,hm,h,j,h1,h2=>by
  by_cases e : f k = 0
  ·rw [frst_n (by omega) e] at h
   by_cases hj : j = k
   ·subst hj;exact e
   ·exact frst_ok m (k + 1) (by omega) h j (by omega) h2
  ·rw [frst_e (by omega) e] at h;exact absurd h e
def errN (t : List Nod) (k : Nat) : Int:=match t[k]? with
 | some x=>nodE t k x
 | none=>0
def errC (t : List Nod) (R : List Bool) (k : Nat) : Int:=if k = 0 then 0 else match t[k]? with
 | some x=>if namesR t k = 0 then 12 else if 1 < namesR t k ∧ x.kind ≠ 1 then 23 else if R[k]? = some true then 0 else 14
 | none=>0
def checkT (t : List Nod) : Int × Int:=if t.length = 0 then (0,10) else if 40 < t.length then (0,8) else if (frst (errN t) t.length 0).2 = 0 then frst (errC t (rchF t 0)) t.length 0 else frst (errN t) t.length 0
theorem errN_at {t : List Nod} {k : Nat} (h : k < t.length) : errN t k = nodE t k t[k]:=by unfold errN;rw [List.getElem?_eq_getElem h]
theorem tup2 {p : Int × Int} {a b : Int} (h : p = (a,b)) : D.tup [i a,i b] = D.tup [i p.1,i p.2]:=by rw [h]
theorem chk_0 {t : List Nod} (h : t.length = 0) : checkT t = (0,10):=if_pos h
theorem chk_8 {t : List Nod} (h : 40 < t.length) : checkT t = (0,8):=by unfold checkT;rw [if_neg (by omega),if_pos h]
section
variable {t : List Nod} (h1 : ¬ t.length = 0) (h2 : ¬ 40 < t.length)
include h1 h2
theorem chk_n {k : Nat} (hf : frst (errN t) t.length 0 = frst (errN t) t.length k) (hk : k < t.length) (e : ¬ nodE t k t[k] = 0) : checkT t = ((k : Int),nodE t k t[k]):=by
 have e' : ¬ errN t k = 0:=by rw [errN_at hk];exact e
 rw [frst_e hk e'] at hf
 unfold checkT
 rw [if_neg h1, if_neg h2, hf, if_neg e', errN_at hk]
theorem chk_c (hf : frst (errN t) t.length 0 = (0,0)) {k : Nat} {p : Int × Int} (hc : frst (errC t (rchF t 0)) t.length 0 = frst (errC t (rchF t 0)) t.length k) (hp : frst (errC t (rchF t 0)) t.length k = p) : checkT t = p:=by
 unfold checkT
 rw [if_neg h1,if_neg h2,if_pos (by rw [hf]),hc,hp]
end
theorem errC_at {t : List Nod} {R : List Bool} {k : Nat} (h0 : 1 ≤ k) (h : k < t.length) : errC t R k = if namesR t k = 0 then 12 else if 1 < namesR t k ∧ t[k].kind ≠ 1 then 23 else if R[k]? = some true then 0 else 14:=by
 unfold errC
 rw [if_neg (by omega),List.getElem?_eq_getElem h]
section
variable {t : List Nod} {R : List Bool} {k : Nat} (h0 : 1 ≤ k) (h : k < t.length)
include h0 h
theorem errC_12 (e : namesR t k = 0) : errC t R k = 12:=by rw [errC_at h0 h,if_pos e]
theorem errC_23 (e : 1 < namesR t k) (e2 : t[k].kind ≠ 1) : errC t R k = 23:=by rw [errC_at h0 h,if_neg (by omega),if_pos ⟨e,e2⟩]
theorem errC_14 (e : ¬ namesR t k = 0) (e2 : ¬ (1 < namesR t k ∧ t[k].kind ≠ 1)) (e3 : R[k]? = some false) : errC t R k = 14:=by rw [errC_at h0 h,if_neg e,if_neg e2,if_neg (by rw [e3];simp)]
theorem errC_o (e : ¬ namesR t k = 0) (e2 : ¬ (1 < namesR t k ∧ t[k].kind ≠ 1)) (e3 : R[k]? = some true) : errC t R k = 0:=by rw [errC_at h0 h,if_neg e,if_neg e2,if_pos e3]
end
theorem ents_good {len : Int} {l : List Ent} : ∀ (n k : Nat),n = l.length - k → entsE len l n k = 0 → ∀ j (h : j < l.length),k ≤ j → 1 ≤ l[j].node ∧ l[j].node ≤ len - 1
 | 0,k,hn,_,j,h,hk=>by omega
 | n + 1,k,hn,he,j,h,hk=>by
  have hkl : k < l.length:=by omega
  rw [ents_at hkl hn] at he
  by_cases e : entE len (l.take k) l[k] = 0
  ·rw [if_neg (by simpa using e)] at he
   by_cases hj : j = k
   ·subst hj
    unfold entE at e
    split at e
    ·rename_i h1;exact absurd e h1
    ·split at e
     ·exact absurd e (by decide)
     ·split at e
      ·rename_i h3
       simpa [within] using h3
      ·exact absurd e (by decide)
   ·exact ents_good (l.length - (k + 1)) (k + 1) rfl he j h (by omega)
  ·rw [if_pos e] at he;exact absurd he e
theorem nod_good {t : List Nod} {d : Int} {x : Nod} (h : nodE t d x = 0) : ∀ e ∈ x.ents,1 ≤ e.node ∧ e.node ≤ (t.length : Int) - 1:=by
 unfold nodE at h
 split at h
 ·exact absurd h (by decide)
 ·split at h
  ·exact absurd h (by decide)
  ·split at h
   ·exact absurd h (by decide)
   ·split at h
    ·rename_i h1;exact absurd h h1
    ·rename_i h1
     have h2:=Classical.not_not.1 h1
     intro e he
     obtain ⟨j,hj,rfl⟩:=List.getElem_of_mem he
     exact ents_good _ 0 rfl h2 j hj (Nat.zero_le _)
theorem good_of {t : List Nod} (h : ∀ k,k < t.length → errN t k = 0) : Good t:=by
 intro x hx
 obtain ⟨k,hk,rfl⟩:=List.getElem_of_mem hx
 have:=h k hk
 rw [errN_at hk] at this
 exact nod_good this
structure Rd (t : List Nod) (P : List Bool) (R : List Bool) (j k : Nat) : Prop where
 len : R.length = t.length
 kl : k ≤ ((t[j]?).map fun x=>x.ents.length).getD 0
 is : (k = 0 ∧ R = P) ∨ (isT P j ∧ R = markE P ((((t[j]?).map fun x=>x.ents).getD []).take k))
theorem rd_0 {t : List Nod} {P : List Bool} {j : Nat} (h : P.length = t.length) : Rd t P P j 0:=⟨h,Nat.zero_le _,.inl ⟨rfl,rfl⟩⟩
section
variable {t : List Nod} {P R : List Bool} {j k : Nat} (h : Rd t P R j k) (hj : j < t.length)
include h hj
theorem rd_step (hk : k < t[j].ents.length) (hT : isT R j) : Rd t P (setT R t[j].ents[k]) j (k + 1):=by
 refine ⟨by rw [setT_len];exact h.len,by rw [List.getElem?_eq_getElem hj];exact hk,.inr ?_⟩
 rw [List.getElem?_eq_getElem hj]
 simp only [Option.map_some,Option.getD_some]
 rw [List.take_succ_eq_append_getElem hk,markE_snoc]
 rcases h.is with ⟨rfl,rfl⟩ | ⟨h1,h2⟩
 ·exact ⟨hT,by simp [markE]⟩
 ·rw [List.getElem?_eq_getElem hj] at h2
  simp only [Option.map_some,Option.getD_some] at h2
  exact ⟨h1,by rw [h2]⟩
theorem rd_end (hP : P.length = t.length) (hx : R[j]? = some false ∨ t[j].ents.length ≤ k) : R = markI t P j:=by
 unfold markI
 rw [List.getElem?_eq_getElem hj]
 simp only
 rcases h.is with ⟨rfl,rfl⟩ | ⟨h1,h2⟩
 ·split
  ·rename_i hT
   rcases hx with hx | hx
   ·rw [hx] at hT;simp at hT
   ·have : t[j].ents = []:=List.length_eq_zero_iff.1 (by omega)
    rw [this];rfl
  ·rfl
 ·rw [if_pos (show P[j]? = some true from h1)]
  rw [List.getElem?_eq_getElem hj] at h2
  simp only [Option.map_some,Option.getD_some] at h2
  rcases hx with hx | hx
  ·have : isT R j:=by rw [h2];exact (isT_markE _ _).2 (.inl h1)
   unfold isT at this
   rw [hx] at this;simp at this
  ·rw [h2,List.take_of_length_le hx]
end
end Go.Proofs.YtkmhnaojgkcjoaaGreatDoor
namespace Go.Proofs.YtkmhnaojgkcjoaaGreatDoor
open Go Dw
set_option maxRecDepth 10000
attribute [local irreducible] Run
set_option maxHeartbeats 2000000
open Paths
attribute [local irreducible] nameErr cut normal dots partErr text parse glue fold within
theorem good_at {t : List Nod} (hG : Good t) {j m : Nat} (hj : j < t.length) (hm : m < t[j].ents.length) : 1 ≤ t[j].ents[m].node ∧ t[j].ents[m].node ≤ (t.length : Int) - 1:=hG _ (List.getElem_mem hj) _ (List.getElem_mem hm)
attribute [local irreducible] frst errN errC checkT rchF nodE namesR Good cntT setT markI
theorem rowB_setT {R : List Bool} {n : Nat} {e : Ent} {K : List AV → Prop} (h : n = e.node.toNat) (k : K (rowB (setT R e))) : setK (rowB R) n (.d (.bool true)) K:=by
 unfold setT at k
 exact rowB_set h k
theorem loop_c {t : List Nod} {k : Nat} (hI : frst (errN t) t.length 0 = frst (errN t) t.length k) (hk : t.length ≤ k) : frst (errN t) t.length 0 = (0,0):=hI.trans (frst_end hk)
theorem hG_of {t : List Nod} (h : frst (errN t) t.length 0 = (0,0)) : Good t:=good_of fun j hj=>frst_ok t.length 0 rfl (by rw [h]) j (Nat.zero_le _) hj
theorem rdl {t : List Nod} (r j : Nat) : (roundP t (roundsR t (startR t 0) r) j).length = t.length:=by rw [roundP_len,rounds_len,start_len]
theorem ndK {t : List Nod} {k : Nat} (h : k < t.length) : t[((k : Nat) : Int).toNat]? = some t[k]:=by simp [h]
theorem hbn {t : List Nod} (hb : ∀ x ∈ t,x.ents.length < 2000000 ∧ ∀ y ∈ x.ents,y.name.length < 2000000) : ∀ x ∈ t,x.ents.length < 2000000:=fun x hx=>(hb x hx).1
theorem c59 (t : List Nod) (hb : ∀ x ∈ t,x.ents.length < 2000000 ∧ ∀ y ∈ x.ents,y.name.length < 2000000) : Fn 59 [treeD t] (.tup [i (checkT t).1,i (checkT t).2]):=by
 refine run_walkF eok Tryz.func59 rfl (by kernel_rfl) ?_
 conv=>whnf
 repeat' (first
 | ((with_reducible refine on_dec (fun h=>?_) (fun h=>?_))<;>(try simp only [List.length_map] at h)<;>conv=>whnf)
 | ((with_reducible refine on_ndec (fun h=>?_) (fun h=>?_))<;>(try simp only [List.length_map] at h)<;>conv=>whnf)
 | ((with_reducible refine on_not (fun h=>?_) (fun h=>?_))<;>conv=>whnf)
 | ((with_reducible refine onBool_split (fun h=>?_) (fun h=>?_))<;>conv=>whnf)
 | ((with_reducible refine call_go ?_);(first | refine call_step (run_data (xs:=[_,_]) (c95 t (k : Int) (t[k]'(by omega)) (by omega) (ndK (by omega)) (by omega) (hb _ (List.getElem_mem _)).1 (hb _ (List.getElem_mem _)).2) _) ?_ | refine call_step (run_data (xs:=[_,_]) (c96 t (q : Int) (by omega) (hbn hb)) _) ?_);conv=>whnf)
 | ((with_reducible refine loop_go ?_);first | (refine loop1 (fun (q : Nat)=>t.length - q) (fun (q : Nat)=>1 ≤ q ∧ q ≤ t.length ∧ frst (errC t (rchF t 0)) t.length 0 = frst (errC t (rchF t 0)) t.length q) (fun (q : Nat)=>[(0,.d (treeD t)),(6,.sl 0 0 t.length 1 (some t.length)),(10,.d (i q))]) (fun (q : Nat)=>[⟨rowB (rchF t 0),1,0⟩]) (1) (by exact ⟨Nat.le_refl _,by omega,frst_n (by omega) (by unfold errC;rfl)⟩) ?_ (fun q Cq hIq hCq=>?_);(exact ⟨[.old 0],rfl,rfl,⟨(by first | (show (_ : D) = _;with_reducible rfl) ),(by first | exact ⟨rfl,rfl,rfl,rfl,rfl⟩ ),(by first | exact congrArg (D.int .i64) (by omega) ),trivial⟩,⟨⟨rfl,rfl,.inl ⟨_,rfl,(by rw [show r = t.length by omega];unfold rchF;rfl)⟩⟩,trivial⟩⟩);all_goals (conv=>whnf)) | (refine loop2 (fun (m : Nat) (R : List Bool)=>(t[j]'(by omega)).ents.length - m) (fun (m : Nat) (R : List Bool)=>Rd t (roundP t (roundsR t (startR t 0) r) j) R j m) (fun (m : Nat) (R : List Bool)=>[(0,.d (treeD t)),(6,.sl 0 0 t.length 1 (some t.length)),(7,.d (i r)),(8,.d (i j)),(9,.d (i m))]) (fun (m : Nat) (R : List Bool)=>[⟨rowB (R),1,0⟩]) (0) (roundP t (roundsR t (startR t 0) r) j) (by exact rd_0 (rdl r j)) ?_ (fun m R Cm hIm hCm=>?_);(exact ⟨[.old 0],rfl,rfl,⟨(by first | (show (_ : D) = _;with_reducible rfl) ),(by first | exact ⟨rfl,rfl,rfl,rfl,rfl⟩ ),(by first | (show (_ : D) = _;with_reducible rfl) ),(by first | (show (_ : D) = _;with_reducible rfl) ),(by first | exact congrArg (D.int .i64) (by omega) ),trivial⟩,⟨⟨rfl,rfl,.inl ⟨_,rfl,rfl⟩⟩,trivial⟩⟩);all_goals (conv=>whnf)) | (refine loop1 (fun (j : Nat)=>t.length - j) (fun (j : Nat)=>j ≤ t.length) (fun (j : Nat)=>[(0,.d (treeD t)),(6,.sl 0 0 t.length 1 (some t.length)),(7,.d (i r)),(8,.d (i j))]) (fun (j : Nat)=>[⟨rowB (roundP t (roundsR t (startR t 0) r) j),1,0⟩]) (0) (by exact Nat.zero_le _) ?_ (fun j Cj hIj hCj=>?_);(exact ⟨[.old 0],rfl,rfl,⟨(by first | (show (_ : D) = _;with_reducible rfl) ),(by first | exact ⟨rfl,rfl,rfl,rfl,rfl⟩ ),(by first | (show (_ : D) = _;with_reducible rfl) ),(by first | exact congrArg (D.int .i64) (by omega) ),trivial⟩,⟨⟨rfl,rfl,.inl ⟨_,rfl,rfl⟩⟩,trivial⟩⟩);all_goals (conv=>whnf)) | (refine loop1 (fun (r : Nat)=>t.length - r) (fun (r : Nat)=>r ≤ t.length) (fun (r : Nat)=>[(0,.d (treeD t)),(6,.sl 0 0 t.length 1 (some t.length)),(7,.d (i r))]) (fun (r : Nat)=>[⟨rowB (roundsR t (startR t 0) r),1,0⟩]) (0) (by exact Nat.zero_le _) ?_ (fun r Cr hIr hCr=>?_);(exact ⟨[.old 0],rfl,rfl,⟨(by first | (show (_ : D) = _;with_reducible rfl) ),⟨rfl,rfl,(by simp),rfl,(by simp)⟩,(by first | exact congrArg (D.int .i64) (by omega) ),trivial⟩,⟨⟨rfl,rfl,.inl ⟨_,rfl,rfl⟩⟩,trivial⟩⟩);have hE:=loop_c hI.2 (by omega);have hG:=hG_of hE;all_goals (conv=>whnf)) | (refine loop1 (fun (k : Nat)=>t.length - k) (fun (k : Nat)=>k ≤ t.length ∧ frst (errN t) t.length 0 = frst (errN t) t.length k) (fun (k : Nat)=>[(0,.d (treeD t)),(4,.d (i k))]) (fun (k : Nat)=>[]) (0) (by exact ⟨Nat.zero_le _,rfl⟩) ?_ (fun k C hI hC=>?_);(exact ⟨[],rfl,rfl,⟨(by first | (show (_ : D) = _;with_reducible rfl) ),(by first | exact congrArg (D.int .i64) (by omega) ),trivial⟩,trivial⟩);all_goals (conv=>whnf)))
 | ((with_reducible show C _ _);first | (refine hC (k + 1) _ _ ?_ (by omega) ?_;clear hC;rotate_left;(exact ⟨[],rfl,rfl,⟨(by first | (show (_ : D) = _;with_reducible rfl) ),(by first | exact congrArg (D.int .i64) (by omega) ),trivial⟩,trivial⟩);(exact ⟨by omega,hI.2.trans (frst_n (by omega) ((errN_at (by omega)).trans (by assumption)))⟩)))
 | ((with_reducible show Cj _ _);first | (refine hCj (j + 1) _ _ ?_ (by omega) ?_;clear hCj;rotate_left;(exact ⟨[.old 0],rfl,rfl,⟨(by first | (show (_ : D) = _;with_reducible rfl) ),(by first | exact ⟨rfl,rfl,rfl,rfl,rfl⟩ ),(by first | (show (_ : D) = _;with_reducible rfl) ),(by first | exact congrArg (D.int .i64) (by omega) ),trivial⟩,⟨⟨rfl,rfl,.inl ⟨_,rfl,(by rw [roundP_succ,← rd_end hIm (by omega) (rdl r j) (by first | exact .inl (isF_of (by rw [hIm.len];omega) (by assumption)) | exact .inr (by omega))])⟩⟩,trivial⟩⟩);(exact (by omega : j + 1 ≤ t.length))))
 | ((with_reducible show Cm _ _);first | (refine hCm (m + 1) (setT R ((t[j]'(by omega)).ents[m]'(by omega))) _ _ ?_ (by omega) ?_;clear hCm;rotate_left;(exact ⟨[.old 0],rfl,rfl,⟨(by first | (show (_ : D) = _;with_reducible rfl) ),(by first | exact ⟨rfl,rfl,rfl,rfl,rfl⟩ ),(by first | (show (_ : D) = _;with_reducible rfl) ),(by first | (show (_ : D) = _;with_reducible rfl) ),(by first | exact congrArg (D.int .i64) (by omega) ),trivial⟩,⟨⟨rfl,rfl,.inl ⟨_,rfl,rfl⟩⟩,trivial⟩⟩);(exact rd_step hIm (by omega) (by omega) (isT_of (by rw [hIm.len];omega) (by assumption)))))
 | ((with_reducible show Cq _ _);first | (refine hCq (q + 1) _ _ ?_ (by omega) ?_;clear hCq;rotate_left;(exact ⟨[.old 0],rfl,rfl,⟨(by first | (show (_ : D) = _;with_reducible rfl) ),(by first | exact ⟨rfl,rfl,rfl,rfl,rfl⟩ ),(by first | exact congrArg (D.int .i64) (by omega) ),trivial⟩,⟨⟨rfl,rfl,.inl ⟨_,rfl,rfl⟩⟩,trivial⟩⟩);(exact ⟨by omega,by omega,hIq.2.2.trans (frst_n (by omega) (errC_o (by omega) (by omega) (by omega) (by omega) (isT_of (by rw [rch_len];omega) (by assumption))))⟩)))
 | ((with_reducible show Cr _ _);first | (refine hCr (r + 1) _ _ ?_ (by omega) ?_;clear hCr;rotate_left;(exact ⟨[.old 0],rfl,rfl,⟨(by first | (show (_ : D) = _;with_reducible rfl) ),(by first | exact ⟨rfl,rfl,rfl,rfl,rfl⟩ ),(by first | exact congrArg (D.int .i64) (by omega) ),trivial⟩,⟨⟨rfl,rfl,.inl ⟨_,rfl,(by rw [show j = t.length by omega];rfl)⟩⟩,trivial⟩⟩);(exact (by omega : r + 1 ≤ t.length))))
 | (refine ix_map (by omega) ?_;conv=>whnf)
 | (refine wrap64 (by omega) ?_;conv=>whnf)
 | (refine wrap64 (by have:=(hb _ (List.getElem_mem (by omega : j < t.length))).1;omega) ?_;conv=>whnf)
 | (refine mk_rowB (n:=t.length) (by rw [List.length_map];refine ⟨by omega,Int.le_refl _,by omega,?_⟩;show (t.length : Int) * ((1 : Nat) : Int) ≤ _;omega) (by rw [List.length_map]) ?_;conv=>whnf)
 | (refine rowB_at (m:=0) ?_ ?_ ?_;(focus rfl);(focus (rw [List.length_replicate];omega));conv=>whnf)
 | (refine rowB_set (m:=0) ?_ ?_;(focus rfl);conv=>whnf)
 | (refine rowB_at (R:=R) (m:=j) ?_ ?_ ?_;(focus omega);(focus (rw [hIm.len];omega));conv=>whnf)
 | (refine rowB_at (R:=R) (m:=((t[j]'(by omega)).ents[m]'(by omega)).node.toNat) ?_ ?_ ?_;(focus omega);(focus (rw [hIm.len];have:=good_at hG (j:=j) (m:=m) (by omega) (by omega);omega));conv=>whnf)
 | (refine rowB_setT (R:=R) (e:=((t[j]'(by omega)).ents[m]'(by omega))) ?_ ?_;(focus omega);conv=>whnf)
 | (refine rowB_at (R:=rchF t 0) (m:=q) ?_ ?_ ?_;(focus omega);(focus (rw [rch_len];omega));conv=>whnf)
 | (refine ⟨⟨by have:=good_at hG (j:=j) (m:=m) (by omega) (by omega);omega,by have:=good_at hG (j:=j) (m:=m) (by omega) (by omega);(try simp only [List.length_map]);omega⟩,?_⟩;conv=>whnf)
 | (refine ⟨⟨by omega,by (try simp only [List.length_map]);omega⟩,?_⟩;conv=>whnf)
 | ((with_reducible refine endx_go ?_);first | (exact endx2 (tup2 (chk_c (t:=t) (by omega) (by omega) hE hIq.2.2 ((frst_e (by omega) (by rw [errC_12 (by omega) (by omega) (by omega)];decide)).trans (by rw [errC_12 (by omega) (by omega) (by omega)]))));done) | (exact endx2 (tup2 (chk_c (t:=t) (by omega) (by omega) hE hIq.2.2 ((frst_e (by omega) (by rw [errC_23 (by omega) (by omega) (by omega) (by assumption)];decide)).trans (by rw [errC_23 (by omega) (by omega) (by omega) (by assumption)]))));done) | (exact endx2 (tup2 (chk_c (t:=t) (by omega) (by omega) hE hIq.2.2 ((frst_e (by omega) (by rw [errC_14 (by omega) (by omega) (by omega) (by omega) (isF_of (by rw [rch_len];omega) (by assumption))];decide)).trans (by rw [errC_14 (by omega) (by omega) (by omega) (by omega) (isF_of (by rw [rch_len];omega) (by assumption))]))));done) | (exact endx2 (tup2 (chk_c (t:=t) (by omega) (by omega) hE hIq.2.2 (frst_end (by omega))));done) | (exact endx2 (tup2 (chk_0 (t:=t) (by omega)));done) | (exact endx2 (tup2 (chk_8 (t:=t) (by omega)));done) | (exact endx2 (tup2 (chk_n (by omega) (by omega) hI.2 (by omega) h));done))
  | fail
  )
end Go.Proofs.YtkmhnaojgkcjoaaGreatDoor
namespace Go.Proofs.YtkmhnaojgkcjoaaGreatDoor
open Go Dw
set_option maxRecDepth 10000
attribute [local irreducible] Run
set_option maxHeartbeats 2000000
open Paths
attribute [local irreducible] nameErr cut normal dots partErr text parse glue fold within
def sameN (a b : Bs) : Bool:=if a = b then true else decide (nameErr a = 0) && (decide (nameErr b = 0) && decide (fold a = fold b))
theorem sameN_ok {a b : Bs} (h0 : nameErr a = 0) (h1 : nameErr b = 0) : sameN a b = decide (fold a = fold b):=by
 unfold sameN
 split
 ·rename_i h;rw [h];exact (decide_eq_true rfl).symm
 ·rw [decide_eq_true h0,decide_eq_true h1,Bool.true_and,Bool.true_and]
theorem sameN_eq {a b : Bs} (h : a = b) : sameN a b = true:=if_pos h
theorem sameN_ne {a b : Bs} (h : ¬ a = b) (h2 : ¬ (nameErr a = 0 ∧ nameErr b = 0)) : sameN a b = false:=by
 unfold sameN
 rw [if_neg h]
 by_cases h0 : nameErr a = 0
 ·rw [decide_eq_true h0,decide_eq_false (fun h1=>h2 ⟨h0,h1⟩)];rfl
 ·rw [decide_eq_false h0];rfl
attribute [local irreducible] sameN
theorem c71a1 (a b : Bs) (ha : a.length < 2000000) (hb : b.length < 2000000) (h0 : ¬ nameErr a = 0) (h2 : nameErr b = 0) : Fn 162 [.str a,.str b] (.bool (sameN a b)):=by
 refine run_walkF eok Tryz.func162 rfl (by kernel_rfl) ?_
 conv=>whnf
 repeat' (first
 | ((with_reducible refine on_dec_f (by assumption) ?_);conv=>whnf)
 | ((with_reducible refine on_dec (fun h=>?_) (fun h=>?_))<;>(try simp only [List.length_map] at h)<;>conv=>whnf)
 | ((with_reducible refine call_go ?_);(first | refine call_step (run_view (c164n a ha h0) rfl rfl) ?_ | refine call_step (run_view (c164 b hb h2) rfl rfl) ?_);conv=>whnf)
 | ((with_reducible refine endx_go ?_);first | (exact endx (congrArg D.bool (sameN_eq (by first | assumption )).symm);done) | (exact endx (congrArg D.bool (by first | rw [sameN_ne (by first | assumption ) (by simp [*])] ));done))
  | fail
  )
theorem c71a2 (a b : Bs) (ha : a.length < 2000000) (hb : b.length < 2000000) (h0 : ¬ nameErr a = 0) (h2 : ¬ nameErr b = 0) : Fn 162 [.str a,.str b] (.bool (sameN a b)):=by
 refine run_walkF eok Tryz.func162 rfl (by kernel_rfl) ?_
 conv=>whnf
 repeat' (first
 | ((with_reducible refine on_dec_f (by assumption) ?_);conv=>whnf)
 | ((with_reducible refine on_dec (fun h=>?_) (fun h=>?_))<;>(try simp only [List.length_map] at h)<;>conv=>whnf)
 | ((with_reducible refine call_go ?_);(first | refine call_step (run_view (c164n a ha h0) rfl rfl) ?_ | refine call_step (run_view (c164n b hb h2) rfl rfl) ?_);conv=>whnf)
 | ((with_reducible refine endx_go ?_);first | (exact endx (congrArg D.bool (sameN_eq (by first | assumption )).symm);done) | (exact endx (congrArg D.bool (by first | rw [sameN_ne (by first | assumption ) (by simp [*])] ));done))
  | fail
  )
theorem c162b (a b : Bs) (ha : a.length < 2000000) (hb : b.length < 2000000) (h0 : nameErr a = 0) (h1 : ¬ nameErr b = 0): Fn 162 [.str a,.str b] (.bool (sameN a b)):=by
 refine run_walkF eok Tryz.func162 rfl (by kernel_rfl) ?_
 conv=>whnf
 repeat' (first
 | ((with_reducible refine on_dec_f (by assumption) ?_);conv=>whnf)
 | ((with_reducible refine on_dec (fun h=>?_) (fun h=>?_))<;>(try simp only [List.length_map] at h)<;>conv=>whnf)
 | ((with_reducible refine call_go ?_);(first | refine call_step (run_view (c164 a ha h0) rfl rfl) ?_ | refine call_step (run_view (c164n b hb h1) rfl rfl) ?_);conv=>whnf)
 | ((with_reducible refine endx_go ?_);first | (exact endx (congrArg D.bool (sameN_eq (by first | assumption )).symm);done) | (exact endx (congrArg D.bool (by first | rw [sameN_ne (by first | assumption ) (by simp [*])] ));done))
  | fail
  )
theorem c162g (a b : Bs) (ha : a.length < 2000000) (hb : b.length < 2000000) : Fn 162 [.str a,.str b] (.bool (sameN a b)):=by
 by_cases h0 : nameErr a = 0
 ·by_cases h1 : nameErr b = 0
  ·rw [sameN_ok h0 h1];exact c162 a b ha hb h0 h1
  ·exact c162b a b ha hb h0 h1
 ·by_cases h2 : nameErr b = 0
  ·exact c71a1 a b ha hb h0 h2
  ·exact c71a2 a b ha hb h0 h2
def ixF (p : Ent → Bool) : List Ent → Nat → Int
 | [],_=>-1
 | e :: l,k=>if p e = true then k else ixF p l (k + 1)
theorem ixF_t {p : Ent → Bool} {l : List Ent} {k : Nat} (hk : k < l.length) (h : p l[k] = true) : ixF p (l.drop k) k = (k : Int):=by rw [List.drop_eq_getElem_cons hk];exact if_pos h
theorem ixF_f {p : Ent → Bool} {l : List Ent} {k : Nat} (hk : k < l.length) (h : p l[k] = false) : ixF p (l.drop k) k = ixF p (l.drop (k + 1)) (k + 1):=by rw [List.drop_eq_getElem_cons hk];exact if_neg (by rw [h];decide)
theorem ixF_end {p : Ent → Bool} {l : List Ent} {k : Nat} (hk : l.length ≤ k) : ixF p (l.drop k) k = -1:=by rw [List.drop_eq_nil_of_le hk];rfl
theorem ixF_any {p : Ent → Bool} : ∀ (l : List Ent) (k : Nat),decide (0 ≤ ixF p l k) = l.any p
 | [],k=>by simp [ixF]
 | e :: l,k=>by
  have e1 : ixF p (e :: l) k = if p e = true then (k : Int) else ixF p l (k + 1):=rfl
  rw [List.any_cons]
  by_cases h : p e = true
  ·rw [if_pos h] at e1;rw [e1,h,Bool.true_or];exact decide_eq_true (by omega)
  ·rw [if_neg h] at e1;rw [e1,show p e = false by simpa using h,Bool.false_or];exact ixF_any l (k + 1)
attribute [local irreducible] ixF
theorem c161 (x y : Ent) (hx : x.name.length < 2000000) (hy : y.name.length < 2000000) : Fn 161 [y.enc,.fp x.enc 0] (.bool (sameN x.name y.name)):=by
 refine run_walkF eok Tryz.func161 rfl (by kernel_rfl) ?_
 conv=>whnf
 repeat' (first
 | ((with_reducible refine call_go ?_);(first | refine call_step (run_data (xs:=[_,_]) (c162g x.name y.name hx hy) _) ?_);conv=>whnf)
 | ((with_reducible refine endx_go ?_);first | (exact endx rfl;done))
  | fail
  )
theorem c190s (l : List Ent) (x : Ent) (hx : x.name.length < 2000000) (hl : l.length < 2000000) (hb : ∀ y ∈ l,y.name.length < 2000000) : Fn 190 [.fs (l.map Ent.enc),.fn 161 [] [.fp x.enc 0]] (i (ixF (fun y=>sameN x.name y.name) l 0)):=by
 refine run_walkF eok Tryz.func190 rfl (by kernel_rfl) ?_
 conv=>whnf
 repeat' (first
 | ((with_reducible refine on_dec (fun h=>?_) (fun h=>?_))<;>(try simp only [List.length_map] at h)<;>conv=>whnf)
 | ((with_reducible refine onBool_split (fun h=>?_) (fun h=>?_))<;>conv=>whnf)
 | ((with_reducible refine loop_go ?_);first | (refine loop1 (fun (k : Nat)=>l.length - k) (fun (k : Nat)=>k ≤ l.length ∧ ixF (fun y=>sameN x.name y.name) l 0 = ixF (fun y=>sameN x.name y.name) (l.drop k) k) (fun (k : Nat)=>[(0,.d (.fs (l.map Ent.enc))),(1,.d (.fn 161 [] [.fp x.enc 0])),(7,.d (i l.length)),(8,.d (i k))]) (fun (k : Nat)=>[]) (0) (by exact ⟨Nat.zero_le _,rfl⟩) ?_ (fun k C hI hC=>?_);(exact ⟨[],rfl,rfl,⟨(by first | (show (_ : D) = _;with_reducible rfl) ),(by first | (show (_ : D) = _;with_reducible rfl) ),(congrArg (D.int .i64) (by simp only [List.length_map])),(by first | exact congrArg (D.int .i64) (by omega) ),trivial⟩,trivial⟩);all_goals (conv=>whnf)))
 | ((with_reducible show C _ _);first | (refine hC (k + 1) _ _ ?_ (by omega) ?_;clear hC;rotate_left;(exact ⟨[],rfl,rfl,⟨(by first | (show (_ : D) = _;with_reducible rfl) ),(by first | (show (_ : D) = _;with_reducible rfl) ),(by first | (show (_ : D) = _;with_reducible rfl) ),(by first | exact congrArg (D.int .i64) (by omega) ),trivial⟩,trivial⟩);(exact ⟨by omega,hI.2.trans (ixF_f (by omega) (by assumption))⟩)))
 | (refine ix_map (by omega) ?_;conv=>whnf)
 | (refine wrap64 (by omega) ?_;conv=>whnf)
 | ((with_reducible refine call_go ?_);(refine call_step (run_data (xs:=[_,_]) (c161 x (l[k]'(by omega)) hx (hb _ (List.getElem_mem _))) _) ?_);conv=>whnf)
 | ((with_reducible refine endx_go ?_);first | (exact endx (congrArg i (hI.2.trans (ixF_t (by omega) (by assumption))).symm);done) | (exact endx (congrArg i (hI.2.trans (ixF_end (by omega))).symm);done))
  | fail
  )
theorem c163 (l : List Ent) (x : Ent) (hx : x.name.length < 2000000) (hl : l.length < 2000000) (hb : ∀ y ∈ l,y.name.length < 2000000) : Fn 163 [.fs (l.map Ent.enc),.fn 161 [] [.fp x.enc 0]] (.bool (l.any fun y=>sameN x.name y.name)):=by
 refine run_walkF eok Tryz.func163 rfl (by kernel_rfl) ?_
 conv=>whnf
 repeat' (first
 | ((with_reducible refine call_go ?_);(first | refine call_step (run_data (xs:=[_,_]) (c190s l x hx hl hb) _) ?_);conv=>whnf)
 | ((with_reducible refine endx_go ?_);first | (exact endx (congrArg D.bool (ixF_any l 0));done))
  | fail
  )
end Go.Proofs.YtkmhnaojgkcjoaaGreatDoor
namespace Go.Proofs.YtkmhnaojgkcjoaaGreatDoor
open Go Dw
set_option maxRecDepth 10000
attribute [local irreducible] Run
set_option maxHeartbeats 2000000
open Paths
attribute [local irreducible] nameErr cut normal dots partErr text parse glue fold within
def entF (len : Int) (l : List Ent) (k : Nat) (y : Ent) : Int:=firstE [nameErr y.name,if !((l.take k).any fun z=>sameN y.name z.name) then 0 else 5,if within y.node 1 (len - 1) then 0 else 6]
attribute [local irreducible] frst errN errC checkT rchF nodE namesR Good cntT setT markI sameN
theorem c160 (t : List Nod) (x : Nod) (k : Nat) (y : Ent) (hk : k < x.ents.length) (ht : t.length < 2000000) (hy : y.name.length < 2000000) (hl : x.ents.length < 2000000) (hb : ∀ z ∈ x.ents,z.name.length < 2000000) : Fn 160 [i k,y.enc,.fp x.enc 0,.fp (treeD t) 0] (i (entF t.length x.ents k y)):=by
 refine run_walkF eok Tryz.func160 rfl (by kernel_rfl) ?_
 conv=>whnf
 repeat' (first
 | ((with_reducible refine call_go ?_);(first | refine call_step (run_data (xs:=[_]) (c123 y.name hy) _) ?_ | refine call_step (run_view (c163 (x.ents.take k) y hy (by rw [List.length_take];omega) (fun z hz=>hb z (List.mem_of_mem_take hz))) rfl (vlc rfl (vlc rfl vln))) ?_ | refine call_step (run_view (c112 _ 5) rfl rfl) ?_ | refine call_step (run_view (c112 _ 6) rfl rfl) ?_ | refine call_step (run_view (c157 y.node 1 _) rfl rfl) ?_ | refine call_step (run_view (c111 [nameErr y.name,if (!(List.take k x.ents).any fun z=>sameN y.name z.name) = true then 0 else 5,if within y.node 1 (((t.map Nod.enc).length : Int) - 1) = true then 0 else 6] (by decide : 3 < 2000000)) rfl (vlc rfl vln)) ?_);conv=>whnf)
 | (refine ⟨[],[(4,2),(6,2),(12,2),(13,2),(12,8),(13,8),(12,10),(13,10)],(by decide +kernel),?_⟩;conv=>whnf)
 | (refine wrap64 (by first | (simp only [List.length_map];omega)) ?_;conv=>whnf)
 | (refine sl_map (f:=Ent.enc) (l:=x.ents) 0 k ?_ ?_ ?_ ?_ ?_;(rfl);(rfl);(omega);(exact fun x=>rfl);conv=>whnf)
 | ((with_reducible refine endx_go ?_);first | (exact endx (congrArg i (by unfold entF;rw [List.length_map]));done))
 | (refine ⟨rfl,?_⟩;conv=>whnf)
  | fail
  )
def errE (len : Int) (l : List Ent) (k : Nat) : Int:=match l[k]? with
 | some y=>entF len l k y
 | none=>0
theorem errE_at {len : Int} {l : List Ent} {k : Nat} (h : k < l.length) : errE len l k = entF len l k l[k]:=by unfold errE;rw [List.getElem?_eq_getElem h]
theorem entF_E {len : Int} {l : List Ent} {k : Nat} (hk : k < l.length) (hv : ∀ z ∈ l.take k,nameErr z.name = 0) : entF len l k l[k] = entE len (l.take k) l[k]:=by
 unfold entF entE
 by_cases h : nameErr l[k].name = 0
 ·have e : (l.take k).any (fun z=>sameN l[k].name z.name) = (l.take k).any fun y=>decide (fold y.name = fold l[k].name):=by
   rw [Bool.eq_iff_iff,List.any_eq_true,List.any_eq_true]
   constructor
   ·rintro ⟨z,hz,e⟩
    rw [sameN_ok h (hv z hz)] at e
    exact ⟨z,hz,decide_eq_true (of_decide_eq_true e).symm⟩
   ·rintro ⟨z,hz,e⟩
    exact ⟨z,hz,by rw [sameN_ok h (hv z hz)];exact decide_eq_true (of_decide_eq_true e).symm⟩
  rw [e,h]
  generalize ((l.take k).any fun y=>decide (fold y.name = fold l[k].name)) = b
  generalize within l[k].node 1 (len - 1) = w
  cases b<;>cases w<;>simp [firstE]
 ·rw [if_pos h]
  simp [firstE,h]
theorem entE_nm {len : Int} {a : List Ent} {y : Ent} (h : entE len a y = 0) : nameErr y.name = 0:=by
 unfold entE at h
 split at h
 ·rename_i h1;exact absurd h h1
 ·rename_i h1;exact Classical.not_not.1 h1
theorem ents_F {len : Int} {l : List Ent} : ∀ (n k : Nat),n = l.length - k → (∀ z ∈ l.take k,nameErr z.name = 0) → (frst (errE len l) l.length k).2 = entsE len l n k
 | 0,k,hn,_=>by rw [frst_end (by omega)];rfl
 | n + 1,k,hn,hv=>by
  have hk : k < l.length:=by omega
  have e1 : errE len l k = entE len (l.take k) l[k]:=(errE_at hk).trans (entF_E hk hv)
  rw [ents_at hk hn]
  by_cases e : entE len (l.take k) l[k] = 0
  ·rw [if_neg (by simpa using e),frst_n hk (e1.trans e)]
   have : n = l.length - (k + 1):=by omega
   subst this
   refine ents_F _ (k + 1) rfl fun z hz=>?_
   rw [List.take_succ_eq_append_getElem hk] at hz
   rcases List.mem_append.1 hz with hz | hz
   ·exact hv z hz
   ·rw [List.mem_singleton.1 hz];exact entE_nm e
  ·rw [if_pos e,frst_e hk (by rw [e1];exact e)];exact e1
attribute [local irreducible] entF errE
theorem c159 (t : List Nod) (x : Nod) (ht : t.length < 2000000) (hl : x.ents.length < 2000000) (hb : ∀ z ∈ x.ents,z.name.length < 2000000) : Fn 159 [.fs (x.ents.map Ent.enc),.fn 160 [] [.fp x.enc 0,.fp (treeD t) 0]] (.tup [i (frst (errE t.length x.ents) x.ents.length 0).1,i (frst (errE t.length x.ents) x.ents.length 0).2]):=by
 refine run_walkF eok Tryz.func159 rfl (by kernel_rfl) ?_
 conv=>whnf
 repeat' (first
 | ((with_reducible refine on_dec (fun h=>?_) (fun h=>?_))<;>(try simp only [List.length_map] at h)<;>conv=>whnf)
 | ((with_reducible refine on_ndec (fun h=>?_) (fun h=>?_))<;>(try simp only [List.length_map] at h)<;>conv=>whnf)
 | ((with_reducible refine loop_go ?_);first | (refine loop1 (fun (k : Nat)=>x.ents.length - k) (fun (k : Nat)=>k ≤ x.ents.length ∧ frst (errE t.length x.ents) x.ents.length 0 = frst (errE t.length x.ents) x.ents.length k) (fun (k : Nat)=>[(1,.d (.fn 160 [] [.fp x.enc 0,.fp (treeD t) 0])),(9,.d (.fs (x.ents.map Ent.enc))),(10,.d (i x.ents.length)),(11,.d (i k))]) (fun (k : Nat)=>[]) (0) (by exact ⟨Nat.zero_le _,rfl⟩) ?_ (fun k C hI hC=>?_);(exact ⟨[],rfl,rfl,⟨(by first | (show (_ : D) = _;with_reducible rfl) ),(by first | (show (_ : D) = _;with_reducible rfl) ),(congrArg (D.int .i64) (by simp only [List.length_map])),(by first | exact congrArg (D.int .i64) (by omega) ),trivial⟩,trivial⟩);all_goals (conv=>whnf)))
 | ((with_reducible show C _ _);first | (refine hC (k + 1) _ _ ?_ (by omega) ?_;clear hC;rotate_left;(exact ⟨[],rfl,rfl,⟨(by first | (show (_ : D) = _;with_reducible rfl) ),(by first | (show (_ : D) = _;with_reducible rfl) ),(by first | (show (_ : D) = _;with_reducible rfl) ),(by first | exact congrArg (D.int .i64) (by omega) ),trivial⟩,trivial⟩);(exact ⟨by omega,hI.2.trans (frst_n (by omega) ((errE_at (by omega)).trans (by assumption)))⟩)))
 | (refine ix_map (by omega) ?_;conv=>whnf)
 | (refine wrap64 (by omega) ?_;conv=>whnf)
 | ((with_reducible refine call_go ?_);(refine call_step (run_data (xs:=[_,_,_,_]) (c160 t x k (x.ents[k]'(by omega)) (by omega) ht (hb _ (List.getElem_mem _)) hl hb) _) ?_);conv=>whnf)
 | ((with_reducible refine endx_go ?_);first | (exact endx2 (tup2 (hI.2.trans ((frst_e (by omega) (by rw [errE_at (by omega)];exact h)).trans (by rw [errE_at (by omega)]))));done) | (exact endx2 (tup2 (hI.2.trans (frst_end (by omega))));done))
  | fail
  )
end Go.Proofs.YtkmhnaojgkcjoaaGreatDoor
namespace Go.Proofs.YtkmhnaojgkcjoaaGreatDoor
open Go Dw
set_option maxRecDepth 10000
attribute [local irreducible] Run
set_option maxHeartbeats 2000000
open Paths
attribute [local irreducible] nameErr cut normal dots partErr text parse glue fold within
theorem targ_f {K : Int} {es : List Ent} {tg : Bs} {v : Int} (hv : v = if (parse tg).1.stream ≠ [] ∨ (K = 3 ∧ (parse tg).1.abs = false) then 3 else 0) : firstE [(parse tg).2,v] = targE ⟨K,es,tg⟩:=by
 subst hv
 unfold targE
 by_cases h : (parse tg).2 = 0
 ·rw [h]
  simp only [ne_eq,not_true_eq_false,if_false]
  split<;>simp [firstE]
 ·rw [if_pos h];simp [firstE,h]
attribute [local irreducible] targE
attribute [local irreducible] frst errN errC checkT rchF nodE namesR Good cntT setT markI sameN entF errE entsE
theorem c92k2 (es : List Ent) (tg : Bs) : Fn 158 [Nod.enc ⟨2,es,tg⟩] (i (targE ⟨2,es,tg⟩)):=by
 refine run_walkF eok Tryz.func158 rfl (by kernel_rfl) ?_
 conv=>whnf
 repeat' (first
 | ((with_reducible refine onBool_split (fun h=>?_) (fun h=>?_))<;>conv=>whnf)
 | ((with_reducible refine call_go ?_);(first | refine call_step (run_viewF (c189 tg) rfl) ?_ | refine call_step (run_view (c112 _ 3) rfl rfl) ?_ | refine call_step (run_view (c111 [(parse tg).2,_] (by decide : 2 < 2000000)) rfl (vlc rfl vln)) ?_);conv=>whnf)
 | ((with_reducible refine endx_go ?_);first | (exact endx (congrArg i (targ_f (by have hz : ({ data:=#[] } : ByteArray).data.toList = []:=rfl;simp_all)));done))
  | fail
  )
theorem c92k3 (es : List Ent) (tg : Bs) : Fn 158 [Nod.enc ⟨3,es,tg⟩] (i (targE ⟨3,es,tg⟩)):=by
 refine run_walkF eok Tryz.func158 rfl (by kernel_rfl) ?_
 conv=>whnf
 repeat' (first
 | ((with_reducible refine onBool_split (fun h=>?_) (fun h=>?_))<;>conv=>whnf)
 | ((with_reducible refine call_go ?_);(first | refine call_step (run_viewF (c189 tg) rfl) ?_ | refine call_step (run_view (c112 _ 3) rfl rfl) ?_ | refine call_step (run_view (c111 [(parse tg).2,_] (by decide : 2 < 2000000)) rfl (vlc rfl vln)) ?_);conv=>whnf)
 | ((with_reducible refine endx_go ?_);first | (exact endx (congrArg i (targ_f (by have hz : ({ data:=#[] } : ByteArray).data.toList = []:=rfl;simp_all)));done))
  | fail
  )
theorem c112t (e : Int) : Fn 112 [.bool true,i e] (i 0):=c112 true e
theorem c112f (e : Int) : Fn 112 [.bool false,i e] (i e):=c112 false e
theorem c157k (K : Int) (h : within K 0 3 = true) : Fn 157 [i K,i 0,i 3] (.bool true):=by
 have:=c157 K 0 3
 rwa [h] at this
theorem w0 : within 0 0 3 = true:=by decide +kernel
theorem w1 : within 1 0 3 = true:=by decide +kernel
theorem w2 : within 2 0 3 = true:=by decide +kernel
theorem w3 : within 3 0 3 = true:=by decide +kernel
theorem c52_0 : Fn 111 [.fs [i 0,i 0,i 0]] (i 0):=c111 [0,0,0] (by decide)
theorem c52_3 : Fn 111 [.fs [i 0,i 0,i 3]] (i 3):=c111 [0,0,3] (by decide)
theorem c52_a : Fn 111 [.fs [i 0,i 35,i 0]] (i 35):=c111 [0,35,0] (by decide)
theorem c52_b : Fn 111 [.fs [i 0,i 35,i 3]] (i 35):=c111 [0,35,3] (by decide)
theorem tg_t {tg : Bs} (h : decide (tg = ({ data:=#[] } : ByteArray).data.toList) = true) : tg = []:=of_decide_eq_true h
theorem tg_f {tg : Bs} (h : decide (tg = ({ data:=#[] } : ByteArray).data.toList) = false) : ¬ tg = []:=of_decide_eq_false h
theorem end_0 {t : List Nod} {d : Int} {es : List Ent} {tg : Bs} (h : tg = []) : (frst (errE t.length es) es.length 0).2 = nodE t d ⟨0,es,tg⟩:=by
 rw [nd_0,if_pos h];exact ents_F _ 0 rfl (fun z hz=>by simp at hz)
theorem end_n {t : List Nod} {d : Int} {x : Nod} {len : Int} (h : x.ents.length = 0) (h2 : nodE t d x = 0) : (frst (errE len x.ents) x.ents.length 0).2 = nodE t d x:=by
 rw [frst_end (by omega),h2]
theorem c61k0 (t : List Nod) (d : Int) (es : List Ent) (tg : Bs) (h0 : 0 ≤ d) (hd : t[d.toNat]? = some ⟨0,es,tg⟩) (ht : t.length < 2000000) (hl : es.length < 2000000) (hb : ∀ y ∈ es,y.name.length < 2000000) : Fn 115 [treeD t,i d] (i (nodE t d ⟨0,es,tg⟩)):=by
 refine run_walkF eok Tryz.func115 rfl (by kernel_rfl) ?_
 conv=>whnf
 repeat' (first
 | ((with_reducible refine on_dec (fun h=>?_) (fun h=>?_))<;>(try simp only [List.length_map] at h)<;>conv=>whnf)
 | ((with_reducible refine onBool_split (fun h=>?_) (fun h=>?_))<;>conv=>whnf)
 | ((with_reducible refine call_go ?_);(first | refine call_step (run_data (xs:=[_,_,_]) (c157k 0 w0) _) ?_ | refine call_step (run_data (xs:=[_,_]) (c112t _) _) ?_ | refine call_step (run_data (xs:=[_,_]) (c112f _) _) ?_ | refine call_step (run_view c52_0 rfl (vlc rfl vln)) ?_ | refine call_step (run_view c52_3 rfl (vlc rfl vln)) ?_ | refine call_step (run_view (c159 t ⟨0,es,tg⟩ ht hl hb) rfl (vlc rfl (vlc rfl vln))) ?_);conv=>whnf)
 | (refine ⟨[],[(11,2),(11,3),(11,9)],(by decide +kernel),?_⟩;conv=>whnf)
 | (refine ix_nd h0 hd ?_;conv=>whnf)
 | ((with_reducible refine endx_go ?_);first | (exact endx (congrArg i (nd_0.trans (if_neg (by first | exact tg_f (by assumption) ))).symm);done) | (exact endx (congrArg i (end_0 (by first | exact tg_t (by assumption) )));done))
 | (refine ⟨rfl,?_⟩;conv=>whnf)
  | fail
  )
theorem c61k1 (t : List Nod) (d : Int) (es : List Ent) (tg : Bs) (h0 : 0 ≤ d) (hd : t[d.toNat]? = some ⟨1,es,tg⟩) (ht : t.length < 2000000) (hl : es.length < 2000000) (hb : ∀ y ∈ es,y.name.length < 2000000) : Fn 115 [treeD t,i d] (i (nodE t d ⟨1,es,tg⟩)):=by
 refine run_walkF eok Tryz.func115 rfl (by kernel_rfl) ?_
 conv=>whnf
 repeat' (first
 | ((with_reducible refine on_dec (fun h=>?_) (fun h=>?_))<;>(try simp only [List.length_map] at h)<;>conv=>whnf)
 | ((with_reducible refine onBool_split (fun h=>?_) (fun h=>?_))<;>conv=>whnf)
 | ((with_reducible refine call_go ?_);(first | refine call_step (run_data (xs:=[_,_,_]) (c157k 1 w1) _) ?_ | refine call_step (run_data (xs:=[_,_]) (c112t _) _) ?_ | refine call_step (run_data (xs:=[_,_]) (c112f _) _) ?_ | refine call_step (run_view c52_0 rfl (vlc rfl vln)) ?_ | refine call_step (run_view c52_3 rfl (vlc rfl vln)) ?_ | refine call_step (run_view c52_a rfl (vlc rfl vln)) ?_ | refine call_step (run_view c52_b rfl (vlc rfl vln)) ?_ | refine call_step (run_view (c159 t ⟨1,es,tg⟩ ht hl hb) rfl (vlc rfl (vlc rfl vln))) ?_);conv=>whnf)
 | (refine ⟨[],[(11,2),(11,3),(11,9)],(by decide +kernel),?_⟩;conv=>whnf)
 | (refine ix_nd h0 hd ?_;conv=>whnf)
 | ((with_reducible refine endx_go ?_);first | (exact endx (congrArg i (nd_1.trans (if_pos (by omega))).symm);done) | (exact endx (congrArg i (nd_1.trans ((if_neg (by omega)).trans (if_neg (fun hh=>(fun hh=>by have:=congrArg List.length hh;simp only [List.length_nil] at this;omega) hh.1)))).symm);done) | (exact endx (congrArg i (nd_1.trans ((if_neg (by omega)).trans (if_neg (fun hh=>((by first | exact tg_f (by assumption) ) : ¬ tg = []) hh.2)))).symm);done) | (exact endx (congrArg i (end_n (x:=⟨1,es,tg⟩) (by show es.length = 0;omega) (nd_1.trans ((if_neg (by omega)).trans (if_pos ⟨List.length_eq_zero_iff.1 (by omega),(by first | exact tg_t (by assumption) )⟩)))));done))
 | (refine ⟨rfl,?_⟩;conv=>whnf)
  | fail
  )
theorem c61k2 (t : List Nod) (d : Int) (es : List Ent) (tg : Bs) (h0 : 0 ≤ d) (hd : t[d.toNat]? = some ⟨2,es,tg⟩) (ht : t.length < 2000000) (hl : es.length < 2000000) (hb : ∀ y ∈ es,y.name.length < 2000000) : Fn 115 [treeD t,i d] (i (nodE t d ⟨2,es,tg⟩)):=by
 refine run_walkF eok Tryz.func115 rfl (by kernel_rfl) ?_
 conv=>whnf
 repeat' (first
 | ((with_reducible refine on_dec (fun h=>?_) (fun h=>?_))<;>(try simp only [List.length_map] at h)<;>conv=>whnf)
 | ((with_reducible refine on_ndec (fun h=>?_) (fun h=>?_))<;>(try simp only [List.length_map] at h)<;>conv=>whnf)
 | ((with_reducible refine onBool_split (fun h=>?_) (fun h=>?_))<;>conv=>whnf)
 | ((with_reducible refine call_go ?_);(first | refine call_step (run_data (xs:=[_,_,_]) (c157k 2 w2) _) ?_ | refine call_step (run_data (xs:=[_,_]) (c112t _) _) ?_ | refine call_step (run_data (xs:=[_,_]) (c112f _) _) ?_ | refine call_step (run_view c52_0 rfl (vlc rfl vln)) ?_ | refine call_step (run_view c52_3 rfl (vlc rfl vln)) ?_ | refine call_step (run_view c52_a rfl (vlc rfl vln)) ?_ | refine call_step (run_view c52_b rfl (vlc rfl vln)) ?_ | refine call_step (run_data (xs:=[_]) (c92k2 es tg) _) ?_ | refine call_step (run_view (c159 t ⟨2,es,tg⟩ ht hl hb) rfl (vlc rfl (vlc rfl vln))) ?_);conv=>whnf)
 | (refine ⟨[],[(11,2),(11,3),(11,9)],(by decide +kernel),?_⟩;conv=>whnf)
 | (refine ix_nd h0 hd ?_;conv=>whnf)
 | ((with_reducible refine endx_go ?_);first | (exact endx (congrArg i ((nd_l (by omega : (2 : Int) = 2 ∨ (2 : Int) = 3)).trans (if_pos (by omega))).symm);done) | (exact endx (congrArg i ((nd_l (by omega : (2 : Int) = 2 ∨ (2 : Int) = 3)).trans ((if_neg (by omega)).trans (if_neg (fun hh=>by have:=congrArg List.length hh;simp only [List.length_nil] at this;omega)))).symm);done) | (exact endx (congrArg i ((nd_l (by omega : (2 : Int) = 2 ∨ (2 : Int) = 3)).trans ((if_neg (by omega)).trans ((if_pos (List.length_eq_zero_iff.1 (by omega))).trans rfl))).symm);done) | (exact endx (congrArg i (end_n (x:=⟨2,es,tg⟩) (by show es.length = 0;omega) ((nd_l (by omega : (2 : Int) = 2 ∨ (2 : Int) = 3)).trans ((if_neg (by omega)).trans ((if_pos (List.length_eq_zero_iff.1 (by omega))).trans (by assumption))))));done))
 | (refine ⟨rfl,?_⟩;conv=>whnf)
  | fail
  )
theorem c61k3 (t : List Nod) (d : Int) (es : List Ent) (tg : Bs) (h0 : 0 ≤ d) (hd : t[d.toNat]? = some ⟨3,es,tg⟩) (ht : t.length < 2000000) (hl : es.length < 2000000) (hb : ∀ y ∈ es,y.name.length < 2000000) : Fn 115 [treeD t,i d] (i (nodE t d ⟨3,es,tg⟩)):=by
 refine run_walkF eok Tryz.func115 rfl (by kernel_rfl) ?_
 conv=>whnf
 repeat' (first
 | ((with_reducible refine on_dec (fun h=>?_) (fun h=>?_))<;>(try simp only [List.length_map] at h)<;>conv=>whnf)
 | ((with_reducible refine on_ndec (fun h=>?_) (fun h=>?_))<;>(try simp only [List.length_map] at h)<;>conv=>whnf)
 | ((with_reducible refine onBool_split (fun h=>?_) (fun h=>?_))<;>conv=>whnf)
 | ((with_reducible refine call_go ?_);(first | refine call_step (run_data (xs:=[_,_,_]) (c157k 3 w3) _) ?_ | refine call_step (run_data (xs:=[_,_]) (c112t _) _) ?_ | refine call_step (run_data (xs:=[_,_]) (c112f _) _) ?_ | refine call_step (run_view c52_0 rfl (vlc rfl vln)) ?_ | refine call_step (run_view c52_3 rfl (vlc rfl vln)) ?_ | refine call_step (run_view c52_a rfl (vlc rfl vln)) ?_ | refine call_step (run_view c52_b rfl (vlc rfl vln)) ?_ | refine call_step (run_data (xs:=[_]) (c92k3 es tg) _) ?_ | refine call_step (run_view (c159 t ⟨3,es,tg⟩ ht hl hb) rfl (vlc rfl (vlc rfl vln))) ?_);conv=>whnf)
 | (refine ⟨[],[(11,2),(11,3),(11,9)],(by decide +kernel),?_⟩;conv=>whnf)
 | (refine ix_nd h0 hd ?_;conv=>whnf)
 | ((with_reducible refine endx_go ?_);first | (exact endx (congrArg i ((nd_l (by omega : (3 : Int) = 2 ∨ (3 : Int) = 3)).trans (if_pos (by omega))).symm);done) | (exact endx (congrArg i ((nd_l (by omega : (3 : Int) = 2 ∨ (3 : Int) = 3)).trans ((if_neg (by omega)).trans (if_neg (fun hh=>by have:=congrArg List.length hh;simp only [List.length_nil] at this;omega)))).symm);done) | (exact endx (congrArg i ((nd_l (by omega : (3 : Int) = 2 ∨ (3 : Int) = 3)).trans ((if_neg (by omega)).trans ((if_pos (List.length_eq_zero_iff.1 (by omega))).trans rfl))).symm);done) | (exact endx (congrArg i (end_n (x:=⟨3,es,tg⟩) (by show es.length = 0;omega) ((nd_l (by omega : (3 : Int) = 2 ∨ (3 : Int) = 3)).trans ((if_neg (by omega)).trans ((if_pos (List.length_eq_zero_iff.1 (by omega))).trans (by assumption))))));done))
 | (refine ⟨rfl,?_⟩;conv=>whnf)
  | fail
  )
theorem c157n {K : Int} (h : within K 0 3 = false) : Fn 157 [i K,i 0,i 3] (.bool false):=by
 have:=c157 K 0 3
 rwa [h] at this
theorem c112d {p : Prop} {_ : Decidable p} (e : Int) (h : ¬ p) : Fn 112 [.bool (decide p),i e] (i e):=by
 rw [decide_eq_false h];exact c112f e
theorem c52_15 (a b : Int) : Fn 111 [.fs [i 15,i a,i b]] (i 15):=c111 [15,a,b] (by decide : 3 < 2000000)
theorem c115x (t : List Nod) (d : Int) (x : Nod) (h0 : 0 ≤ d) (hd : t[d.toNat]? = some x) (hk : within x.kind 0 3 = false) (hkk : x.kind < 0 ∨ 3 < x.kind) : Fn 115 [treeD t,i d] (i (nodE t d x)):=by
 refine run_walkF eok Tryz.func115 rfl (by kernel_rfl) ?_
 conv=>whnf
 repeat' (first
 | ((with_reducible refine on_dec_f ?_ ?_);(focus ((try simp only [List.length_map,List.length_cons,List.length_nil,List.length_append]);omega));conv=>whnf)
 | ((with_reducible refine on_dec (fun h=>?_) (fun h=>?_))<;>(try simp only [List.length_map] at h)<;>conv=>whnf)
 | ((with_reducible refine onBool_split (fun h=>?_) (fun h=>?_))<;>conv=>whnf)
 | ((with_reducible refine call_go ?_);(first | refine call_step (run_data (xs:=[_,_,_]) (c157n hk) _) ?_ | refine call_step (run_data (xs:=[_,_]) (c112t _) _) ?_ | refine call_step (run_data (xs:=[_,_]) (c112f _) _) ?_ | refine call_step (run_data (xs:=[_,_]) (c112d (p:=x.kind = 0) _ (by omega)) _) ?_ | refine call_step (run_data (xs:=[_,_]) (c112d (p:=x.kind = 3) _ (by omega)) _) ?_ | refine call_step (run_view (c52_15 0 0) rfl (vlc rfl vln)) ?_ | refine call_step (run_view (c52_15 0 3) rfl (vlc rfl vln)) ?_ | refine call_step (run_view (c52_15 35 0) rfl (vlc rfl vln)) ?_ | refine call_step (run_view (c52_15 35 3) rfl (vlc rfl vln)) ?_);conv=>whnf)
 | (refine ⟨[],[(11,2),(11,3),(11,9)],(by decide +kernel),?_⟩;conv=>whnf)
 | (refine ix_nd h0 hd ?_;conv=>whnf)
 | ((with_reducible refine endx_go ?_);first | (exact endx (congrArg i (nd_k hk).symm);done))
 | (refine ⟨rfl,?_⟩;conv=>whnf)
  | fail
  )
theorem c115 (t : List Nod) (d : Int) (x : Nod) (h0 : 0 ≤ d) (hd : t[d.toNat]? = some x) (ht : t.length < 2000000) (hl : x.ents.length < 2000000) (hb : ∀ y ∈ x.ents,y.name.length < 2000000) : Fn 115 [treeD t,i d] (i (nodE t d x)):=by
 cases hk : within x.kind 0 3 with
 | false=>
  refine c115x t d x h0 hd hk ?_
  have : ¬ (0 ≤ x.kind ∧ x.kind ≤ 3):=fun h=>by
   have : within x.kind 0 3 = true:=by simpa [within] using h
   rw [hk] at this;cases this
  omega
 | true=>
  have hw : 0 ≤ x.kind ∧ x.kind ≤ 3:=(by simpa [within] using hk)
  obtain ⟨K,es,tg⟩:=x
  have : K = 0 ∨ K = 1 ∨ K = 2 ∨ K = 3:=by simp only at hw;omega
  rcases this with rfl | rfl | rfl | rfl
  ·exact c61k0 t d es tg h0 hd ht hl hb
  ·exact c61k1 t d es tg h0 hd ht hl hb
  ·exact c61k2 t d es tg h0 hd ht hl hb
  ·exact c61k3 t d es tg h0 hd ht hl hb
end Go.Proofs.YtkmhnaojgkcjoaaGreatDoor
namespace Go.Proofs.YtkmhnaojgkcjoaaGreatDoor
open Go Dw
def entsAt (t : List Nod) (k : Nat) : List Ent:=match t[k]? with
 | some x=>x.ents
 | none=>[]
def cntN (t : List Nod) (k m j : Nat) : Nat:=namesR (t.take k) j + cntE ((entsAt t k).take m) j
def cntsL (t : List Nod) (k m : Nat) : List Int:=(List.range t.length).map fun j=>((cntN t k m j : Nat) : Int)
theorem cnts_len (t : List Nod) (k m : Nat) : (cntsL t k m).length = t.length:=by simp [cntsL]
theorem cnts_at {t : List Nod} {k m j : Nat} (h : j < (cntsL t k m).length) : (cntsL t k m)[j] = ((cntN t k m j : Nat) : Int):=by
 simp [cntsL]
theorem cnts_0 (t : List Nod) : List.replicate t.length (0 : Int) = cntsL t 0 0:=by
 apply List.ext_getElem
 ·rw [cnts_len,List.length_replicate]
 ·intro j h1 h2
  rw [cnts_at,List.getElem_replicate]
  simp [cntN,namesR,cntE]
theorem entsAt_eq {t : List Nod} {k : Nat} (h : k < t.length) : entsAt t k = t[k].ents:=by unfold entsAt;rw [List.getElem?_eq_getElem h]
theorem cnts_step {t : List Nod} {k m : Nat} (hk : k < t.length) (hm : m < t[k].ents.length) {n : Nat} (hn : t[k].ents[m].node = (n : Int)) {v : Int} (hv : v = ((cntN t k m n : Nat) : Int) + 1) : (cntsL t k m).set n v = cntsL t k (m + 1):=by
 apply List.ext_getElem
 ·rw [List.length_set,cnts_len,cnts_len]
 ·intro j h1 h2
  rw [List.getElem_set,cnts_at h2]
  have hs : cntN t k (m + 1) j = cntN t k m j + bitN (decide (t[k].ents[m].node = (j : Int))):=by
   unfold cntN
   rw [entsAt_eq hk,cntE_take _ _ hm];omega
  rw [hs,hn]
  by_cases e : n = j
  ·subst e
   rw [if_pos rfl,hv]
   simp [bitN]
  ·rw [if_neg e,cnts_at]
   have : ¬ (n : Int) = (j : Int):=by omega
   simp [bitN,this]
theorem cnts_next {t : List Nod} {k m : Nat} (hk : k < t.length) (hm : t[k].ents.length ≤ m) : cntsL t k m = cntsL t (k + 1) 0:=by
 apply List.ext_getElem
 ·rw [cnts_len,cnts_len]
 ·intro j h1 h2
  rw [cnts_at,cnts_at]
  congr 1
  unfold cntN
  rw [entsAt_eq hk,names_take t k hk,List.take_of_length_le hm,List.take_zero]
  simp [cntE]
theorem cnts_end {t : List Nod} {k j : Nat} (hk : t.length ≤ k) (h : j < (cntsL t k 0).length) : (cntsL t k 0)[j] = ((namesR t j : Nat) : Int):=by
 rw [cnts_at]
 unfold cntN
 rw [List.take_of_length_le hk,List.take_zero]
 simp [cntE]
theorem cntN_le {t : List Nod} {k m j : Nat} (hb : ∀ x ∈ t,x.ents.length < 2000000) (hm : m ≤ 2000000) : cntN t k m j ≤ 2000000 * t.length + 2000000:=by
 have h1 : ∀ (l : List Nod),(∀ x ∈ l,x.ents.length < 2000000) → namesR l j ≤ 2000000 * l.length:=by
  intro l
  induction l with
  | nil=>intro _;simp [namesR]
  | cons x l ih=>
   intro h
   have:=ih fun y hy=>h y (by simp [hy])
   have:=h x (by simp)
   have:=cntE_le (n:=j) x.ents
   simp only [namesR,List.length_cons];omega
 have h2:=h1 (t.take k) fun x hx=>hb x (List.mem_of_mem_take hx)
 have h3:=cntE_le (n:=j) ((entsAt t k).take m)
 rw [List.length_take] at h2 h3
 unfold cntN
 have : min k t.length ≤ t.length:=Nat.min_le_right _ _
 omega
end Go.Proofs.YtkmhnaojgkcjoaaGreatDoor
namespace Go.Proofs.YtkmhnaojgkcjoaaGreatDoor
open Go Dw
set_option maxRecDepth 10000
attribute [local irreducible] Run
set_option maxHeartbeats 2000000
open Paths
attribute [local irreducible] nameErr cut normal dots partErr text parse glue fold within
attribute [local irreducible] targE frst errN errC checkT rchF nodE namesR Good cntT setT markI sameN entF errE entsE
structure Tb (t : List Nod) : Prop where
 tl : t.length < 2000000
 el : ∀ x ∈ t,x.ents.length < 2000000
 nl : ∀ x ∈ t,∀ y ∈ x.ents,y.name.length < 2000000
theorem nd_at {t : List Nod} {k : Nat} (h : k < t.length) : t[((k : Nat) : Int).toNat]? = some t[k]:=by simp [h]
theorem c115e {t : List Nod} (B : Tb t) (k : Nat) (h : k < t.length) : Fn 115 [treeD t,i k] (i (errN t k)):=by
 have:=c115 t (k : Int) t[k] (by omega) (nd_at h) B.tl (B.el _ (List.getElem_mem h)) (B.nl _ (List.getElem_mem h))
 rwa [← errN_at h] at this
theorem c114 (t : List Nod) (B : Tb t) (k : Nat) (hk : k < t.length) (x : Nod) : Fn 114 [i k,x.enc,.fp (treeD t) 0] (i (errN t k)):=by
 refine run_walkF eok Tryz.func114 rfl (by kernel_rfl) ?_
 conv=>whnf
 repeat' (first
 | ((with_reducible refine call_go ?_);(first | refine call_step (run_data (xs:=[_,_]) (c115e B k hk) _) ?_);conv=>whnf)
 | ((with_reducible refine endx_go ?_);first | (exact endx rfl;done))
  | fail
  )
theorem c113a (t : List Nod) (B : Tb t)  : Fn 113 [treeD t,.fn 114 [] [.fp (treeD t) 0]] (.tup [i (frst (errN t) t.length 0).1,i (frst (errN t) t.length 0).2]):=by
 have hbt:=B.tl
 refine run_walkF eok Tryz.func113 rfl (by kernel_rfl) ?_
 conv=>whnf
 repeat' (first
 | ((with_reducible refine on_dec (fun h=>?_) (fun h=>?_))<;>(try simp only [List.length_map] at h)<;>conv=>whnf)
 | ((with_reducible refine on_ndec (fun h=>?_) (fun h=>?_))<;>(try simp only [List.length_map] at h)<;>conv=>whnf)
 | ((with_reducible refine loop_go ?_);first | (refine loop1 (fun (k : Nat)=>t.length - k) (fun (k : Nat)=>k ≤ t.length ∧ frst (errN t) t.length 0 = frst (errN t) t.length k) (fun (k : Nat)=>[(1,.d (.fn 114 [] [.fp (treeD t) 0])),(9,.d (treeD t)),(10,.d (i t.length)),(11,.d (i k))]) (fun (k : Nat)=>[]) (0) (by exact ⟨Nat.zero_le _,rfl⟩) ?_ (fun k C hI hC=>?_);(exact ⟨[],rfl,rfl,⟨(by first | (show (_ : D) = _;with_reducible rfl) ),(by first | (show (_ : D) = _;with_reducible rfl) ),(congrArg (D.int .i64) (by simp only [List.length_map])),(by first | exact congrArg (D.int .i64) (by omega) ),trivial⟩,trivial⟩);all_goals (conv=>whnf)))
 | ((with_reducible show C _ _);first | (refine hC (k + 1) _ _ ?_ (by omega) ?_;clear hC;rotate_left;(exact ⟨[],rfl,rfl,⟨(by first | (show (_ : D) = _;with_reducible rfl) ),(by first | (show (_ : D) = _;with_reducible rfl) ),(by first | (show (_ : D) = _;with_reducible rfl) ),(by first | exact congrArg (D.int .i64) (by omega) ),trivial⟩,trivial⟩);(exact ⟨by omega,hI.2.trans (frst_n (by omega) (by assumption))⟩)))
 | (refine ix_map (by omega) ?_;conv=>whnf)
 | (refine wrap64 (by omega) ?_;conv=>whnf)
 | ((with_reducible refine call_go ?_);(refine call_step (run_data (xs:=[_,_,_]) (c114 t B k (by omega) (t[k]'(by omega))) _) ?_);conv=>whnf)
 | ((with_reducible refine endx_go ?_);first | (exact endx2 (tup2 (hI.2.trans (frst_e (by omega) h)));done) | (exact endx2 (tup2 (hI.2.trans (frst_end (by omega))));done))
  | fail
  )
theorem c112i {b : Bool} (e : Int) : Fn 112 [.bool b,i e] (i (if b = true then 0 else e)):=c112 b e
theorem errC_f {t : List Nod} {R : List Bool} {k : Nat} (h0 : 1 ≤ k) (h : k < t.length) (hR : k < R.length) {c : Int} (hc : c = (namesR t k : Nat)) {a : Int} {b : Int} {d : Int} (ha : a = if decide (0 < c) = true then 0 else 12) (hb : b = if c = 1 ∨ t[k].kind = 1 then 0 else 23) (hd : d = if R[k] = true then 0 else 14) : firstE [a,b,d] = errC t R k:=by
 subst ha hb hd hc
 rw [errC_at h0 h,List.getElem?_eq_getElem hR]
 generalize namesR t k = n
 by_cases e0 : n = 0
 ·subst e0;simp [firstE]
 ·have e1 : 0 < n:=by omega
  by_cases e2 : n = 1
  ·subst e2
   cases R[k]<;>simp [firstE]
  ·have e3 : 1 < n:=by omega
   have e4 : ¬ (n : Int) = 1:=by omega
   by_cases e5 : t[k].kind = 1
   ·cases R[k]<;>simp [firstE,e0,e1,e3,e5]
   ·simp [firstE,e0,e1,e3,e4,e5]
theorem rowI_at {l : List Int} {n m : Nat} {K : AV → Prop} (e : n = m) (h : m < l.length) (k : K (.d (i l[m]))) : nthK (rowI l) n K:=by
 subst e
 exact nthK_of (x:=.d (i l[n])) (by simp [rowI,h]) k
theorem c117 (t : List Nod) (R : List Bool) (cs : List Int) (k : Nat) (hk : k < t.length) (hR : R.length = t.length) (hC : cs.length = t.length) (hc : ∀ j (h : j < cs.length),cs[j] = ((namesR t j : Nat) : Int)) : Fn 117 [i k,Nod.enc (t[k]'hk),.fp (.fs (cs.map i)) 0,.fp (.fs (R.map D.bool)) 0] (i (errC t R k)):=by
 refine run_walkF eok Tryz.func117 rfl (by kernel_rfl) ?_
 conv=>whnf
 repeat' (first
 | ((with_reducible refine on_dec (fun h=>?_) (fun h=>?_))<;>(try simp only [List.length_map] at h)<;>conv=>whnf)
 | ((with_reducible refine call_go ?_);(first | refine call_step (run_data (xs:=[_,_]) (c112i _) _) ?_ | refine call_step (run_view (c111 [_,_,_] (by decide : 3 < 2000000)) rfl (vlc rfl vln)) ?_);conv=>whnf)
 | (refine ⟨[],[(6,5),(9,5),(17,5),(20,5),(17,16),(20,16)],(by decide +kernel),?_⟩;conv=>whnf)
 | (refine ix_map (by omega) ?_;conv=>whnf)
 | ((with_reducible refine endx_go ?_);first | (exact endx (congrArg i (by unfold errC;rw [if_pos (by omega)]));done) | (exact endx (congrArg i (errC_f (c:=cs[k]) (by omega) hk (by omega) (hc _ _) rfl (by simp [h]) rfl));done))
  | fail
  )
theorem c113b (t : List Nod) (B : Tb t) (R : List Bool) (cs : List Int) (hR : R.length = t.length) (hCs : cs.length = t.length) (hc : ∀ j (h : j < cs.length),cs[j] = ((namesR t j : Nat) : Int)) : Fn 113 [treeD t,.fn 117 [] [.fp (.fs (cs.map i)) 0,.fp (.fs (R.map D.bool)) 0]] (.tup [i (frst (errC t R) t.length 0).1,i (frst (errC t R) t.length 0).2]):=by
 have hbt:=B.tl
 refine run_walkF eok Tryz.func113 rfl (by kernel_rfl) ?_
 conv=>whnf
 repeat' (first
 | ((with_reducible refine on_dec (fun h=>?_) (fun h=>?_))<;>(try simp only [List.length_map] at h)<;>conv=>whnf)
 | ((with_reducible refine on_ndec (fun h=>?_) (fun h=>?_))<;>(try simp only [List.length_map] at h)<;>conv=>whnf)
 | ((with_reducible refine loop_go ?_);first | (refine loop1 (fun (k : Nat)=>t.length - k) (fun (k : Nat)=>k ≤ t.length ∧ frst (errC t R) t.length 0 = frst (errC t R) t.length k) (fun (k : Nat)=>[(1,.d (.fn 117 [] [.fp (.fs (cs.map i)) 0,.fp (.fs (R.map D.bool)) 0])),(9,.d (treeD t)),(10,.d (i t.length)),(11,.d (i k))]) (fun (k : Nat)=>[]) (0) (by exact ⟨Nat.zero_le _,rfl⟩) ?_ (fun k C hI hC=>?_);(exact ⟨[],rfl,rfl,⟨(by first | (show (_ : D) = _;with_reducible rfl) ),(by first | (show (_ : D) = _;with_reducible rfl) ),(congrArg (D.int .i64) (by simp only [List.length_map])),(by first | exact congrArg (D.int .i64) (by omega) ),trivial⟩,trivial⟩);all_goals (conv=>whnf)))
 | ((with_reducible show C _ _);first | (refine hC (k + 1) _ _ ?_ (by omega) ?_;clear hC;rotate_left;(exact ⟨[],rfl,rfl,⟨(by first | (show (_ : D) = _;with_reducible rfl) ),(by first | (show (_ : D) = _;with_reducible rfl) ),(by first | (show (_ : D) = _;with_reducible rfl) ),(by first | exact congrArg (D.int .i64) (by omega) ),trivial⟩,trivial⟩);(exact ⟨by omega,hI.2.trans (frst_n (by omega) (by assumption))⟩)))
 | (refine ix_map (by omega) ?_;conv=>whnf)
 | (refine wrap64 (by omega) ?_;conv=>whnf)
 | ((with_reducible refine call_go ?_);(refine call_step (run_data (xs:=[_,_,_,_]) (c117 t R cs k (by omega) hR hCs hc) _) ?_);conv=>whnf)
 | ((with_reducible refine endx_go ?_);first | (exact endx2 (tup2 (hI.2.trans (frst_e (by omega) h)));done) | (exact endx2 (tup2 (hI.2.trans (frst_end (by omega))));done))
  | fail
  )
end Go.Proofs.YtkmhnaojgkcjoaaGreatDoor
namespace Go.Proofs.YtkmhnaojgkcjoaaGreatDoor
open Go Dw
set_option maxRecDepth 10000
attribute [local irreducible] Run
set_option maxHeartbeats 2000000
open Paths
attribute [local irreducible] nameErr cut normal dots partErr text parse glue fold within
def preT (t : List Nod) : Int:=firstE [if decide (0 < ((t.map Nod.enc).length : Int)) = true then 0 else 10,if decide (((t.map Nod.enc).length : Int) ≤ 40) = true then 0 else 8]
theorem c111p (t : List Nod) : Fn 111 [.fs [i (if decide (0 < ((t.map Nod.enc).length : Int)) = true then 0 else 10),i (if decide (((t.map Nod.enc).length : Int) ≤ 40) = true then 0 else 8)]] (i (preT t)):=c111 [_,_] (by decide : 2 < 2000000)
theorem pre_v (t : List Nod) : preT t = if t.length = 0 then 10 else if 40 < t.length then 8 else 0:=by
 unfold preT
 rw [List.length_map]
 by_cases h : t.length = 0
 ·rw [if_pos h,h];simp [firstE]
 ·by_cases h2 : 40 < t.length
  ·rw [if_neg h,if_pos h2,decide_eq_true (by omega),decide_eq_false (by omega)];simp [firstE]
  ·rw [if_neg h,if_neg h2,decide_eq_true (by omega),decide_eq_true (by omega)];simp [firstE]
theorem chk_p {t : List Nod} (h : ¬ preT t = 0) : checkT t = (0,preT t):=by
 rw [pre_v] at *
 by_cases h1 : t.length = 0
 ·rw [if_pos h1,chk_0 h1]
 ·by_cases h2 : 40 < t.length
  ·rw [if_neg h1,if_pos h2,chk_8 h2]
  ·rw [if_neg h1,if_neg h2] at h;exact absurd rfl h
theorem pre_len {t : List Nod} (h : preT t = 0) : 0 < t.length ∧ t.length ≤ 40:=by
 rw [pre_v] at h
 by_cases h1 : t.length = 0
 ·rw [if_pos h1] at h;exact absurd h (by decide)
 ·by_cases h2 : 40 < t.length
  ·rw [if_neg h1,if_pos h2] at h;exact absurd h (by decide)
  ·omega
theorem chk_m {t : List Nod} (h : preT t = 0) (h2 : ¬ (frst (errN t) t.length 0).2 = 0) : checkT t = ((frst (errN t) t.length 0).1,(frst (errN t) t.length 0).2):=by
 have:=pre_len h
 unfold checkT
 rw [if_neg (by omega),if_neg (by omega),if_neg h2]
theorem chk_o {t : List Nod} (h : preT t = 0) (h2 : (frst (errN t) t.length 0).2 = 0) : checkT t = ((frst (errC t (rchF t 0)) t.length 0).1,(frst (errC t (rchF t 0)) t.length 0).2):=by
 have:=pre_len h
 unfold checkT
 rw [if_neg (by omega),if_neg (by omega),if_pos h2]
theorem hG_ok {t : List Nod} (h : (frst (errN t) t.length 0).2 = 0) : Good t:=good_of fun j hj=>frst_ok t.length 0 rfl h j (Nat.zero_le _) hj
theorem view_62 {H : Heap} {a b id k1 k2 k3 n : Nat} {c : Option Nat} {cs : List Int} {R : List D} (ha : H[a]? = some ⟨[.sl id 0 n 1 c],k1,0⟩) (hi : H[id]? = some ⟨rowI cs,k2,0⟩) (hn : n = cs.length) (hb : H[b]? = some ⟨[.d (.fs R)],k3,0⟩) : view 8 H (.fn 117 [] [.ptr a 0 0,.ptr b 0 0]) = some (.fn 117 [] [.fp (.fs (cs.map i)) 0,.fp (.fs R) 0]):=by
 have h1 : view 7 H (.ptr a 0 0) = some (.fp (.fs (cs.map i)) 0):=view_ptr (n:=6) ha Nat.two_pos rfl (view_mapL (n:=4) (f:=i) hn hi (by decide))
 have h2 : view 7 H (.ptr b 0 0) = some (.fp (.fs R) 0):=view_ptr (n:=6) hb Nat.two_pos rfl rfl
 show (match vl (view 7 H) [] with
  | some a'=>match vl (view 7 H) [.ptr a 0 0,.ptr b 0 0] with
   | some c=>some (D.fn 117 a' c)
   | none=>none
  | none=>none) = _
 rw [show vl (view 7 H) [.ptr a 0 0,.ptr b 0 0] = some [.fp (.fs (cs.map i)) 0,.fp (.fs R) 0] from vlc h1 (vlc h2 vln)]
 rfl
theorem rowI_set {l : List Int} {n m : Nat} {v : Int} {K : List AV → Prop} (e : n = m) (k : K (rowI (l.set m v))) : setK (rowI l) n (.d (i v)) K:=by
 subst e
 refine setK_of ?_
 have : (rowI l).set n (.d (i v)) = rowI (l.set n v):=by simp [rowI,List.map_set]
 rw [this];exact k
theorem cv_bd {t : List Nod} {k m n : Nat} (hE : ∀ x ∈ t,x.ents.length < 2000000) (hl : t.length ≤ 40) (hk : k < t.length) (hm : m < t[k].ents.length) (h : n < (cntsL t k m).length) : 0 ≤ (cntsL t k m)[n] ∧ (cntsL t k m)[n] ≤ 82000000:=by
 have h1:=hE _ (List.getElem_mem hk)
 have h2:=cntN_le (j:=n) (k:=k) (m:=m) hE (by omega)
 rw [cnts_at h];omega
theorem row_step {t : List Nod} {k m n : Nat} {v : Int} (hk : k < t.length) (hm : m < t[k].ents.length) (hn : t[k].ents[m].node = (n : Int)) (h : n < (cntsL t k m).length) (hv : v = (cntsL t k m)[n] + 1) : rowI ((cntsL t k m).set n v) = rowI (cntsL t k (m + 1)):=by
 rw [cnts_step hk hm hn (by rw [hv,cnts_at h])]
theorem good_k {t : List Nod} (hG : Good t) {k m : Nat} (hk : k < t.length) (hm : m < t[k].ents.length) : t[k].ents[m].node.toNat < (cntsL t k m).length ∧ 1 ≤ t[k].ents[m].node ∧ t[k].ents[m].node ≤ (t.length : Int) - 1 ∧ t[k].ents[m].node = ((t[k].ents[m].node.toNat : Nat) : Int):=by
 have:=good_at hG hk hm
 rw [cnts_len];omega
attribute [local irreducible] preT targE frst errN errC checkT rchF nodE namesR Good cntT setT markI sameN entF errE entsE cntsL
theorem c67p (t : List Nod) (B : Tb t) (hp : ¬ preT t = 0) : Fn 67 [treeD t] (.tup [i (checkT t).1,i (checkT t).2]):=by
 refine run_walkF eok Tryz.func67 rfl (by kernel_rfl) ?_
 conv=>whnf
 repeat' (first
 | ((with_reducible refine on_ndec_f (by assumption) ?_);conv=>whnf)
 | ((with_reducible refine call_go ?_);(first | refine call_step (run_data (xs:=[_,_]) (c112i _) _) ?_ | refine call_step (run_view (c111p t) rfl (vlc rfl vln)) ?_ );conv=>whnf)
 | (refine ⟨[],[(4,3)],(by decide +kernel),?_⟩;conv=>whnf)
 | ((with_reducible refine endx_go ?_);first | (exact endx2 (tup2 (chk_p hp));done))
 | (refine ⟨rfl,?_⟩;conv=>whnf)
  | fail
  )
theorem c67n (t : List Nod) (B : Tb t) (hp : preT t = 0) (hn : ¬ (frst (errN t) t.length 0).2 = 0) : Fn 67 [treeD t] (.tup [i (checkT t).1,i (checkT t).2]):=by
 refine run_walkF eok Tryz.func67 rfl (by kernel_rfl) ?_
 conv=>whnf
 repeat' (first
 | ((with_reducible refine on_ndec_t (by first | assumption ) ?_);conv=>whnf)
 | ((with_reducible refine on_ndec_f (by assumption) ?_);conv=>whnf)
 | ((with_reducible refine call_go ?_);(first | refine call_step (run_data (xs:=[_,_]) (c112i _) _) ?_ | refine call_step (run_view (c111p t) rfl (vlc rfl vln)) ?_ | refine call_step (run_view (c113a t B) rfl (vlc rfl (vlc rfl vln))) ?_ );conv=>whnf)
 | (refine ⟨[],[(4,3)],(by decide +kernel),?_⟩;conv=>whnf)
 | ((with_reducible refine endx_go ?_);first | (exact endx2 (tup2 (chk_m hp hn));done))
 | (refine ⟨rfl,?_⟩;conv=>whnf)
  | fail
  )
theorem c67o (t : List Nod) (B : Tb t) (hp : preT t = 0) (hn : (frst (errN t) t.length 0).2 = 0) : Fn 67 [treeD t] (.tup [i (checkT t).1,i (checkT t).2]):=by
 have hl:=pre_len hp;have hG:=hG_ok hn;have hE:=B.el
 refine run_walkF eok Tryz.func67 rfl (by kernel_rfl) ?_
 conv=>whnf
 repeat' (first
 | ((with_reducible refine on_ndec_t (by first | assumption ) ?_);conv=>whnf)
 | ((with_reducible refine on_dec (fun h=>?_) (fun h=>?_))<;>(try simp only [List.length_map] at h)<;>conv=>whnf)
 | ((with_reducible refine call_go ?_);(first | refine call_step (run_data (xs:=[_,_]) (c112i _) _) ?_ | refine call_step (run_view (c111p t) rfl (vlc rfl vln)) ?_ | refine call_step (run_view (c113a t B) rfl (vlc rfl (vlc rfl vln))) ?_ | refine call_step (run_view (c113b t B (rchF t 0) (cntsL t k 0) (rch_len t 0) (cnts_len t k 0) (fun j h=>cnts_end (by omega) h)) rfl (vlc rfl (vlc (view_62 rfl rfl (cnts_len t k 0).symm rfl) vln))) ?_ | refine call_step (run_data (xs:=[_,_]) (c116 t 0 hG (by omega) (by omega) B.el) _) ?_);conv=>whnf)
 | (refine ⟨[],[(4,3)],(by decide +kernel),?_⟩;conv=>whnf)
 | ((with_reducible refine loop_go ?_);first | (refine loop1 (fun (m : Nat)=>(t[k]'(by omega)).ents.length - m) (fun (m : Nat)=>m ≤ (t[k]'(by omega)).ents.length) (fun (m : Nat)=>[(1,.ptr 0 0 0),(7,.ptr 2 0 0),(39,.d (treeD t)),(40,.d (i t.length)),(41,.d (i k)),(46,.d (.fs ((t[k]'(by omega)).ents.map Ent.enc))),(47,.d (i (t[k]'(by omega)).ents.length)),(48,.d (i m))]) (fun (m : Nat)=>[⟨[.d (treeD t)],1,0⟩,⟨rowI (cntsL t k m),1,0⟩,⟨[.sl 1 0 t.length 1 (some t.length)],1,0⟩]) (0) (by exact Nat.zero_le _) ?_ (fun m Cm hIm hCm=>?_);(exact ⟨[.old 0,.old 1,.old 2],rfl,rfl,⟨⟨rfl,rfl,rfl⟩,⟨rfl,rfl,rfl⟩,(by first | (show (_ : D) = _;with_reducible rfl) ),(by first | (show (_ : D) = _;with_reducible rfl) ),(by first | (show (_ : D) = _;with_reducible rfl) ),(by first | (show (_ : D) = _;with_reducible rfl) ),(congrArg (D.int .i64) (by simp only [List.length_map])),(by first | exact congrArg (D.int .i64) (by omega) ),trivial⟩,⟨⟨rfl,rfl,.inl ⟨[_],rfl,rfl⟩⟩,⟨rfl,rfl,.inl ⟨_,rfl,rfl⟩⟩,⟨rfl,rfl,.inr ⟨⟨rfl,rfl,rfl,rfl,rfl⟩,trivial⟩⟩,trivial⟩⟩);all_goals (conv=>whnf)) | (refine loop1 (fun (k : Nat)=>t.length - k) (fun (k : Nat)=>k ≤ t.length) (fun (k : Nat)=>[(1,.ptr 0 0 0),(7,.ptr 2 0 0),(39,.d (treeD t)),(40,.d (i t.length)),(41,.d (i k))]) (fun (k : Nat)=>[⟨[.d (treeD t)],1,0⟩,⟨rowI (cntsL t k 0),1,0⟩,⟨[.sl 1 0 t.length 1 (some t.length)],1,0⟩]) (0) (by exact Nat.zero_le _) ?_ (fun k C hI hC=>?_);(exact ⟨[.old 0,.old 2,.old 3],rfl,rfl,⟨⟨rfl,rfl,rfl⟩,⟨rfl,rfl,rfl⟩,(by first | (show (_ : D) = _;with_reducible rfl) ),(congrArg (D.int .i64) (by simp only [List.length_map])),(by first | exact congrArg (D.int .i64) (by omega) ),trivial⟩,⟨⟨rfl,rfl,.inl ⟨[_],rfl,rfl⟩⟩,⟨rfl,rfl,.inl ⟨_,rfl,(by rw [cnts_0])⟩⟩,⟨rfl,rfl,.inr ⟨⟨rfl,rfl,(by simp),rfl,(by simp)⟩,trivial⟩⟩,trivial⟩⟩);all_goals (conv=>whnf)))
 | ((with_reducible show C _ _);first | (refine hC (k + 1) _ _ ?_ (by omega) ?_;clear hC;rotate_left;(exact ⟨[.old 0,.old 1,.old 2],rfl,rfl,⟨⟨rfl,rfl,rfl⟩,⟨rfl,rfl,rfl⟩,(by first | (show (_ : D) = _;with_reducible rfl) ),(by first | (show (_ : D) = _;with_reducible rfl) ),(by first | exact congrArg (D.int .i64) (by omega) ),trivial⟩,⟨⟨rfl,rfl,.inl ⟨[_],rfl,rfl⟩⟩,⟨rfl,rfl,.inl ⟨_,rfl,(congrArg rowI (cnts_next (by omega) (by omega)).symm)⟩⟩,⟨rfl,rfl,.inr ⟨⟨rfl,rfl,rfl,rfl,rfl⟩,trivial⟩⟩,trivial⟩⟩);(exact (by omega : k + 1 ≤ t.length))))
 | ((with_reducible show Cm _ _);first | (refine hCm (m + 1) _ _ ?_ (by omega) ?_;clear hCm;rotate_left;(exact ⟨[.old 0,.old 1,.old 2],rfl,rfl,⟨⟨rfl,rfl,rfl⟩,⟨rfl,rfl,rfl⟩,(by first | (show (_ : D) = _;with_reducible rfl) ),(by first | (show (_ : D) = _;with_reducible rfl) ),(by first | (show (_ : D) = _;with_reducible rfl) ),(by first | (show (_ : D) = _;with_reducible rfl) ),(by first | (show (_ : D) = _;with_reducible rfl) ),(by first | exact congrArg (D.int .i64) (by omega) ),trivial⟩,⟨⟨rfl,rfl,.inl ⟨[_],rfl,rfl⟩⟩,⟨rfl,rfl,.inl ⟨_,rfl,(row_step (by omega) (by omega) (good_k hG (by omega) (by omega)).2.2.2 (good_k hG (by omega) (by omega)).1 rfl).symm⟩⟩,⟨rfl,rfl,.inr ⟨⟨rfl,rfl,rfl,rfl,rfl⟩,trivial⟩⟩,trivial⟩⟩);(exact (by omega : m + 1 ≤ (t[k]'(by omega)).ents.length))))
 | (refine ix_map (by omega) ?_;conv=>whnf)
 | (refine wrap64 (by omega) ?_;conv=>whnf)
 | (refine mk_rowI (n:=t.length) (by rw [List.length_map];refine ⟨by omega,Int.le_refl _,by omega,?_⟩;show (t.length : Int) * ((8 : Nat) : Int) ≤ _;omega) (by rw [List.length_map]) ?_;conv=>whnf)
 | (refine rowI_at (l:=cntsL t k m) (m:=((t[k]'(by omega)).ents[m]'(by omega)).node.toNat) ?_ ?_ ?_;(focus omega);(focus (exact (good_k hG (by omega) (by omega)).1));conv=>whnf)
 | (refine rowI_set (l:=cntsL t k m) (m:=((t[k]'(by omega)).ents[m]'(by omega)).node.toNat) ?_ ?_;(focus omega);conv=>whnf)
 | (refine ⟨⟨by have hgk:=good_k hG (k:=k) (m:=m) (by omega) (by omega);omega,by have hgk:=good_k hG (k:=k) (m:=m) (by omega) (by omega);(try simp only [List.length_map]);omega⟩,?_⟩;conv=>whnf)
 | (refine wrap64 (by have:=cv_bd (n:=((t[k]'(by omega)).ents[m]'(by omega)).node.toNat) hE (by omega) (by omega) (by omega) (good_k hG (by omega) (by omega)).1;omega) ?_;conv=>whnf)
 | (refine wrap64 (by have:=hE _ (List.getElem_mem (by omega : k < t.length));omega) ?_;conv=>whnf)
 | ((with_reducible refine endx_go ?_);first | (exact endx2 (tup2 (chk_o hp hn));done))
 | (refine ⟨rfl,?_⟩;conv=>whnf)
  | fail
  )
theorem c67 (t : List Nod) (B : Tb t) : Fn 67 [treeD t] (.tup [i (checkT t).1,i (checkT t).2]):=by
 by_cases hp : preT t = 0
 ·by_cases hn : (frst (errN t) t.length 0).2 = 0
  ·exact c67o t B hp hn
  ·exact c67n t B hp hn
 ·exact c67p t B hp
end Go.Proofs.YtkmhnaojgkcjoaaGreatDoor
namespace Go.Proofs.YtkmhnaojgkcjoaaGreatDoor
open Go Dw
set_option maxRecDepth 10000
attribute [local irreducible] Run
set_option maxHeartbeats 2000000
open Paths
attribute [local irreducible] nameErr cut normal dots partErr text parse glue fold within
theorem vl_ofn {f : AV → Option D} : ∀ {l : List AV} {r : List D},l.length = r.length → (∀ (j : Nat) (a : AV) (x : D),l[j]? = some a → r[j]? = some x → f a = some x) → vl f l = some r
 | [],[],_,_=>rfl
 | [],_ :: _,h,_=>by simp at h
 | _ :: _,[],h,_=>by simp at h
 | a :: l,x :: r,h,hf=>by
  have h1:=hf 0 a x rfl rfl
  have h2:=vl_ofn (l:=l) (r:=r) (by simpa using h) fun j a x ha hx=>hf (j + 1) a x (by simpa using ha) (by simpa using hx)
  exact vlc h1 h2
def ndA (x : Nod) (q : Nat) : AV:=.agg [.d (i x.kind),.sl q 0 x.ents.length 2 none,.d (.str x.target)]
def NdAt (H : Heap) (r : Nat) (e : Option AV) (x : Nod) : Prop:=∃ q,e = some (ndA x q) ∧ H[q]? = some ⟨(x.ents.map Ent.enc).map .d,2,0⟩ ∧ q ≠ r
def CpI (t : List Nod) (H : Heap) (k : Nat) (cv : AV) : Prop:=(k = 0 ∧ cv = .nilS) ∨ ∃ (r : Nat) (Es : List AV),cv = .sl r 0 k 3 none ∧ H[r]? = some ⟨Es,3,0⟩ ∧ Es.length = k ∧ ∀ j x,j < k → t[j]? = some x → NdAt H r Es[j]? x
theorem cp_view {t : List Nod} {H : Heap} {k : Nat} {cv : AV} (h : CpI t H k cv) (hk : k = t.length) : view 8 H cv = some (treeD t):=by
 subst hk
 rcases h with ⟨h0,rfl⟩ | ⟨r,Es,rfl,hr,hl,hN⟩
 ·have : t = []:=List.length_eq_zero_iff.1 h0
  subst this;rfl
 ·have hv : vl (view 7 H) Es = some (t.map Nod.enc):=by
   refine vl_ofn (by rw [hl,List.length_map]) fun j a x ha hx=>?_
   rw [List.getElem?_map] at hx
   cases ht : t[j]? with
   | none=>rw [ht] at hx;simp at hx
   | some y=>
    rw [ht] at hx
    simp only [Option.map_some,Option.some.injEq] at hx
    subst hx
    obtain ⟨q,h1,h2,_⟩:=hN j y (List.getElem?_eq_some_iff.1 ht).1 ht
    rw [ha] at h1
    cases h1
    exact view_agg (vlc rfl (vlc (view_map (n:=4) (f:=Ent.enc) h2 Nat.two_pos) (vlc rfl vln)))
  show (match H[r]? with
   | some o=>if o.st < 2 then (if 0 + t.length ≤ o.elems.length then (vl (view 7 H) ((o.elems.drop 0).take t.length)).map D.fs else none) else none
   | none=>none) = _
  simp only [hr]
  rw [if_pos (by decide),if_pos (by omega),List.drop_zero,List.take_of_length_le (by omega),hv];rfl
theorem cp_at {l : List AV} {x : Nod} {q n k : Nat} (h : l.length = k) (hn : n = x.ents.length) : (l ++ [.agg [.d (i x.kind),.sl q 0 n 2 none,.d (.str x.target)]])[k]? = some (ndA x q):=by
 subst h;subst hn;simp [ndA]
theorem cp_at0 {x : Nod} {q n k : Nat} (h : k = 0) (hn : n = x.ents.length) : ([.agg [.d (i x.kind),.sl q 0 n 2 none,.d (.str x.target)]] : List AV)[k]? = some (ndA x q):=by
 subst h;subst hn;rfl
theorem cp_old {l l' : List AV} {k j : Nat} (h : l.length = k) (hj : j < k) : (l ++ l')[j]? = l[j]?:=List.getElem?_append_left (by omega)
attribute [local irreducible] newD NdAt
end Go.Proofs.YtkmhnaojgkcjoaaGreatDoor
