/-
  Own lemmas, no conditions: DwSeat, DwA, DwB, DwC, DwD, DwE, DwF, DwG, DwH, DwI, DwJ, DwRv, DwK, DwL, DwM.
-/
import Derived.KernelRfl
import Derived.Orders
import Derived.Below
import Derived.Laws.Sem
import Derived.Laws.World
import Derived.Laws.Cells
import Derived.Laws.StructEq
import Derived.Lib.SliceRun
import Derived.Laws.Pointers
import Derived.Laws.Tables
import Derived.IntWalk
set_option linter.unusedVariables false
set_option linter.unusedSimpArgs false
namespace Dw
def Kq : List (Nat × List Int):=[(4,[1,73,2,438,8,256])]
def pn : List (Nat × List Int) -> Nat -> Option (List Int)
 | [],_=>none
 | p :: l,g=>match Nat.beq p.1 g with
  | true=>some p.2
  | false=>pn l g
end Dw
namespace Dw
open Go
inductive D where
 | int (k : IntKind) (n : Int)
 | bool (b : Bool)
 | str (s : List UInt8)
 | agg (l : List D)
 | fs (l : List D)
 | fp (x : D) (off : Nat)
 | fn (f : Nat) (first cap : List D)
 | tup (l : List D)
instance : Inhabited D:=⟨.bool false⟩
inductive AV where
 | d (x : D)
 | nilS
 | ptr (id e off : Nat)
 | sl (id s len k : Nat) (cap : Option Nat)
 | agg (l : List AV)
 | fn (f : Nat) (first cap : List AV)
 | tup (l : List AV)
 | raw (v : Value)
 | und
 | junk
 | mp (id : Nat)
instance : Inhabited AV:=⟨.junk⟩
structure AO where
 elems : List AV
 k : Nat
 st : Nat
abbrev ae:=List AO
def D.cells : D -> List D
 | .agg l=>l
 | x=>[x]
def AV.cells : AV -> List AV
 | .agg l=>l
 | .d (.agg l)=>l.map .d
 | x=>[x]
def AV.isAgg : AV -> Bool
 | .agg _=>true
 | .d (.agg _)=>true
 | _=>false
def D.isAgg : D -> Bool
 | .agg _=>true
 | _=>false
structure TI where
 kind : Nat
 size : Nat
 bytes : Nat
 zero : AV
 ik : IntKind
 fields : List (Nat × Nat)
 elem : Nat
 len : Nat
 leaf : List Nat
abbrev TE:=Nat -> TI
def PJ : TI:=⟨0,0,0,.junk,.i64,[],0,0,[]⟩
def TI.agg (t : TI) : Bool:=t.kind == 5 || t.kind == 6
def a8 : Bool -> Prop -> Prop
 | true,K=>K
 | false,_=>False
@[reducible] def aR : Bool -> Prop -> Prop -> Prop
 | true,A,_=>A
 | false,_,B=>B
theorem ao {b : Bool} {A B : Prop} (ht : b = true -> A) (hf : b = false -> B) : aR b A B:=by
 cases b
 ·exact hf rfl
 ·exact ht rfl
theorem bO {b : Bool} {A B : Prop} (h : b = true) (k : A) : aR b A B:=by subst h;exact k
theorem bA {b : Bool} {A B : Prop} (h : b = false) (k : B) : aR b A B:=by subst h;exact k
theorem aH {b : Bool} {K : Prop} (h : b = true) (k : K) : a8 b K:=by subst h;exact k
def cX {α : Type} : List α -> Nat -> (α -> Prop) -> Prop
 | [],_,_=>False
 | a :: _,0,K=>K a
 | _ :: l,n + 1,K=>cX l n K
theorem aE {α : Type} {K : α -> Prop} : ∀ (l : List α) (n : Nat),cX l n K ↔ ∃ x,l[n]? = some x /\ K x
 | [],n=>by simp [cX]
 | a :: l,0=>by simp [cX]
 | a :: l,n + 1=>by simp [cX,aE l n]
theorem cj {α : Type} {K : α -> Prop} {l : List α} {n : Nat} {x : α} (h : l[n]? = some x) (k : K x) : cX l n K:=
 (aE l n).2 ⟨x,h,k⟩
def uv : List AV -> Nat -> (AV -> Prop) -> Prop
 | [],_,K=>K .junk
 | a :: _,0,K=>K a
 | _ :: l,n + 1,K=>uv l n K
def g9 : List AV -> Nat -> AV
 | [],_=>.junk
 | a :: _,0=>a
 | _ :: l,n + 1=>g9 l n
theorem cF {K : AV -> Prop} : ∀ (l : List AV) (n : Nat),uv l n K = K (g9 l n)
 | [],n=>by simp [uv,g9]
 | a :: l,0=>by simp [uv,g9]
 | a :: l,n + 1=>by simp [uv,g9,cF l n]
def fb {α : Type} : List α -> Nat -> α -> (List α -> Prop) -> Prop
 | [],_,_,K=>K []
 | _ :: l,0,v,K=>K (v :: l)
 | a :: l,n + 1,v,K=>fb l n v (fun r=>K (a :: r))
theorem aU {α : Type} {v : α} : ∀ (l : List α) (n : Nat) (K : List α -> Prop),fb l n v K = K (l.set n v)
 | [],n,K=>by simp [fb]
 | a :: l,0,K=>by simp [fb]
 | a :: l,n + 1,K=>by simp [fb,aU l n]
def Ad {α : Type} : List α -> α -> (List α -> Prop) -> Prop
 | [],v,K=>K [v]
 | a :: l,v,K=>Ad l v (fun r=>K (a :: r))
theorem Ae {α : Type} {v : α} : ∀ (l : List α) (K : List α -> Prop),Ad l v K = K (l ++ [v])
 | [],K=>by simp [Ad]
 | a :: l,K=>by simp [Ad,Ae l]
def BU : Value -> AV
 | .int k n=>.d (.int k n)
 | .bool b=>.d (.bool b)
 | .string s=>.d (.str s.data.toList)
 | .slice none 0 0=>.nilS
 | .agg _=>.junk
 | .tuple _=>.junk
 | v=>.raw v
def PK : Value -> AV
 | .agg cs=>.agg (cs.toList.map BU)
 | v=>BU v
def GU (a : AV) (K : AV -> Prop) : Prop:=
 match a with
 | .d x=>K (.d x)
 | .nilS=>K .nilS
 | .ptr i e o=>K (.ptr i e o)
 | .sl i s l k c=>K (.sl i s l k c)
 | .agg l=>K (.agg l)
 | .fn f a c=>K (.fn f a c)
 | .tup l=>K (.tup l)
 | .raw v=>K (.raw v)
 | .und=>K .und
 | .junk=>K .junk
 | .mp i=>K (.mp i)
theorem GV (a : AV) (K : AV -> Prop) : GU a K = K a:=by cases a<;>rfl
def B7 (g : Nat) : Option D:=match pn Kq g with
 | some l=>some (.agg (l.map (D.int .i64)))
 | none=>none
def z8 (g : Nat) : AV:=match B7 g with
 | some x=>.d (.fp x 0)
 | none=>.junk
def opnd (T : List AV) : Operand -> AV
 | .tmp t=>g9 T t
 | .const v=>PK v
 | .global g=>z8 g
 | .func f=>.d (.fn f [] [])
def bB (T : List AV) (x : Operand) (K : AV -> Prop) : Prop:=
 match x with
 | .tmp t=>uv T t K
 | .const v=>GU (PK v) K
 | .global g=>K (z8 g)
 | .func f=>K (.d (.fn f [] []))
theorem aG (T : List AV) (x : Operand) (K : AV -> Prop) : bB T x K = K (opnd T x):=by
 cases x<;>simp [bB,opnd,cF,GV]
def kH (T : List AV) : List Operand -> (List AV -> Prop) -> Prop
 | [],K=>K []
 | x :: l,K=>bB T x (fun a=>kH T l (fun r=>K (a :: r)))
theorem dJ (T : List AV) : ∀ (l : List Operand) (K : List AV -> Prop),kH T l K = K (l.map (opnd T))
 | [],K=>rfl
 | x :: l,K=>by simp [kH,aG,dJ T l]
def vl (f : AV -> Option D) : List AV -> Option (List D)
 | []=>some []
 | a :: l=>match f a with
  | some x=>match vl f l with
   | some r=>some (x :: r)
   | none=>none
  | none=>none
def bl : Nat -> ae -> AV -> Option D
 | 0,_,_=>none
 | n + 1,h,a=>
  match a with
  | .d x=>some x
  | .nilS=>some (.fs [])
  | .ptr id e off=>
   match h[id]? with
   | some o=>if o.st < 2 then (match o.elems[e]? with | some x=>(bl n h x).map (D.fp · off) | none=>none) else none
   | none=>none
  | .sl id s len _ _=>
   match h[id]? with
   | some o=>if o.st < 2 then (if s + len <= o.elems.length then (vl (bl n h) ((o.elems.drop s).take len)).map D.fs else none) else none
   | none=>none
  | .agg l=>(vl (bl n h) l).map D.agg
  | .fn f a c=>match vl (bl n h) a with
   | some a=>match vl (bl n h) c with
    | some c=>some (.fn f a c)
    | none=>none
   | none=>none
  | .tup l=>(vl (bl n h) l).map D.tup
  | .raw _=>none
  | .und=>none
  | .junk=>none
  | .mp _=>none
def bC : Nat -> ae -> AV -> List Nat
 | 0,_,_=>[]
 | n + 1,h,a=>
  match a with
  | .ptr id _ _=>id :: (match h[id]? with | some o=>o.elems.flatMap (bC n h) | none=>[])
  | .sl id _ _ _ _=>id :: (match h[id]? with | some o=>o.elems.flatMap (bC n h) | none=>[])
  | .agg l=>l.flatMap (bC n h)
  | .fn _ a c=>a.flatMap (bC n h) ++ c.flatMap (bC n h)
  | .tup l=>l.flatMap (bC n h)
  | _=>[]
def D.flat : D -> Bool
 | .int ..=>true
 | .bool _=>true
 | .str _=>true
 | .agg l=>flats l
 | .tup l=>flats l
 | .fs _=>false
 | .fp ..=>false
 | .fn ..=>false
where flats : List D -> Bool
 | []=>true
 | x :: l=>x.flat && flats l
def AO.freeze (o : AO) : AO:=if o.st = 0 then { o with st:=1 } else o
def freeze (h : ae) : List Nat -> ae
 | []=>h
 | i :: l=>freeze (match h[i]? with | some o=>h.set i o.freeze | none=>h) l
def frz (r : D) (h : ae) (args : List AV) : ae:=
 if r.flat then h else freeze h (args.flatMap (bC 8 h))
end Dw
namespace Dw
open Go
abbrev KV:=AV -> ae -> Prop
abbrev AG:=Nat -> List AV -> ae -> AV -> ae -> Prop
structure ep where
 call : AG
 yld : List AV -> ae -> AV -> ae -> Prop
@[reducible] def Um (r : AG) : ep:=⟨r,fun _ _ _ _=>False⟩
instance : Coe AG ep:=⟨Um⟩
@[reducible] def ep.mute (R : ep) : ep:=Um R.call
def G9 {α : Type} : List α -> Nat -> (Nat -> Prop) -> Prop
 | [],n,K=>K n
 | _ :: l,n,K=>G9 l (n + 1) K
theorem Dc {α : Type} {K : Nat -> Prop} : ∀ (l : List α) (n : Nat),G9 l n K = K (n + l.length)
 | [],n=>by simp [G9]
 | _ :: l,n=>by simp only [G9,Dc l,List.length_cons];congr 1;omega
def sq {α : Type} : Nat -> List α -> (List α -> Prop) -> Prop
 | 0,l,K=>K l
 | n + 1,l,K=>match l with
  | []=>K []
  | _ :: l=>sq n l K
def yu {α : Type} (l : List α) (n : Nat) (K : List α -> Prop) : Prop:=sq n l K
theorem ss {α : Type} {K : List α -> Prop} : ∀ (n : Nat) (l : List α),sq n l K = K (l.drop n)
 | 0,l=>by simp [sq]
 | n + 1,[]=>by simp [sq]
 | n + 1,_ :: l=>by simp [sq,ss n]
theorem cO {α : Type} {K : List α -> Prop} (l : List α) (n : Nat) : yu l n K = K (l.drop n):=ss n l
def qQ {α : Type} : List α -> Nat -> (List α -> Prop) -> Prop
 | _,0,K=>K []
 | [],_ + 1,K=>K []
 | a :: l,n + 1,K=>qQ l n (fun r=>K (a :: r))
theorem dM {α : Type} : ∀ (l : List α) (n : Nat) (K : List α -> Prop),qQ l n K = K (l.take n)
 | l,0,K=>by simp [qQ]
 | [],n + 1,K=>by simp [qQ]
 | a :: l,n + 1,K=>by simp [qQ,dM l n]
def xo : List AV -> Nat -> List AV -> (List AV -> Prop) -> Prop
 | cs,_,[],K=>K cs
 | cs,off,v :: vs,K=>fb cs off v (fun cs'=>xo cs' (off + 1) vs K)
def o6 : List AV -> Nat -> List AV -> List AV
 | cs,_,[]=>cs
 | cs,off,v :: vs=>o6 (cs.set off v) (off + 1) vs
theorem gw : ∀ (vs cs : List AV) (off : Nat) (K : List AV -> Prop),xo cs off vs K = K (o6 cs off vs)
 | [],cs,off,K=>by simp [xo,o6]
 | v :: vs,cs,off,K=>by simp [xo,o6,aU,gw vs]
def AV.one : AV -> Bool
 | .d (.agg _)=>false
 | .d (.tup _)=>false
 | .d _=>true
 | .nilS=>true
 | .ptr ..=>true
 | .sl ..=>true
 | .fn ..=>true
 | .raw (.agg _)=>false
 | .raw (.tuple _)=>false
 | .raw _=>true
 | .mp _=>true
 | _=>false
def AV.isJunk : AV -> Bool
 | .junk=>true
 | _=>false
def gQ (t : TI) (v : AV) : Bool:=(v.isAgg == t.agg) && ((v.cells.length == t.size) && v.cells.all AV.one)
def da (op : BinOp) (k : IntKind) (x y : Int) : Int:=
 let a:=BitVec.ofInt k.bits x
 let b:=BitVec.ofInt k.bits y
 match op with
 | .and=>k.wrap (a &&& b).toNat
 | .or=>k.wrap (a ||| b).toNat
 | .xor=>k.wrap (a ^^^ b).toNat
 | _=>k.wrap (a &&& ~~~b).toNat
def ww : D -> D -> Bool
 | .int _ a,.int _ b=>decide (a = b)
 | .bool a,.bool b=>a == b
 | .str a,.str b=>decide (a = b)
 | _,_=>false
def dD : List D -> List D -> Bool
 | [],[]=>true
 | x :: l,y :: r=>ww x y && dD l r
 | _,_=>false
def rO : Nat -> D -> D -> Bool
 | 1,.int k _,.int k' _=>k == k'
 | 2,.bool _,.bool _=>true
 | 3,.str _,.str _=>true
 | _,_,_=>false
def er : List Nat -> List D -> List D -> Bool
 | [],[],[]=>true
 | a :: t,x :: l,y :: r=>rO a x y && er t l r
 | _,_,_=>false
def w9 (op : BinOp) (k : IntKind) (a b : Int) (K : AV -> Prop) : Prop:=
 match op with
 | .add=>K (.d (.int k (k.wrap (a + b))))
 | .sub=>K (.d (.int k (k.wrap (a - b))))
 | .mul=>K (.d (.int k (k.wrap (a * b))))
 | .quo=>a8 (!decide (b = 0)) (K (.d (.int k (k.wrap (a.tdiv b)))))
 | .rem=>a8 (!decide (b = 0)) (K (.d (.int k (a.tmod b))))
 | .and=>K (.d (.int k (da .and k a b)))
 | .or=>K (.d (.int k (da .or k a b)))
 | .xor=>K (.d (.int k (da .xor k a b)))
 | .andNot=>K (.d (.int k (da .andNot k a b)))
 | .eql=>K (.d (.bool (decide (a = b))))
 | .neq=>K (.d (.bool (!decide (a = b))))
 | .lss=>K (.d (.bool (decide (a < b))))
 | .leq=>K (.d (.bool (decide (a <= b))))
 | .gtr=>K (.d (.bool (decide (b < a))))
 | .geq=>K (.d (.bool (decide (b <= a))))
 | _=>False
def Al (op : BinOp) (a b : List UInt8) (K : AV -> Prop) : Prop:=
 match op with
 | .add=>a.length + b.length < 9223372036854775808 /\ K (.d (.str (a ++ b)))
 | .eql=>K (.d (.bool (decide (a = b))))
 | .neq=>K (.d (.bool (!decide (a = b))))
 | .lss=>K (.d (.bool (Op.bytesLess a b)))
 | .leq=>K (.d (.bool (Op.bytesLess a b || decide (a = b))))
 | .gtr=>K (.d (.bool (!(Op.bytesLess a b || decide (a = b)))))
 | .geq=>K (.d (.bool (!Op.bytesLess a b)))
 | _=>False
def xL (op : BinOp) (b : Bool) (K : AV -> Prop) : Prop:=
 match op with
 | .eql=>K (.d (.bool b))
 | .neq=>K (.d (.bool (!b)))
 | _=>False
def ev : List AV -> Option (List D)
 | []=>some []
 | .d x :: l=>match ev l with
  | some r=>some (x :: r)
  | none=>none
 | _=>none
def ul (E : TE) (op : BinOp) (t : Nat) (x y : AV) (K : AV -> Prop) : Prop:=
 match x,y with
 | .d (.int k a),.d (.int k' b)=>
  match op with
  | .shl=>a8 (decide (0 <= b)) (K (.d (.int k (k.wrap (a * 2 ^ (min b.toNat k.bits))))))
  | .shr=>a8 (decide (0 <= b)) (K (.d (.int k (a.fdiv (2 ^ (min b.toNat k.bits))))))
  | _=>a8 (k == k') (w9 op k a b K)
 | .d (.str a),.d (.str b)=>Al op a b K
 | .d (.bool a),.d (.bool b)=>a8 ((E t).kind == 2) (xL op (a == b) K)
 | .d (.fp _ _),.raw (.pointer none)=>a8 ((E t).kind == 7) (xL op false K)
 | .ptr _ _ _,.raw (.pointer none)=>a8 ((E t).kind == 7) (xL op false K)
 | _,_=>
  a8 (x.isAgg && y.isAgg && ((E t).kind == 5)) (
   match ev x.cells with
   | some l=>match ev y.cells with
    | some r=>a8 (!(E t).leaf.isEmpty && er (E t).leaf l r) (xL op (dD l r) K)
    | none=>False
   | none=>False)
def xa : Operand -> Bool
 | .const (.slice none 0 0)=>true
 | _=>false
def BF : AV -> Option Bool
 | .raw (.slice a _ _)=>some a.isNone
 | .d (.fs (_ :: _))=>some false
 | .sl _ _ (_ + 1) _ _=>some false
 | _=>none
def xe (E : TE) (op : BinOp) (t : Nat) (x : AV) (K : AV -> Prop) : Prop:=
 match BF x with
 | some b=>a8 ((E t).kind == 4) (xL op b K)
 | none=>False
def Ka (op : UnOp) (x : AV) (K : AV -> Prop) : Prop:=
 match op,x with
 | .not,.d (.bool b)=>K (.d (.bool (!b)))
 | .neg,.d (.int k n)=>K (.d (.int k (k.wrap (0 - n))))
 | _,_=>False
def Bq (t : TI) (x : AV) (off : Nat) (K : AV -> Prop) : Prop:=
 aR t.agg
  (aR ((off == 0) && (x.isAgg && (x.cells.length == t.size))) (K x)
   (a8 (x.isAgg && decide (off + t.size <= x.cells.length)) (yu x.cells off (fun l=>qQ l t.size (fun r=>K (.agg r))))))
  (a8 (t.kind != 0) (cX x.cells off K))
def Jq (t : TI) (x : D) (off : Nat) (K : AV -> Prop) : Prop:=
 aR t.agg
  (aR ((off == 0) && (x.isAgg && (x.cells.length == t.size))) (K (.d x))
   (a8 (x.isAgg && decide (off + t.size <= x.cells.length)) (yu x.cells off (fun l=>qQ l t.size (fun r=>K (.d (.agg r)))))))
  (a8 (t.kind != 0) (cX x.cells off (fun y=>K (.d y))))
def oO (h : ae) (id : Nat) (K : AO -> Prop) : Prop:=cX h id (fun o=>a8 (Nat.blt o.st 2) (K o))
def zp (h : ae) (id : Nat) (K : AO -> Prop) : Prop:=cX h id (fun o=>a8 (Nat.beq o.st 0) (K o))
def jX (t : TI) (a : AV) (h : ae) (K : AV -> Prop) : Prop:=
 match a with
 | .ptr id e off=>oO h id (fun o=>cX o.elems e (fun x=>Bq t x off K))
 | .d (.fp x off)=>Jq t x off K
 | _=>False
def iP (t : TI) (a v : AV) (h : ae) (K : ae -> Prop) : Prop:=
 match a with
 | .ptr id e off=>zp h id (fun o=>cX o.elems e (fun x=>
   a8 (gQ t v && t.kind != 0) (
    aR ((off == 0) && ((t.size == o.k) && ((x.isAgg == t.agg) || x.isJunk)))
     (fb o.elems e v (fun el=>fb h id { o with elems:=el } K))
     (a8 (x.isAgg && decide (off + t.size <= x.cells.length))
      (xo x.cells off v.cells (fun cs=>fb o.elems e (.agg cs) (fun el=>fb h id { o with elems:=el } K)))))))
 | _=>False
def eR (h : ae) (o : AO) (K : Nat -> ae -> Prop) : Prop:=G9 h 0 (fun n=>Ad h o (fun h'=>K n h'))
theorem bT (h : ae) (o : AO) (K : Nat -> ae -> Prop) : eR h o K = K h.length (h ++ [o]):=by
 simp [eR,Dc,Ae]
def ez (E : TE) (s : Nat) (x : AV) (f : Nat) (K : AV -> Prop) : Prop:=
 a8 ((E s).kind == 5) (cX (E s).fields f (fun p=>
  a8 ((E p.2).kind != 0) (match x with
   | .ptr id e o=>K (.ptr id e (o + p.1))
   | .d (.fp y o)=>K (.d (.fp y (o + p.1)))
   | _=>False)))
def pW (E : TE) (s : Nat) (x : AV) (f : Nat) (K : AV -> Prop) : Prop:=
 a8 ((E s).kind == 5) (cX (E s).fields f (fun p=>a8 x.isAgg (Bq (E p.2) x p.1 K)))
def dV (E : TE) (t : Nat) (x i : AV) (K : AV -> Prop) : Prop:=
 match i with
 | .d (.int _ n)=>
  match x with
  | .sl id s len k _=>a8 ((E t).kind == 4 && (k == (E (E t).elem).size && (E (E t).elem).kind != 0)) ((0 <= n /\ n < len) /\ K (.ptr id (s + n.toNat) 0))
  | .d (.fs l)=>a8 ((E t).kind == 4) (0 <= n /\ cX l n.toNat (fun y=>a8 (y.cells.length == (E (E t).elem).size && (E (E t).elem).kind != 0) (K (.d (.fp y 0)))))
  | .ptr id e o=>a8 ((E t).kind == 6 && (E (E t).elem).kind != 0) ((0 <= n /\ n < (E t).len) /\ K (.ptr id e (o + n.toNat * (E (E t).elem).size)))
  | .d (.fp y o)=>a8 ((E t).kind == 6 && (E (E t).elem).kind != 0) ((0 <= n /\ n < (E t).len) /\ K (.d (.fp y (o + n.toNat * (E (E t).elem).size))))
  | _=>False
 | _=>False
def jx (E : TE) (t : Nat) (x i : AV) (K : AV -> Prop) : Prop:=
 match i with
 | .d (.int _ n)=>
  match x with
  | .d (.str s)=>a8 ((E t).kind == 3) (0 <= n /\ cX s n.toNat (fun b=>K (.d (.int .u8 b.toNat))))
  | x=>a8 ((E t).kind == 6 && (x.isAgg && (E (E t).elem).kind != 0)) ((0 <= n /\ n < (E t).len) /\ Bq (E (E t).elem) x (n.toNat * (E (E t).elem).size) K)
 | _=>False
def db (dflt : Nat) : Option AV -> (Int -> Prop) -> Prop
 | none,K=>K dflt
 | some (.d (.int _ n)),K=>K n
 | _,_=>False
def w6 (h : ae) (id s len : Nat) (cap : Option Nat) (u : Int) : Prop:=
 u <= len \/ (match cap with
  | some c=>u <= c
  | none=>∃ o,h[id]? = some o /\ o.st < 2 /\ s + u.toNat <= o.elems.length)
def ei (E : TE) (t : Nat) (x : AV) (lo hi mx : Option AV) (h : ae) (K : AV -> Prop) : Prop:=
 match x with
 | .d (.str s)=>a8 ((E t).kind == 3 && mx.isNone) (db 0 lo (fun l=>db s.length hi (fun u=>
   (0 <= l /\ l <= u /\ u <= s.length) /\ K (.d (.str ((s.take u.toNat).drop l.toNat))))))
 | .nilS=>a8 ((E t).kind == 4 && ((E (E t).elem).kind != 0 && (mx.isNone || hi.isSome))) (db 0 lo (fun l=>db 0 hi (fun u=>db 0 mx (fun m=>(l = 0 /\ u = 0 /\ m = 0) /\ K .nilS))))
 | .d (.fs x)=>a8 ((E t).kind == 4 && (E (E t).elem).kind != 0) (db 0 lo (fun l=>db x.length hi (fun u=>
   match mx with
   | none=>(0 <= l /\ l <= u /\ u <= x.length /\ ∀ y ∈ x,y.cells.length = (E (E t).elem).size) /\ K (.d (.fs ((x.take u.toNat).drop l.toNat)))
   | some _=>a8 hi.isSome (db 0 mx (fun m=>(0 <= l /\ l <= u /\ u <= m /\ m <= x.length /\ ∀ y ∈ x,y.cells.length = (E (E t).elem).size) /\ aR (decide (l = m)) (K .nilS) (K (.d (.fs ((x.take u.toNat).drop l.toNat)))))))))
 | .sl id s len k cap=>a8 ((E t).kind == 4 && (k == (E (E t).elem).size && (E (E t).elem).kind != 0)) (db 0 lo (fun l=>db len hi (fun u=>
   match mx with
   | none=>(0 <= l /\ l <= u /\ w6 h id s len cap u) /\ K (.sl id (s + l.toNat) (u.toNat - l.toNat) k (match cap with | some c=>some (c - l.toNat) | none=>none))
   | some _=>a8 hi.isSome (db 0 mx (fun m=>(0 <= l /\ l <= u /\ u <= m /\ m <= len) /\ aR (decide (l = m)) (K .nilS) (K (.sl id (s + l.toNat) (u.toNat - l.toNat) k (some (m.toNat - l.toNat)))))))))
 | _=>False
def D.memOk : D -> Bool
 | .tup _=>false
 | _=>true
def AV.known : AV -> Bool
 | .d x=>x.memOk
 | x=>x.cells.all AV.one
def fR (b : UInt8) : AV:=.d (.int .u8 b.toNat)
def nV (k : Nat) (h : ae) (x : AV) (K : List AV -> Prop) : Prop:=
 match x with
 | .nilS=>K []
 | .d (.fs l)=>(∀ y ∈ l,y.cells.length = k /\ y.memOk = true) /\ K (l.map .d)
 | .d (.str s)=>a8 (k == 1) (K (s.map fR))
 | .sl id s len k' _=>oO h id (fun o=>a8 (k' == k) (s + len <= o.elems.length /\ yu o.elems s (fun l=>
   aR (l.length == len) (a8 (l.all AV.known) (K l)) (a8 ((l.take len).all AV.known) (qQ l len K)))))
 | .raw (.slice _ 0 _)=>K []
 | _=>False
def qn (len : Nat) (x : AV) (K : AV -> Prop) : Prop:=
 match x with
 | .sl i s l k c=>aR (decide (l <= len)) (K (.sl i s l k c)) (K (.sl i s len k c))
 | x=>K x
def xy (len : Nat) (x : AV) : AV:=
 match x with
 | .sl i s l k c=>if l <= len then .sl i s l k c else .sl i s len k c
 | x=>x
theorem qo (len : Nat) (x : AV) (K : AV -> Prop) : qn len x K = K (xy len x):=by
 cases x
 case sl i s l k c=>
  by_cases h : l <= len
  ·simp [qn,xy,aR,h]
  ·simp [qn,xy,aR,h]
 all_goals rfl
def eI (l : List AV) (s : Nat) (new : List AV) : List AV:=l.take s ++ new ++ l.drop (s + new.length)
def pE (t : TI) (base : AV) (new : List AV) (h : ae) (K : KV) : Prop:=
 a8 (t.kind != 0 && Nat.blt 0 t.bytes) (match base with
 | .nilS=>new.length * t.bytes <= 140737488355328 /\ eR h { elems:=new,k:=t.size,st:=0 } (fun id h'=>K (.sl id 0 new.length t.size none) h')
 | .sl id s len k none=>zp h id (fun o=>a8 (k == t.size) (
   aR (decide (s + len + new.length <= o.elems.length))
    (fb h id { o with elems:=eI o.elems (s + len) new } (fun h'=>K (.sl id s (len + new.length) k none) h'))
    ((s + len = o.elems.length /\ (len + new.length) * t.bytes <= 140737488355328) /\
     fb h id { o with st:=2 } (fun h1=>yu o.elems s (fun old=>eR h1 { o with elems:=old ++ new } (fun id' h'=>K (.sl id' 0 (len + new.length) k none) h'))))))
 | .sl id s len k (some c)=>
   aR (decide (len + new.length <= c))
    (zp h id (fun o=>a8 (k == t.size) (s + c <= o.elems.length /\ fb h id { o with elems:=eI o.elems (s + len) new } (fun h'=>K (.sl id s (len + new.length) k (some c)) h'))))
    (oO h id (fun o=>a8 (k == t.size) ((s + len <= o.elems.length /\ (len + new.length) * t.bytes <= 140737488355328) /\
     eR h { o with elems:=(o.elems.drop s).take len ++ new,st:=0 } (fun id' h'=>K (.sl id' 0 (len + new.length) k none) h'))))
 | _=>False)
def AV.isInt : AV -> Bool
 | .d (.int ..)=>true
 | _=>false
def lP (f : Int -> Int -> Int) : AV -> List AV -> (AV -> Prop) -> Prop
 | x,[],K=>K x
 | .d (.int k a),.d (.int _ b) :: l,K=>lP f (.d (.int k (f a b))) l K
 | _,_,_=>False
def jc (x y : Int) : Int:=if y > x then y else x
def kW (x y : Int) : Int:=if y < x then y else x
def EH (x : AV) (K : AV -> Prop) : Prop:=
 match x with
 | .nilS=>K (.d (.int .i64 0))
 | .sl _ _ len _ _=>K (.d (.int .i64 len))
 | .d (.fs l)=>K (.d (.int .i64 l.length))
 | .d (.str s)=>K (.d (.int .i64 s.length))
 | _=>False
def D9 (x : AV) (K : AV -> Prop) : Prop:=
 match x with
 | .nilS=>K (.d (.int .i64 0))
 | .sl _ _ _ _ (some c)=>K (.d (.int .i64 c))
 | _=>False
def G6 (E : TE) (ts : List Nat) : Bool:=match ts with | [t]=>(E t).kind == 4 | _=>false
def sW (k : IntKind) : AV -> Option Int
 | .d (.int k' n)=>match k == k' with
  | true=>some n
  | false=>none
 | _=>none
def fL : D -> Bool
 | .int ..=>true
 | .bool _=>true
 | .str _=>true
 | _=>false
def z7 : AV -> Option D
 | .d x=>match fL x with
  | true=>some x
  | false=>none
 | _=>none
def bz (k : IntKind) : AV -> Option (Int × D)
 | .d (.agg [.int k' n,v])=>match (k == k' && fL v) with
  | true=>some (n,v)
  | false=>none
 | _=>none
def pR (k : IntKind) : List AV -> Option (List (Int × D))
 | []=>some []
 | a :: l=>match bz k a with
  | some p=>match pR k l with
   | some r=>some (p :: r)
   | none=>none
  | none=>none
def I0 (k : IntKind) (p : Int × D) : AV:=.d (.agg [.int k p.1,p.2])
def jZ {κ : Type} [DecidableEq κ] (z : D) : List (κ × D) -> κ -> D
 | [],_=>z
 | p :: l,n=>if n = p.1 then p.2 else jZ z l n
def nE {κ : Type} [DecidableEq κ] : List (κ × D) -> κ -> D -> List (κ × D)
 | [],n,v=>[(n,v)]
 | p :: l,n,v=>if n = p.1 then (n,v) :: l else p :: nE l n v
structure CI (k : IntKind) (l : List AV) (K : List (Int × D) -> Prop) : Prop where
 out : ∃ L,pR k l = some L /\ K L
def qe : AV -> Option (List UInt8)
 | .d (.str s)=>some s
 | _=>none
def AZ : AV -> Option (List UInt8 × D)
 | .d (.agg [.str n,v])=>match fL v with
  | true=>some (n,v)
  | false=>none
 | _=>none
def mj : List AV -> Option (List (List UInt8 × D))
 | []=>some []
 | a :: l=>match AZ a with
  | some p=>match mj l with
   | some r=>some (p :: r)
   | none=>none
  | none=>none
def I1 (p : List UInt8 × D) : AV:=.d (.agg [.str p.1,p.2])
structure wH (l : List AV) (K : List (List UInt8 × D) -> Prop) : Prop where
 out : ∃ L,mj l = some L /\ K L
def jg (h : ae) (id : Nat) (K : AO -> Prop) : Prop:=cX h id (fun o=>a8 (Nat.beq o.st 3) (K o))
def AC : AV -> Option D
 | .d x=>match fL x with
  | true=>some x
  | false=>none
 | _=>none
def gu (E : TE) (t : Nat) (x i : AV) (h : ae) (K : AV -> Prop) : Prop:=
 match x with
 | .mp id=>aR ((E t).kind == 9 && (E (E t).len).kind == 1) (
  match sW (E (E t).len).ik i with
  | some n=>match AC (E (E t).elem).zero with
   | some z=>a8 ((E (E t).elem).kind != 0) (jg h id (fun o=>CI (E (E t).len).ik o.elems (fun L=>K (.d (jZ z L n)))))
   | none=>False
  | none=>False) (a8 ((E t).kind == 9 && (E (E t).len).kind == 3) (
  match qe i with
  | some n=>match AC (E (E t).elem).zero with
   | some z=>a8 ((E (E t).elem).kind != 0) (jg h id (fun o=>wH o.elems (fun L=>K (.d (jZ z L n)))))
   | none=>False
  | none=>False))
 | _=>False
def eN (E : TE) (t : Nat) (x i v : AV) (h : ae) (K : ae -> Prop) : Prop:=
 match x with
 | .mp id=>aR ((E t).kind == 9 && (E (E t).len).kind == 1) (
  match sW (E (E t).len).ik i with
  | some n=>match z7 v with
   | some d=>jg h id (fun o=>CI (E (E t).len).ik o.elems (fun L=>fb h id { o with elems:=(nE L n d).map (I0 (E (E t).len).ik) } K))
   | none=>False
  | none=>False) (a8 ((E t).kind == 9 && (E (E t).len).kind == 3) (
  match qe i with
  | some n=>match z7 v with
   | some d=>jg h id (fun o=>wH o.elems (fun L=>fb h id { o with elems:=(nE L n d).map I1 } K))
   | none=>False
  | none=>False))
 | _=>False
def Bx (E : TE) (ts : List Nat) : Bool:=match ts with
 | [t]=>Nat.beq (E t).kind 9
 | _=>false
def O6 : AV -> Bool
 | .mp _=>true
 | _=>false
def qI (E : TE) (ts : List Nat) (x : AV) (h : ae) (K : KV) : Prop:=
 match x with
 | .mp id=>a8 (Bx E ts) (jg h id (fun o=>K (.d (.int .i64 o.elems.length)) h))
 | _=>False
def et (E : TE) (b : Builtin) (ts : List Nat) (args : List AV) (h : ae) (K : KV) : Prop:=
 match b,args with
 | .len,[x]=>aR (O6 x) (qI E ts x h K) (a8 (match ts with | [t]=>(match x with | .d (.str _)=>(E t).kind == 3 | _=>(E t).kind == 4) | _=>false) (EH x (fun v=>K v h)))
 | .append,[s,x]=>
  match ts with
  | t :: t' :: _=>a8 ((E t).kind == 4 && !((E t').kind == 0)) (aR ((E t').kind == 1)
    (match x with
     | .d (.int _ n)=>(0 <= n /\ n < 9223372036854775808 /\ n * (E (E t).elem).bytes <= 140737488355328) /\ pE (E (E t).elem) s (List.replicate n.toNat (E (E t).elem).zero) h K
     | _=>False)
    (nV (E (E t).elem).size h x (fun new=>pE (E (E t).elem) s new h K)))
  | _=>False
 | .copy,[.sl id s len k _,x]=>
  match ts with
  | t :: _=>a8 ((E t).kind == 4 && (E (E t).elem).kind != 0) (qn len x fun x=>nV (E (E t).elem).size h x (fun new=>zp h id (fun o=>a8 (k == (E (E t).elem).size) (s + len <= o.elems.length /\
    fb h id { o with elems:=eI o.elems s (new.take len) } (fun h'=>K (.d (.int .i64 (min new.length len : Nat))) h')))))
  | _=>False
 | .clear,[.sl id s len k _]=>
  match ts with
  | t :: _=>a8 ((E t).kind == 4 && (E (E t).elem).kind != 0) (zp h id (fun o=>a8 (k == (E (E t).elem).size) (s + len <= o.elems.length /\
    fb h id { o with elems:=eI o.elems s (List.replicate len (E (E t).elem).zero) } (fun h'=>K (.tup []) h'))))
  | _=>False
 | .max,x :: l=>a8 x.isInt (lP jc x l (fun v=>K v h))
 | .min,x :: l=>a8 x.isInt (lP kW x l (fun v=>K v h))
 | .cap,[x]=>a8 (G6 E ts) (D9 x (fun v=>K v h))
 | _,_=>False
def jQ (E : TE) (src dst : Nat) (x : AV) (h : ae) (K : KV) : Prop:=
 match x with
 | .d (.int _ n)=>a8 ((E dst).kind == 1 && !((E src).kind == 0)) (K (.d (.int (E dst).ik ((E dst).ik.wrap n))) h)
 | .d (.str s)=>
  aR ((E dst).kind == 3) (a8 (!((E src).kind == 0)) (K x h))
   (a8 (((E dst).kind == 4 && !((E src).kind == 0)) && ((E (E dst).elem).kind == 1 && (E (E dst).elem).ik == .u8))
    (eR h { elems:=s.map fR,k:=1,st:=0 } (fun id h'=>K (.sl id 0 s.length 1 none) h')))
 | .nilS=>a8 (((E dst).kind == 3 && (E src).kind == 4) && ((E (E src).elem).kind == 1 && (E (E src).elem).ik == .u8)) (K (.d (.str [])) h)
 | .d (.fs l)=>a8 (((E dst).kind == 3 && (E src).kind == 4) && ((E (E src).elem).kind == 1 && (E (E src).elem).ik == .u8))
   (∃ s : List UInt8,l = s.map (fun b=>D.int .u8 b.toNat) /\ K (.d (.str s)) h)
 | .sl id s len k _=>a8 (((E dst).kind == 3 && (E src).kind == 4) && ((E (E src).elem).kind == 1 && (E (E src).elem).ik == .u8))
   (oO h id (fun o=>a8 (k == 1) (∃ b : List UInt8,(s + len <= o.elems.length /\ (o.elems.drop s).take len = b.map fR) /\ K (.d (.str b)) h)))
 | _=>False
def fG (E : TE) (t : TI) : List AV -> List (Nat × Operand) -> List AV -> (List AV -> Prop) -> Prop
 | _,[],cs,K=>K cs
 | T,(i,x) :: l,cs,K=>bB T x (fun v=>
   aR (t.kind == 5)
    (cX t.fields i (fun p=>a8 (decide (p.1 + (E p.2).size <= cs.length) && (gQ (E p.2) v && (E p.2).kind != 0)) (xo cs p.1 v.cells (fun cs'=>fG E t T l cs' K))))
    (a8 ((t.kind == 6 && (E t.elem).kind != 0) && (decide (i * (E t.elem).size + (E t.elem).size <= cs.length) && gQ (E t.elem) v)) (xo cs (i * (E t.elem).size) v.cells (fun cs'=>fG E t T l cs' K))))
def iV (t : TI) : List AV -> List (Nat × Operand) -> List AV -> (List AV -> Prop) -> Prop
 | _,[],es,K=>K es
 | T,(i,x) :: l,es,K=>bB T x (fun v=>a8 (gQ t v && decide (i < es.length)) (fb es i v (fun es'=>iV t T l es' K)))
def tG {α : Type} : Nat -> α -> (List α -> Prop) -> Prop
 | 0,_,K=>K []
 | n + 1,a,K=>tG n a (fun r=>K (a :: r))
theorem j8 {α : Type} {a : α} : ∀ (n : Nat) (K : List α -> Prop),tG n a K = K (List.replicate n a)
 | 0,K=>by simp [tG]
 | n + 1,K=>by simp [tG,j8 n,List.replicate_succ]
def kS (es : List AV) (K : List D -> Prop) : Prop:=
 match vl (bl 8 []) es with
 | some ds=>K ds
 | none=>False
def iU (T : List AV) : Option Operand -> (Option AV -> Prop) -> Prop
 | none,K=>K none
 | some x,K=>bB T x (fun a=>K (some a))
def om (R : ep) (f : AV) (args : List AV) (h : ae) (K : KV) : Prop:=
 match f with
 | .d (.fn f first cap) => ∃ r h', R.call f (first.map .d ++ (args ++ cap.map .d)) h r h' /\ K r h'
 | .fn f first cap => ∃ r h', R.call f (first ++ (args ++ cap)) h r h' /\ K r h'
 | .raw (.func (.yield l) x y) => ∃ r h', R.yld (.raw (.func (.yield l) x y) :: args) h r h' /\ K r h'
 | _=>False
def kG (E : TE) (R : ep) (T : List AV) (h : ae) (o : Op) (K : KV) : Prop:=
 match o with
 | .move x=>bB T x (fun a=>K a h)
 | .assign x=>bB T x (fun a=>K a h)
 | .pick c a b=>bB T c (fun c=>match c with
   | .d (.bool c)=>aR c (bB T a (fun a=>K a h)) (bB T b (fun b=>K b h))
   | _=>False)
 | .alloc t=>a8 ((E t).kind != 0) (eR h { elems:=[(E t).zero],k:=(E t).size,st:=0 } (fun id h'=>K (.ptr id 0 0) h'))
 | .box t x=>bB T x (fun v=>a8 ((E t).kind != 0 && gQ (E t) v) (eR h { elems:=[v],k:=(E t).size,st:=0 } (fun id h'=>K (.ptr id 0 0) h')))
 | .build t ps=>a8 ((E t).kind == 5 || ((E t).kind == 6 && (E (E t).elem).kind != 0)) (fG E (E t) T ps.toList (E t).zero.cells (fun cs=>K (.agg cs) h))
 | .buildSlice t n ps=>a8 ((E t).kind == 4 && (decide (n * (E (E t).elem).size <= 16777216) && (E (E t).elem).kind != 0)) (
   aR (n == 0) (a8 ps.toList.isEmpty (K .nilS h))
    (tG n (E (E t).elem).zero (fun es=>iV (E (E t).elem) T ps.toList es (fun es=>aR ((E t).len == 0) (eR h { elems:=es,k:=(E (E t).elem).size,st:=0 } (fun id h'=>K (.sl id 0 n (E (E t).elem).size (some n)) h')) (kS es (fun ds=>K (.d (.fs ds)) h))))))
 | .load t a=>bB T a (fun a=>jX (E t) a h (fun v=>K v h))
 | .store t a v=>bB T a (fun a=>bB T v (fun v=>iP (E t) a v h (fun h'=>K .und h')))
 | .nilCheck x=>bB T x (fun a=>match a with
   | .ptr ..=>K a h
   | .fn ..=>K a h
   | .d (.fp ..)=>K a h
   | .d (.fn ..)=>K a h
   | _=>False)
 | .binOp op t x y _=>bB T x (fun a=>aR (xa y) (xe E op t a (fun v=>K v h)) (bB T y (fun b=>ul E op t a b (fun v=>K v h))))
 | .unOp op _ x=>bB T x (fun a=>Ka op a (fun v=>K v h))
 | .convert src dst x=>bB T x (fun a=>jQ E src dst a h K)
 | .makeFunc fn first cap=>match fn with
  | .func f=>kH T first.toList (fun a=>kH T cap.toList (fun c=>K (.fn f a c) h))
  | _=>False
 | .makeSlice t l c=>bB T l (fun l=>bB T c (fun c=>match l,c with
   | .d (.int _ l),.d (.int _ c)=>a8 ((E t).kind == 4 && (E (E t).elem).kind != 0) ((0 <= l /\ l <= c /\ c < 9223372036854775808 /\ c * (E (E t).elem).bytes <= 140737488355328) /\
     eR h { elems:=List.replicate c.toNat (E (E t).elem).zero,k:=(E (E t).elem).size,st:=0 } (fun id h'=>K (.sl id 0 l.toNat (E (E t).elem).size (some c.toNat)) h'))
   | _,_=>False))
 | .makeMap t r=>a8 ((E t).kind == 9 && r.isNone) (eR h { elems:=[],k:=1,st:=3 } (fun id h'=>K (.mp id) h'))
 | .lookup t x i c=>a8 (!c) <| bB T x (fun a=>bB T i (fun i=>gu E t a i h (fun v=>K v h)))
 | .mapUpdate t m i v=>bB T m (fun a=>bB T i (fun i=>bB T v (fun v=>eN E t a i v h (fun h'=>K .und h'))))
 | .insert t m i v=>bB T m (fun a=>bB T i (fun i=>bB T v (fun v=>eN E t a i v h (fun h'=>K .und h'))))
 | .slice t x lo hi mx=>bB T x (fun a=>iU T lo (fun lo=>iU T hi (fun hi=>iU T mx (fun mx=>ei E t a lo hi mx h (fun v=>K v h)))))
 | .fieldAddr s x f=>bB T x (fun a=>ez E s a f (fun v=>K v h))
 | .field s x f=>bB T x (fun a=>pW E s a f (fun v=>K v h))
 | .indexAddr t x i=>bB T x (fun a=>bB T i (fun i=>dV E t a i (fun v=>K v h)))
 | .index t x i=>bB T x (fun a=>bB T i (fun i=>jx E t a i (fun v=>K v h)))
 | .extract x i=>bB T x (fun a=>match a with
   | .tup l=>cX l i (fun v=>K v h)
   | .d (.tup l)=>cX l i (fun v=>K (.d v) h)
   | _=>False)
 | .call c=>match c.callee with
  | .value f=>bB T f (fun f=>kH T c.args.toList (fun args=>om R f args h K))
  | .builtin b=>kH T c.args.toList (fun args=>et E b c.argTypes.toList args h K)
  | _=>False
 | _=>False
def lw : List Oper -> Nat -> Option Nat
 | [],_=>none
 | o :: _,0=>o.dst
 | _ :: l,n + 1=>lw l n
def iG (all : List Oper) (T : List AV) (g : Option (Nat × Bool)) (A B : List AV -> Prop) : Prop:=
 match g with
 | none=>A T
 | some (j,want)=>
  match lw all j with
  | some t=>uv T t (fun a=>match a with
   | .d (.bool b)=>aR b (fb T t (.d (.bool true)) (fun T'=>aR want (A T') (B T'))) (fb T t (.d (.bool false)) (fun T'=>aR want (B T') (A T')))
   | .und=>B T
   | _=>False)
  | none=>False
def mQ (dst : Option Nat) (v : AV) (T : List AV) (K : List AV -> Prop) : Prop:=
 match dst with
 | some t=>fb T t v K
 | none=>K T
def iL (E : TE) (R : ep) (all : List Oper) : List Oper -> List AV -> ae -> (List AV -> ae -> Prop) -> Prop
 | [],T,h,K=>K T h
 | o :: rest,T,h,K=>iG all T o.guard
   (fun T=>kG E R T h o.op (fun v h'=>mQ o.dst v T (fun T'=>iL E R all rest T' h' K)))
   (fun T=>mQ o.dst .und T (fun T'=>iL E R all rest T' h K))
def Gj (E : TE) (ts : List Nat) : Builtin -> Nat
 | .len=>match Bx E ts with
  | true=>3
  | false=>0
 | .max=>0
 | .min=>0
 | _=>3
def d6 (E : TE) : Op -> Nat
 | .move _=>0
 | .assign _=>0
 | .pick ..=>0
 | .build ..=>0
 | .buildSlice t n _=>if (n == 0 || (E t).len != 0) then 0 else 3
 | .nilCheck _=>0
 | .binOp ..=>0
 | .unOp ..=>0
 | .makeFunc ..=>0
 | .slice _ _ _ hi mx=>(match hi,mx with
  | some _,none=>1
  | _,_=>0)
 | .fieldAddr ..=>0
 | .field ..=>0
 | .indexAddr ..=>0
 | .index ..=>0
 | .extract ..=>0
 | .load ..=>1
 | .lookup ..=>1
 | .convert src dst _=>if (E dst).kind == 4 then 3 else if (E src).kind == 4 then 1 else 0
 | .alloc _=>2
 | .call c=>match c.callee with
  | .builtin b=>Gj E c.argTypes.toList b
  | _=>3
 | _=>3
def gY (T : List AV) (o : Op) (K : Option Nat -> Prop) : Prop:=
 match o with
 | .load _ a=>bB T a (fun v=>match v with | .ptr id _ _=>K (some id) | _=>K none)
 | .convert _ _ a=>bB T a (fun v=>match v with | .sl id _ _ _ _=>K (some id) | _=>K none)
 | .slice _ a _ _ _=>bB T a (fun v=>match v with | .sl id _ _ _ _=>K (some id) | _=>K none)
 | .lookup _ a _ _=>bB T a (fun v=>match v with | .mp id=>K (some id) | _=>K none)
 | _=>K none
def AO.vis (o : AO) : List AV × Bool × Bool:=(o.elems,Nat.blt o.st 2,Nat.beq o.st 3)
inductive Ev where
 | read (i id : Nat)
 | made (i id : Nat)
 | heap (i : Nat) (h h' : ae)
def mT (ps : List (Nat × Nat)) (i j : Nat) : Bool:=ps.any (fun p=>Nat.beq p.1 i && Nat.beq p.2 j)
def iC (ps : List (Nat × Nat)) : Ev -> List Ev -> Prop -> Prop
 | _,[],K=>K
 | .read i id,.heap j h h' :: l,K=>aR (mT ps i j) ((h[id]?).map AO.vis = (h'[id]?).map AO.vis /\ iC ps (.read i id) l K) (iC ps (.read i id) l K)
 | .heap j h h', .read i id :: l, K => aR (mT ps i j) ((h[id]?).map AO.vis = (h'[id]?).map AO.vis /\ iC ps (.heap j h h') l K) (iC ps (.heap j h h') l K)
 | .heap j h h', .made i id :: l, K => aR (mT ps i j) (h[id]? = h'[id]? /\ iC ps (.heap j h h') l K) (iC ps (.heap j h h') l K)
 | e,_ :: l,K=>iC ps e l K
def dg (E : TE) (R : ep) (all : List Oper) (ps : List (Nat × Nat)) : List (Nat × Oper) -> List Ev -> List AV -> ae -> (List AV -> ae -> Prop) -> Prop
 | [],_,T,h,K=>K T h
 | (i,o) :: rest,L,T,h,K=>iG all T o.guard
   (fun T=>kG E R T h o.op (fun v h'=>mQ o.dst v T (fun T'=>
    match d6 E o.op with
    | 0=>dg E R all ps rest L T' h' K
    | 1=>gY T o.op (fun r=>match r with
     | some id=>iC ps (.read i id) L (dg E R all ps rest (.read i id :: L) T' h' K)
     | none=>dg E R all ps rest L T' h' K)
    | 2=>match v with
     | .ptr id _ _=>dg E R all ps rest (.made i id :: L) T' h' K
     | _=>False
    | _=>iC ps (.heap i h h') L (dg E R all ps rest (.heap i h h' :: L) T' h' K))))
   (fun T=>mQ o.dst .und T (fun T'=>dg E R all ps rest L T' h K))
def gb : List Oper -> Nat -> List (Nat × Oper)
 | [],_=>[]
 | o :: l,n=>(n,o) :: gb l (n + 1)
def gt (o : Oper) : Bool:=match o.op with | .alloc _=>true | _=>false
def bQ (ops : List Oper) : List (Nat × Oper):=
 let l:=gb ops 0
 l.filter (fun p=>gt p.2) ++ l.filter (fun p=>!gt p.2)
def cQ : List Oper -> List Nat -> List Nat
 | [],acc=>acc
 | o :: l,acc=>cQ l (acc ++ [o.after.toList.foldl (fun s e=>if Region.binds .any e then s ||| 2 ^ e.on ||| acc.getD e.on 0 else s) 0])
def g0 (ops : List Oper) (o : Oper) : List Nat:=
  (o.op.operands.toList.filterMap fun | .tmp t=>some t | _=>none) ++
  (match o.guard with
   | some (g,_)=>(lw ops g).toList
   | none=>[])
def qt (ops : List Oper) (x y : Oper) : Bool:=
  (match x.dst with
   | some d=>(g0 ops y).contains d || y.dst == some d
   | none=>false) ||
  (match y.dst with
   | some d=>(g0 ops x).contains d
   | none=>false)
def jI (E : TE) (ops : List Oper) (ws : List Nat) (ps : List (Nat × Nat)) (x y : Nat × Oper) : Bool:=
 let fwd:=(ws.getD y.1 0).testBit x.1
 let cx:=d6 E x.2.op
 let cy:=d6 E y.2.op
 (fwd || !qt ops x.2 y.2) &&
 (fwd || !(cx == 3 && cy == 3)) &&
 (fwd || !((cx == 1 || cx == 2) && cy == 3) || mT ps x.1 y.1) &&
 (fwd || !(cx == 3 && cy == 1) || mT ps y.1 x.1)
def od (f : Nat × Oper -> Nat × Oper -> Bool) : List (Nat × Oper) -> Bool
 | []=>true
 | x :: l=>l.all (f x) && od f l
def oC : List Oper -> Nat -> Bool
 | [],_=>true
 | o :: l,n=>o.after.toList.all (fun e=>!Region.binds .any e || decide (e.on < n)) && oC l (n + 1)
def wD (E : TE) (ops : List Oper) (ps : List (Nat × Nat)) : Bool:=
 oC ops 0 && od (jI E ops (cQ ops []) ps) (bQ ops) && ops.all (fun o=>!gt o || o.guard.isNone)
def TI.only (ti : TI) : TI:={ ti with len:=match Nat.beq ti.kind 4 with | true=>1 | false=>ti.len }
def kT (E : TE) (fl : List Nat) : TE:=fun t=>match fl.any (Nat.beq t) with
 | true=>(E t).only
 | false=>E t
def mY (E : TE) (R : ep) (ops : List Oper) (T : List AV) (h : ae) (K : List AV -> ae -> Prop) : Prop:=
 ∃ fl ps,wD (kT E fl) ops ps = true /\ dg (kT E fl) R ops ps (bQ ops) [] T h K
inductive Ex where
 | normal
 | exit (id : Nat)
 | ret
inductive Mu where
 | old (j : Nat)
 | void (k : Nat)
 | dead
 | cut (j n : Nat)
def TC (m : Option Mu) (i s len : Nat) (c : Option Nat) : Prop:=
 match m with
 | some (.old j)=>i = j
 | some (.cut j n)=>i = j /\ (c = none -> s + len <= n)
 | _=>False
def D.isNil : D -> Bool
 | .fs []=>true
 | _=>false
def D.isTup : D -> Bool
 | .tup _=>true
 | _=>false
def D.parts : D -> List D
 | .tup l=>l
 | _=>[]
mutual
def wk (μ : List Mu) : AV -> AV -> Prop
 | _,.junk=>True
 | .d x,.d y=>x = y
 | .nilS,.nilS=>True
 | .nilS,.sl id s l k c=>μ[id]? = some (.void k) /\ s = 0 /\ l = 0 /\ c = none
 | .ptr i e o,.ptr i' e' o'=>μ[i']? = some (.old i) /\ e = e' /\ o = o'
 | .sl i s l k c,.sl i' s' l' k' c'=>TC μ[i']? i s l c /\ s = s' /\ l = l' /\ k = k' /\ c = c'
 | .agg l,.agg l'=>io μ l l'
 | .nilS,.d x=>x.isNil = true
 | .agg l,.d x=>x.isAgg = true /\ io μ l (x.cells.map .d)
 | .tup l,.d x=>x.isTup = true /\ io μ l (x.parts.map .d)
 | .fn f a c,.fn f' a' c'=>f = f' /\ io μ a a' /\ io μ c c'
 | .tup l,.tup l'=>io μ l l'
 | .raw v,.raw u=>v = u
 | .und,.und=>True
 | .mp i,.mp i'=>μ[i']? = some (.old i)
 | _,_=>False
def io (μ : List Mu) : List AV -> List AV -> Prop
 | [],[]=>True
 | a :: l,b :: r=>wk μ a b /\ io μ l r
 | _,_=>False
end
def Gu (s s1 : Nat) : Prop:=aR (Nat.beq s 3) False (s = s1)
theorem iz {s s1 : Nat} (h : Gu s s1) : s = s1 /\ s ≠ 3:=by
 unfold Gu at h
 cases hb : Nat.beq s 3 with
 | true=>rw [hb] at h;exact h.elim
 | false=>
  rw [hb] at h
  refine ⟨h,fun e=>?_⟩
  subst e
  cases hb
def QH (μ : List Mu) (h : ae) (m : Mu) (o1 : AO) : Prop:=
 match m with
 | .void k=>o1.elems = [] /\ o1.k = k /\ 0 < k /\ o1.st = 0
 | .old j=>cX h j (fun o=>o.k = o1.k /\ o.st = o1.st /\ ((∃ l : List D,o.elems = l.map .d /\ o1.elems = l.map .d) \/ io μ o.elems o1.elems))
 | .dead=>o1.st = 2
 | .cut j n=>cX h j (fun o=>o.k = o1.k /\ Gu o.st o1.st /\ ∃ l0 rest : List AV,o.elems = l0 ++ rest /\ n = l0.length /\ ((∃ l : List D,l0 = l.map .d /\ o1.elems = l.map .d) \/ io μ l0 o1.elems))
def Kl (μ : List Mu) (h : ae) : List Mu -> List AO -> Prop
 | [],[]=>True
 | m :: l,o :: r=>QH μ h m o /\ Kl μ h l r
 | _,_=>False
def iE (V : List Nat) : Nat -> Nat -> List Mu -> Bool
 | 0,_,_=>true
 | n + 1,i,.old j :: l=>Nat.beq i j && iE V n (i + 1) l
 | n + 1,i,.dead :: l=>V.any (Nat.beq i) && iE V n (i + 1) l
 | _,_,_=>false
def lV : List Mu -> List Nat
 | []=>[]
 | .old j :: l=>j :: lV l
 | .void _ :: l=>lV l
 | .dead :: l=>lV l
 | .cut j _ :: l=>j :: lV l
def tf : List Nat -> Bool
 | []=>true
 | x :: l=>!l.any (Nat.beq x) && tf l
def Wk (V : List Nat) (n0 : Nat) (T : List AV) (h : ae) (T1 : List AV) (h1 : ae) : Prop:=
 ∃ μ : List Mu,iE V n0 0 μ = true /\ tf (lV μ) = true /\ io μ T T1 /\ Kl μ h μ h1
def P2 (T T1 : List AV) : Prop:=T1.length = T.length /\ ∀ i,g9 T1 i = .junk \/ g9 T1 i = g9 T i
def DX (V : List Nat) (n0 : Nat) (T : List AV) (h : ae) (T1 : List AV) (h1 : ae) : Prop:=(h1 = h /\ P2 T T1) \/ Wk V n0 T h T1 h1
def qF (V : List Nat) (n0 : Nat) (W : List AV -> ae -> (Ex -> List AV -> ae -> Prop) -> Prop) (K : Ex -> List AV -> ae -> Prop) : Nat -> List AV -> ae -> Prop
 | 0,_,_=>False
 | n + 1,T,h=>∃ T1 h1,DX V n0 T h T1 h1 /\ W T1 h1 (fun ex T' h'=>match ex with
   | .normal=>qF V n0 W K n T' h'
   | .exit id=>K (.exit id) T' h'
   | .ret=>K .ret T' h')
def ow (T : List AV) (c : Operand) (A B : List AV -> Prop) : Prop:=
 match c with
 | .tmp t=>uv T t (fun a=>match a with
  | .d (.bool b)=>aR b (fb T t (.d (.bool true)) A) (fb T t (.d (.bool false)) B)
  | _=>False)
 | .const (.bool b)=>aR b (A T) (B T)
 | _=>False
def uq (C V : List Nat) (n0 id : Nat) (T : List AV) (h : ae) (K : List AV -> ae -> Prop) : Prop:=
 match C.any (Nat.beq id) with
 | true=>∃ T1 h1,Wk V n0 T h T1 h1 /\ K T1 h1
 | false=>K T h
def a7 (E : TE) (R : ep) (C V : List Nat) (n0 : Nat) : Code -> List AV -> ae -> (Ex -> List AV -> ae -> Prop) -> Prop
 | .skip,T,h,K=>K .normal T h
 | .region id ops false,T,h,K=>uq C V n0 id T h (fun T h=>iL E R ops.toList ops.toList T h (K .normal))
 | .region id ops true,T,h,K=>uq C V n0 id T h (fun T h=>mY E R.mute ops.toList T h (K .normal))
 | .seq a b,T,h,K=>a7 E R C V n0 a T h (fun ex T h=>match ex with
   | .normal=>a7 E R C V n0 b T h K
   | .exit id=>K (.exit id) T h
   | .ret=>K .ret T h)
 | .cond c a b,T,h,K=>ow T c (fun T=>a7 E R C V n0 a T h K) (fun T=>a7 E R C V n0 b T h K)
 | .block id c,T,h,K=>a7 E R C V n0 c T h (fun ex T h=>match ex with
   | .normal=>K .normal T h
   | .exit i=>aR (Nat.beq i id) (K .normal T h) (K (.exit i) T h)
   | .ret=>K .ret T h)
 | .loop c,T,h,K=>∃ n,qF V n0 (a7 E R C V n0 c) K n T h
 | .exit id,T,h,K=>K (.exit id) T h
 | .ret,T,h,K=>K .ret T h
 | _,_,_,_=>False
def ij (E : TE) (h : ae) (T : List AV) : List ResultVar -> (List AV -> Prop) -> Prop
 | [],K=>K []
 | .tmp t :: l,K=>uv T t (fun v=>ij E h T l (fun r=>K (v :: r)))
 | .cell a t :: l,K=>uv T a (fun a=>jX (E t) a h (fun v=>ij E h T l (fun r=>K (v :: r))))
def gj : List AV -> AV
 | [v]=>v
 | l=>.tup l
def nZ (V : List Nat) (n0 : Nat) (h : ae) (a r : AV) (h1 : ae) : Prop:=
 Wk V n0 [a] h [r] h1 \/ ∃ x,bl 8 h a = some x /\ r = .d x /\ Wk V n0 [] (freeze h (bC 8 h a)) [] h1
def wF (E : TE) (V : List Nat) (n0 : Nat) (rs : List ResultVar) (r : AV) (h1 : ae) : Ex -> List AV -> ae -> Prop
 | .exit _,_,_=>False
 | .normal,T,h=>ij E h T rs (fun l=>nZ V n0 h (gj l) r h1 \/ (gj l = r /\ h = h1))
 | .ret,T,h=>ij E h T rs (fun l=>nZ V n0 h (gj l) r h1 \/ (gj l = r /\ h = h1))
end Dw
namespace Dw
open Go Go.RowKit
structure qR where
 b : Nat
 o : Nat
 k : Nat
 n : Nat
 m : Nat
structure St where
 n : Nat
 ρ : Nat -> Option qR
 S : Nat -> Prop
 G : Nat -> Prop
 U : Nat -> Prop
 S0 : Nat -> Prop
def ft (w : World) (b : Nat) : Nat -> List Value -> Prop
 | _,[]=>True
 | o,v :: vs=>w.cell? ⟨b,o,none⟩ = some v /\ ft w b (o + 1) vs
def fM : Value -> Bool
 | .agg _=>false
 | .tuple _=>false
 | _=>true
def D.one : D -> Bool
 | .agg _=>false
 | .tup _=>false
 | _=>true
def AV.cellOk : AV -> Bool
 | .junk=>true
 | a=>a.one
mutual
def cC (w : World) (S : Nat -> Prop) : D -> List Value -> Prop
 | .int k n,vs=>vs = [.int k n]
 | .bool b,vs=>vs = [.bool b]
 | .str s,vs=>vs = [.string ⟨s.toArray⟩]
 | .agg l,vs=>fV w S l vs
 | .fs l,vs=>∃ a c,vs = [.slice a l.length c] /\ l.length <= c /\ (l ≠ [] -> ∃ b o k,a = some ⟨b,o,none⟩ /\ S b /\ 0 < k /\ ol w S b k l o)
 | .fp x off,vs=>∃ b o us,vs = [.pointer (some ⟨b,o + off,none⟩)] /\ S b /\ cC w S x us /\ ft w b o us
 | .fn f a c,vs=>∃ us ts,vs = [.func (.func f) us.toArray ts.toArray] /\ iX w S a us /\ iX w S c ts
 | .tup l,vs=>∃ us,vs = [.tuple us.toArray] /\ iX w S l us
def fV (w : World) (S : Nat -> Prop) : List D -> List Value -> Prop
 | [],vs=>vs = []
 | x :: l,vs=>∃ v r,vs = v :: r /\ x.one = true /\ cC w S x [v] /\ fV w S l r
def iX (w : World) (S : Nat -> Prop) : List D -> List Value -> Prop
 | [],vs=>vs = []
 | x :: l,vs=>∃ v r us,vs = v :: r /\ (if x.isAgg then v = .agg us.toArray else us = [v]) /\ cC w S x us /\ iX w S l r
def ol (w : World) (S : Nat -> Prop) (b k : Nat) : List D -> Nat -> Prop
 | [],_=>True
 | x :: l,o=>∃ us,us.length = k /\ cC w S x us /\ ft w b o us /\ ol w S b k l (o + k)
end
def cV (w : World) (S : Nat -> Prop) (x : D) (v : Value) : Prop:=∃ us,(if x.isAgg then v = .agg us.toArray else us = [v]) /\ cC w S x us
mutual
def aC (w : World) (st : St) : AV -> List Value -> Prop
 | .d x,vs=>cC w st.S x vs
 | .nilS,vs=>∃ a,vs = [.slice a 0 0]
 | .ptr id e off,vs=>∃ b o,vs = [.pointer (some ⟨b,o,none⟩)] /\ id < st.n /\ ¬ st.G id /\ ∀ r,st.ρ id = some r -> b = r.b /\ o = r.o + e * r.k + off
 | .sl id s len k cap, vs => ∃ a c, vs = [.slice a len c] /\ id < st.n /\ ¬ st.G id /\ len <= c /\ (c ≠ 0 -> ∃ b o, a = some ⟨b, o, none⟩) /\ (∀ c', cap = some c' -> c = c') /\
   ∀ r,st.ρ id = some r -> r.k = k /\ s + c <= r.m /\ (c ≠ 0 -> a = some ⟨r.b,r.o + s * r.k,none⟩) /\ (cap = none -> s + len <= r.n /\ r.n <= s + c)
 | .agg l,vs=>fO w st l vs
 | .fn f a c,vs=>∃ us ts,vs = [.func (.func f) us.toArray ts.toArray] /\ cS w st a us /\ cS w st c ts
 | .tup l,vs=>∃ us,vs = [.tuple us.toArray] /\ cS w st l us
 | .raw v,vs=>vs = [v]
 | .und,vs=>vs = [undef]
 | .junk,_=>True
 | .mp id,vs=>∃ b,vs = [.map (some b)] /\ id < st.n /\ ¬ st.G id /\ ∀ r,st.ρ id = some r -> b = r.b
def fO (w : World) (st : St) : List AV -> List Value -> Prop
 | [],vs=>vs = []
 | x :: l,vs=>∃ v r,vs = v :: r /\ x.cellOk = true /\ aC w st x [v] /\ fO w st l r
def cS (w : World) (st : St) : List AV -> List Value -> Prop
 | [],vs=>vs = []
 | x :: l,vs=>∃ v r us,vs = v :: r /\ (if x.isAgg then v = .agg us.toArray else us = [v]) /\ aC w st x us /\ cS w st l r
end
def mW (w : World) (S : Nat -> Prop) : Prop:=∀ g x,B7 g = some x -> cC w S (.fp x 0) [.pointer (some ⟨g,0,none⟩)]
def aV (w : World) (st : St) (x : AV) (v : Value) : Prop:=∃ us,(if x.isAgg then v = .agg us.toArray else us = [v]) /\ aC w st x us
theorem bE {w : World} {b : Nat} : ∀ (vs : List Value) (o : Nat),ft w b o vs ↔ ∀ j v,vs[j]? = some v -> w.cell? ⟨b,o + j,none⟩ = some v
 | [],o=>by simp [ft]
 | v :: vs,o=>by
  simp only [ft,bE vs]
  constructor
  ·rintro ⟨h0,h⟩ j u hj
   cases j with
   | zero=>simp at hj;subst hj;simpa using h0
   | succ j=>have:=h j u (by simpa using hj);rw [show o + (j + 1) = o + 1 + j by omega];exact this
  ·intro h
   refine ⟨by simpa using h 0 v (by simp),fun j u hj=>?_⟩
   have:=h (j + 1) u (by simpa using hj)
   rw [show o + 1 + j = o + (j + 1) by omega];exact this
theorem dW {w w' : World} {b : Nat} (hb : w'.heap[b]? = w.heap[b]?) {vs : List Value} {o : Nat} (h : ft w b o vs) : ft w' b o vs:=by
 rw [bE] at *
 intro j v hj
 rw [<- h j v hj]
 exact World.cell?_of_block (a:=⟨b,o + j,none⟩) hb
mutual
theorem gq {w w' : World} {S S' : Nat -> Prop} (hS : ∀ b,S b -> S' b /\ w'.heap[b]? = w.heap[b]?) : ∀ (x : D) (vs : List Value),cC w S x vs -> cC w' S' x vs
 | .int k n,vs,h=>by simpa [cC] using h
 | .bool b,vs,h=>by simpa [cC] using h
 | .str s,vs,h=>by simpa [cC] using h
 | .agg l,vs,h=>by simp only [cC] at *;exact yg hS l vs h
 | .fs l,vs,h=>by
  simp only [cC] at *
  obtain ⟨a,c,h1,h2,h3⟩:=h
  refine ⟨a,c,h1,h2,fun hl=>?_⟩
  obtain ⟨b,o,k,e1,e2,e3,e4⟩:=h3 hl
  exact ⟨b,o,k,e1,(hS b e2).1,e3,uN hS b k (hS b e2).2 l o e4⟩
 | .fp x off,vs,h=>by
  simp only [cC] at *
  obtain ⟨b,o,us,h1,h2,h3,h4⟩:=h
  exact ⟨b,o,us,h1,(hS b h2).1,gq hS x us h3,dW (hS b h2).2 h4⟩
 | .fn f a c,vs,h=>by
  simp only [cC] at *
  obtain ⟨us,ts,h1,h2,h3⟩:=h
  exact ⟨us,ts,h1,eW hS a us h2,eW hS c ts h3⟩
 | .tup l,vs,h=>by
  simp only [cC] at *
  obtain ⟨us,h1,h2⟩:=h
  exact ⟨us,h1,eW hS l us h2⟩
theorem yg {w w' : World} {S S' : Nat -> Prop} (hS : ∀ b,S b -> S' b /\ w'.heap[b]? = w.heap[b]?) : ∀ (l : List D) (vs : List Value),fV w S l vs -> fV w' S' l vs
 | [],vs,h=>by simpa [fV] using h
 | x :: l,vs,h=>by
  simp only [fV] at *
  obtain ⟨v,r,h1,h2,h3,h4⟩:=h
  exact ⟨v,r,h1,h2,gq hS x [v] h3,yg hS l r h4⟩
theorem eW {w w' : World} {S S' : Nat -> Prop} (hS : ∀ b,S b -> S' b /\ w'.heap[b]? = w.heap[b]?) : ∀ (l : List D) (vs : List Value),iX w S l vs -> iX w' S' l vs
 | [],vs,h=>by simpa [iX] using h
 | x :: l,vs,h=>by
  simp only [iX] at *
  obtain ⟨v,r,us,h1,h2,h3,h4⟩:=h
  exact ⟨v,r,us,h1,h2,gq hS x us h3,eW hS l r h4⟩
theorem uN {w w' : World} {S S' : Nat -> Prop} (hS : ∀ b,S b -> S' b /\ w'.heap[b]? = w.heap[b]?) (b k : Nat) (hb : w'.heap[b]? = w.heap[b]?) : ∀ (l : List D) (o : Nat),ol w S b k l o -> ol w' S' b k l o
 | [],o,h=>by simp [ol]
 | x :: l,o,h=>by
  simp only [ol] at *
  obtain ⟨us,h1,h2,h3,h4⟩:=h
  exact ⟨us,h1,gq hS x us h2,dW hb h3,uN hS b k hb l (o + k) h4⟩
end
mutual
theorem wr {w w' : World} {S S' : Nat -> Prop} : ∀ (x : D) (vs : List Value),x.flat = true -> cC w S x vs -> cC w' S' x vs
 | .int k n,vs,_,h=>by simpa [cC] using h
 | .bool b,vs,_,h=>by simpa [cC] using h
 | .str s,vs,_,h=>by simpa [cC] using h
 | .agg l,vs,hf,h=>by simp only [cC] at *;exact yf l vs (by simpa [D.flat] using hf) h
 | .fs l,vs,hf,h=>by simp [D.flat] at hf
 | .fp x off,vs,hf,h=>by simp [D.flat] at hf
 | .fn f a c,vs,hf,h=>by simp [D.flat] at hf
 | .tup l,vs,hf,h=>by
  simp only [cC] at *
  obtain ⟨us,h1,h2⟩:=h
  exact ⟨us,h1,yh l us (by simpa [D.flat] using hf) h2⟩
theorem yf {w w' : World} {S S' : Nat -> Prop} : ∀ (l : List D) (vs : List Value),D.flat.flats l = true -> fV w S l vs -> fV w' S' l vs
 | [],vs,_,h=>by simpa [fV] using h
 | x :: l,vs,hf,h=>by
  simp only [fV] at *
  simp only [D.flat.flats,Bool.and_eq_true] at hf
  obtain ⟨v,r,h1,h2,h3,h4⟩:=h
  exact ⟨v,r,h1,h2,wr x [v] hf.1 h3,yf l r hf.2 h4⟩
theorem yh {w w' : World} {S S' : Nat -> Prop} : ∀ (l : List D) (vs : List Value),D.flat.flats l = true -> iX w S l vs -> iX w' S' l vs
 | [],vs,_,h=>by simpa [iX] using h
 | x :: l,vs,hf,h=>by
  simp only [iX] at *
  simp only [D.flat.flats,Bool.and_eq_true] at hf
  obtain ⟨v,r,us,h1,h2,h3,h4⟩:=h
  exact ⟨v,r,us,h1,h2,wr x us hf.1 h3,yh l r hf.2 h4⟩
end
theorem kp {w : World} {S : Nat -> Prop} : ∀ (l : List D) (vs : List Value),fV w S l vs -> vs.length = l.length
 | [],vs,h=>by simp only [fV] at h;simp [h]
 | x :: l,vs,h=>by
  simp only [fV] at h
  obtain ⟨v,r,rfl,_,_,h4⟩:=h
  simp [kp l r h4]
theorem ip {w : World} {S : Nat -> Prop} (x : D) (vs : List Value) (h : cC w S x vs) : vs.length = x.cells.length:=by
 cases x<;>simp only [cC] at h
 case agg l=>simpa [D.cells] using kp l vs h
 case fs l=>obtain ⟨a,c,rfl,_⟩:=h;rfl
 case fp x off=>obtain ⟨b,o,us,rfl,_⟩:=h;rfl
 case fn f a c=>obtain ⟨us,ts,rfl,_⟩:=h;rfl
 case tup l=>obtain ⟨us,rfl,_⟩:=h;rfl
 all_goals (subst h;rfl)
theorem eV {w : World} {S : Nat -> Prop} {b k : Nat} : ∀ (l : List D) (o : Nat),ol w S b k l o ↔ ∀ i x,l[i]? = some x -> ∃ us,us.length = k /\ cC w S x us /\ ft w b (o + i * k) us
 | [],o=>by simp [ol]
 | y :: l,o=>by
  simp only [ol,eV l]
  constructor
  ·rintro ⟨us,h1,h2,h3,h4⟩ i x hx
   cases i with
   | zero=>simp at hx;subst hx;exact ⟨us,h1,h2,by simpa using h3⟩
   | succ i=>
    obtain ⟨us,e1,e2,e3⟩:=h4 i x (by simpa using hx)
    exact ⟨us,e1,e2,by rw [show o + (i + 1) * k = o + k + i * k by rw [Nat.add_mul];omega];exact e3⟩
  ·intro h
   obtain ⟨us,h1,h2,h3⟩:=h 0 y (by simp)
   refine ⟨us,h1,h2,by simpa using h3,fun i x hx=>?_⟩
   obtain ⟨us,e1,e2,e3⟩:=h (i + 1) x (by simpa using hx)
   exact ⟨us,e1,e2,by rw [show o + k + i * k = o + (i + 1) * k by rw [Nat.add_mul];omega];exact e3⟩
structure dO (w : World) (st : St) (w' : World) (st' : St) : Prop where
 n : st.n <= st'.n
 ρ : ∀ id,id < st.n -> ¬ st.G id -> ∀ r,st'.ρ id = some r -> st.ρ id = some r
 S : ∀ b,st.S b -> st'.S b /\ w'.heap[b]? = w.heap[b]?
 G : ∀ id,id < st.n -> st'.G id -> st.G id
 U : st'.U = st.U /\ st'.S0 = st.S0 /\ ∀ b,st.U b -> w'.heap[b]? = w.heap[b]?
theorem dO.refl (w : World) (st : St) : dO w st w st:=⟨Nat.le_refl _,fun _ _ _ _ h=>h,fun _ h=>⟨h,rfl⟩,fun _ _ h=>h,rfl,rfl,fun _ _=>rfl⟩
theorem dO.trans {w1 w2 w3 : World} {s1 s2 s3 : St} (h : dO w1 s1 w2 s2) (k : dO w2 s2 w3 s3) : dO w1 s1 w3 s3 where
 n:=Nat.le_trans h.n k.n
 ρ id hid hg r hr:=h.ρ id hid hg r (k.ρ id (Nat.lt_of_lt_of_le hid h.n) (fun hg'=>hg (h.G id hid hg')) r hr)
 S b hb:=⟨(k.S b (h.S b hb).1).1,(k.S b (h.S b hb).1).2.trans (h.S b hb).2⟩
 G id hid hg:=h.G id hid (k.G id (Nat.lt_of_lt_of_le hid h.n) hg)
 U:=⟨k.U.1.trans h.U.1,k.U.2.1.trans h.U.2.1,fun b hb=>(k.U.2.2 b (by rw [h.U.1];exact hb)).trans (h.U.2.2 b hb)⟩
structure qS (w : World) (st : St) (w' : World) (st' : St) : Prop where
 n : st.n <= st'.n
 ρ : ∀ id,id < st.n -> ¬ st.G id -> ∀ r,st'.ρ id = some r -> st.ρ id = some r
 S : ∀ b,st.S b -> st'.S b /\ w'.heap[b]? = w.heap[b]?
 G : ∀ id,id < st.n -> st'.G id -> st.G id
theorem dO.c {w w' : World} {st st' : St} (h : dO w st w' st') : qS w st w' st':=⟨h.n,h.ρ,h.S,h.G⟩
mutual
theorem lq {w w' : World} {st st' : St} (hE : qS w st w' st') : ∀ (x : AV) (vs : List Value),aC w st x vs -> aC w' st' x vs
 | .d x,vs,h=>by simp only [aC] at *;exact gq hE.S x vs h
 | .nilS,vs,h=>by simpa [aC] using h
 | .ptr id e off,vs,h=>by
  simp only [aC] at *
  obtain ⟨b,o,h1,h3,h4,h5⟩:=h
  exact ⟨b,o,h1,Nat.lt_of_lt_of_le h3 hE.n,fun hg=>h4 (hE.G id h3 hg),fun r hr=>h5 r (hE.ρ id h3 h4 r hr)⟩
 | .sl id s len k cap,vs,h=>by
  simp only [aC] at *
  obtain ⟨a,c,h1,h3,h4,h5,h6,h7,h8⟩:=h
  exact ⟨a,c,h1,Nat.lt_of_lt_of_le h3 hE.n,fun hg=>h4 (hE.G id h3 hg),h5,h6,h7,fun r hr=>h8 r (hE.ρ id h3 h4 r hr)⟩
 | .agg l,vs,h=>by simp only [aC] at *;exact uF hE l vs h
 | .fn f a c,vs,h=>by
  simp only [aC] at *
  obtain ⟨us,ts,h1,h2,h3⟩:=h
  exact ⟨us,ts,h1,me hE a us h2,me hE c ts h3⟩
 | .tup l,vs,h=>by
  simp only [aC] at *
  obtain ⟨us,h1,h2⟩:=h
  exact ⟨us,h1,me hE l us h2⟩
 | .raw v,vs,h=>by simpa [aC] using h
 | .und,vs,h=>by simpa [aC] using h
 | .junk,vs,h=>by simp [aC]
 | .mp id,vs,h=>by
  simp only [aC] at *
  obtain ⟨b,h1,h3,h4,h5⟩:=h
  exact ⟨b,h1,Nat.lt_of_lt_of_le h3 hE.n,fun hg=>h4 (hE.G id h3 hg),fun r hr=>h5 r (hE.ρ id h3 h4 r hr)⟩
theorem uF {w w' : World} {st st' : St} (hE : qS w st w' st') : ∀ (l : List AV) (vs : List Value),fO w st l vs -> fO w' st' l vs
 | [],vs,h=>by simpa [fO] using h
 | x :: l,vs,h=>by
  simp only [fO] at *
  obtain ⟨v,r,h1,h2,h3,h4⟩:=h
  exact ⟨v,r,h1,h2,lq hE x [v] h3,uF hE l r h4⟩
theorem me {w w' : World} {st st' : St} (hE : qS w st w' st') : ∀ (l : List AV) (vs : List Value),cS w st l vs -> cS w' st' l vs
 | [],vs,h=>by simpa [cS] using h
 | x :: l,vs,h=>by
  simp only [cS] at *
  obtain ⟨v,r,us,h1,h2,h3,h4⟩:=h
  exact ⟨v,r,us,h1,h2,lq hE x us h3,me hE l r h4⟩
end
theorem ic {w w' : World} {st st' : St} (hE : dO w st w' st') : ∀ (x : AV) (vs : List Value),aC w st x vs -> aC w' st' x vs:=lq hE.c
theorem mW.mono {w w' : World} {S S' : Nat -> Prop} (hS : ∀ b,S b -> S' b /\ w'.heap[b]? = w.heap[b]?) (h : mW w S) : mW w' S':=fun g x e=>gq hS _ _ (h g x e)
theorem dF {w w' : World} {st st' : St} (hE : qS w st w' st') {x : AV} {v : Value} (h : aV w st x v) : aV w' st' x v:=by
 obtain ⟨us,h1,h2⟩:=h
 exact ⟨us,h1,lq hE x us h2⟩
theorem Iw {w w' : World} {st st' : St} (hE : dO w st w' st') {x : AV} {v : Value} (h : aV w st x v) : aV w' st' x v:=by
 obtain ⟨us,h1,h2⟩:=h
 exact ⟨us,h1,ic hE x us h2⟩
theorem dS {w : World} {st : St} : ∀ (l : List AV) (vs : List Value),cS w st l vs ↔ vs.length = l.length /\ ∀ (i : Nat) (x : AV) (v : Value),l[i]? = some x -> vs[i]? = some v -> aV w st x v
 | [],vs=>by simp [cS,aV,List.length_eq_zero_iff]
 | x :: l,vs=>by
  simp only [cS,dS l]
  constructor
  ·rintro ⟨v,r,us,rfl,h2,h3,h4,h5⟩
   refine ⟨by simp [h4],fun i y u hy hu=>?_⟩
   cases i with
   | zero=>simp at hy hu;subst hy;subst hu;exact ⟨us,h2,h3⟩
   | succ i=>exact h5 i y u (by simpa using hy) (by simpa using hu)
  ·rintro ⟨hl,h⟩
   cases vs with
   | nil=>simp at hl
   | cons v r=>
    obtain ⟨us,h1,h2⟩:=h 0 x v (by simp) (by simp)
    exact ⟨v,r,us,rfl,h1,h2,by simpa using hl,fun i y u hy hu=>h (i + 1) y u (by simpa using hy) (by simpa using hu)⟩
theorem bW {w : World} {st : St} : ∀ (l : List AV) (vs : List Value),fO w st l vs -> vs.length = l.length
 | [],vs,h=>by simp only [fO] at h;simp [h]
 | x :: l,vs,h=>by
  simp only [fO] at h
  obtain ⟨v,r,rfl,_,_,h4⟩:=h
  simp [bW l r h4]
theorem D.one_av {x : D} : (AV.d x).one = x.one:=by cases x<;>rfl
theorem wt {w : World} {st : St} : ∀ (l : List D) (vs : List Value),fV w st.S l vs -> fO w st (l.map .d) vs
 | [],vs,h=>by simpa [fO,fV] using h
 | x :: l,vs,h=>by
  simp only [fV] at h
  obtain ⟨v,r,h1,h2,h3,h4⟩:=h
  simp only [List.map_cons,fO]
  exact ⟨v,r,h1,by show (AV.d x).one = true;rw [D.one_av];exact h2,by simpa [aC] using h3,wt l r h4⟩
theorem iw {w : World} {st : St} {x : AV} {us : List Value} (ha : x.isAgg = true) (h : aC w st x us) : fO w st x.cells us:=by
 cases x<;>simp [AV.isAgg] at ha
 case agg l=>simpa [aC,AV.cells] using h
 case d x=>
  cases x<;>simp at ha
  case agg l=>simp only [aC,cC] at h;exact wt l us h
theorem go {w : World} {st : St} : ∀ (l : List AV) (vs : List Value) (i : Nat) (x : AV),fO w st l vs -> l[i]? = some x -> ∃ v,vs[i]? = some v /\ x.cellOk = true /\ aC w st x [v]
 | [],_,_,_,_,hx=>by simp at hx
 | y :: l,vs,i,x,h,hx=>by
  simp only [fO] at h
  obtain ⟨v,r,rfl,h2,h3,h4⟩:=h
  cases i with
  | zero=>simp at hx;subst hx;exact ⟨v,by simp,h2,h3⟩
  | succ i=>
   obtain ⟨u,e1,e2⟩:=go l r i x h4 (by simpa using hx)
   exact ⟨u,by simpa using e1,e2⟩
theorem wb {w : World} {st : St} : ∀ (l : List AV) (vs : List Value),vs.length = l.length -> (∀ (i : Nat) (x : AV) (v : Value),l[i]? = some x -> vs[i]? = some v -> x.cellOk = true /\ aC w st x [v]) -> fO w st l vs
 | [],vs,hl,_=>by simp only [fO];exact List.length_eq_zero_iff.1 hl
 | y :: l,[],hl,_=>by simp at hl
 | y :: l,v :: r,hl,h=>by
  simp only [fO]
  obtain ⟨h1,h2⟩:=h 0 y v (by simp) (by simp)
  exact ⟨v,r,rfl,h1,h2,wb l r (by simpa using hl) fun i x u hx hu=>h (i + 1) x u (by simpa using hx) (by simpa using hu)⟩
theorem xQ {w : World} {st : St} {l : List AV} {vs : List Value} (h : fO w st l vs) (n : Nat) : fO w st (l.drop n) (vs.drop n):=by
 refine wb _ _ (by simp [bW l vs h]) fun i x v hx hv=>?_
 rw [List.getElem?_drop] at hx hv
 obtain ⟨u,e1,e2⟩:=go l vs _ x h hx
 rw [hv] at e1;cases e1;exact e2
theorem xS {w : World} {st : St} {l : List AV} {vs : List Value} (h : fO w st l vs) (n : Nat) : fO w st (l.take n) (vs.take n):=by
 refine wb _ _ (by simp [bW l vs h]) fun i x v hx hv=>?_
 rw [List.getElem?_take] at hx hv
 split at hx
 ·rename_i hi
  rw [if_pos hi] at hv
  obtain ⟨u,e1,e2⟩:=go l vs _ x h hx
  rw [hv] at e1;cases e1;exact e2
 ·cases hx
structure rH (B : Nat) (w : World) (st : St) (r : qR) (o : AO) : Prop where
 n : r.n = o.elems.length
 m : r.n <= r.m
 k : r.k = o.k
 k0 : 0 < r.k
 mem : r.m ≠ 0 -> B <= r.b /\ ∃ cs e fr,w.heap[r.b]? = some (.cells cs e fr) /\ r.o + r.m * r.k <= cs.size /\ (∀ j,r.o <= j -> (j < r.o + r.m * r.k \/ (r.k ≠ 1 /\ j = cs.size)) -> ¬ (fr.1 <= j /\ j < fr.2)) /\
  ∀ i x,o.elems[i]? = some x -> ∃ us,us.length = r.k /\ aC w st x us /\ ft w r.b (r.o + i * r.k) us
def cL : D -> Value
 | .int k n=>.int k n
 | .bool b=>.bool b
 | .str s=>.string ⟨s.toArray⟩
 | _=>undef
def B5 (w : World) (b : Nat) (l : List AV) : Prop:=
 ∃ es : Array MapEntry,w.heap[b]? = some (.map es es.size) /\ es.size = l.length /\ (∀ (i : Nat) (e : MapEntry),es[i]? = some e -> e.born = i) /\
  ∀ (i : Nat) (x : AV),l[i]? = some x -> x = .junk \/ ∃ (k v : D) (e : MapEntry),x = .d (.agg [k,v]) /\ es[i]? = some e /\ e.key = cL k /\ e.val = cL v
structure DV (B : Nat) (w : World) (r : qR) (o : AO) : Prop where
 m : r.m ≠ 0
 low : B <= r.b
 at_ : B5 w r.b o.elems
structure XW (w : World) (st : St) : Prop where
 own : ∀ id r,st.ρ id = some r -> r.m ≠ 0 -> ¬ st.U r.b
 low : ∀ b,st.S b -> st.S0 b \/ ¬ st.U b
 ub : ∀ b,st.U b -> b < w.heap.size
structure WR (B : Nat) (W w : World) (st : St) (h : ae) : Prop where
 below : Below B W w
 base : B <= w.heap.size
 seat : mW w st.S
 len : st.n = h.length
 obj : ∀ id o,h[id]? = some o -> o.st < 2 -> ¬ st.G id -> ∃ r,st.ρ id = some r /\ rH B w st r o
 mobj : ∀ id o,h[id]? = some o -> o.st = 3 -> ¬ st.G id -> ∃ r,st.ρ id = some r /\ DV B w r o
 dom : ∀ id r,st.ρ id = some r -> ∃ o,h[id]? = some o /\ (o.st < 2 \/ o.st = 3) /\ ¬ st.G id
 inj : ∀ i j r s,st.ρ i = some r -> st.ρ j = some s -> r.m ≠ 0 -> s.m ≠ 0 -> r.b = s.b -> i = j
 stab : ∀ b,st.S b -> b < w.heap.size
 live : ∀ id r o,st.ρ id = some r -> h[id]? = some o -> (o.st = 0 \/ o.st = 3) -> r.m ≠ 0 -> ¬ st.S r.b
 frz : ∀ id r o,st.ρ id = some r -> h[id]? = some o -> o.st = 1 -> r.m ≠ 0 -> st.S r.b
 gho : ∀ id,st.G id -> id < st.n
 x : XW w st
end Dw
namespace Dw
open Go Go.RowKit
def Kn : AV -> Value -> Bool
 | .d (.int k n),.int k' m=>(k == k') && decide (n = m)
 | .d (.bool b),.bool c=>b == c
 | .d (.str []),.string s=>s.data.toList.isEmpty
 | .nilS,.slice none 0 0=>true
 | .raw (.pointer none),.pointer none=>true
 | .raw .nilFunc,.nilFunc=>true
 | .raw .nilIface,.nilIface=>true
 | .raw (.map none),.map none=>true
 | .raw (.chan none),.chan none=>true
 | _,_=>false
def FN : List AV -> List Value -> Bool
 | [],[]=>true
 | x :: l,v :: r=>Kn x v && FN l r
 | _,_=>false
def M6 : AV -> Value -> Bool
 | .agg l,.agg cs=>FN l cs.toList
 | x,v=>Kn x v
def lK (ti : TI) : TypeDesc -> Bool
 | .int k=>ti.kind == 1 && ti.ik == k
 | .bool=>ti.kind == 2
 | .string=>ti.kind == 3
 | .slice e=>ti.kind == 4 && ti.elem == e
 | .struct fs=>ti.kind == 5 && (fs.toList.map (fun f=>(f.offset,f.type)) == ti.fields)
 | .array n e=>ti.kind == 6 && (ti.len == n && ti.elem == e)
 | .pointer e=>ti.kind == 7 && ti.elem == e
 | .func ..=>ti.kind == 8
 | .map k e=>ti.kind == 9 && (ti.len == k && ti.elem == e)
 | _=>false
def dT (P : Program) (leaves : Nat -> Option (List Nat)) : List Field -> Nat -> Option (List Nat)
 | [],_=>some []
 | f :: fs,off=>
  if f.name ≠ "_" /\ f.offset = off then
   match leaves f.type with
   | some l=>if (P.info? f.type).map (·.size) = some l.length then
     match dT P leaves fs (off + l.length) with
     | some r=>some (l ++ r)
     | none=>none
    else none
   | none=>none
  else none
def eZ (P : Program) : Nat -> Nat -> Option (List Nat)
 | 0,_=>none
 | d + 1,t=>
  match P.underlying t with
  | some (.int _)=>some [1]
  | some .bool=>some [2]
  | some .string=>some [3]
  | some (.struct fs)=>if P.stoodInHeld t then none else dT P (eZ P d) fs.toList 0
  | _=>none
def lF (P : Program) : TypeDesc -> Bool
 | .struct fs=>fs.toList.all (fun f=>(P.info? f.type).isSome)
 | _=>true
def BZ (P : Program) (t : Nat) (ti : TI) : Bool:=
 match P.info? t,P.underlying t with
 | some i,some d=>i.size == ti.size && (i.bytes == ti.bytes && (lK ti d && ((match i.zero with | some z=>M6 ti.zero z | none=>false) && ((decide (0 < ti.size) && (gQ ti ti.zero && lF P d)) &&
   (ti.leaf.isEmpty || (eZ P 20 t == some ti.leaf && P.eqGuardType P.depth t == false))))))
 | _,_=>false
def gJ (P : Program) (E : TE) : Prop:=P.follows .mixedOrders = true /\ ∀ t,(E t).kind ≠ 0 -> BZ P t (E t) = true
theorem FB {P : Program} {t : Nat} {ti : TI} (h : BZ P t ti = true) : BZ P t ti.only = true:=by
 unfold TI.only
 cases hk : Nat.beq ti.kind 4
 ·exact h
 ·have hk4 : ti.kind = 4:=Nat.eq_of_beq_eq_true hk
  unfold BZ at h ⊢
  split at h
  ·rename_i i d hi hd
   simp only [hi,hd]
   have e1 : lK { ti with len:=1 } d = lK ti d:=by cases d<;>simp [lK,hk4]
   have e2 : ∀ v,gQ { ti with len:=1 } v = gQ ti v:=fun v=>rfl
   simpa only [e1,e2] using h
  ·exact h
theorem gJ.flag {P : Program} {E : TE} (hE : gJ P E) (fl : List Nat) : gJ P (kT E fl):=by
 refine ⟨hE.1,fun t hk=>?_⟩
 unfold kT at hk ⊢
 cases hb : fl.any (Nat.beq t)
 ·rw [hb] at hk;exact hE.2 t hk
 ·rw [hb] at hk;exact FB (hE.2 t hk)
structure K7 (P : Program) (t : Nat) (ti : TI) : Prop where
 ex : ∃ i d z,P.info? t = some i /\ P.underlying t = some d /\ i.size = ti.size /\ i.bytes = ti.bytes /\ lK ti d = true /\ i.zero = some z /\ M6 ti.zero z = true /\ lF P d = true
 pos : 0 < ti.size
 zfit : gQ ti ti.zero = true
 leaf : ti.leaf ≠ [] -> eZ P 20 t = some ti.leaf /\ P.eqGuardType P.depth t = false
theorem gJ.facts {P : Program} {E : TE} (hE : gJ P E) {t : Nat} (h : (E t).kind ≠ 0) : K7 P t (E t):=by
 have h1:=hE.2 t h
 unfold BZ at h1
 split at h1
 ·rename_i i d hi hd
  simp only [Bool.and_eq_true,Bool.or_eq_true,beq_iff_eq,decide_eq_true_eq] at h1
  obtain ⟨e1,e2,e3,e4,e5,e6⟩:=h1
  cases hz : i.zero with
  | none=>simp [hz] at e4
  | some z=>
   rw [hz] at e4
   refine ⟨⟨i,d,z,hi,hd,e1,e2,e3,hz,e4,e5.2.2⟩,e5.1,e5.2.1,fun hl=>?_⟩
   rcases e6 with e6 | e6
   ·simp at e6;exact absurd e6 hl
   ·exact e6
 ·cases h1
section
variable {P : Program} {E : TE} (hE : gJ P E) {t : Nat}
include hE
theorem bx (h : (E t).kind ≠ 0) (w : World) : (Go.sizeOf t).run P w = .ok (E t).size w:=by
 obtain ⟨⟨i,d,z,h1,h2,h3,h4,h5,h6,h7,h8⟩,_,_,_⟩:=hE.facts h
 simp [Go.sizeOf,typeInfo,h1,h3]
theorem jo (h : (E t).kind ≠ 0) (w : World) : ∃ i,(typeInfo t).run P w = .ok i w /\ i.size = (E t).size /\ i.bytes = (E t).bytes:=by
 obtain ⟨⟨i,d,z,h1,h2,h3,h4,h5,h6,h7,h8⟩,_,_,_⟩:=hE.facts h
 exact ⟨i,by simp [typeInfo,h1],h3,h4⟩
theorem mJ (h : (E t).kind ≠ 0) (w : World) : (isAgg t).run P w = .ok (E t).agg w:=by
 obtain ⟨⟨i,d,z,h1,h2,h3,h4,h5,h6,h7,h8⟩,_,_,_⟩:=hE.facts h
 simp only [isAgg,Sem.run_bind,run_underlying h2,Result.andThen_ok]
 cases d<;>simp [lK] at h5<;>simp [TI.agg,h5]
theorem ka (h : (E t).kind ≠ 0) (w : World) : ∃ z,(zeroValue t).run P w = .ok z w /\ M6 (E t).zero z = true:=by
 obtain ⟨⟨i,d,z,h1,h2,h3,h4,h5,h6,h7,h8⟩,_,_,_⟩:=hE.facts h
 exact ⟨z,by simp [zeroValue,typeInfo,h1,h6],h7⟩
theorem eM (h : (E t).kind = 1) : P.underlying t = some (.int (E t).ik):=by
 obtain ⟨⟨i,d,z,h1,h2,h3,h4,h5,h6,h7,h8⟩,_,_,_⟩:=hE.facts (t:=t) (by omega)
 cases d<;>simp [lK,h] at h5
 rw [h2,h5]
theorem uc (h : (E t).kind = 2) : P.underlying t = some .bool:=by
 obtain ⟨⟨i,d,z,h1,h2,h3,h4,h5,h6,h7,h8⟩,_,_,_⟩:=hE.facts (t:=t) (by omega)
 cases d<;>simp [lK,h] at h5
 exact h2
theorem bK (h : (E t).kind = 3) : P.underlying t = some .string:=by
 obtain ⟨⟨i,d,z,h1,h2,h3,h4,h5,h6,h7,h8⟩,_,_,_⟩:=hE.facts (t:=t) (by omega)
 cases d<;>simp [lK,h] at h5
 exact h2
theorem bd (h : (E t).kind = 4) : P.underlying t = some (.slice (E t).elem):=by
 obtain ⟨⟨i,d,z,h1,h2,h3,h4,h5,h6,h7,h8⟩,_,_,_⟩:=hE.facts (t:=t) (by omega)
 cases d<;>simp [lK,h] at h5
 rw [h2,h5]
theorem Kb (h : (E t).kind = 7) : P.underlying t = some (.pointer (E t).elem):=by
 obtain ⟨⟨i,d,z,h1,h2,h3,h4,h5,h6,h7,h8⟩,_,_,_⟩:=hE.facts (t:=t) (by omega)
 cases d<;>simp [lK,h] at h5
 rw [h2,h5]
theorem rE (h : (E t).kind = 9) : P.underlying t = some (.map (E t).len (E t).elem):=by
 obtain ⟨⟨i,d,z,h1,h2,h3,h4,h5,h6,h7,h8⟩,_,_,_⟩:=hE.facts (t:=t) (by omega)
 cases d<;>simp [lK,h] at h5
 rw [h2,h5.1,h5.2]
theorem gk (h : (E t).kind = 5) : ∃ fs,P.underlying t = some (.struct fs) /\ fs.toList.map (fun f=>(f.offset,f.type)) = (E t).fields /\ ∀ f ∈ fs.toList,(P.info? f.type).isSome = true:=by
 obtain ⟨⟨i,d,z,h1,h2,h3,h4,h5,h6,h7,h8⟩,_,_,_⟩:=hE.facts (t:=t) (by omega)
 cases d<;>simp [lK,h] at h5
 exact ⟨_,h2,by simpa using h5,fun f hf=>by simp only [lF,List.all_eq_true] at h8;exact h8 f hf⟩
theorem ir (h : (E t).kind = 6) : P.underlying t = some (.array (E t).len (E t).elem):=by
 obtain ⟨⟨i,d,z,h1,h2,h3,h4,h5,h6,h7,h8⟩,_,_,_⟩:=hE.facts (t:=t) (by omega)
 cases d<;>simp [lK,h] at h5
 rw [h2,h5.1,h5.2]
theorem l9 (h : (E t).kind ≠ 0) : ∃ d,P.underlying t = some d /\ lK (E t) d = true:=by
 obtain ⟨⟨i,d,z,h1,h2,h3,h4,h5,h6,h7,h8⟩,_,_,_⟩:=hE.facts h
 exact ⟨d,h2,h5⟩
end
theorem DU {w : World} {st : St} {x : AV} {v : Value} (h : Kn x v = true) : aC w st x [v] /\ x.one = true /\ x.isAgg = false /\ v.cells = #[v]:=by
 unfold Kn at h
 split at h<;>simp_all [aC,cC,AV.one,AV.isAgg,Value.cells]
 ·rename_i s
  obtain ⟨⟨d⟩⟩:=s
  simpa using h
theorem AB {w : World} {st : St} : ∀ (l : List AV) (vs : List Value),FN l vs = true -> fO w st l vs
 | [],[],_=>by simp [fO]
 | [],_ :: _,h=>by simp [FN] at h
 | _ :: _,[],h=>by simp [FN] at h
 | x :: l,v :: r,h=>by
  simp only [FN,Bool.and_eq_true] at h
  simp only [fO]
  have:=DU (w:=w) (st:=st) h.1
  refine ⟨v,r,rfl,?_,this.1,AB l r h.2⟩
  have h1:=this.2.1
  cases x<;>simp_all [AV.cellOk,AV.one]
theorem FM {w : World} {st : St} {x : AV} {v : Value} (h : M6 x v = true) : aC w st x v.cells.toList /\ (if x.isAgg then v = .agg v.cells else v.cells = #[v]):=by
 unfold M6 at h
 split at h
 ·rename_i l cs
  refine ⟨?_,by simp [AV.isAgg,Value.cells]⟩
  simp only [aC,Value.cells]
  exact AB l cs.toList h
 ·obtain ⟨h1,h2,h3,h4⟩:=DU (w:=w) (st:=st) h
  rw [h3,h4]
  exact ⟨h1,by simp⟩
theorem kQ {w : World} {st : St} {x : AV} {v : Value} (h : M6 x v = true) : aV w st x v:=by
 obtain ⟨h1,h2⟩:=FM (w:=w) (st:=st) h
 refine ⟨v.cells.toList,?_,h1⟩
 split at h2
 ·rename_i ha;rw [if_pos ha];simpa using h2
 ·rename_i ha;rw [if_neg ha,h2]
theorem IM {w : World} {S : Nat -> Prop} {x : D} {v : Value} (h1 : x.one = true) (h : cC w S x [v]) : fM v = true:=by
 cases x<;>simp [D.one] at h1<;>simp only [cC] at h
 case fs l=>obtain ⟨a,c,e,_⟩:=h;simp at e;subst e;rfl
 case fp x off=>obtain ⟨b,o,us,e,_⟩:=h;simp at e;subst e;rfl
 case fn f a c=>obtain ⟨us,ts,e,_⟩:=h;simp at e;subst e;rfl
 all_goals (simp at h;subst h;rfl)
theorem rd {w : World} {st : St} {x : AV} {v : Value} (h1 : x.one = true) (h : aC w st x [v]) : fM v = true:=by
 cases x<;>simp only [aC] at h
 case d x=>exact IM (by rw [<- D.one_av];exact h1) h
 case nilS=>obtain ⟨a,e⟩:=h;simp at e;subst e;rfl
 case ptr=>obtain ⟨b,o,e,_⟩:=h;simp at e;subst e;rfl
 case sl=>obtain ⟨a,c,e,_⟩:=h;simp at e;subst e;rfl
 case fn=>obtain ⟨us,ts,e,_⟩:=h;simp at e;subst e;rfl
 case raw u=>simp at h;subst h;cases v<;>simp_all [AV.one,fM]
 case mp=>obtain ⟨b,e,_⟩:=h;simp at e;subst e;rfl
 all_goals (simp [AV.one] at h1)
theorem dk {w : World} {st : St} {t : TI} {x : AV} {v : Value} (hf : gQ t x = true) (h : aV w st x v) :
  ∃ us,v.cells.toList = us /\ us.length = t.size /\ aC w st x us /\ (∀ u ∈ us,fM u = true) /\ (if t.agg then v = .agg us.toArray else us = [v]) /\ fO w st x.cells us:=by
 simp only [gQ,Bool.and_eq_true,beq_iff_eq,List.all_eq_true] at hf
 obtain ⟨h1,h2,h3⟩:=hf
 obtain ⟨us,h4,h5⟩:=h
 by_cases ha : x.isAgg = true
 ·rw [if_pos ha] at h4
  have hc:=iw ha h5
  subst h4
  refine ⟨us,by simp [Value.cells],by rw [<- h2];exact bW _ _ hc,h5,?_,by rw [<- h1,ha];simp,hc⟩
  intro u hu
  obtain ⟨i,hi,rfl⟩:=List.getElem_of_mem hu
  have hl:=bW _ _ hc
  obtain ⟨u', e1, e2, e3⟩ := go x.cells us i x.cells[i] hc (by simp)
  have : us[i] = u':=by rw [List.getElem?_eq_getElem hi] at e1;exact Option.some.inj e1
  rw [this]
  exact rd (h3 _ (List.getElem_mem _)) e3
 ·have ha' : x.isAgg = false:=by simpa using ha
  rw [ha'] at h4
  simp only [Bool.false_eq_true,if_false] at h4
  subst h4
  have hcx : x.cells = [x]:=by
   cases x<;>try rfl
   case agg l=>simp [AV.isAgg] at ha'
   case d d=>cases d<;>first | rfl | (simp [AV.isAgg] at ha')
  have hx : x.one = true:=h3 x (by simp [hcx])
  have hs:=rd hx h5
  refine ⟨[v],by cases v<;>simp_all [Value.cells,fM],by rw [<- h2,hcx];rfl,h5,by simpa using hs,by rw [<- h1,ha'];simp,?_⟩
  rw [hcx]
  simp only [fO]
  exact ⟨v,[],rfl,by cases x<;>simp_all [AV.cellOk,AV.one],h5,rfl⟩
theorem BJ (v : Value) : v.oneCell' = fM v:=by cases v<;>rfl
def eK (w : World) (b : Nat) (x : Obj) : World:={ w with heap:=w.heap.setIfInBounds b x }
def tz : Array Value -> Nat -> List Value -> Array Value
 | c,_,[]=>c
 | c,o,v :: vs=>tz (c.setIfInBounds o v) (o + 1) vs
@[simp] theorem tZ : ∀ (vs : List Value) (c : Array Value) (o : Nat),(tz c o vs).size = c.size
 | [],c,o=>rfl
 | v :: vs,c,o=>by simp [tz,tZ vs]
theorem jb : ∀ (vs : List Value) (c : Array Value) (o i : Nat),o + vs.length <= c.size -> (tz c o vs)[i]? = if o <= i /\ i < o + vs.length then vs[i - o]? else c[i]?
 | [],c,o,i,_=>by simp [tz];intro h1 h2;omega
 | v :: vs,c,o,i,hs=>by
  simp only [List.length_cons] at hs
  rw [tz,jb vs _ _ _ (by simp;omega)]
  simp only [List.length_cons]
  by_cases h1 : o + 1 <= i /\ i < o + 1 + vs.length
  ·rw [if_pos h1,if_pos (by omega)]
   rw [show i - o = (i - (o + 1)) + 1 by omega]
   simp
  ·rw [if_neg h1]
   by_cases h2 : i = o
   ·subst h2
    rw [if_pos (by omega)]
    have hic : i < c.size:=by omega
    simp [hic]
   ·rw [if_neg (by omega)]
    rw [Array.getElem?_setIfInBounds_ne (by omega)]
theorem fo (w : World) (b : Nat) (x : Obj) (i : Nat) : (eK w b x).heap[i]? = if i = b /\ b < w.heap.size then some x else w.heap[i]?:=by
 simp only [eK]
 by_cases h : i = b
 ·subst h
  by_cases h2 : i < w.heap.size
  ·simp [h2]
  ·simp [h2]
 ·rw [Array.getElem?_setIfInBounds_ne (Ne.symm h),if_neg (fun hh=>h hh.1)]
@[simp] theorem M4 (w : World) (b : Nat) (x : Obj) : (eK w b x).heap.size = w.heap.size:=by simp [eK]
theorem cN {w : World} {b : Nat} {cs : Array Value} {e : Nat} {fr : Nat × Nat} (hb : w.heap[b]? = some (.cells cs e fr)) (j : Nat) : w.cell? ⟨b,j,none⟩ = cs[j]?:=by
 simp [World.cell?,hb]
theorem sO {w : World} {b : Nat} {cs : Array Value} {e : Nat} {fr : Nat × Nat} (hb : w.heap[b]? = some (.cells cs e fr)) (j : Nat) (h : ¬ (fr.1 <= j /\ j < fr.2)) : w.frozen? ⟨b,j,none⟩ = false:=by
 obtain ⟨lo,hi⟩:=fr
 simp only [World.frozen?,hb]
 simpa using h
theorem Fm {w : World} {b : Nat} {x : Obj} (h : w.heap[b]? = some x) : eK w b x = w:=by
 have : w.heap.setIfInBounds b x = w.heap:=by
  apply Array.ext_getElem?
  intro i
  by_cases hi : b = i
  ·subst hi
   have hlt : b < w.heap.size:=by
    rcases Nat.lt_or_ge b w.heap.size with h' | h'
    ·exact h'
    ·simp [Array.getElem?_eq_none h'] at h
   simp [hlt,h]
   simpa [Array.getElem?_eq_getElem hlt] using h.symm
  ·rw [Array.getElem?_setIfInBounds_ne hi]
 cases w
 simp only [eK] at *
 rw [this]
theorem Fp (w : World) (b : Nat) (x y : Obj) : eK (eK w b x) b y = eK w b y:=by
 simp only [eK]
 congr 1
 apply Array.ext_getElem?
 intro i
 by_cases hi : b = i
 ·subst hi;simp [Array.getElem?_setIfInBounds]
 ·rw [Array.getElem?_setIfInBounds_ne hi,Array.getElem?_setIfInBounds_ne hi,Array.getElem?_setIfInBounds_ne hi]
theorem Aa {w : World} {b : Nat} {cs : Array Value} {e : Nat} {fr : Nat × Nat} (hb : w.heap[b]? = some (.cells cs e fr)) (j : Nat) (v : Value) :
  w.setCell ⟨b,j,none⟩ v = eK w b (.cells (cs.setIfInBounds j v) e fr):=by
 simp only [World.setCell,eK]
 congr 1
 apply Array.ext_getElem?
 intro i
 rw [Array.getElem?_modify]
 by_cases hi : b = i
 ·subst hi
  have hlt : b < w.heap.size:=by
   rcases Nat.lt_or_ge b w.heap.size with h' | h'
   ·exact h'
   ·simp [Array.getElem?_eq_none h'] at hb
  rw [if_pos rfl,hb]
  simp [hlt]
 ·rw [if_neg hi,Array.getElem?_setIfInBounds_ne hi]
theorem cZ (b o i : Nat) : (⟨b,o,none⟩ : Addr).add i = ⟨b,o + i,none⟩:=by
 unfold Addr.add
 split
 ·rename_i h;subst h;rfl
 ·rfl
theorem dZ {P : Program} {b e : Nat} {fr : Nat × Nat} (o : Nat) : ∀ (vs : List Value) (i : Nat) (cs : Array Value) (w : World),w.heap[b]? = some (.cells cs e fr) -> o + i + vs.length <= cs.size ->
  (∀ j,o + i <= j -> j < o + i + vs.length -> ¬ (fr.1 <= j /\ j < fr.2)) -> (∀ v ∈ vs,fM v = true) ->
  (storeCells (⟨b,o,none⟩ : Addr) vs i).run P w = .ok () (eK w b (.cells (tz cs (o + i) vs) e fr))
 | [],i,cs,w,hb,_,_,_=>by simp [storeCells,tz,Fm hb]
 | v :: vs,i,cs,w,hb,hs,hf,hv=>by
  simp only [List.length_cons] at hs hf
  have hlt : b < w.heap.size:=by
   rcases Nat.lt_or_ge b w.heap.size with h' | h'
   ·exact h'
   ·simp [Array.getElem?_eq_none h'] at hb
  have hst : (store ((⟨b,o,none⟩ : Addr).add i) v).run P w = .ok () (eK w b (.cells (cs.setIfInBounds (o + i) v) e fr)):=by
   rw [run_store P w _ v .plain (by rw [BJ];exact hv v (by simp)),cZ]
   rw [cN hb,Array.getElem?_eq_getElem (by omega)]
   simp only [sO hb (o + i) (hf (o + i) (by omega) (by omega)),Bool.false_eq_true,if_false,Aa hb]
  simp only [storeCells,Sem.run_bind,hst,Result.andThen_ok]
  rw [dZ (e:=e) (fr:=fr) o vs (i + 1) (cs.setIfInBounds (o + i) v) _ (by rw [fo];simp [hlt]) (by simp;omega) (fun j h1 h2=>hf j (by omega) (by omega)) (fun u hu=>hv u (by simp [hu]))]
  rw [Fp,tz]
  simp only [Nat.add_assoc]
theorem uB {P : Program} {w : World} {a : Addr} {v : Value} (h : w.cell? a = some v) : (load a).run P w = .ok v w:=by
 rw [run_load,h]
theorem fK {P : Program} {w : World} {b o : Nat} {vs : List Value} (h : ft w b o vs) : (loadCells (⟨b,o,none⟩ : Addr) vs.length).run P w = .ok vs.toArray w:=by
 refine run_loadCells_list _ (⟨b,o,none⟩ : Addr) vs fun j v hj=>?_
 rw [cZ]
 exact (bE vs o).1 h j v hj
end Dw
namespace Dw
open Go Go.RowKit
theorem kB {w : World} {b : Nat} {x : Obj} (h : w.heap[b]? = some x) : b < w.heap.size:=by
 rcases Nat.lt_or_ge b w.heap.size with h' | h'
 ·exact h'
 ·simp [Array.getElem?_eq_none h'] at h
theorem rH.mono {B : Nat} {w w' : World} {st st' : St} {r : qR} {o : AO} (h : rH B w st r o) (hE : dO w st w' st') (hb : r.m ≠ 0 -> w'.heap[r.b]? = w.heap[r.b]?) : rH B w' st' r o where
 n:=h.n
 m:=h.m
 k:=h.k
 k0:=h.k0
 mem hm:=by
  obtain ⟨h1,cs,e,fr,h2,h3,h4,h5⟩:=h.mem hm
  refine ⟨h1,cs,e,fr,by rw [hb hm];exact h2,h3,h4,fun i x hx=>?_⟩
  obtain ⟨us,e1,e2,e3⟩:=h5 i x hx
  exact ⟨us,e1,ic hE x us e2,dW (hb hm) e3⟩
theorem rH.monoC {B : Nat} {w w' : World} {st st' : St} {r : qR} {o : AO} (h : rH B w st r o) (hE : qS w st w' st') (hb : r.m ≠ 0 -> w'.heap[r.b]? = w.heap[r.b]?) : rH B w' st' r o where
 n:=h.n
 m:=h.m
 k:=h.k
 k0:=h.k0
 mem hm:=by
  obtain ⟨h1,cs,e,fr,h2,h3,h4,h5⟩:=h.mem hm
  refine ⟨h1,cs,e,fr,by rw [hb hm];exact h2,h3,h4,fun i x hx=>?_⟩
  obtain ⟨us,e1,e2,e3⟩:=h5 i x hx
  exact ⟨us,e1,lq hE x us e2,dW (hb hm) e3⟩
theorem WR.blk_lt {B : Nat} {W w : World} {st : St} {h : ae} (hw : WR B W w st h) {id : Nat} {r : qR} (hr : st.ρ id = some r) (hm : r.m ≠ 0) : r.b < w.heap.size:=by
 obtain ⟨o,h1,h2,h3⟩:=hw.dom id r hr
 rcases h2 with h2 | h2
 ·obtain ⟨r', e1, e2⟩ := hw.obj id o h1 h2 h3
  rw [hr] at e1;cases e1
  obtain ⟨_,cs,e,fr,h4,_⟩:=e2.mem hm
  exact kB h4
 ·obtain ⟨r', e1, e2⟩ := hw.mobj id o h1 h2 h3
  rw [hr] at e1;cases e1
  obtain ⟨es,h4,_⟩:=e2.at_
  exact kB h4
theorem DV.keep {B : Nat} {w w' : World} {r : qR} {o : AO} (h : DV B w r o) (hb : w'.heap[r.b]? = w.heap[r.b]?) : DV B w' r o:=by
 refine ⟨h.m,h.low,?_⟩
 obtain ⟨es,h1,h2,h3⟩:=h.at_
 exact ⟨es,by rw [hb];exact h1,h2,h3⟩
theorem WR.same {B : Nat} {W w w' : World} {st : St} {h : ae} (hw : WR B W w st h) (hh : w'.heap = w.heap) (ht : w'.tape = w.tape) (ho : w'.os = w.os) (hu : w'.output = w.output) :
  WR B W w' st h /\ dO w st w' st:=by
 have hE : dO w st w' st:=⟨Nat.le_refl _,fun _ _ _ _ h=>h,fun b hb=>⟨hb,by rw [hh]⟩,fun _ _ h=>h,rfl,rfl,fun b _=>by rw [hh]⟩
 refine ⟨⟨hw.below.trans ⟨ho,ht,hu,by rw [hh];exact Nat.le_refl _,fun k _=>by rw [hh]⟩,by rw [hh];exact hw.base,hw.seat.mono hE.S,hw.len,fun id o h1 h2 h3=>?_,fun id o h1 h2 h3=>?_,hw.dom,hw.inj,fun b hb=>by rw [hh];exact hw.stab b hb,hw.live,hw.frz,hw.gho,hw.x.own,hw.x.low,fun b hb=>by rw [hh];exact hw.x.ub b hb⟩,hE⟩
 ·obtain ⟨r,e1,e2⟩:=hw.obj id o h1 h2 h3
  exact ⟨r,e1,e2.mono hE (fun _=>by rw [hh])⟩
 ·obtain ⟨r,e1,e2⟩:=hw.mobj id o h1 h2 h3
  exact ⟨r,e1,e2.keep (by rw [hh])⟩
def St.push (st : St) (r : qR) : St:={ n:=st.n + 1,ρ:=fun i=>if i = st.n then some r else st.ρ i,S:=st.S,G:=st.G,U:=st.U,S0:=st.S0 }
theorem WR.rho_lt {B : Nat} {W w : World} {st : St} {h : ae} (hw : WR B W w st h) {id : Nat} {r : qR} (hr : st.ρ id = some r) : id < st.n:=by
 obtain ⟨o,h1,_⟩:=hw.dom id r hr
 rw [hw.len]
 exact (List.getElem?_eq_some_iff.1 h1).1
theorem dO.push {w w' : World} {st : St} {r : qR} (hs : ∀ b,st.S b -> w'.heap[b]? = w.heap[b]?) (hu : ∀ b,st.U b -> w'.heap[b]? = w.heap[b]?) : dO w st w' (st.push r) where
 n:=Nat.le_succ _
 ρ id hid _ s hs:=by simpa [St.push,Nat.ne_of_lt hid] using hs
 S b hb:=⟨hb,hs b hb⟩
 G _ _ hg:=hg
 U:=⟨rfl,rfl,hu⟩
theorem WR.core {B : Nat} {W w w' : World} {st : St} {h : ae} {r : qR} {o : AO} (hw : WR B W w st h) (hb : Below B W w') (hsz : w.heap.size <= w'.heap.size)
  (hsame : ∀ i,i < w.heap.size -> i ≠ r.b -> w'.heap[i]? = w.heap[i]?) (hnS : ¬ st.S r.b) (hnU : ¬ st.U r.b) (hno : ∀ id s,st.ρ id = some s -> s.m ≠ 0 -> s.b ≠ r.b)
  (hobj : rH B w' (st.push r) r o) (hst : o.st = 0) : WR B W w' (st.push r) (h ++ [o]) /\ dO w st w' (st.push r):=by
 have hE : dO w st w' (st.push r):=dO.push (fun b hbS=>hsame b (hw.stab b hbS) (fun e=>hnS (e ▸ hbS))) (fun b hbU=>hsame b (hw.x.ub b hbU) (fun e=>hnU (e ▸ hbU)))
 have hlt : ∀ id s,st.ρ id = some s -> id ≠ st.n:=fun id s hs=>Nat.ne_of_lt (hw.rho_lt hs)
 refine ⟨⟨hb,Nat.le_trans hw.base hsz,hw.seat.mono hE.S,by simp [St.push,hw.len],fun id o' h1 h2 h3=>?_,fun id o' h1 h2 h3=>?_,fun id s hs=>?_,fun i j a s ha hs h1 h2 h3=>?_,fun b hbS=>Nat.lt_of_lt_of_le (hw.stab b hbS) hsz,
  fun id s o' hs h1 h2 h3=>?_,fun id s o' hs h1 h2 h3=>?_,fun id hg=>Nat.lt_of_lt_of_le (hw.gho id hg) (Nat.le_succ _),fun id s hs hm=>?_,hw.x.low,fun b hb=>Nat.lt_of_lt_of_le (hw.x.ub b hb) hsz⟩,hE⟩
 ·rw [List.getElem?_append] at h1
  split at h1
  ·rename_i hl
   obtain ⟨s,e1,e2⟩:=hw.obj id o' h1 h2 h3
   refine ⟨s,by simp [St.push,hlt id s e1,e1],e2.mono hE fun hm=>hsame s.b (hw.blk_lt e1 hm) (hno id s e1 hm)⟩
  ·rename_i hl
   have : id = h.length:=by
    rcases Nat.lt_or_ge (id - h.length) 1 with h' | h'
    ·omega
    ·simp [List.getElem?_eq_none (show [o].length <= id - h.length from h')] at h1
   subst this
   simp at h1
   subst h1
   exact ⟨r,by simp [St.push,hw.len],hobj⟩
 ·rw [List.getElem?_append] at h1
  split at h1
  ·rename_i hl
   obtain ⟨s,e1,e2⟩:=hw.mobj id o' h1 h2 h3
   refine ⟨s,by simp [St.push,hlt id s e1,e1],e2.keep (hsame s.b (hw.blk_lt e1 e2.m) (hno id s e1 e2.m))⟩
  ·rename_i hl
   have : id = h.length:=by
    rcases Nat.lt_or_ge (id - h.length) 1 with h' | h'
    ·omega
    ·simp [List.getElem?_eq_none (show [o].length <= id - h.length from h')] at h1
   subst this
   simp at h1
   subst h1
   omega
 ·simp only [St.push] at hs
  split at hs
  ·rename_i he
   cases hs
   refine ⟨o,by rw [he,hw.len];simp,by omega,fun hg=>?_⟩
   have:=hw.gho id hg
   omega
  ·obtain ⟨o', h1, h2, h3⟩ := hw.dom id s hs
   refine ⟨o', ?_, h2, h3⟩
   rw [List.getElem?_append,if_pos (List.getElem?_eq_some_iff.1 h1).1]
   exact h1
 ·simp only [St.push] at ha hs
  split at ha<;>split at hs
  ·omega
  ·cases ha;exact absurd h3.symm (hno j s hs h2)
  ·cases hs;exact absurd h3 (hno i a ha h1)
  ·exact hw.inj i j a s ha hs h1 h2 h3
 ·simp only [St.push] at hs
  split at hs
  ·cases hs;exact hnS
  ·rename_i he
   have hl : id < h.length:=by rw [<- hw.len];exact hw.rho_lt hs
   rw [List.getElem?_append,if_pos hl] at h1
   exact hw.live id s o' hs h1 h2 h3
 ·simp only [St.push] at hs
  split at hs
  ·rename_i he
   subst he
   cases hs
   rw [hw.len] at h1
   simp at h1
   subst h1
   omega
  ·have hl : id < h.length:=by rw [<- hw.len];exact hw.rho_lt hs
   rw [List.getElem?_append,if_pos hl] at h1
   exact hw.frz id s o' hs h1 h2 h3
 ·simp only [St.push] at hs
  split at hs
  ·cases hs;exact hnU
  ·exact hw.x.own id s hs hm
theorem WR.new {B : Nat} {W w : World} {st : St} {h : ae} (hw : WR B W w st h) (cs : Array Value) (e : Nat) (fr : Nat × Nat) (elems : List AV) (k m : Nat) (hk : 0 < k) (hm : elems.length <= m)
  (hsz : m * k <= cs.size) (hfr : ∀ j,(j < m * k \/ (k ≠ 1 /\ j = cs.size)) -> ¬ (fr.1 <= j /\ j < fr.2))
  (hel : ∀ i x,elems[i]? = some x -> ∃ us,us.length = k /\ aC w st x us /\ ∀ (j : Nat) (v : Value),us[j]? = some v -> cs[i * k + j]? = some v) :
  WR B W (w.alloc (.cells cs e fr)) (st.push ⟨w.heap.size,0,k,elems.length,m⟩) (h ++ [⟨elems,k,0⟩]) /\ dO w st (w.alloc (.cells cs e fr)) (st.push ⟨w.heap.size,0,k,elems.length,m⟩):=by
 have hsame : ∀ i,i < w.heap.size -> (w.alloc (.cells cs e fr)).heap[i]? = w.heap[i]?:=fun i hi=>Below.heap_alloc w _ i hi
 have hnew : (w.alloc (.cells cs e fr)).heap[w.heap.size]? = some (.cells cs e fr):=by
  show (w.heap.push _)[w.heap.size]? = _
  simp
 have hE : dO w st (w.alloc (.cells cs e fr)) (st.push ⟨w.heap.size,0,k,elems.length,m⟩):=dO.push (fun b hb=>hsame b (hw.stab b hb)) (fun b hb=>hsame b (hw.x.ub b hb))
 refine hw.core (hw.below.alloc hw.base _) (by simp) (fun i hi _=>hsame i hi) (fun hS=>by have:=hw.stab _ hS;simp at this) (fun hU=>by have:=hw.x.ub _ hU;simp at this) (fun id s hs hm=>Nat.ne_of_lt (hw.blk_lt hs hm)) ?_ rfl
 refine ⟨rfl,hm,rfl,hk,fun _=>⟨hw.base,cs,e,fr,hnew,by simpa using hsz,fun j _ hj=>hfr j (by simpa using hj),fun i x hx=>?_⟩⟩
 obtain ⟨us,e1,e2,e3⟩:=hel i x hx
 refine ⟨us,e1,ic hE x us e2,(bE us _).2 fun j v hj=>?_⟩
 rw [cN hnew]
 simpa using e3 j v hj
theorem WR.void {B : Nat} {W w : World} {st : St} {h : ae} (hw : WR B W w st h) (k : Nat) (hk : 0 < k) :
  WR B W w (st.push ⟨w.heap.size,0,k,0,0⟩) (h ++ [⟨[],k,0⟩]) /\ dO w st w (st.push ⟨w.heap.size,0,k,0,0⟩):=
 hw.core hw.below (Nat.le_refl _) (fun _ _ _=>rfl) (fun hS=>by have:=hw.stab _ hS;simp at this) (fun hU=>by have:=hw.x.ub _ hU;simp at this) (fun id s hs hm=>Nat.ne_of_lt (hw.blk_lt hs hm)) ⟨rfl,Nat.le_refl _,rfl,hk,fun h=>absurd rfl h⟩ rfl
theorem WR.write {B : Nat} {W w : World} {st : St} {h : ae} (hw : WR B W w st h) {id : Nat} {o : AO} {r : qR} (ho : h[id]? = some o) (hlive : o.st = 0) (hr : st.ρ id = some r) (hm : r.m ≠ 0)
  {cs : Array Value} {e : Nat} {fr : Nat × Nat} (hb : w.heap[r.b]? = some (.cells cs e fr)) (cs' : Array Value) (hsz : cs'.size = cs.size) (el : List AV) (hlen : el.length = o.elems.length)
  (hel : ∀ i x,el[i]? = some x -> ∃ us,us.length = r.k /\ aC w st x us /\ ∀ (j : Nat) (v : Value),us[j]? = some v -> cs'[r.o + i * r.k + j]? = some v) :
  WR B W (eK w r.b (.cells cs' e fr)) st (h.set id { o with elems:=el }) /\ dO w st (eK w r.b (.cells cs' e fr)) st:=by
 have hlt:=kB hb
 have hsame : ∀ i,i ≠ r.b -> (eK w r.b (.cells cs' e fr)).heap[i]? = w.heap[i]?:=fun i hi=>by rw [fo,if_neg (fun h=>hi h.1)]
 have hnew : (eK w r.b (.cells cs' e fr)).heap[r.b]? = some (.cells cs' e fr):=by rw [fo,if_pos ⟨rfl,hlt⟩]
 obtain ⟨o1,d1,d2,d3⟩:=hw.dom id r hr
 rw [ho] at d1;cases d1
 obtain ⟨r', e1, e2⟩ := hw.obj id o ho (by omega) d3
 rw [hr] at e1;cases e1
 obtain ⟨hB,cs0,e0,fr0,m1,m2,m3,m4⟩:=e2.mem hm
 rw [hb] at m1;cases m1
 have hnS:=hw.live id r o hr ho (.inl hlive) hm
 have hE : dO w st (eK w r.b (.cells cs' e fr)) st:=⟨Nat.le_refl _,fun _ _ _ _ h=>h,fun b hbS=>⟨hbS,hsame b (fun e=>hnS (e ▸ hbS))⟩,fun _ _ h=>h,rfl,rfl,fun b hbU=>hsame b (fun e=>hw.x.own id r hr hm (e ▸ hbU))⟩
 have hidl : id < h.length:=(List.getElem?_eq_some_iff.1 ho).1
 have hget : ∀ i o', (h.set id { o with elems := el })[i]? = some o' -> (i = id /\ o' = { o with elems := el }) \/ (i ≠ id /\ h[i]? = some o') := by
  intro i o' hi
  by_cases hii : id = i
  ·subst hii
   left
   rw [List.getElem?_set_self hidl] at hi
   exact ⟨rfl,(Option.some.inj hi).symm⟩
  ·right
   rw [List.getElem?_set_ne hii] at hi
   exact ⟨fun h=>hii h.symm,hi⟩
 refine ⟨⟨hw.below.trans ⟨rfl,rfl,rfl,by simp,fun k hk=>hsame k (by omega)⟩,by simpa using hw.base,hw.seat.mono hE.S,by simp [hw.len],fun i o' h1 h2 h3=>?_,fun i o' h1 h2 h3=>?_,fun i s hs=>?_,hw.inj,fun b hbS=>by simpa using hw.stab b hbS,fun i s o' hs h1 h2 h3=>?_,fun i s o' hs h1 h2 h3=>?_,hw.gho,hw.x.own,hw.x.low,fun b hb=>by simpa using hw.x.ub b hb⟩,hE⟩
 ·rcases hget i o' h1 with ⟨rfl,rfl⟩ | ⟨hne,h1'⟩
  ·refine ⟨r, hr, by rw [hlen]; exact e2.n, e2.m, e2.k, e2.k0, fun _ => ⟨hB, cs', e, fr, hnew, by rw [hsz]; exact m2, by rw [hsz]; exact m3, fun j x hx => ?_⟩⟩
   obtain ⟨us,a1,a2,a3⟩:=hel j x hx
   refine ⟨us,a1,ic hE x us a2,(bE us _).2 fun q v hq=>?_⟩
   rw [cN hnew]
   exact a3 q v hq
  ·obtain ⟨s,a1,a2⟩:=hw.obj i o' h1' h2 h3
   refine ⟨s,a1,a2.mono hE fun hsm=>hsame s.b fun heq=>hne (hw.inj i id s r a1 hr hsm hm heq)⟩
 ·rcases hget i o' h1 with ⟨rfl,rfl⟩ | ⟨hne,h1'⟩
  ·exact absurd (hlive.symm.trans h2) (by decide)
  ·obtain ⟨s,a1,a2⟩:=hw.mobj i o' h1' h2 h3
   exact ⟨s,a1,a2.keep (hsame s.b fun heq=>hne (hw.inj i id s r a1 hr a2.m hm heq))⟩
 ·obtain ⟨o', h1, h2, h3⟩ := hw.dom i s hs
  by_cases hii : id = i
  ·subst hii
   rw [ho] at h1;cases h1
   exact ⟨_,List.getElem?_set_self hidl,h2,h3⟩
  ·exact ⟨o', by rw [List.getElem?_set_ne hii]; exact h1, h2, h3⟩
 ·rcases hget i o' h1 with ⟨rfl,rfl⟩ | ⟨_,h1'⟩
  ·exact hw.live i s o hs ho (.inl hlive) h3
  ·exact hw.live i s o' hs h1' h2 h3
 ·rcases hget i o' h1 with ⟨rfl,rfl⟩ | ⟨_,h1'⟩
  ·exact hw.frz i s o hs ho h2 h3
  ·exact hw.frz i s o' hs h1' h2 h3
def St.drop (st : St) (id : Nat) : St:={ st with ρ:=fun i=>if i = id then none else st.ρ i }
theorem WR.kill {B : Nat} {W w : World} {st : St} {h : ae} (hw : WR B W w st h) {id : Nat} {o : AO} (ho : h[id]? = some o) :
  WR B W w (st.drop id) (h.set id { o with st:=2 }) /\ dO w st w (st.drop id):=by
 have hE : dO w st w (st.drop id):=⟨Nat.le_refl _,fun i _ _ r hr=>by simp only [St.drop] at hr;split at hr<;>first | cases hr | exact hr,fun b hb=>⟨hb,rfl⟩,fun _ _ h=>h,rfl,rfl,fun _ _=>rfl⟩
 have hidl : id < h.length:=(List.getElem?_eq_some_iff.1 ho).1
 have hrho : ∀ i r,(st.drop id).ρ i = some r -> i ≠ id /\ st.ρ i = some r:=by
  intro i r hr
  simp only [St.drop] at hr
  split at hr
  ·cases hr
  ·rename_i h;exact ⟨h,hr⟩
 have hget : ∀ i,i ≠ id -> (h.set id { o with st:=2 })[i]? = h[i]?:=fun i hi=>List.getElem?_set_ne (Ne.symm hi)
 refine ⟨⟨hw.below,hw.base,hw.seat,by simp [St.drop,hw.len],fun i o' h1 h2 h3=>?_,fun i o' h1 h2 h3=>?_,fun i r hr=>?_,fun i j a s ha hs h1 h2 h3=>hw.inj i j a s (hrho i a ha).2 (hrho j s hs).2 h1 h2 h3,hw.stab,fun i r o' hr h1 h2 h3=>?_,fun i r o' hr h1 h2 h3=>?_,hw.gho,fun i r hr hm=>hw.x.own i r (hrho i r hr).2 hm,hw.x.low,hw.x.ub⟩,hE⟩
 ·have hne : i ≠ id:=by
   rintro rfl
   rw [List.getElem?_set_self hidl] at h1
   cases h1
   exact absurd h2 (by simp)
  rw [hget i hne] at h1
  obtain ⟨r,a1,a2⟩:=hw.obj i o' h1 h2 h3
  exact ⟨r,by simp [St.drop,hne,a1],a2.mono hE fun _=>rfl⟩
 ·have hne : i ≠ id:=by
   rintro rfl
   rw [List.getElem?_set_self hidl] at h1
   cases h1
   exact absurd h2 (by simp)
  rw [hget i hne] at h1
  obtain ⟨r,a1,a2⟩:=hw.mobj i o' h1 h2 h3
  exact ⟨r,by simp [St.drop,hne,a1],a2⟩
 ·obtain ⟨hne,hr'⟩:=hrho i r hr
  obtain ⟨o', h1, h2, h3⟩ := hw.dom i r hr'
  exact ⟨o', by rw [hget i hne]; exact h1, h2, h3⟩
 ·obtain ⟨hne,hr'⟩:=hrho i r hr
  rw [hget i hne] at h1
  exact hw.live i r o' hr' h1 h2 h3
 ·obtain ⟨hne,hr'⟩:=hrho i r hr
  rw [hget i hne] at h1
  exact hw.frz i r o' hr' h1 h2 h3
theorem WR.freeze1 {B : Nat} {W w : World} {st : St} {h : ae} (hw : WR B W w st h) (id : Nat) :
  ∃ st', WR B W w st' (match h[id]? with | some o => h.set id o.freeze | none => h) /\ dO w st w st' /\ st'.G = st.G /\ st'.ρ = st.ρ /\ st'.n = st.n /\
   (∀ b,st.S b -> st'.S b) /\ (∀ r o,st.ρ id = some r -> r.m ≠ 0 -> h[id]? = some o -> o.st < 2 -> st'.S r.b):=by
 cases ho : h[id]? with
 | none=>exact ⟨st,hw,dO.refl _ _,rfl,rfl,rfl,fun _ h=>h,fun r o _ _ h _=>by cases h⟩
 | some o=>
  by_cases hs0 : o.st = 0
  ·have hfz : o.freeze = { o with st:=1 }:=by simp [AO.freeze,hs0]
   simp only [hfz]
   have hidl : id < h.length:=(List.getElem?_eq_some_iff.1 ho).1
   let st' : St:={ st with S:=fun b=>st.S b \/ ∃ r,st.ρ id = some r /\ r.m ≠ 0 /\ r.b = b }
   have hE : dO w st w st':=⟨Nat.le_refl _,fun _ _ _ _ h=>h,fun b hb=>⟨Or.inl hb,rfl⟩,fun _ _ h=>h,rfl,rfl,fun _ _=>rfl⟩
   have hget : ∀ i o', (h.set id { o with st := 1 })[i]? = some o' -> (i = id /\ o' = { o with st := 1 }) \/ (i ≠ id /\ h[i]? = some o') := by
    intro i o' hi
    by_cases hii : id = i
    ·subst hii
     left
     rw [List.getElem?_set_self hidl] at hi
     exact ⟨rfl,(Option.some.inj hi).symm⟩
    ·right
     rw [List.getElem?_set_ne hii] at hi
     exact ⟨fun h=>hii h.symm,hi⟩
   refine ⟨st', ⟨hw.below, hw.base, hw.seat.mono hE.S, by simp [st', hw.len], fun i o' h1 h2 h3 => ?_, fun i o' h1 h2 h3 => ?_, fun i r hr => ?_, hw.inj, fun b hb => ?_, fun i r o' hr h1 h2 h3 hS => ?_, fun i r o' hr h1 h2 h3 => ?_, hw.gho, hw.x.own, fun b hb => ?_, hw.x.ub⟩, hE, rfl, rfl, rfl, fun b hb => Or.inl hb, fun r _ hr hm _ _ => Or.inr ⟨r, hr, hm, rfl⟩⟩
   ·rcases hget i o' h1 with ⟨rfl,rfl⟩ | ⟨_,h1'⟩
    ·obtain ⟨r,a1,a2⟩:=hw.obj i o ho (by omega) h3
     have a3:=a2.mono hE (fun _=>rfl)
     exact ⟨r,a1,a3.n,a3.m,a3.k,a3.k0,a3.mem⟩
    ·obtain ⟨r,a1,a2⟩:=hw.obj i o' h1' h2 h3
     exact ⟨r,a1,a2.mono hE (fun _=>rfl)⟩
   ·rcases hget i o' h1 with ⟨rfl,rfl⟩ | ⟨_,h1'⟩
    ·exact absurd h2 (by simp)
    ·obtain ⟨r,a1,a2⟩:=hw.mobj i o' h1' h2 h3
     exact ⟨r,a1,a2⟩
   ·obtain ⟨o', h1, h2, h3⟩ := hw.dom i r hr
    by_cases hii : id = i
    ·subst hii
     exact ⟨_,List.getElem?_set_self hidl,by simp,h3⟩
    ·exact ⟨o', by rw [List.getElem?_set_ne hii]; exact h1, h2, h3⟩
   ·rcases hb with hb | ⟨r,hr,hm,rfl⟩
    ·exact hw.stab b hb
    ·exact hw.blk_lt hr hm
   ·rcases hget i o' h1 with ⟨rfl,rfl⟩ | ⟨hne,h1'⟩
    ·simp at h2
    ·rcases hS with hS | ⟨s,hs,hm,hbb⟩
     ·exact hw.live i r o' hr h1' h2 h3 hS
     ·exact hne (hw.inj i id r s hr hs h3 hm hbb.symm)
   ·rcases hget i o' h1 with ⟨rfl,rfl⟩ | ⟨hne,h1'⟩
    ·exact Or.inr ⟨r,hr,h3,rfl⟩
    ·exact Or.inl (hw.frz i r o' hr h1' h2 h3)
   ·rcases hb with hb | ⟨r,hr,hm,rfl⟩
    ·exact hw.x.low b hb
    ·exact Or.inr (hw.x.own id r hr hm)
  ·have hfz : o.freeze = o:=by simp [AO.freeze,hs0]
   simp only [hfz]
   have hset : h.set id o = h:=by
    apply List.ext_getElem?
    intro i
    by_cases hii : id = i
    ·subst hii;rw [List.getElem?_set_self (List.getElem?_eq_some_iff.1 ho).1,ho]
    ·rw [List.getElem?_set_ne hii]
   rw [hset]
   refine ⟨st,hw,dO.refl _ _,rfl,rfl,rfl,fun _ h=>h,fun r o' hr hm ho' h2=>?_⟩
   cases ho'
   exact hw.frz id r o hr ho (by omega) hm
theorem WR.freeze {B : Nat} {W w : World} : ∀ (l : List Nat) {st : St} {h : ae},WR B W w st h ->
  ∃ st', WR B W w st' (freeze h l) /\ dO w st w st' /\ st'.G = st.G /\ st'.ρ = st.ρ /\ (∀ b, st.S b -> st'.S b) /\ (∀ id r o, id ∈ l -> st.ρ id = some r -> r.m ≠ 0 -> h[id]? = some o -> o.st < 2 -> st'.S r.b)
 | [],st,h,hw=>⟨st,hw,dO.refl _ _,rfl,rfl,fun _ h=>h,fun id r o h=>by cases h⟩
 | i :: l,st,h,hw=>by
  obtain ⟨s1,w1,e1,g1,r1,n1,k1,f1⟩:=hw.freeze1 i
  obtain ⟨s2,w2,e2,g2,r2,k2,f2⟩:=WR.freeze l w1
  refine ⟨s2,w2,e1.trans e2,g2.trans g1,r2.trans r1,fun b hb=>k2 b (k1 b hb),fun id r o hid hr hm ho h2=>?_⟩
  rcases List.mem_cons.1 hid with rfl | hid
  ·exact k2 _ (f1 r o hr hm ho h2)
  ·have : ∃ o', (match h[i]? with | some o => h.set i o.freeze | none => h)[id]? = some o' /\ o'.st < 2 := by
    cases hi : h[i]? with
    | none=>exact ⟨o,ho,h2⟩
    | some oi=>
     by_cases hii : i = id
     ·subst hii
      rw [ho] at hi;cases hi
      refine ⟨_,List.getElem?_set_self (List.getElem?_eq_some_iff.1 ho).1,?_⟩
      unfold AO.freeze;split
      ·exact Nat.one_lt_two
      ·exact h2
     ·exact ⟨o,by rw [List.getElem?_set_ne hii];exact ho,h2⟩
   obtain ⟨o', ho', h2'⟩ := this
   exact f2 id r o' hid (by rw [r1];exact hr) hm ho' h2'
end Dw
namespace Dw
open Go Go.RowKit
def aT (w : World) (st : St) (T : List AV) (tm : Array Value) : Prop:=(T.length = tm.size /\ mW w st.S) /\ ∀ i,aV w st (g9 T i) (tm.getD i undef)
theorem gp {w w' : World} {st st' : St} (hE : dO w st w' st') {T : List AV} {tm : Array Value} (h : aT w st T tm) : aT w' st' T tm:=⟨⟨h.1.1,h.1.2.mono hE.S⟩,fun i=>Iw hE (h.2 i)⟩
theorem cw {w : World} {st : St} {x : AV} {v : Value} (h : x.isAgg = false) (hc : aC w st x [v]) : aV w st x v:=⟨[v],by simp [h],hc⟩
theorem ig (w : World) (st : St) (v : Value) : aV w st .junk v:=⟨[v],by simp [AV.isAgg],by simp [aC]⟩
theorem Ca (w : World) (st : St) (v : Value) : aV w st (BU v) v /\ ((BU v).cellOk = true /\ (BU v).isAgg = false):=by
 unfold BU
 split
 ·exact ⟨cw rfl (by simp [aC,cC]),rfl,rfl⟩
 ·exact ⟨cw rfl (by simp [aC,cC]),rfl,rfl⟩
 ·exact ⟨cw rfl (by simp [aC,cC]),rfl,rfl⟩
 ·exact ⟨cw rfl (by simp [aC]),rfl,rfl⟩
 ·exact ⟨ig _ _ _,rfl,rfl⟩
 ·exact ⟨ig _ _ _,rfl,rfl⟩
 ·rename_i h1 h2 h3 h4 h5 h6
  refine ⟨⟨[v],by simp [AV.isAgg],by simp [aC]⟩,?_,rfl⟩
  cases v<;>first | rfl | (exact absurd rfl (h5 _)) | (exact absurd rfl (h6 _))
theorem xR (w : World) (st : St) : ∀ (l : List Value),fO w st (l.map BU) l
 | []=>by simp [fO]
 | v :: l=>by
  simp only [List.map_cons,fO]
  obtain ⟨⟨us,h1,h2⟩,h3,h4⟩:=Ca w st v
  rw [h4] at h1
  simp at h1
  subst h1
  exact ⟨v,l,rfl,h3,h2,xR w st l⟩
theorem K8 (w : World) (st : St) (v : Value) : aV w st (PK v) v:=by
 unfold PK
 split
 ·rename_i cs
  exact ⟨cs.toList,by simp [AV.isAgg],by simp only [aC];exact xR w st cs.toList⟩
 ·exact (Ca w st v).1
theorem bc {w : World} {st : St} {T : List AV} {a : Act} (hT : aT w st T a.tmps) (x : Operand) : aV w st (opnd T x) (a.eval x):=by
 cases x with
 | tmp t=>exact hT.2 t
 | const v=>exact K8 w st v
 | global g=>
  show aV w st (z8 g) (.pointer (some ⟨g,0,none⟩))
  unfold z8
  split
  ·rename_i x hx;exact ⟨_,rfl,by simp only [aC];exact hT.1.2 g x hx⟩
  ·exact ig _ _ _
 | func f=>exact cw rfl (by simp [opnd,aC,cC,iX,Act.eval])
def cM (P : Program) (next : Value -> World -> Prop) : Result Next -> Prop
 | .ok (.value v) w'=>next v w'
 | .ok .skip w'=>next undef w'
 | .ok (.enter f args) w'=>Calls P f args w' (fun e w''=>∃ v,e = .returned v /\ next v w'')
 | _=>False
def dE (B : Nat) (W w : World) (st : St) (K : KV) (v : Value) (w' : World) : Prop:=
 ∃ st' av h', K av h' /\ WR B W w' st' h' /\ aV w' st' av v /\ dO w st w' st' /\ st'.G = st.G
theorem dE.same {B : Nat} {W w : World} {st : St} {h : ae} {K : KV} {v : Value} {av : AV} (hw : WR B W w st h) (hk : K av h) (hv : aV w st av v) : dE B W w st K v w:=
 ⟨st,av,h,hk,hw,hv,dO.refl _ _,rfl⟩
theorem cf {w : World} {st : St} {k : IntKind} {n : Int} {v : Value} : aV w st (.d (.int k n)) v ↔ v = .int k n:=by
 constructor
 ·rintro ⟨us,h1,h2⟩;simp [AV.isAgg] at h1;subst h1;simpa [aC,cC] using h2
 ·rintro rfl;exact cw rfl (by simp [aC,cC])
theorem bV {w : World} {st : St} {b : Bool} {v : Value} : aV w st (.d (.bool b)) v ↔ v = .bool b:=by
 constructor
 ·rintro ⟨us,h1,h2⟩;simp [AV.isAgg] at h1;subst h1;simpa [aC,cC] using h2
 ·rintro rfl;exact cw rfl (by simp [aC,cC])
theorem gM {w : World} {st : St} {s : List UInt8} {v : Value} : aV w st (.d (.str s)) v ↔ v = .string ⟨s.toArray⟩:=by
 constructor
 ·rintro ⟨us,h1,h2⟩;simp [AV.isAgg] at h1;subst h1;simpa [aC,cC] using h2
 ·rintro rfl;exact cw rfl (by simp [aC,cC])
theorem mc {w : World} {st : St} {v : Value} (h : aV w st .nilS v) : ∃ a,v = .slice a 0 0:=by
 obtain ⟨us,h1,h2⟩:=h
 simp [AV.isAgg] at h1;subst h1;simpa [aC] using h2
theorem gL {w : World} {st : St} {id e off : Nat} {v : Value} : aV w st (.ptr id e off) v ↔
  ∃ b o,v = .pointer (some ⟨b,o,none⟩) /\ id < st.n /\ ¬ st.G id /\ ∀ r,st.ρ id = some r -> b = r.b /\ o = r.o + e * r.k + off:=by
 constructor
 ·rintro ⟨us,h1,h2⟩;simp [AV.isAgg] at h1;subst h1;simpa [aC] using h2
 ·intro h;exact ⟨[v],by simp [AV.isAgg],by simpa [aC] using h⟩
theorem eT {w : World} {st : St} {id s len k : Nat} {cap : Option Nat} {v : Value} : aV w st (.sl id s len k cap) v ↔
  ∃ a c, v = .slice a len c /\ id < st.n /\ ¬ st.G id /\ len <= c /\ (c ≠ 0 -> ∃ b o, a = some ⟨b, o, none⟩) /\ (∀ c', cap = some c' -> c = c') /\
   ∀ r,st.ρ id = some r -> r.k = k /\ s + c <= r.m /\ (c ≠ 0 -> a = some ⟨r.b,r.o + s * r.k,none⟩) /\ (cap = none -> s + len <= r.n /\ r.n <= s + c):=by
 constructor
 ·rintro ⟨us,h1,h2⟩;simp [AV.isAgg] at h1;subst h1;simpa [aC] using h2
 ·intro h;exact ⟨[v],by simp [AV.isAgg],by simpa [aC] using h⟩
theorem rM {w : World} {st : St} {x : D} {off : Nat} {v : Value} : aV w st (.d (.fp x off)) v ↔
  ∃ b o us,v = .pointer (some ⟨b,o + off,none⟩) /\ st.S b /\ cC w st.S x us /\ ft w b o us:=by
 constructor
 ·rintro ⟨us,h1,h2⟩;simp [AV.isAgg] at h1;subst h1;simpa [aC,cC] using h2
 ·intro h;exact ⟨[v],by simp [AV.isAgg],by simpa [aC,cC] using h⟩
theorem qs {w : World} {st : St} {l : List D} {v : Value} : aV w st (.d (.fs l)) v ↔
  ∃ a c,v = .slice a l.length c /\ l.length <= c /\ (l ≠ [] -> ∃ b o k,a = some ⟨b,o,none⟩ /\ st.S b /\ 0 < k /\ ol w st.S b k l o):=by
 constructor
 ·rintro ⟨us,h1,h2⟩;simp [AV.isAgg] at h1;subst h1;simpa [aC,cC] using h2
 ·intro h;exact ⟨[v],by simp [AV.isAgg],by simpa [aC,cC] using h⟩
theorem ga {h : ae} {id : Nat} {K : AO -> Prop} (hk : oO h id K) : ∃ o,h[id]? = some o /\ o.st < 2 /\ K o:=by
 obtain ⟨o,h1,h2⟩:=(aE _ _).1 hk
 cases hb : Nat.blt o.st 2 with
 | false=>simp [hb,a8] at h2
 | true=>rw [hb] at h2;exact ⟨o,h1,by simpa [Nat.blt_eq] using hb,h2⟩
theorem j0 {h : ae} {id : Nat} {K : AO -> Prop} (hk : zp h id K) : ∃ o,h[id]? = some o /\ o.st = 0 /\ K o:=by
 obtain ⟨o,h1,h2⟩:=(aE _ _).1 hk
 cases hb : Nat.beq o.st 0 with
 | false=>simp [hb,a8] at h2
 | true=>rw [hb] at h2;exact ⟨o,h1,by simpa [Nat.beq_eq] using hb,h2⟩
theorem ai {b : Bool} {K : Prop} (h : a8 b K) : b = true /\ K:=by
 cases b
 ·exact h.elim
 ·exact ⟨rfl,h⟩
theorem aq {b : Bool} {A B : Prop} (h : aR b A B) : (b = true /\ A) \/ (b = false /\ B):=by
 cases b
 ·exact Or.inr ⟨rfl,h⟩
 ·exact Or.inl ⟨rfl,h⟩
theorem vm {w : World} {b o : Nat} {us : List Value} (h : ft w b o us) (n m : Nat) : ft w b (o + n) ((us.drop n).take m):=by
 rw [bE] at *
 intro j v hj
 rw [List.getElem?_take] at hj
 split at hj
 ·rw [List.getElem?_drop] at hj
  have:=h (n + j) v hj
  rw [show o + n + j = o + (n + j) by omega];exact this
 ·cases hj
theorem oq {x : AV} (h : x.cellOk = true) : x.isAgg = false:=by
 cases x<;>try rfl
 ·rename_i d;cases d<;>first | rfl | (simp [AV.cellOk,AV.one] at h)
 ·simp [AV.cellOk,AV.one] at h
theorem nG {w : World} {st : St} {x : AV} {us : List Value} (ha : x.isAgg = false) (hj : x ≠ .junk) (h : aC w st x us) : x.cells = [x] /\ ∃ v,us = [v]:=by
 cases x<;>try (simp [AV.isAgg] at ha;done)
 case d d=>
  cases d<;>try (simp [AV.isAgg] at ha;done)
  case fs=>simp only [aC,cC] at h;obtain ⟨a,c,rfl,_⟩:=h;exact ⟨rfl,_,rfl⟩
  case fp=>simp only [aC,cC] at h;obtain ⟨b,o,us,rfl,_⟩:=h;exact ⟨rfl,_,rfl⟩
  case fn=>simp only [aC,cC] at h;obtain ⟨us,ts,rfl,_⟩:=h;exact ⟨rfl,_,rfl⟩
  case tup=>simp only [aC,cC] at h;obtain ⟨us,rfl,_⟩:=h;exact ⟨rfl,_,rfl⟩
  all_goals (simp only [aC,cC] at h;subst h;exact ⟨rfl,_,rfl⟩)
 case nilS=>simp only [aC] at h;obtain ⟨a,rfl⟩:=h;exact ⟨rfl,_,rfl⟩
 case ptr=>simp only [aC] at h;obtain ⟨b,o,rfl,_⟩:=h;exact ⟨rfl,_,rfl⟩
 case sl=>simp only [aC] at h;obtain ⟨a,c,rfl,_⟩:=h;exact ⟨rfl,_,rfl⟩
 case fn=>simp only [aC] at h;obtain ⟨us,ts,rfl,_⟩:=h;exact ⟨rfl,_,rfl⟩
 case tup=>simp only [aC] at h;obtain ⟨us,rfl,_⟩:=h;exact ⟨rfl,_,rfl⟩
 case raw=>simp only [aC] at h;subst h;exact ⟨rfl,_,rfl⟩
 case und=>simp only [aC] at h;subst h;exact ⟨rfl,_,rfl⟩
 case junk=>exact absurd rfl hj
 case mp=>simp only [aC] at h;obtain ⟨b,rfl,_⟩:=h;exact ⟨rfl,_,rfl⟩
theorem IS {w : World} {st : St} {x y : AV} {us : List Value} {off : Nat} (h : aC w st x us) (hl : 0 < us.length) (hy : x.cells[off]? = some y) : ∃ v,us[off]? = some v /\ aV w st y v:=by
 by_cases ha : x.isAgg = true
 ·obtain ⟨v,h1,h2,h3⟩:=go x.cells us off y (iw ha h) hy
  exact ⟨v,h1,[v],by simp [oq h2],h3⟩
 ·have ha' : x.isAgg = false:=by simpa using ha
  by_cases hj : x = .junk
  ·subst hj
   cases us with
   | nil=>simp at hl
   | cons v us=>
    cases off with
    | zero=>
     simp [AV.cells] at hy;subst hy
     exact ⟨v,by simp,ig _ _ _⟩
    | succ n=>simp [AV.cells] at hy
  ·obtain ⟨hc,v,rfl⟩:=nG ha' hj h
   rw [hc] at hy
   cases off with
   | zero=>simp at hy;subst hy;exact ⟨v,by simp,[v],by simp [ha'],h⟩
   | succ n=>simp at hy
section
variable {P : Program} {E : TE} (hE : gJ P E)
include hE
theorem vd {w : World} {st : St} {t : Nat} {x : AV} {off b base : Nat} {us : List Value} {K : AV -> Prop} (hc : aC w st x us) (hl : 0 < us.length) (hm : ft w b base us) (hk : Bq (E t) x off K) :
  ∃ v av,(loadVar t ⟨b,base + off,none⟩).run P w = .ok v w /\ aV w st av v /\ K av:=by
 unfold Bq at hk
 rcases aq hk with ⟨ht,hk⟩ | ⟨ht,hk⟩
 ·have hkind : (E t).kind ≠ 0:=by intro h0;simp [TI.agg,h0] at ht
  have hagg : (isAgg t).run P w = .ok true w:=by rw [mJ hE hkind,ht]
  rcases aq hk with ⟨h1,hkx⟩ | ⟨h1,hk⟩
  ·simp only [Bool.and_eq_true,beq_iff_eq] at h1
   obtain ⟨h0,ha,hlen⟩:=h1
   subst h0
   have hcs:=iw ha hc
   have hus : us.length = (E t).size:=by rw [bW _ _ hcs,hlen]
   refine ⟨.agg us.toArray,x,?_,⟨us,by simp [ha],hc⟩,hkx⟩
   simp only [loadVar,Sem.run_bind,hagg,Result.andThen_ok,if_true,bx hE hkind,Nat.add_zero]
   rw [<- hus,fK hm]
   rfl
  ·obtain ⟨h2,hk⟩:=ai hk
   simp only [Bool.and_eq_true,decide_eq_true_eq] at h2
   rw [cO] at hk
   rw [dM] at hk
   have hcs:=iw h2.1 hc
   have hsub:=vm hm off (E t).size
   have hlen : ((us.drop off).take (E t).size).length = (E t).size:=by
    simp [bW _ _ hcs];omega
   refine ⟨.agg ((us.drop off).take (E t).size).toArray,_,?_,⟨(us.drop off).take (E t).size,by simp [AV.isAgg],by simp only [aC];exact xS (xQ hcs off) _⟩,hk⟩
   simp only [loadVar,Sem.run_bind,hagg,Result.andThen_ok,if_true,bx hE hkind]
   have hr:=fK (P:=P) hsub
   rw [hlen] at hr
   rw [hr]
   rfl
 ·obtain ⟨h2,hk⟩:=ai hk
  have hkind : (E t).kind ≠ 0:=by simpa using h2
  obtain ⟨y,hy,hk⟩:=(aE _ _).1 hk
  obtain ⟨v,h3,h4⟩:=IS hc hl hy
  refine ⟨v,y,?_,h4,hk⟩
  have hcell:=(bE us base).1 hm off v h3
  have hagg : (isAgg t).run P w = .ok false w:=by rw [mJ hE hkind,ht]
  simp only [loadVar,Sem.run_bind,hagg,Result.andThen_ok,Bool.false_eq_true,if_false]
  exact uB hcell
omit hE in
theorem Jr {t : TI} {x : D} {off : Nat} {K : AV -> Prop} (hk : Jq t x off K) : Bq t (.d x) off (fun a=>K a \/ ∃ l : List D,a = .agg (l.map .d) /\ K (.d (.agg l))):=by
 have hcells : (AV.d x).cells = x.cells.map .d:=by cases x<;>rfl
 have hagg : (AV.d x).isAgg = x.isAgg:=by cases x<;>rfl
 unfold Jq at hk
 unfold Bq
 rw [hcells,hagg]
 simp only [List.length_map]
 rcases aq hk with ⟨ht,hk⟩ | ⟨ht,hk⟩
 ·refine bO ht ?_
  rcases aq hk with ⟨h1,hk⟩ | ⟨h1,hk⟩
  ·exact bO h1 (Or.inl hk)
  ·obtain ⟨h2,hk⟩:=ai hk
   refine bA h1 (aH h2 ?_)
   rw [cO,dM] at hk
   rw [cO,dM]
   exact Or.inr ⟨_,by simp,hk⟩
 ·obtain ⟨h2,hk⟩:=ai hk
  refine bA ht (aH h2 ?_)
  obtain ⟨y,h3,h4⟩:=(aE _ _).1 hk
  exact (aE _ _).2 ⟨.d y,by simp [h3],Or.inl h4⟩
theorem nC {B : Nat} {W w : World} {st : St} {h : ae} {t : Nat} {av : AV} {va : Value} {K : AV -> Prop} (hw : WR B W w st h) (hva : aV w st av va) (hk : jX (E t) av h K) :
  ∃ v x,(Instr.loadAt t va).run P w = .ok v w /\ aV w st x v /\ K x:=by
 cases av<;>simp only [jX] at hk
 case ptr id e off=>
  obtain ⟨b, o', rfl, h1, h2, h3⟩ := gL.1 hva
  obtain ⟨o,g1,g2,hk⟩:=ga hk
  obtain ⟨x,hx,hk⟩:=(aE _ _).1 hk
  obtain ⟨r,hr,hobj⟩:=hw.obj id o g1 g2 h2
  obtain ⟨rfl,rfl⟩:=h3 r hr
  have hlt : e < o.elems.length:=(List.getElem?_eq_some_iff.1 hx).1
  have hm : r.m ≠ 0:=by have:=hobj.n;have:=hobj.m;omega
  obtain ⟨_,cs,el,fr,m1,m2,m3,m4⟩:=hobj.mem hm
  obtain ⟨us,u1,u2,u3⟩:=m4 e x hx
  have:=vd hE u2 (by rw [u1];exact hobj.k0) u3 hk
  simpa [Instr.loadAt,Instr.sureAddr] using this
 case d d=>
  cases d<;>simp only at hk
  case fp x off=>
   obtain ⟨b,o,us,rfl,h1,h2,h3⟩:=rM.1 hva
   have hl:=ip _ _ h2
   have hk':=Jr hk
   have hpos : 0 < us.length \/ us.length = 0:=by omega
   rcases hpos with hpos | hpos
   ·obtain ⟨v,y,e1,e2,e3⟩:=vd hE (st:=st) (x:=.d x) (by simpa [aC] using h2) hpos h3 hk'
    rcases e3 with e3 | ⟨l,rfl,e3⟩
    ·exact ⟨v,y,by simpa [Instr.loadAt,Instr.sureAddr] using e1,e2,e3⟩
    ·refine ⟨v,.d (.agg l),by simpa [Instr.loadAt,Instr.sureAddr] using e1,?_,e3⟩
     obtain ⟨us', f1, f2⟩ := e2
     refine ⟨us', by simpa [AV.isAgg] using f1, ?_⟩
     simp only [aC] at f2
     simp only [aC,cC]
     exact aCs_cCs l us' f2
   ·exfalso
    have hx0 : x.cells = []:=List.length_eq_zero_iff.1 (by omega)
    unfold Jq at hk
    rw [hx0] at hk
    rcases aq hk with ⟨ht,hk⟩ | ⟨ht,hk⟩
    ·have hkind : (E t).kind ≠ 0:=by intro h0;simp [TI.agg,h0] at ht
     have hpos:=(hE.facts hkind).pos
     rcases aq hk with ⟨h1,_⟩ | ⟨_,hk⟩
     ·simp at h1;omega
     ·have:=(ai hk).1
      simp at this;omega
    ·obtain ⟨_,hk⟩:=ai hk
     simp [cX] at hk
where
 aCs_cCs : ∀ {w : World} {st : St} (l : List D) (vs : List Value),fO w st (l.map .d) vs -> fV w st.S l vs
  | _,_,[],vs,h=>by simpa [fO,fV] using h
  | _,_,x :: l,vs,h=>by
   simp only [List.map_cons,fO] at h
   obtain ⟨v,r,h1,h2,h3,h4⟩:=h
   simp only [fV]
   refine ⟨v,r,h1,by rw [<- D.one_av];exact h2,by simpa [aC] using h3,nC.aCs_cCs l r h4⟩
end
end Dw
namespace Dw
open Go Go.RowKit
def FP {α : Type} (us : List α) (off : Nat) (vs : List α) : List α:=us.take off ++ vs ++ us.drop (off + vs.length)
theorem rp {α : Type} {us : List α} {off : Nat} {vs : List α} (h : off + vs.length <= us.length) (j : Nat) : (FP us off vs)[j]? = if off <= j /\ j < off + vs.length then vs[j - off]? else us[j]?:=by
 unfold FP
 by_cases h1 : off <= j /\ j < off + vs.length
 ·rw [if_pos h1,List.getElem?_append_left (by simp;omega),List.getElem?_append_right (by simp;omega)]
  simp;congr 1;omega
 ·rw [if_neg h1]
  by_cases h2 : j < off
  ·rw [List.getElem?_append_left (by simp;omega),List.getElem?_append_left (by simp;omega),List.getElem?_take,if_pos h2]
  ·rw [List.getElem?_append_right (by simp;omega),List.getElem?_drop]
   congr 1;simp;omega
@[simp] theorem nB {α : Type} {us : List α} {off : Nat} {vs : List α} (h : off + vs.length <= us.length) : (FP us off vs).length = us.length:=by
 simp [FP];omega
@[simp] theorem zi : ∀ (vs cs : List AV) (off : Nat),(o6 cs off vs).length = cs.length
 | [],cs,off=>rfl
 | v :: vs,cs,off=>by simp [o6,zi vs]
theorem yT : ∀ (vs cs : List AV) (off j : Nat),off + vs.length <= cs.length -> (o6 cs off vs)[j]? = if off <= j /\ j < off + vs.length then vs[j - off]? else cs[j]?
 | [],cs,off,j,_=>by rw [o6,if_neg (by simp)]
 | v :: vs,cs,off,j,h=>by
  simp only [List.length_cons] at h
  rw [o6,yT vs _ _ _ (by simp;omega)]
  simp only [List.length_cons]
  by_cases h1 : off + 1 <= j /\ j < off + 1 + vs.length
  ·rw [if_pos h1,if_pos (by omega),show j - off = (j - (off + 1)) + 1 by omega]
   simp
  ·rw [if_neg h1]
   by_cases h2 : j = off
   ·subst h2
    rw [if_pos (by omega),List.getElem?_set_self (by omega)]
    simp
   ·rw [if_neg (by omega),List.getElem?_set_ne (by omega)]
theorem rL {w : World} {st : St} {cs new : List AV} {us vs : List Value} {off : Nat} (h : fO w st cs us) (hn : fO w st new vs) (hb : off + new.length <= cs.length) : fO w st (o6 cs off new) (FP us off vs):=by
 have l1:=bW _ _ h
 have l2:=bW _ _ hn
 refine wb _ _ (by rw [nB (by omega)];simp [l1]) fun i x v hx hv=>?_
 rw [yT _ _ _ _ hb] at hx
 rw [rp (by omega),l2] at hv
 split at hx
 ·rename_i hi
  rw [if_pos hi] at hv
  obtain ⟨u,e1,e2⟩:=go new vs _ x hn hx
  rw [hv] at e1;cases e1;exact e2
 ·rename_i hi
  rw [if_neg hi] at hv
  obtain ⟨u,e1,e2⟩:=go cs us _ x h hx
  rw [hv] at e1;cases e1;exact e2
theorem cE {i e k : Nat} (h : i < e) : i * k + k <= e * k:=by
 have:=Nat.mul_le_mul_right k (Nat.succ_le_of_lt h)
 rw [Nat.succ_mul] at this
 exact this
theorem WR.put {P : Program} {B : Nat} {W w : World} {st : St} {h : ae} (hw : WR B W w st h) {id e off : Nat} {o : AO} {r : qR} {x x' : AV} {us vs : List Value} (ho : h[id]? = some o) (hlive : o.st = 0) (hg : ¬ st.G id)
  (hr : st.ρ id = some r) (hx : o.elems[e]? = some x) (hus : us.length = r.k) (hmem : ft w r.b (r.o + e * r.k) us) (hv : ∀ v ∈ vs,fM v = true) (hoff : off + vs.length <= r.k) (hx' : aC w st x' (FP us off vs)) :
  ∃ w', (storeCells (⟨r.b, r.o + e * r.k + off, none⟩ : Addr) vs).run P w = .ok () w' /\ WR B W w' st (h.set id { o with elems := o.elems.set e x' }) /\ dO w st w' st := by
 obtain ⟨r', e1, hobj⟩ := hw.obj id o ho (by omega) hg
 rw [hr] at e1;cases e1
 have hlt : e < o.elems.length:=(List.getElem?_eq_some_iff.1 hx).1
 have hm : r.m ≠ 0:=by have:=hobj.n;have:=hobj.m;omega
 obtain ⟨_,cs,el,fr,m1,m2,m3,m4⟩:=hobj.mem hm
 have hin : e * r.k + r.k <= r.m * r.k:=cE (by have:=hobj.n;have:=hobj.m;omega)
 have hrun:=dZ (P:=P) (r.o + e * r.k + off) vs 0 cs w m1 (by omega) (fun j h1 h2=>m3 j (by omega) (by omega)) hv
 obtain ⟨hw', hE⟩ := hw.write ho hlive hr hm m1 (tz cs (r.o + e * r.k + off + 0) vs) (by simp) (o.elems.set e x') (by simp) (fun i y hy => by
  by_cases hie : i = e
  ·subst hie
   rw [List.getElem?_set_self hlt] at hy
   cases hy
   refine ⟨_, by rw [nB (by omega)]; exact hus, hx', fun j v hj => ?_⟩
   rw [rp (by omega)] at hj
   rw [jb _ _ _ _ (by omega)]
   by_cases hjo : off <= j /\ j < off + vs.length
   ·rw [if_pos hjo] at hj
    rw [if_pos (by omega),<- hj]
    congr 1;omega
   ·rw [if_neg hjo] at hj
    rw [if_neg (by omega)]
    have:=(bE us _).1 hmem j v hj
    rw [cN m1] at this
    exact this
  ·rw [List.getElem?_set_ne (Ne.symm hie)] at hy
   obtain ⟨us', u1, u2, u3⟩ := m4 i y hy
   refine ⟨us', u1, u2, fun j v hj => ?_⟩
   have hjl : j < r.k:=by rw [<- u1];exact (List.getElem?_eq_some_iff.1 hj).1
   rw [jb _ _ _ _ (by omega),if_neg ?_]
   ·have:=(bE us' _).1 u3 j v hj
    rw [cN m1] at this
    exact this
   ·rcases Nat.lt_or_gt_of_ne hie with h | h
    ·have:=cE (k:=r.k) h;omega
    ·have:=cE (k:=r.k) h;omega)
 exact ⟨_, hrun, hw', hE⟩
section
variable {P : Program} {E : TE} (hE : gJ P E)
include hE
theorem xw {t : Nat} (hk : (E t).kind ≠ 0) (w : World) (a : Addr) (v : Value) (hs : v.cells.toList.length = (E t).size) : (storeVar t a v).run P w = (storeCells a v.cells.toList).run P w:=by
 have : v.cells.size = (E t).size:=by simpa using hs
 simp [storeVar,bx hE hk,this]
theorem Ak {B : Nat} {W w : World} {st : St} {h : ae} {t : Nat} {av xv : AV} {va vx : Value} {K : ae -> Prop} (hw : WR B W w st h) (hva : aV w st av va) (hvx : aV w st xv vx) (hk : iP (E t) av xv h K) :
  ∃ w' h', (Instr.storeAt t va vx).run P w = .ok () w' /\ WR B W w' st h' /\ dO w st w' st /\ K h' := by
 cases av<;>simp only [iP] at hk
 case ptr id e off=>
  obtain ⟨b, o', rfl, h1, h2, h3⟩ := gL.1 hva
  obtain ⟨o,g1,g2,hk⟩:=j0 hk
  obtain ⟨x,hx,hk⟩:=(aE _ _).1 hk
  obtain ⟨hf,hk⟩:=ai hk
  simp only [Bool.and_eq_true] at hf
  obtain ⟨hf,hf2⟩:=hf
  obtain ⟨vs,v1,v2,v3,v4,v5,v6⟩:=dk hf hvx
  obtain ⟨r,hr,hobj⟩:=hw.obj id o g1 (by omega) h2
  obtain ⟨rfl,rfl⟩:=h3 r hr
  have hlt : e < o.elems.length:=(List.getElem?_eq_some_iff.1 hx).1
  have hm : r.m ≠ 0:=by have:=hobj.n;have:=hobj.m;omega
  obtain ⟨_,cs,el,fr,m1,m2,m3,m4⟩:=hobj.mem hm
  obtain ⟨us,u1,u2,u3⟩:=m4 e x hx
  have hkind : (E t).kind ≠ 0:=by simpa using hf2
  have hrun : (Instr.storeAt t (.pointer (some ⟨r.b,r.o + e * r.k + off,none⟩)) vx).run P w = (storeCells ⟨r.b,r.o + e * r.k + off,none⟩ vs).run P w:=by
   simp only [Instr.storeAt,Instr.sureAddr,pure_bind]
   rw [xw hE hkind _ _ _ (by rw [v1];exact v2),v1]
  rcases aq hk with ⟨hc,hkx⟩ | ⟨hc,hk⟩
  ·simp only [Bool.and_eq_true,Bool.or_eq_true,beq_iff_eq] at hc
   obtain ⟨h0,hsz,_⟩:=hc
   subst h0
   have hlen : vs.length = us.length:=by rw [v2,u1,hobj.k,hsz]
   obtain ⟨w', e1, e2, e3⟩ := hw.put (P := P) (off := 0) (x' := xv) g1 g2 h2 hr hx u1 u3 v4 (by omega) (by
    have : FP us 0 vs = vs:=by simp [FP,hlen]
    rw [this];exact v3)
   rw [aU,aU] at hkx
   exact ⟨w', _, by rw [hrun]; exact e1, e2, e3, hkx⟩
  ·obtain ⟨hc2,hk⟩:=ai hk
   simp only [Bool.and_eq_true,decide_eq_true_eq] at hc2
   rw [gw,aU,aU] at hk
   have hcs:=iw hc2.1 u2
   have hlu:=bW _ _ hcs
   have hlv:=bW _ _ v6
   obtain ⟨w', e1, e2, e3⟩ := hw.put (P := P) (off := off) (x' := .agg (o6 x.cells off xv.cells)) g1 g2 h2 hr hx u1 u3 v4 (by omega) (by
    simp only [aC]
    exact rL hcs v6 (by omega))
   exact ⟨w', _, by rw [hrun]; exact e1, e2, e3, hk⟩
end
end Dw
namespace Dw
open Go Go.RowKit
def ln (P : Program) (w : World) (st : St) (K : AV -> Prop) (s : Sem Value) : Prop:=∃ v x,s.run P w = .ok v w /\ aV w st x v /\ K x
theorem D3 (s : List UInt8) : (⟨s.toArray⟩ : ByteArray).toList = s:=by rw [ByteArray.toList_eq]
theorem ya (s : List UInt8) : (⟨s.toArray⟩ : ByteArray).size = s.length:=by
 show s.toArray.size = s.length
 simp
theorem xX (s : List UInt8) (l h : Nat) : (⟨s.toArray⟩ : ByteArray).extract l h = ⟨((s.take h).drop l).toArray⟩:=by
 apply ByteArray.ext
 rw [ByteArray.data_extract]
 apply Array.ext'
 rw [List.drop_take]
 simp [List.extract_eq_take_drop]
theorem Ng {α : Type} [BEq α] [LawfulBEq α] [DecidableEq α] (a b : α) : (a == b) = decide (a = b):=by
 by_cases h : a = b<;>simp [h]
section
variable {P : Program} {E : TE} (hE : gJ P E) {w : World} {st : St}
include hE
omit hE in
theorem Bm {op : BinOp} {k : IntKind} {a b : Int} {K : AV -> Prop} (t : Nat) (hop : op ≠ .shl /\ op ≠ .shr) (hk : w9 op k a b K) : ln P w st K (binOp op t (.int k a) (.int k b)):=by
  cases op<;>simp only [w9] at hk<;>first
    | (exact hk.elim)
    | (exact absurd rfl hop.1)
    | (exact absurd rfl hop.2)
    | (refine ⟨_,_,?_,cf.2 rfl,hk⟩;simp [binOp,Op.intArith];done)
    | (refine ⟨_,_,?_,cf.2 rfl,hk⟩;simp [binOp,Op.intBits,da];done)
    | (refine ⟨_,_,?_,bV.2 rfl,hk⟩;simp [binOp,Op.intCmp];done)
    | (obtain ⟨h1, hk⟩ := ai hk
       simp at h1
       refine ⟨_,_,?_,cf.2 rfl,hk⟩
       simp [binOp,Op.intDiv,h1])
    | (refine ⟨_, _, ?_, bV.2 rfl, hk⟩
       simp only [binOp,Op.intCmp,ne_eq,not_true,if_false]
       by_cases h : a = b<;>simp [h])
omit hE in
theorem BX {op : BinOp} {a b : List UInt8} {K : AV -> Prop} (t : Nat) (hk : Al op a b K) : ln P w st K (binOp op t (.string ⟨a.toArray⟩) (.string ⟨b.toArray⟩)):=by
 have hbeq : ((⟨a.toArray⟩ : ByteArray).toList == (⟨b.toArray⟩ : ByteArray).toList) = decide (a = b):=by
  rw [D3,D3]
  by_cases h : a = b<;>simp [h]
 cases op<;>simp only [Al] at hk
 case add=>
  obtain ⟨h1,hk⟩:=hk
  refine ⟨_,_,?_,gM.2 rfl,hk⟩
  simp only [binOp,Op.stringOp,ya]
  rw [if_neg (by simp only [IntKind.max,IntKind.signed,IntKind.bits];simp;omega)]
  simp only [Sem.run_pure]
  congr 2
 all_goals first
  | (exact hk.elim)
  | (refine ⟨_,_,?_,bV.2 rfl,hk⟩;simp only [binOp,Op.stringOp];rw [hbeq];simp only [D3,Sem.run_pure];done)
  | (refine ⟨_,_,?_,bV.2 rfl,hk⟩;simp only [binOp,Op.stringOp,D3,Sem.run_pure];done)
omit hE in
theorem q8 {op : BinOp} {t : Nat} {x y : Operand} {k k' : IntKind} {a b : Int} : (eqGuard op t x y (.int k a) (.int k' b)).run P w = .ok () w:=by
 cases op<;>simp [eqGuard]
omit hE in
theorem nS {op : BinOp} {t : Nat} {x y : Operand} {a b : ByteArray} : (eqGuard op t x y (.string a) (.string b)).run P w = .ok () w:=by
 cases op<;>simp [eqGuard]
omit hE in
theorem j9 {op : BinOp} {t : Nat} {x y : Operand} {a b : Bool} : (eqGuard op t x y (.bool a) (.bool b)).run P w = .ok () w:=by
 cases op<;>simp [eqGuard]
omit hE in
theorem oH {leaves : Nat -> Option (List Nat)} {f : Field} {fs : List Field} {off : Nat} {ls : List Nat} (h : dT P leaves (f :: fs) off = some ls) :
  f.name ≠ "_" /\ f.offset = off /\ ∃ l r, leaves f.type = some l /\ (P.info? f.type).map (·.size) = some l.length /\ dT P leaves fs (off + l.length) = some r /\ ls = l ++ r := by
 unfold dT at h
 split at h
 ·rename_i hc
  split at h
  ·rename_i l hl
   split at h
   ·rename_i hs
    split at h
    ·rename_i r hr
     cases h
     exact ⟨hc.1,hc.2,l,r,hl,hs,hr,rfl⟩
    ·cases h
   ·cases h
  ·cases h
 ·cases h
omit hE in
theorem eE : ∀ (t : List Nat) (l r : List D),er t l r = true -> l.length = t.length /\ r.length = t.length
 | [],[],[],_=>⟨rfl,rfl⟩
 | a :: t,x :: l,y :: r,h=>by
  simp only [er,Bool.and_eq_true] at h
  have:=eE t l r h.2
  simp [this]
 | [],[],_ :: _,h=>by simp [er] at h
 | [],_ :: _,_,h=>by simp [er] at h
 | _ :: _,[],_,h=>by simp [er] at h
 | _ :: _,_ :: _,[],h=>by simp [er] at h
omit hE in
theorem kj {a : Nat} {t : List Nat} {l r : List D} (h : er (a :: t) l r = true) : ∃ x l' y r', l = x :: l' /\ r = y :: r' /\ rO a x y = true /\ er t l' r' = true := by
 cases l with
 | nil=>simp [er] at h
 | cons x l=>
  cases r with
  | nil=>simp [er] at h
  | cons y r=>
   simp only [er,Bool.and_eq_true] at h
   exact ⟨x,l,y,r,rfl,rfl,h.1,h.2⟩
omit hE in
theorem ob : ∀ (t1 t2 : List Nat) (l r : List D),er (t1 ++ t2) l r = true -> er t1 (l.take t1.length) (r.take t1.length) = true /\ er t2 (l.drop t1.length) (r.drop t1.length) = true /\
  dD l r = (dD (l.take t1.length) (r.take t1.length) && dD (l.drop t1.length) (r.drop t1.length))
 | [],t2,l,r,h=>by simpa [er,dD] using h
 | a :: t1,t2,l,r,h=>by
  obtain ⟨x, l', y, r', rfl, rfl, h1, h2⟩ := kj h
  obtain ⟨i1,i2,i3⟩:=ob t1 t2 l' r' h2
  simp [er,h1,i1,i2,dD,i3,Bool.and_assoc]
omit hE in
theorem uM {S : Nat -> Prop} {l : List D} {vs : List Value} (h : fV w S l vs) (n : Nat) : fV w S (l.take n) (vs.take n) /\ fV w S (l.drop n) (vs.drop n):=by
 induction n generalizing l vs with
 | zero=>simp [fV,h]
 | succ n ih=>
  cases l with
  | nil=>simp only [fV] at h;subst h;simp [fV]
  | cons x l=>
   simp only [fV] at h
   obtain ⟨v,r,rfl,h2,h3,h4⟩:=h
   obtain ⟨i1,i2⟩:=ih h4
   exact ⟨by simp only [List.take_succ_cons,fV];exact ⟨v,_,rfl,h2,h3,i1⟩,by simpa using i2⟩
def jp (P : Program) (t : Nat) (vs : List Value) : Value:=
 match P.underlying t with
 | some (.struct _)=>.agg vs.toArray
 | _=>vs.headD undef
omit hE in
theorem nk {d t : Nat} {ls : List Nat} (hl : eZ P d t = some ls) (hs : (P.info? t).map (·.size) = some ls.length) {vs : List Value} {off : Nat} (hlen : off + ls.length <= vs.length) :
  (part t vs.toArray off).run P w = .ok (jp P t ((vs.drop off).take ls.length)) w:=by
 cases d with
 | zero=>simp [eZ] at hl
 | succ d=>
  unfold eZ at hl
  have one : ls = [1] \/ ls = [2] \/ ls = [3] -> (isAgg t).run P w = .ok false w -> jp P t ((vs.drop off).take ls.length) = ((vs.drop off).take ls.length).headD undef -> (part t vs.toArray off).run P w = .ok (jp P t ((vs.drop off).take ls.length)) w:=by
   intro h1 h2 h3
   have hl1 : ls.length = 1:=by rcases h1 with rfl | rfl | rfl<;>rfl
   have hlt : off < vs.length:=by omega
   rw [h3]
   simp only [part,Sem.run_bind,h2,Result.andThen_ok,Bool.false_eq_true,if_false]
   simp only [List.getElem?_toArray,List.getElem?_eq_getElem hlt,Sem.run_pure,hl1]
   rw [List.drop_eq_getElem_cons hlt]
   rfl
  cases hd : P.underlying t with
  | none=>simp [hd] at hl
  | some D'=>
   rw [hd] at hl
   cases D'<;>simp only at hl<;>try (cases hl;done)
   case int k=>cases hl;exact one (Or.inl rfl) (by simp [isAgg,run_underlying hd]) (by simp [jp,hd])
   case bool=>cases hl;exact one (Or.inr (Or.inl rfl)) (by simp [isAgg,run_underlying hd]) (by simp [jp,hd])
   case string=>cases hl;exact one (Or.inr (Or.inr rfl)) (by simp [isAgg,run_underlying hd]) (by simp [jp,hd])
   case struct fs=>
    have h2 : (isAgg t).run P w = .ok true w:=by simp [isAgg,run_underlying hd]
    obtain ⟨i,hi,hsz⟩:=Option.map_eq_some_iff.1 hs
    simp only [part,Sem.run_bind,h2,Result.andThen_ok,if_true,Go.sizeOf,typeInfo,run_program,hi,Sem.run_pure,jp,hd]
    rw [hsz]
    congr 2
    apply Array.ext'
    simp [List.extract_eq_take_drop]
omit hE in
theorem tN : ∀ (d t : Nat) (ls : List Nat),eZ P d t = some ls -> ∀ (D' : Nat),d <= D' -> ∀ (l r : List D) (xs ys : List Value),er ls l r = true -> fV w st.S l xs -> fV w st.S r ys ->
  (Op.equalIn D' t (jp P t xs) (jp P t ys)).run P w = .ok (dD l r) w:=by
 intro d
 induction d with
 | zero=>intro t ls h;simp [eZ] at h
 | succ d ih=>
  intro t ls hl D' hD l r xs ys ha hx hy
  obtain ⟨D1,rfl⟩ : ∃ n,D' = n + 1:=⟨D' - 1,by omega⟩
  unfold eZ at hl
  cases hd : P.underlying t with
  | none=>simp [hd] at hl
  | some U=>
   rw [hd] at hl
   cases U<;>simp only at hl<;>try (cases hl;done)
   case int k=>
    cases hl
    obtain ⟨x,l,y,r,rfl,rfl,h1,h2⟩:=kj ha
    obtain ⟨hl0,hr0⟩:=eE _ _ _ h2
    have hl1:=List.length_eq_zero_iff.1 hl0;have hr1:=List.length_eq_zero_iff.1 hr0
    subst hl1;subst hr1
    simp only [fV] at hx hy
    obtain ⟨v,_,rfl,_,hv,rfl⟩:=hx
    obtain ⟨u,_,rfl,_,hu,rfl⟩:=hy
    cases x<;>cases y<;>simp [rO] at h1
    simp only [cC,List.cons.injEq,and_true] at hv hu
    subst hv;subst hu;subst h1
    simp only [jp,hd,List.headD_cons]
    rw [run_equalIn_int w D1 t _ _ _ _ hd]
    simp [dD,ww,Ng]
   case bool=>
    cases hl
    obtain ⟨x,l,y,r,rfl,rfl,h1,h2⟩:=kj ha
    obtain ⟨hl0,hr0⟩:=eE _ _ _ h2
    have hl1:=List.length_eq_zero_iff.1 hl0;have hr1:=List.length_eq_zero_iff.1 hr0
    subst hl1;subst hr1
    simp only [fV] at hx hy
    obtain ⟨v,_,rfl,_,hv,rfl⟩:=hx
    obtain ⟨u,_,rfl,_,hu,rfl⟩:=hy
    cases x<;>cases y<;>simp [rO] at h1
    simp only [cC,List.cons.injEq,and_true] at hv hu
    subst hv;subst hu
    simp only [jp,hd,List.headD_cons]
    rw [run_equalIn_bool' w D1 t _ _ hd]
    simp [dD,ww]
   case string=>
    cases hl
    obtain ⟨x,l,y,r,rfl,rfl,h1,h2⟩:=kj ha
    obtain ⟨hl0,hr0⟩:=eE _ _ _ h2
    have hl1:=List.length_eq_zero_iff.1 hl0;have hr1:=List.length_eq_zero_iff.1 hr0
    subst hl1;subst hr1
    simp only [fV] at hx hy
    obtain ⟨v,_,rfl,_,hv,rfl⟩:=hx
    obtain ⟨u,_,rfl,_,hu,rfl⟩:=hy
    cases x<;>cases y<;>simp [rO] at h1
    simp only [cC,List.cons.injEq,and_true] at hv hu
    subst hv;subst hu
    simp only [jp,hd,List.headD_cons]
    rw [run_equalIn_string w D1 t _ _ hd,D3,D3]
    simp [dD,ww,Ng]
   case struct fs=>
    split at hl
    ·cases hl
    ·rename_i hst
     have hfo : P.fieldsOf t = fs:=by simp [Program.fieldsOf,hd]
     simp only [jp,hd]
     rw [run_equalIn_struct w D1 t _ _ (by rw [hfo];exact hd) (by simpa using hst),hfo]
     clear hst hfo hd
     have key : ∀ (fs : List Field) (off : Nat) (ls : List Nat) (l r : List D),dT P (eZ P d) fs off = some ls -> off <= xs.length -> off <= ys.length -> er ls l r = true -> fV w st.S l (xs.drop off) -> fV w st.S r (ys.drop off) ->
       (Op.eqFields D1 xs.toArray ys.toArray fs).run P w = .ok (dD l r) w:=by
      intro fs
      induction fs with
      | nil=>
       intro off ls l r h _ _ ha _ _
       simp [dT] at h
       subst h
       obtain ⟨h1,h2⟩:=eE _ _ _ ha
       have hl1:=List.length_eq_zero_iff.1 h1;have hr1:=List.length_eq_zero_iff.1 h2
       subst hl1;subst hr1
       simp [Op.eqFields,dD]
      | cons f fs ihf=>
       intro off ls l r h ox oy ha hx hy
       obtain ⟨h1,h2,l1,r1,h3,h4,h5,rfl⟩:=oH h
       subst h2
       obtain ⟨a1,a2,a3⟩:=ob _ _ _ _ ha
       obtain ⟨hl,hr⟩:=eE _ _ _ ha
       have lx:=kp _ _ hx
       have ly:=kp _ _ hy
       simp only [List.length_append,List.length_drop] at hl hr lx ly
       obtain ⟨x1,x2⟩:=uM hx l1.length
       obtain ⟨y1,y2⟩:=uM hy l1.length
       rw [List.drop_drop] at x2 y2
       have e1:=ih f.type l1 h3 D1 (by omega) _ _ _ _ a1 x1 y1
       have e2:=ihf (f.offset + l1.length) r1 _ _ h5 (by omega) (by omega) a2 x2 y2
       simp only [Op.eqFields,if_pos h1,Sem.run_bind]
       rw [nk h3 h4 (by omega)]
       simp only [Result.andThen_ok]
       rw [nk h3 h4 (by omega)]
       simp only [Result.andThen_ok,e1]
       rw [a3]
       cases dD (l.take l1.length) (r.take l1.length)
       ·simp
       ·simp [e2]
     exact key fs.toList 0 ls l r hl (Nat.zero_le _) (Nat.zero_le _) ha (by simpa using hx) (by simpa using hy)
end
end Dw
namespace Dw
open Go Go.RowKit
theorem nx : ∀ (l : List AV) (r : List D),ev l = some r -> l = r.map .d
 | [],r,h=>by simp [ev] at h;simp [<- h]
 | x :: l,r,h=>by
  cases x<;>simp [ev] at h
  case d x=>
   split at h
   ·rename_i r' hr
    simp at h;subst h
    simp [nx l r' hr]
   ·cases h
theorem aCs_cCs {w : World} {st : St} : ∀ (l : List D) (vs : List Value),fO w st (l.map .d) vs -> fV w st.S l vs
 | [],vs,h=>by simpa [fO,fV] using h
 | x :: l,vs,h=>by
  simp only [List.map_cons,fO] at h
  obtain ⟨v,r,h1,h2,h3,h4⟩:=h
  simp only [fV]
  exact ⟨v,r,h1,by rw [<- D.one_av];exact h2,by simpa [aC] using h3,aCs_cCs l r h4⟩
theorem re {w : World} {st : St} {x : AV} {v : Value} (ha : x.isAgg = true) (h : aV w st x v) : ∃ us,v = .agg us.toArray /\ aC w st x us /\ fO w st x.cells us:=by
 obtain ⟨us,h1,h2⟩:=h
 rw [if_pos ha] at h1
 exact ⟨us,h1,h2,iw ha h2⟩
section
variable {P : Program} {E : TE} (hE : gJ P E) {w : World} {st : St}
include hE
theorem tE {op : BinOp} {t : Nat} {a : Addr} {K : AV -> Prop} (ox oy : Operand) (hk : a8 ((E t).kind == 7) (xL op false K)) :
  ln P w st K (do eqGuard op t ox oy (.pointer (some a)) (.pointer none);binOp op t (.pointer (some a)) (.pointer none)):=by
 obtain ⟨h1,hk⟩:=ai hk
 simp only [beq_iff_eq] at h1
 have hu:=Kb hE h1
 have hu' : P.underlying t = some (.pointer (P.pointee t)):=by simp only [Program.pointee,hu]
 have hg : ∀ op,(eqGuard op t ox oy (.pointer (some a)) (.pointer none)).run P w = .ok () w:=by
  intro op
  cases op<;>simp [eqGuard]
 cases op<;>simp only [xL] at hk<;>try (exact hk.elim)
 ·refine ⟨_,_,?_,bV.2 rfl,hk⟩
  simp only [Sem.run_bind,hg,Result.andThen_ok]
  exact run_eql_pointer_nil w t (some a) hu'
 ·refine ⟨_,_,?_,bV.2 rfl,hk⟩
  simp only [Sem.run_bind,hg,Result.andThen_ok]
  exact run_neq_pointer_nil w t (some a) hu'
theorem AJ {op : BinOp} {t : Nat} {x y : AV} {vx vy : Value} {K : AV -> Prop} (ox oy : Operand) (hx : aV w st x vx) (hy : aV w st y vy) (hk : ul E op t x y K) :
  ln P w st K (do eqGuard op t ox oy vx vy;binOp op t vx vy):=by
 unfold ul at hk
 split at hk
 ·rename_i k a k' b
  cases cf.1 hx;cases cf.1 hy
  have hg:=q8 (P:=P) (w:=w) (op:=op) (t:=t) (x:=ox) (y:=oy) (k:=k) (k':=k') (a:=a) (b:=b)
  suffices h : ln P w st K (binOp op t (.int k a) (.int k' b)) by
   obtain ⟨v,z,h1,h2,h3⟩:=h
   exact ⟨v,z,by simp only [Sem.run_bind,hg,Result.andThen_ok,h1],h2,h3⟩
  cases op<;>simp only at hk
  case shl=>
   obtain ⟨h1,hk⟩:=ai hk
   simp at h1
   refine ⟨_,_,?_,cf.2 rfl,hk⟩
   simp only [binOp,Op.shift]
   rw [if_neg (by omega)]
   rfl
  case shr=>
   obtain ⟨h1,hk⟩:=ai hk
   simp at h1
   refine ⟨_,_,?_,cf.2 rfl,hk⟩
   simp only [binOp,Op.shift]
   rw [if_neg (by omega)]
   rfl
  all_goals
   obtain ⟨h1,hk2⟩:=ai hk
   simp only [beq_iff_eq] at h1
   subst h1
   exact Bm t (by simp) hk2
 ·rename_i a b
  cases gM.1 hx;cases gM.1 hy
  obtain ⟨v,z,h1,h2,h3⟩:=BX (P:=P) (w:=w) (st:=st) t hk
  exact ⟨v,z,by simp only [Sem.run_bind,nS,Result.andThen_ok,h1],h2,h3⟩
 ·rename_i a b
  cases bV.1 hx;cases bV.1 hy
  obtain ⟨h1,hk⟩:=ai hk
  simp only [beq_iff_eq] at h1
  have hu:=uc hE h1
  cases op<;>simp only [xL] at hk<;>try (exact hk.elim)
  ·refine ⟨_,_,?_,bV.2 rfl,hk⟩
   simp only [Sem.run_bind,j9,Result.andThen_ok,binOp,Op.equal,Op.maxDepth]
   rw [run_equalIn_bool' w _ t _ _ hu]
   rfl
  ·refine ⟨_,_,?_,bV.2 rfl,hk⟩
   simp only [Sem.run_bind,j9,Result.andThen_ok,binOp,Op.equal,Op.maxDepth]
   rw [run_equalIn_bool' w _ t _ _ hu]
   rfl
 ·obtain ⟨us,h1,h2⟩:=hx
  simp only [AV.isAgg,Bool.false_eq_true,if_false] at h1
  subst h1
  simp only [aC,cC] at h2
  obtain ⟨b,o,us,e,_⟩:=h2
  cases e
  obtain ⟨us,h1,h2⟩:=hy
  simp only [AV.isAgg,Bool.false_eq_true,if_false] at h1
  subst h1
  simp only [aC] at h2
  cases h2
  exact tE hE ox oy hk
 ·obtain ⟨b,o,rfl,_⟩:=gL.1 hx
  obtain ⟨us,h1,h2⟩:=hy
  simp only [AV.isAgg,Bool.false_eq_true,if_false] at h1
  subst h1
  simp only [aC] at h2
  cases h2
  exact tE hE ox oy hk
 ·obtain ⟨h1,hk⟩:=ai hk
  simp only [Bool.and_eq_true,beq_iff_eq] at h1
  obtain ⟨⟨hax,hay⟩,hkd⟩:=h1
  split at hk
  ·rename_i l hl
   split at hk
   ·rename_i r hr
    obtain ⟨h2,hk⟩:=ai hk
    simp only [Bool.and_eq_true, Bool.not_eq_true', List.isEmpty_eq_false_iff] at h2
    obtain ⟨xs,rfl,x1,x2⟩:=re hax hx
    obtain ⟨ys,rfl,y1,y2⟩:=re hay hy
    rw [nx _ _ hl] at x2
    rw [nx _ _ hr] at y2
    obtain ⟨f1,f2⟩:=(hE.facts (t:=t) (by omega)).leaf h2.1
    obtain ⟨fs,hs,_⟩:=gk hE hkd
    have hrun:=tN (P:=P) (w:=w) (st:=st) 20 t _ f1 10000 (by omega) l r xs ys h2.2 (aCs_cCs _ _ x2) (aCs_cCs _ _ y2)
    simp only [jp,hs] at hrun
    cases op<;>simp only [xL] at hk<;>try (exact hk.elim)
    ·refine ⟨_,_,?_,bV.2 rfl,hk⟩
     simp only [Sem.run_bind,run_eqGuard_agg w _ t ox oy _ _ f2,Result.andThen_ok,run_eql_struct,hrun]
    ·refine ⟨_,_,?_,bV.2 rfl,hk⟩
     simp only [Sem.run_bind,run_eqGuard_agg w _ t ox oy _ _ f2,Result.andThen_ok,run_neq_struct,hrun]
   ·exact hk.elim
  ·exact hk.elim
theorem BG {op : BinOp} {t : Nat} {x : AV} {vx : Value} {K : AV -> Prop} (ox oy : Operand) (hx : aV w st x vx) (hk : xe E op t x K) :
  ln P w st K (do eqGuard op t ox oy vx (.slice none 0 0);binOp op t vx (.slice none 0 0)):=by
 unfold xe at hk
 split at hk
 ·rename_i b hb
  obtain ⟨h1,hk⟩:=ai hk
  simp only [beq_iff_eq] at h1
  have hu:=bd hE h1
  have hv : ∃ a n c,vx = .slice a n c /\ b = a.isNone:=by
   unfold BF at hb
   split at hb
   ·cases hb
    obtain ⟨us,h1,h2⟩:=hx
    simp [AV.isAgg] at h1;subst h1
    simp [aC] at h2;subst h2
    exact ⟨_,_,_,rfl,rfl⟩
   ·cases hb
    obtain ⟨a,c,rfl,h1,h2⟩:=qs.1 hx
    obtain ⟨b, o, k', rfl, _⟩ := h2 (by simp)
    exact ⟨_,_,_,rfl,rfl⟩
   ·cases hb
    obtain ⟨a,c,rfl,a1,a2,a3,a4,a5,a6⟩:=eT.1 hx
    obtain ⟨b,o,rfl⟩:=a4 (by omega)
    exact ⟨_,_,_,rfl,rfl⟩
   ·cases hb
  obtain ⟨a,n,c,rfl,rfl⟩:=hv
  have hg : ∀ op,(eqGuard op t ox oy (.slice a n c) (.slice none 0 0)).run P w = .ok () w:=by
   intro op
   cases op<;>simp [eqGuard]
  cases op<;>simp only [xL] at hk<;>try (exact hk.elim)
  ·refine ⟨_,_,?_,bV.2 rfl,hk⟩
   simp only [Sem.run_bind,hg,Result.andThen_ok]
   exact Go.Lib.run_eql_slice_nil w t _ a n c 0 0 hu
  ·refine ⟨_,_,?_,bV.2 rfl,hk⟩
   simp only [Sem.run_bind,hg,Result.andThen_ok,binOp,Op.equal,Op.maxDepth]
   rw [Go.Lib.run_equalIn_slice_nil w 9999 t _ a n c 0 0 hu]
   rfl
 ·exact hk.elim
omit hE in
theorem FE {op : UnOp} {x : AV} {vx : Value} {K : AV -> Prop} (hx : aV w st x vx) (hk : Ka op x K) : ln P w st K (Op.unary op vx):=by
 unfold Ka at hk
 split at hk
 ·cases bV.1 hx
  exact ⟨_,_,rfl,bV.2 rfl,hk⟩
 ·cases cf.1 hx
  exact ⟨_,_,rfl,cf.2 rfl,hk⟩
 ·exact hk.elim
theorem tO {f : Field} (h : (E f.type).kind ≠ 0) (a : Addr) : (fieldPlace a f).run P w = .ok (a.add f.offset) w:=by
 have:=(hE.facts h).pos
 simp only [fieldPlace,Sem.run_bind,bx hE h,Result.andThen_ok]
 rw [if_neg (by omega)]
 rfl
omit hE in
theorem sI {fs : Array Field} {fields : List (Nat × Nat)} {f : Nat} {p : Nat × Nat} (h : fs.toList.map (fun f=>(f.offset,f.type)) = fields) (hp : fields[f]? = some p) :
  ∃ g,fs[f]? = some g /\ g.offset = p.1 /\ g.type = p.2:=by
 subst h
 rw [List.getElem?_map] at hp
 obtain ⟨g,h1,h2⟩:=Option.map_eq_some_iff.1 hp
 refine ⟨g,by simpa using h1,?_,?_⟩<;>rw [<- h2]
theorem qW {s f : Nat} {x : AV} {vx : Value} {K : AV -> Prop} (hx : aV w st x vx) (hk : ez E s x f K) : ln P w st K (Instr.fieldAt s vx f):=by
 unfold ez at hk
 obtain ⟨h1,hk⟩:=ai hk
 simp only [beq_iff_eq] at h1
 obtain ⟨p,hp,hk⟩:=(aE _ _).1 hk
 obtain ⟨h2,hk⟩:=ai hk
 obtain ⟨fs,hs,hm,_⟩:=gk hE h1
 obtain ⟨g,g1,g2,g3⟩:=sI hm hp
 have hkind : (E g.type).kind ≠ 0:=by rw [g3];simpa using h2
 have run : ∀ b o,(Instr.fieldAt s (.pointer (some ⟨b,o,none⟩)) f).run P w = .ok (.pointer (some ⟨b,o + p.1,none⟩)) w:=by
  intro b o
  simp only [Instr.fieldAt,Sem.run_bind,run_underlying hs,Result.andThen_ok,g1,Instr.sureAddr,Sem.run_pure,tO hE hkind,cZ,g2]
 split at hk
 ·obtain ⟨b,o,rfl,a1,a2,a3⟩:=gL.1 hx
  exact ⟨_,_,run b o,gL.2 ⟨b,_,rfl,a1,a2,fun r hr=>⟨(a3 r hr).1,by rw [(a3 r hr).2];omega⟩⟩,hk⟩
 ·obtain ⟨b,o,us,rfl,a1,a2,a3⟩:=rM.1 hx
  exact ⟨_,_,run b _,rM.2 ⟨b,o,us,by rw [Nat.add_assoc],a1,a2,a3⟩,hk⟩
 ·exact hk.elim
theorem tD {t off : Nat} {x : AV} {us : List Value} {K : AV -> Prop} (ha : x.isAgg = true) (hc : aC w st x us) (hk : Bq (E t) x off K) : ln P w st K (part t us.toArray off):=by
 have hcs:=iw ha hc
 have hlen:=bW _ _ hcs
 unfold Bq at hk
 rcases aq hk with ⟨ht,hk⟩ | ⟨ht,hk⟩
 ·have hkind : (E t).kind ≠ 0:=by intro h0;simp [TI.agg,h0] at ht
  have hagg : (isAgg t).run P w = .ok true w:=by rw [mJ hE hkind,ht]
  rcases aq hk with ⟨h1,hk1⟩ | ⟨h1,hk⟩
  ·simp only [Bool.and_eq_true,beq_iff_eq] at h1
   obtain ⟨h0,_,hl⟩:=h1
   refine ⟨.agg us.toArray,x,?_,⟨us,by simp [ha],hc⟩,hk1⟩
   simp only [part,Sem.run_bind,hagg,Result.andThen_ok,if_true,bx hE hkind,Sem.run_pure,h0]
   congr 2
   apply Array.ext'
   have : us.length = (E t).size:=by omega
   simp [List.extract_eq_take_drop,<- this]
  ·obtain ⟨h2,hk⟩:=ai hk
   simp only [Bool.and_eq_true,decide_eq_true_eq] at h2
   rw [cO,dM] at hk
   refine ⟨.agg ((us.drop off).take (E t).size).toArray,_,?_,⟨(us.drop off).take (E t).size,by simp [AV.isAgg],by simp only [aC];exact xS (xQ hcs off) _⟩,hk⟩
   simp only [part,Sem.run_bind,hagg,Result.andThen_ok,if_true,bx hE hkind,Sem.run_pure]
   congr 2
   apply Array.ext'
   simp [List.extract_eq_take_drop]
 ·obtain ⟨h2,hk⟩:=ai hk
  have hkind : (E t).kind ≠ 0:=by simpa using h2
  obtain ⟨y,hy,hk⟩:=(aE _ _).1 hk
  obtain ⟨v,h3,h4,h5⟩:=go _ _ _ _ hcs hy
  refine ⟨v,y,?_,⟨[v],by simp [oq h4],h5⟩,hk⟩
  have hagg : (isAgg t).run P w = .ok false w:=by rw [mJ hE hkind,ht]
  simp only [part,Sem.run_bind,hagg,Result.andThen_ok,Bool.false_eq_true,if_false]
  simp only [List.getElem?_toArray,h3,Sem.run_pure]
theorem yL {s f : Nat} {x : AV} {vx : Value} {K : AV -> Prop} (hx : aV w st x vx) (hk : pW E s x f K) : ln P w st K (Instr.field s vx f):=by
 unfold pW at hk
 obtain ⟨h1,hk⟩:=ai hk
 simp only [beq_iff_eq] at h1
 obtain ⟨p,hp,hk⟩:=(aE _ _).1 hk
 obtain ⟨h2,hk⟩:=ai hk
 obtain ⟨fs,hs,hm,_⟩:=gk hE h1
 obtain ⟨g,g1,g2,g3⟩:=sI hm hp
 obtain ⟨us,rfl,u1,u2⟩:=re h2 hx
 obtain ⟨v,z,h3,h4,h5⟩:=tD hE h2 u1 hk
 refine ⟨v,z,?_,h4,h5⟩
 simp only [Instr.field,Sem.run_bind,run_underlying hs,Result.andThen_ok,g1,asAgg,Sem.run_pure,g2,g3,h3]
theorem qY {t : Nat} {x i : AV} {vx vi : Value} {K : AV -> Prop} (hx : aV w st x vx) (hi : aV w st i vi) (hk : dV E t x i K) : ln P w st K (Instr.indexAt t vx vi):=by
 unfold dV at hk
 split at hk
 ·rename_i k n
  cases cf.1 hi
  split at hk
  ·rename_i id s len kk cap
   obtain ⟨h1,⟨h2,h3⟩,hk⟩:=ai hk
   simp only [Bool.and_eq_true,beq_iff_eq,bne_iff_ne] at h1
   obtain ⟨hk4,hsz,hkind⟩:=h1
   obtain ⟨a,c,rfl,a1,a2,a3,a4,a5,a6⟩:=eT.1 hx
   obtain ⟨b,o,rfl⟩:=a4 (by omega)
   refine ⟨.pointer (some ⟨b,o + n.toNat * (E (E t).elem).size,none⟩),_,?_,?_,hk⟩
   ·simp only [Instr.indexAt,asIntOf,Sem.run_bind,Sem.run_pure,Result.andThen_ok,run_underlying (bd hE hk4)]
    rw [if_pos ⟨h2,h3⟩]
    simp only [Sem.run_bind,bx hE hkind,Result.andThen_ok,Sem.run_pure,cZ]
   ·refine gL.2 ⟨b,_,rfl,a1,a2,fun r hr=>?_⟩
    obtain ⟨r1,r2,r3,r4⟩:=a6 r hr
    have:=r3 (by omega)
    simp only [Option.some.injEq,Addr.mk.injEq] at this
    refine ⟨this.1,?_⟩
    rw [this.2.1,<- hsz,<- r1,Nat.add_mul];omega
  ·rename_i l
   obtain ⟨h1,h2,hk⟩:=ai hk
   simp only [beq_iff_eq] at h1
   obtain ⟨y,hy,hk⟩:=(aE _ _).1 hk
   obtain ⟨h3,hk⟩:=ai hk
   simp only [Bool.and_eq_true,beq_iff_eq,bne_iff_ne] at h3
   obtain ⟨a,c,rfl,a1,a2⟩:=qs.1 hx
   have hlt : n.toNat < l.length:=(List.getElem?_eq_some_iff.1 hy).1
   obtain ⟨b,o,kk,rfl,a3,a4,a5⟩:=a2 (by intro h;subst h;simp at hlt)
   obtain ⟨us,u1,u2,u3⟩:=(eV l o).1 a5 _ y hy
   have hkk : kk = (E (E t).elem).size:=by rw [<- u1,ip _ _ u2,h3.1]
   refine ⟨.pointer (some ⟨b,o + n.toNat * (E (E t).elem).size,none⟩),_,?_,?_,hk⟩
   ·simp only [Instr.indexAt,asIntOf,Sem.run_bind,Sem.run_pure,Result.andThen_ok,run_underlying (bd hE h1)]
    rw [if_pos ⟨h2,by omega⟩]
    simp only [Sem.run_bind,bx hE h3.2,Result.andThen_ok,Sem.run_pure,cZ]
   ·exact rM.2 ⟨b,o + n.toNat * kk,us,by rw [hkk];rfl,a3,u2,u3⟩
  ·rename_i id e o0
   obtain ⟨h1,⟨h2,h3⟩,hk⟩:=ai hk
   simp only [Bool.and_eq_true,beq_iff_eq,bne_iff_ne] at h1
   obtain ⟨b,o,rfl,a1,a2,a3⟩:=gL.1 hx
   refine ⟨.pointer (some ⟨b,o + n.toNat * (E (E t).elem).size,none⟩),_,?_,gL.2 ⟨b,_,rfl,a1,a2,fun r hr=>⟨(a3 r hr).1,by rw [(a3 r hr).2];omega⟩⟩,hk⟩
   simp only [Instr.indexAt,asIntOf,Sem.run_bind,Sem.run_pure,Result.andThen_ok,run_underlying (ir hE h1.1),Instr.sureAddr]
   rw [if_pos ⟨h2,h3⟩]
   simp only [Sem.run_bind,bx hE h1.2,Result.andThen_ok,Sem.run_pure,cZ]
  ·rename_i y o0
   obtain ⟨h1,⟨h2,h3⟩,hk⟩:=ai hk
   simp only [Bool.and_eq_true,beq_iff_eq,bne_iff_ne] at h1
   obtain ⟨b,o,us,rfl,a1,a2,a3⟩:=rM.1 hx
   refine ⟨.pointer (some ⟨b,o + o0 + n.toNat * (E (E t).elem).size,none⟩),_,?_,rM.2 ⟨b,o,us,by rw [Nat.add_assoc],a1,a2,a3⟩,hk⟩
   simp only [Instr.indexAt,asIntOf,Sem.run_bind,Sem.run_pure,Result.andThen_ok,run_underlying (ir hE h1.1),Instr.sureAddr]
   rw [if_pos ⟨h2,h3⟩]
   simp only [Sem.run_bind,bx hE h1.2,Result.andThen_ok,Sem.run_pure,cZ]
  ·exact hk.elim
 ·exact hk.elim
theorem y9 {t : Nat} {x i : AV} {vx vi : Value} {K : AV -> Prop} (hx : aV w st x vx) (hi : aV w st i vi) (hk : jx E t x i K) : ln P w st K (Instr.index t vx vi):=by
 unfold jx at hk
 split at hk
 ·rename_i k n
  cases cf.1 hi
  split at hk
  ·rename_i s
   cases gM.1 hx
   obtain ⟨h1,h2,hk⟩:=ai hk
   simp only [beq_iff_eq] at h1
   obtain ⟨b,hb,hk⟩:=(aE _ _).1 hk
   refine ⟨_,_,?_,cf.2 rfl,hk⟩
   simp only [Instr.index,asIntOf,Sem.run_bind,Sem.run_pure,Result.andThen_ok,run_underlying (bK hE h1)]
   have hg : (⟨s.toArray⟩ : ByteArray)[n.toNat]? = some b:=by
    have hlt : n.toNat < s.length:=(List.getElem?_eq_some_iff.1 hb).1
    have : n.toNat < (⟨s.toArray⟩ : ByteArray).size:=by rw [ya];exact hlt
    rw [getElem?_pos (⟨s.toArray⟩ : ByteArray) n.toNat this]
    congr 1
    have:=(List.getElem?_eq_some_iff.1 hb).2
    rw [<- this]
    rfl
   rw [if_pos h2,hg]
   rfl
  ·obtain ⟨h1,⟨h2,h3⟩,hk⟩:=ai hk
   simp only [Bool.and_eq_true,beq_iff_eq,bne_iff_ne] at h1
   obtain ⟨hk6,ha,hkind⟩:=h1
   obtain ⟨us,rfl,u1,u2⟩:=re ha hx
   obtain ⟨v,z,e1,e2,e3⟩:=tD hE ha u1 hk
   refine ⟨v,z,?_,e2,e3⟩
   simp only [Instr.index,asIntOf,Sem.run_bind,Sem.run_pure,Result.andThen_ok,run_underlying (ir hE hk6)]
   rw [if_pos ⟨h2,h3⟩]
   simp only [Sem.run_bind,bx hE hkind,Result.andThen_ok,e1]
 ·exact hk.elim
end
end Dw
namespace Dw
open Go Go.RowKit
def oV (w : World) (st : St) : Option AV -> Option Value -> Prop
 | none,none=>True
 | some a,some v=>aV w st a v
 | _,_=>False
def D5 (o : Option Value) (dflt : Nat) (l : Int) : Prop:=(o = none /\ l = dflt) \/ ∃ k,o = some (.int k l)
theorem cz {w : World} {st : St} {dflt : Nat} {o : Option AV} {ov : Option Value} {K : Int -> Prop} (ho : oV w st o ov) (h : db dflt o K) : ∃ l,D5 ov dflt l /\ K l /\ (o.isSome = ov.isSome):=by
 unfold db at h
 split at h
 ·cases ov with
  | none=>exact ⟨dflt,Or.inl ⟨rfl,rfl⟩,h,rfl⟩
  | some v=>exact ho.elim
 ·rename_i k n
  cases ov with
  | none=>exact ho.elim
  | some v=>cases cf.1 (show aV w st _ v from ho);exact ⟨n,Or.inr ⟨k,rfl⟩,h,rfl⟩
 ·exact h.elim
theorem dK {P : Program} {w : World} {k : IntKind} {n : Int} {y : Nat} {code : BoundsCode} (h : 0 <= n /\ n <= y) : (Instr.sliceBound (.int k n) y code).run P w = .ok n.toNat w:=by
 simp only [Instr.sliceBound,asIntOf,Sem.run_bind,Sem.run_pure,Result.andThen_ok]
 rw [if_pos h]
 rfl
theorem dr {P : Program} {w : World} {isS : Bool} {len cap : Nat} {lo hi : Option Value} {l u : Int} (hl : D5 lo 0 l) (hu : D5 hi len u) (h : 0 <= l /\ l <= u /\ u <= cap) :
  (Instr.sliceBounds isS len cap lo hi none).run P w = .ok (l.toNat,u.toNat,cap) w:=by
 unfold Instr.sliceBounds
 rcases hu with ⟨rfl,rfl⟩ | ⟨k,rfl⟩
 ·rcases hl with ⟨rfl, rfl⟩ | ⟨k', rfl⟩
  ·simp
  ·simp [dK (P:=P) (w:=w) (k:=k') (code:=.sliceB) ⟨h.1,h.2.1⟩]
 ·have h1:=dK (P:=P) (w:=w) (k:=k) (n:=u) (y:=cap) (code:=(if isS then .sliceAcap else .sliceAlen)) ⟨by omega,by omega⟩
  rcases hl with ⟨rfl, rfl⟩ | ⟨k', rfl⟩
  ·simp [h1]
  ·have h2:=dK (P:=P) (w:=w) (k:=k') (n:=l) (y:=u.toNat) (code:=.sliceB) ⟨h.1,by omega⟩
   simp [h1,h2]
theorem eC {P : Program} {w : World} {isS : Bool} {len cap : Nat} {lo hi mx : Option Value} {l u m : Int} (hl : D5 lo 0 l) (hu : D5 hi len u) (hm : D5 mx 0 m) (hs : hi.isSome = true) (hms : mx.isSome = true)
  (h : 0 <= l /\ l <= u /\ u <= m /\ m <= cap) : (Instr.sliceBounds isS len cap lo hi mx).run P w = .ok (l.toNat,u.toNat,m.toNat) w:=by
 unfold Instr.sliceBounds
 rcases hm with ⟨rfl,rfl⟩ | ⟨km,rfl⟩
 ·simp at hms
 ·rcases hu with ⟨rfl,rfl⟩ | ⟨k,rfl⟩
  ·simp at hs
  ·have h0:=dK (P:=P) (w:=w) (k:=km) (n:=m) (y:=cap) (code:=(if isS then .slice3Acap else .slice3Alen)) ⟨by omega,by omega⟩
   have h1:=dK (P:=P) (w:=w) (k:=k) (n:=u) (y:=m.toNat) (code:=.slice3B) ⟨by omega,by omega⟩
   rcases hl with ⟨rfl, rfl⟩ | ⟨k', rfl⟩
   ·simp [h0,h1]
   ·have h2:=dK (P:=P) (w:=w) (k:=k') (n:=l) (y:=u.toNat) (code:=.slice3C) ⟨h.1,by omega⟩
    simp [h0,h1,h2]
section
variable {P : Program} {E : TE} (hE : gJ P E) {w : World} {st : St}
include hE
theorem cK {t : Nat} (hk4 : (E t).kind = 4) (hkind : (E (E t).elem).kind ≠ 0) {a : Option Addr} {len cap : Nat} {lo hi mx : Option Value} {l u m : Nat} (h : (Instr.sliceBounds true len cap lo hi mx).run P w = .ok (l,u,m) w) :
  (Instr.sliceAt t (.slice a len cap) lo hi mx).run P w = .ok (.slice (if m = l then a else a.map (·.add (l * (E (E t).elem).size))) (u - l) (m - l)) w:=by
 simp only [Instr.sliceAt,Instr.slice,Sem.run_bind,run_underlying (bd hE hk4),Result.andThen_ok,h,bx hE hkind,Sem.run_pure]
omit hE in
theorem Ga {S : Nat -> Prop} {b k o : Nat} {l : List D} (h : ol w S b k l o) (n m : Nat) : ol w S b k ((l.take m).drop n) (o + n * k):=by
 rw [eV] at *
 intro i x hx
 rw [List.getElem?_drop,List.getElem?_take] at hx
 split at hx
 ·obtain ⟨us,h1,h2,h3⟩:=h _ x hx
  exact ⟨us,h1,h2,by rw [show o + n * k + i * k = o + (n + i) * k by rw [Nat.add_mul];omega];exact h3⟩
 ·cases hx
theorem Ac {t : Nat} {x : AV} {vx : Value} {lo hi mx : Option AV} {vlo vhi vmx : Option Value} {K : AV -> Prop} (hx : aV w st x vx) (hlo : oV w st lo vlo) (hhi : oV w st hi vhi) (hmx : oV w st mx vmx) {B : Nat} {W : World} {h : ae} (hw : WR B W w st h) (hk : ei E t x lo hi mx h K) :
  ln P w st K (Instr.sliceAt t vx vlo vhi vmx):=by
 unfold ei at hk
 split at hk
 ·rename_i s
  cases gM.1 hx
  obtain ⟨h1,hk⟩:=ai hk
  simp only [Bool.and_eq_true,beq_iff_eq,Option.isNone_iff_eq_none] at h1
  obtain ⟨hk3,hmn⟩:=h1
  obtain ⟨l,hl,hk,_⟩:=cz hlo hk
  obtain ⟨u,hu,hk,_⟩:=cz hhi hk
  obtain ⟨hb,hkf⟩:=hk
  subst hmn
  cases vmx with
  | some v=>exact hmx.elim
  | none=>
   refine ⟨_,_,?_,gM.2 rfl,hkf⟩
   have hr:=dr (P:=P) (w:=w) (isS:=false) (len:=s.length) (cap:=s.length) hl hu ⟨hb.1,hb.2.1,by omega⟩
   simp only [Instr.sliceAt,Instr.slice,Sem.run_bind,run_underlying (bK hE hk3),Result.andThen_ok,ya,Option.isSome_none,Bool.false_eq_true,if_false,hr,Sem.run_pure,xX]
 ·obtain ⟨h1,hk⟩:=ai hk
  simp only [Bool.and_eq_true,beq_iff_eq,bne_iff_ne] at h1
  obtain ⟨hk4,hkind,hms⟩:=h1
  obtain ⟨l,hl,hk,_⟩:=cz hlo hk
  obtain ⟨u,hu,hk,hhs⟩:=cz hhi hk
  obtain ⟨m,hm,hk,hmxs⟩:=cz hmx hk
  obtain ⟨⟨hl0,hu0,hm0⟩,hk⟩:=hk
  rw [hl0] at hl;rw [hu0] at hu;rw [hm0] at hm
  obtain ⟨a,rfl⟩:=mc hx
  have hr : (Instr.sliceBounds true 0 0 vlo vhi vmx).run P w = .ok (0,0,0) w:=by
   cases vmx with
   | none=>exact dr hl hu (by omega)
   | some v=>exact eC hl hu hm (by rw [<- hhs];rw [Option.isSome_some] at hmxs;cases mx with | none=>simp at hmxs | some z=>simpa using hms) rfl (by omega)
  refine ⟨_,_,cK hE hk4 hkind hr,cw rfl (by simp [aC]),hk⟩
 ·rename_i x
  obtain ⟨h1,hk⟩:=ai hk
  simp only [Bool.and_eq_true,beq_iff_eq,bne_iff_ne] at h1
  obtain ⟨hk4,hkind⟩:=h1
  obtain ⟨l,hl,hk,_⟩:=cz hlo hk
  obtain ⟨u,hu,hk,hhs⟩:=cz hhi hk
  obtain ⟨a,c,rfl,a1,a2⟩:=qs.1 hx
  have key : ∀ m : Nat,u.toNat <= m -> l.toNat <= u.toNat -> 0 <= l -> 0 <= u -> u.toNat <= x.length -> (∀ y ∈ x,y.cells.length = (E (E t).elem).size) ->
    aV w st (.d (.fs ((x.take u.toNat).drop l.toNat))) (.slice (if m = l.toNat then a else a.map (·.add (l.toNat * (E (E t).elem).size))) (u.toNat - l.toNat) (m - l.toNat)):=by
   intro m h1 h2 h3 h4 h5 h6
   have hlen : ((x.take u.toNat).drop l.toNat).length = u.toNat - l.toNat:=by simp;omega
   refine qs.2 ⟨_,m - l.toNat,by rw [hlen],by rw [hlen];omega,fun hne=>?_⟩
   have hpos : 0 < u.toNat - l.toNat:=by rw [<- hlen];exact List.length_pos_iff.2 hne
   obtain ⟨b,o,k,rfl,b1,b2,b3⟩:=a2 (by rintro rfl;simp at h5;omega)
   have hk : k = (E (E t).elem).size:=by
    cases x with
    | nil=>simp at h5;omega
    | cons y x=>
     obtain ⟨us,u1,u2,_⟩:=(eV _ _).1 b3 0 y (by simp)
     rw [<- u1,ip _ _ u2,h6 y (by simp)]
   refine ⟨b,o + l.toNat * k,k,?_,b1,b2,Ga b3 _ _⟩
   rw [if_neg (by omega),hk]
   simp [cZ]
  cases mx with
  | none=>
   obtain ⟨hb,hk⟩:=hk
   cases vmx with
   | some v=>exact hmx.elim
   | none=>exact ⟨_,_,cK hE hk4 hkind (dr hl hu ⟨hb.1,hb.2.1,by omega⟩),key c (by omega) (by omega) (by omega) (by omega) (by omega) hb.2.2.2,hk⟩
  | some mv=>
   obtain ⟨h2,hk⟩:=ai hk
   obtain ⟨m,hm,hk,hms⟩:=cz hmx hk
   obtain ⟨hb,hk⟩:=hk
   have hr:=eC (P:=P) (w:=w) (isS:=true) (cap:=c) hl hu hm (by rw [<- hhs];exact h2) (by rw [<- hms];rfl) ⟨hb.1,hb.2.1,hb.2.2.1,by omega⟩
   rcases aq hk with ⟨h3,hk⟩ | ⟨h3,hk⟩
   ·simp at h3
    refine ⟨_,_,cK hE hk4 hkind hr,?_,hk⟩
    have : u.toNat - l.toNat = 0:=by omega
    have h0 : m.toNat - l.toNat = 0:=by omega
    rw [this,h0]
    exact cw rfl (by simp [aC])
   ·exact ⟨_,_,cK hE hk4 hkind hr,key m.toNat (by omega) (by omega) (by omega) (by omega) (by omega) hb.2.2.2.2,hk⟩
 ·rename_i id s len k cap
  obtain ⟨h1,hk⟩:=ai hk
  simp only [Bool.and_eq_true,beq_iff_eq,bne_iff_ne] at h1
  obtain ⟨hk4,hsz,hkind⟩:=h1
  obtain ⟨l,hl,hk,_⟩:=cz hlo hk
  obtain ⟨u,hu,hk,hhs⟩:=cz hhi hk
  obtain ⟨a,c,rfl,a1,a2,a3,a4,a5,a6⟩:=eT.1 hx
  have key : ∀ (m : Nat) (cap' : Option Nat), u.toNat <= m -> m <= c -> l.toNat <= u.toNat -> (cap' = none -> ∀ r, st.ρ id = some r -> s + u.toNat <= r.n) -> (∀ c', cap' = some c' -> m - l.toNat = c') -> (cap' = none -> cap = none /\ m = c) ->
    aV w st (.sl id (s + l.toNat) (u.toNat - l.toNat) k cap') (.slice (if m = l.toNat then a else a.map (·.add (l.toNat * (E (E t).elem).size))) (u.toNat - l.toNat) (m - l.toNat)):=by
   intro m cap' h1 h2 h3 h4 h5 h6
   refine eT.2 ⟨_,m - l.toNat,rfl,a1,a2,by omega,fun hne=>?_,h5,fun r hr=>?_⟩
   ·obtain ⟨b,o,rfl⟩:=a4 (by omega)
    rw [if_neg (by omega)]
    exact ⟨b,_,by simp [cZ];rfl⟩
   ·obtain ⟨r1,r2,r3,r4⟩:=a6 r hr
    refine ⟨r1,by omega,fun hne=>?_,fun hn=>?_⟩
    ·rw [if_neg (by omega),r3 (by omega)]
     simp only [Option.map_some,cZ,<- hsz,<- r1,Nat.add_mul]
     rw [Nat.add_assoc]
    ·obtain ⟨hc,rfl⟩:=h6 hn
     have:=r4 hc
     have:=h4 hn r hr
     omega
  cases mx with
  | none=>
   obtain ⟨hb,hk⟩:=hk
   cases vmx with
   | some v=>exact hmx.elim
   | none=>
    have huc : u <= c:=by
     rcases hb.2.2 with h1 | h1
     ·omega
     ·cases cap with
      | some c0=>simp only at h1;rw [a5 c0 rfl];exact h1
      | none=>
       obtain ⟨o,g1,g2,g3⟩:=h1
       obtain ⟨r,hr,hobj⟩:=hw.obj id o g1 g2 a2
       obtain ⟨r1,r2,r3,r4⟩:=a6 r hr
       have:=(r4 rfl).2
       have:=hobj.n
       omega
    refine ⟨_,_,cK hE hk4 hkind (dr hl hu ⟨hb.1,hb.2.1,huc⟩),key c _ (by omega) (by omega) (by omega) ?_ ?_ ?_,hk⟩
    ·intro hn r hr
     cases cap with
     | some c0=>simp at hn
     | none=>
      obtain ⟨r1,r2,r3,r4⟩:=a6 r hr
      rcases hb.2.2 with h1 | ⟨o,g1,g2,g3⟩
      ·have:=(r4 rfl).1
       omega
      ·obtain ⟨r', hr', hobj⟩ := hw.obj id o g1 g2 a2
       rw [hr] at hr';cases hr'
       have:=hobj.n
       omega
    ·intro c' hc'
     cases cap with
     | none=>simp at hc'
     | some c0=>simp at hc';rw [a5 c0 rfl];exact hc'
    ·intro hn
     cases cap with
     | none=>exact ⟨rfl,rfl⟩
     | some c0=>simp at hn
  | some mv=>
   obtain ⟨h2,hk⟩:=ai hk
   obtain ⟨m,hm,hk,hms⟩:=cz hmx hk
   obtain ⟨hb,hk⟩:=hk
   have hr:=eC (P:=P) (w:=w) (isS:=true) (cap:=c) hl hu hm (by rw [<- hhs];exact h2) (by rw [<- hms];rfl) ⟨hb.1,hb.2.1,hb.2.2.1,by omega⟩
   rcases aq hk with ⟨h3,hk⟩ | ⟨h3,hk⟩
   ·simp at h3
    refine ⟨_,_,cK hE hk4 hkind hr,?_,hk⟩
    have : u.toNat - l.toNat = 0:=by omega
    have h0 : m.toNat - l.toNat = 0:=by omega
    rw [this,h0]
    exact cw rfl (by simp [aC])
   ·exact ⟨_,_,cK hE hk4 hkind hr,key m.toNat _ (by omega) (by omega) (by omega) (fun h=>by cases h) (fun c' hc'=>by simpa using hc') (fun h=>by cases h),hk⟩
 ·exact hk.elim
end
end Dw
namespace Dw
open Go Go.RowKit
theorem mN {f : AV -> Option D} : ∀ (l : List AV) (r : List D),vl f l = some r -> r.length = l.length /\ ∀ (i : Nat) (a : AV) (x : D),l[i]? = some a -> r[i]? = some x -> f a = some x
 | [],r,h=>by simp [vl] at h;subst h;simp
 | a :: l,r,h=>by
  simp only [vl] at h
  split at h
  ·rename_i x hx
   split at h
   ·rename_i r' hr
    cases h
    obtain ⟨h1,h2⟩:=mN l r' hr
    refine ⟨by simp [h1],fun i b y hb hy=>?_⟩
    cases i with
    | zero=>simp at hb hy;subst hb;subst hy;exact hx
    | succ i=>exact h2 i b y (by simpa using hb) (by simpa using hy)
   ·cases h
  ·cases h
theorem F9 {w : World} {S : Nat -> Prop} : ∀ (l : List D) (vs : List Value),vs.length = l.length -> (∀ (i : Nat) (x : D) (v : Value),l[i]? = some x -> vs[i]? = some v -> x.one = true /\ cC w S x [v]) -> fV w S l vs
 | [],vs,hl,_=>by simp only [fV];exact List.length_eq_zero_iff.1 hl
 | y :: l,[],hl,_=>by simp at hl
 | y :: l,v :: r,hl,h=>by
  simp only [fV]
  obtain ⟨h1,h2⟩:=h 0 y v (by simp) (by simp)
  exact ⟨v,r,rfl,h1,h2,F9 l r (by simpa using hl) fun i x u hx hu=>h (i + 1) x u (by simpa using hx) (by simpa using hu)⟩
theorem wv {w : World} {S : Nat -> Prop} : ∀ (l : List D) (vs : List Value),iX w S l vs ↔ vs.length = l.length /\ ∀ (i : Nat) (x : D) (v : Value),l[i]? = some x -> vs[i]? = some v -> cV w S x v
 | [],vs=>by simp [iX,cV,List.length_eq_zero_iff]
 | x :: l,vs=>by
  simp only [iX,wv l]
  constructor
  ·rintro ⟨v,r,us,rfl,h2,h3,h4,h5⟩
   refine ⟨by simp [h4],fun i y u hy hu=>?_⟩
   cases i with
   | zero=>simp at hy hu;subst hy;subst hu;exact ⟨us,h2,h3⟩
   | succ i=>exact h5 i y u (by simpa using hy) (by simpa using hu)
  ·rintro ⟨hl,h⟩
   cases vs with
   | nil=>simp at hl
   | cons v r=>
    obtain ⟨us,h1,h2⟩:=h 0 x v (by simp) (by simp)
    exact ⟨v,r,us,rfl,h1,h2,by simpa using hl,fun i y u hy hu=>h (i + 1) y u (by simpa using hy) (by simpa using hu)⟩
theorem Au {n : Nat} {h : ae} {a : AV} {d : D} (ha : a.one = true) (hv : bl n h a = some d) : d.one = true:=by
 cases n with
 | zero=>simp [bl] at hv
 | succ n=>
  cases a<;>simp only [bl] at hv
  case d x=>cases hv;rw [<- D.one_av];exact ha
  case nilS=>cases hv;rfl
  case ptr id e off=>
   split at hv
   ·split at hv
    ·split at hv
     ·obtain ⟨x,_,rfl⟩:=Option.map_eq_some_iff.1 hv;rfl
     ·cases hv
    ·cases hv
   ·cases hv
  case sl id s len k c=>
   split at hv
   ·split at hv
    ·split at hv
     ·obtain ⟨x,_,rfl⟩:=Option.map_eq_some_iff.1 hv;rfl
     ·cases hv
    ·cases hv
   ·cases hv
  case agg l=>simp [AV.one] at ha
  case fn f a c=>
   split at hv
   ·split at hv
    ·cases hv;rfl
    ·cases hv
   ·cases hv
  case tup l=>simp [AV.one] at ha
  all_goals cases hv
theorem kO {n : Nat} {h : ae} {a : AV} {d : D} (hv : bl n h a = some d) : d.isAgg = a.isAgg:=by
 cases n with
 | zero=>simp [bl] at hv
 | succ n=>
  cases a<;>simp only [bl] at hv
  case d x=>cases hv;cases d<;>rfl
  case nilS=>cases hv;rfl
  case ptr id e off=>
   split at hv
   ·split at hv
    ·split at hv
     ·obtain ⟨x,_,rfl⟩:=Option.map_eq_some_iff.1 hv;rfl
     ·cases hv
    ·cases hv
   ·cases hv
  case sl id s len k c=>
   split at hv
   ·split at hv
    ·split at hv
     ·obtain ⟨x,_,rfl⟩:=Option.map_eq_some_iff.1 hv;rfl
     ·cases hv
    ·cases hv
   ·cases hv
  case agg l=>obtain ⟨x,_,rfl⟩:=Option.map_eq_some_iff.1 hv;rfl
  case fn f a c=>
   split at hv
   ·split at hv
    ·cases hv;rfl
    ·cases hv
   ·cases hv
  case tup l=>obtain ⟨x,_,rfl⟩:=Option.map_eq_some_iff.1 hv;rfl
  all_goals cases hv
theorem jq {B : Nat} {W w : World} {st : St} {h : ae} (hw : WR B W w st h) {S : Nat -> Prop} (hS : ∀ b,st.S b -> S b) : ∀ (n : Nat) (a : AV) (d : D) (vs : List Value),(∀ id ∈ bC n h a,∀ o,h[id]? = some o -> o.st < 2 -> ∀ r,st.ρ id = some r -> r.m ≠ 0 -> S r.b) ->
  bl n h a = some d -> aC w st a vs -> cC w S d vs
 | 0,a,d,vs,_,hv,_=>by simp [bl] at hv
 | n + 1,a,d,vs,hr,hv,hc=>by
  cases a<;>simp only [bl] at hv
  case d x=>
   cases hv
   simp only [aC] at hc
   exact gq (fun b hb=>⟨hS b hb,rfl⟩) _ _ hc
  case nilS=>
   cases hv
   simp only [aC] at hc
   obtain ⟨a,rfl⟩:=hc
   simp only [cC]
   exact ⟨a,0,rfl,Nat.le_refl _,fun h=>absurd rfl h⟩
  case ptr id e off=>
   split at hv
   ·rename_i o ho
    split at hv
    ·rename_i hst
     split at hv
     ·rename_i x hx
      obtain ⟨y,hy,rfl⟩:=Option.map_eq_some_iff.1 hv
      simp only [aC] at hc
      obtain ⟨b,p,rfl,c1,c2,c3⟩:=hc
      obtain ⟨r,r1,r2⟩:=hw.obj id o ho hst c2
      obtain ⟨rfl,rfl⟩:=c3 r r1
      have hlt : e < o.elems.length:=(List.getElem?_eq_some_iff.1 hx).1
      have hm : r.m ≠ 0:=by have:=r2.n;have:=r2.m;omega
      obtain ⟨_,cs,el,fr,m1,m2,m3,m4⟩:=r2.mem hm
      obtain ⟨us,u1,u2,u3⟩:=m4 e x hx
      simp only [cC]
      refine ⟨r.b,r.o + e * r.k,us,rfl,hr id (by simp [bC]) o ho hst r r1 hm,jq hw hS n x y us (fun i hi=>hr i ?_) hy u2,u3⟩
      simp only [bC,ho,List.mem_cons,List.mem_flatMap]
      exact .inr ⟨x,List.mem_of_getElem? hx,hi⟩
     ·cases hv
    ·cases hv
   ·cases hv
  case sl id s len k c=>
   split at hv
   ·rename_i o ho
    split at hv
    ·rename_i hst
     split at hv
     ·rename_i hlen
      obtain ⟨l,hl,rfl⟩:=Option.map_eq_some_iff.1 hv
      obtain ⟨l1,l2⟩:=mN _ _ hl
      have hll : l.length = len:=by rw [l1];simp;omega
      simp only [aC] at hc
      obtain ⟨a,cc,rfl,c1,c2,c3,c4,c5,c6⟩:=hc
      obtain ⟨r,r1,r2⟩:=hw.obj id o ho hst c2
      obtain ⟨e1,e2,e3,e4⟩:=c6 r r1
      simp only [cC]
      refine ⟨a,cc,by rw [hll],by omega,fun hne=>?_⟩
      have hlpos : l.length ≠ 0:=fun h=>hne (List.length_eq_zero_iff.1 h)
      have hm : r.m ≠ 0:=by omega
      obtain ⟨_,cs,el,fr,m1,m2,m3,m4⟩:=r2.mem hm
      refine ⟨r.b,r.o + s * r.k,r.k,e3 (by omega),hr id (by simp [bC]) o ho hst r r1 hm,r2.k0,(eV _ _).2 fun i x hx=>?_⟩
      have hil : i < l.length:=(List.getElem?_eq_some_iff.1 hx).1
      have hget : ((o.elems.drop s).take len)[i]? = o.elems[s + i]?:=by
       rw [List.getElem?_take,if_pos (by omega),List.getElem?_drop]
      have hex : s + i < o.elems.length:=by omega
      obtain ⟨us,u1,u2,u3⟩:=m4 (s + i) o.elems[s + i] (List.getElem?_eq_getElem hex)
      refine ⟨us,u1,jq hw hS n _ x us (fun j hj=>hr j ?_) (l2 i _ x (by rw [hget];exact List.getElem?_eq_getElem hex) hx) u2,?_⟩
      ·simp only [bC,ho,List.mem_cons,List.mem_flatMap]
       exact .inr ⟨_,List.getElem_mem hex,hj⟩
      ·rw [show r.o + s * r.k + i * r.k = r.o + (s + i) * r.k by rw [Nat.add_mul];omega]
       exact u3
     ·cases hv
    ·cases hv
   ·cases hv
  case agg l=>
   obtain ⟨r,hl,rfl⟩:=Option.map_eq_some_iff.1 hv
   obtain ⟨l1,l2⟩:=mN _ _ hl
   simp only [aC] at hc
   simp only [cC]
   refine F9 _ _ (by rw [bW _ _ hc,l1]) fun i x v hx hvv=>?_
   have hil : i < l.length:=by rw [<- l1];exact (List.getElem?_eq_some_iff.1 hx).1
   have ha:=List.getElem?_eq_getElem hil
   obtain ⟨u,g1,g2,g3⟩:=go l vs i _ hc ha
   rw [hvv] at g1;cases g1
   have hview:=l2 i _ x ha hx
   have hone : l[i].one = true:=by
    cases hli : l[i]<;>rw [hli] at g2 hview<;>(try exact g2)
    cases n<;>simp [bl] at hview
   exact ⟨Au hone hview,jq hw hS n _ x [v] (fun j hj=>hr j (by simp only [bC,List.mem_flatMap];exact ⟨_,List.getElem_mem hil,hj⟩)) hview g3⟩
  case fn f a c=>
   split at hv
   ·rename_i a' ha'
    split at hv
    ·rename_i c' hc'
     cases hv
     simp only [aC] at hc
     obtain ⟨us,ts,rfl,h1,h2⟩:=hc
     simp only [cC]
     have key : ∀ (l : List AV) (l' : List D) (us : List Value),(∀ x ∈ l,∀ j ∈ bC n h x,j ∈ bC (n + 1) h (.fn f a c)) -> vl (bl n h) l = some l' -> cS w st l us -> iX w S l' us:=by
      intro l l' us hin hl hu
      obtain ⟨l1,l2⟩:=mN _ _ hl
      obtain ⟨u1,u2⟩:=(dS _ _).1 hu
      rw [wv]
      refine ⟨by rw [u1,l1],fun i x v hx hvv=>?_⟩
      have hil : i < l.length:=by rw [<- l1];exact (List.getElem?_eq_some_iff.1 hx).1
      have hli:=List.getElem?_eq_getElem hil
      obtain ⟨ws,w1,w2⟩:=u2 i _ v hli hvv
      have hview:=l2 i _ x hli hx
      exact ⟨ws,by rw [kO hview];exact w1,jq hw hS n _ x ws (fun j hj=>hr j (hin _ (List.getElem_mem hil) j hj)) hview w2⟩
     exact ⟨us,ts,rfl,key a a' us (fun x hx j hj=>by simp only [bC,List.mem_append,List.mem_flatMap];exact .inl ⟨x,hx,hj⟩) ha' h1,
      key c c' ts (fun x hx j hj=>by simp only [bC,List.mem_append,List.mem_flatMap];exact .inr ⟨x,hx,hj⟩) hc' h2⟩
    ·cases hv
   ·cases hv
  case tup l=>
   obtain ⟨r,hl,rfl⟩:=Option.map_eq_some_iff.1 hv
   obtain ⟨l1,l2⟩:=mN _ _ hl
   simp only [aC] at hc
   obtain ⟨us,rfl,hu⟩:=hc
   simp only [cC]
   obtain ⟨u1,u2⟩:=(dS _ _).1 hu
   refine ⟨us,rfl,(wv _ _).2 ⟨by rw [u1,l1],fun i x v hx hvv=>?_⟩⟩
   have hil : i < l.length:=by rw [<- l1];exact (List.getElem?_eq_some_iff.1 hx).1
   have hli:=List.getElem?_eq_getElem hil
   obtain ⟨ws,w1,w2⟩:=u2 i _ v hli hvv
   have hview:=l2 i _ x hli hx
   exact ⟨ws,by rw [kO hview];exact w1,jq hw hS n _ x ws (fun j hj=>hr j (by simp only [bC,List.mem_flatMap];exact ⟨_,List.getElem_mem hil,hj⟩)) hview w2⟩
  all_goals cases hv
theorem At (h : ae) : ∀ (n : Nat) (a : AV) (d : D),bl n [] a = some d -> bl n h a = some d /\ bC n h a = []
 | 0,a,d,hv=>by simp [bl] at hv
 | n + 1,a,d,hv=>by
  have key : ∀ (l : List AV) (r : List D),vl (bl n []) l = some r -> vl (bl n h) l = some r /\ l.flatMap (bC n h) = []:=by
   intro l
   induction l with
   | nil=>intro r hr;simp [vl] at hr;subst hr;exact ⟨rfl,rfl⟩
   | cons x l ih=>
    intro r hr
    simp only [vl] at hr
    split at hr
    ·rename_i y hy
     split at hr
     ·rename_i t ht
      cases hr
      obtain ⟨h1,h2⟩:=At h n x y hy
      obtain ⟨h3,h4⟩:=ih t ht
      exact ⟨by simp only [vl,h1,h3],by simp [h2,h4]⟩
     ·cases hr
    ·cases hr
  cases a<;>simp only [bl] at hv
  case d x=>cases hv;exact ⟨rfl,rfl⟩
  case nilS=>cases hv;exact ⟨rfl,rfl⟩
  case ptr id e off=>simp at hv
  case sl id s len k c=>simp at hv
  case agg l=>
   obtain ⟨r,hl,rfl⟩:=Option.map_eq_some_iff.1 hv
   obtain ⟨h1,h2⟩:=key l r hl
   exact ⟨by simp only [bl,h1,Option.map_some],by simpa only [bC] using h2⟩
  case fn f a c=>
   split at hv
   ·rename_i a' ha'
    split at hv
    ·rename_i c' hc'
     cases hv
     obtain ⟨h1,h2⟩:=key a a' ha'
     obtain ⟨h3,h4⟩:=key c c' hc'
     exact ⟨by simp only [bl,h1,h3],by simp only [bC,h2,h4,List.append_nil]⟩
    ·cases hv
   ·cases hv
  case tup l=>
   obtain ⟨r,hl,rfl⟩:=Option.map_eq_some_iff.1 hv
   obtain ⟨h1,h2⟩:=key l r hl
   exact ⟨by simp only [bl,h1,Option.map_some],by simpa only [bC] using h2⟩
  all_goals cases hv
end Dw
namespace Dw
open Go Go.RowKit
def lp (P : Program) (B : Nat) (W w : World) (st : St) (K : KV) (s : Sem Value) : Prop := ∃ v w', s.run P w = .ok v w' /\ dE B W w st K v w'
def dz (w : World) (st : St) (k : Nat) (l : List AV) (vs : List Value) : Prop:=vs.length = l.length * k /\ ∀ i x,l[i]? = some x -> aC w st x ((vs.drop (i * k)).take k)
theorem sK {k i n : Nat} {vs : List Value} (h : vs.length = n * k) (hi : i < n) : ((vs.drop (i * k)).take k).length = k:=by
 have:=cE (k:=k) hi
 simp;omega
theorem jR (w : World) (st : St) (k : Nat) : dz w st k [] []:=⟨by simp,fun i x h=>by simp at h⟩
theorem pZ {w : World} {st : St} {k : Nat} {x : AV} {us : List Value} (h : aC w st x us) (hk : us.length = k) : dz w st k [x] us:=by
 refine ⟨by simp [hk],fun i y hy=>?_⟩
 cases i with
 | zero=>simp at hy;subst hy;simp [<- hk];exact h
 | succ i=>simp at hy
theorem fH {w : World} {st : St} {k : Nat} {l r : List AV} {us vs : List Value} (h1 : dz w st k l us) (h2 : dz w st k r vs) : dz w st k (l ++ r) (us ++ vs):=by
 obtain ⟨a1,a2⟩:=h1
 obtain ⟨b1,b2⟩:=h2
 refine ⟨by simp [a1,b1,Nat.add_mul],fun i x hx=>?_⟩
 rw [List.getElem?_append] at hx
 split at hx
 ·rename_i hi
  have:=cE (k:=k) hi
  rw [List.drop_append_of_le_length (by omega),List.take_append_of_le_length (by simp;omega)]
  exact a2 i x hx
 ·rename_i hi
  have e : i * k = us.length + (i - l.length) * k:=by
   rw [a1,<- Nat.add_mul];congr 1;omega
  rw [e,<- List.drop_drop,List.drop_left]
  exact b2 _ x hx
theorem p0 {w : World} {st : St} {k : Nat} {l : List AV} {vs : List Value} (h : dz w st k l vs) (n m : Nat) : dz w st k ((l.drop n).take m) ((vs.drop (n * k)).take (m * k)):=by
 obtain ⟨a1,a2⟩:=h
 refine ⟨?_,fun i x hx=>?_⟩
 ·simp only [List.length_take,List.length_drop,a1,<- Nat.sub_mul]
  rcases Nat.le_total m (l.length - n) with h | h
  ·rw [Nat.min_eq_left h,Nat.min_eq_left (Nat.mul_le_mul_right k h)]
  ·rw [Nat.min_eq_right h,Nat.min_eq_right (Nat.mul_le_mul_right k h)]
 ·rw [List.getElem?_take] at hx
  split at hx
  ·rename_i hi
   rw [List.getElem?_drop] at hx
   have h1:=a2 _ x hx
   have h2:=cE (k:=k) hi
   have : (((vs.drop (n * k)).take (m * k)).drop (i * k)).take k = (vs.drop ((n + i) * k)).take k:=by
    rw [List.drop_take,List.drop_drop,List.take_take,Nat.add_mul]
    congr 1;omega
   rw [this];exact h1
  ·cases hx
theorem Bj {w : World} {st : St} {k : Nat} {l new : List AV} {vs nvs : List Value} {s : Nat} (h : dz w st k l vs) (hn : dz w st k new nvs) : dz w st k (eI l s new) (FP vs (s * k) nvs):=by
 unfold eI FP
 have e1:=p0 h 0 s
 have e2:=p0 h (s + new.length) l.length
 simp only [List.drop_zero,Nat.zero_mul] at e1
 rw [List.take_of_length_le (by simp),List.take_of_length_le (by simp [h.1])] at e2
 rw [Nat.add_mul,<- hn.1] at e2
 exact fH (fH e1 hn) e2
theorem ky {w w' : World} {st st' : St} (hE : dO w st w' st') {k : Nat} {l : List AV} {vs : List Value} (h : dz w st k l vs) : dz w' st' k l vs:=⟨h.1,fun i x hx=>ic hE x _ (h.2 i x hx)⟩
theorem WR.newFlat {B : Nat} {W w : World} {st : St} {h : ae} (hw : WR B W w st h) (cs : Array Value) (e : Nat) (fr : Nat × Nat) (elems : List AV) (k m : Nat) {vs : List Value} (hk : 0 < k) (hm : elems.length <= m)
  (hsz : m * k <= cs.size) (hfr : ∀ j,(j < m * k \/ (k ≠ 1 /\ j = cs.size)) -> ¬ (fr.1 <= j /\ j < fr.2)) (hf : dz w st k elems vs) (hcs : ∀ (j : Nat) (v : Value),vs[j]? = some v -> cs[j]? = some v) :
  WR B W (w.alloc (.cells cs e fr)) (st.push ⟨w.heap.size,0,k,elems.length,m⟩) (h ++ [⟨elems,k,0⟩]) /\ dO w st (w.alloc (.cells cs e fr)) (st.push ⟨w.heap.size,0,k,elems.length,m⟩):=by
 refine hw.new cs e fr elems k m hk hm hsz hfr fun i x hx=>⟨_,sK hf.1 (List.getElem?_eq_some_iff.1 hx).1,hf.2 i x hx,fun j v hj=>?_⟩
 rw [List.getElem?_take] at hj
 split at hj
 ·rw [List.getElem?_drop] at hj
  exact hcs _ v hj
 ·cases hj
theorem WR.gn {B : Nat} {W w : World} {st : St} {h : ae} (hw : WR B W w st h) : ¬ st.G h.length:=fun hg=>by have:=hw.gho _ hg;rw [hw.len] at this;omega
theorem St.push_at {st : St} {r : qR} {n : Nat} (h : n = st.n) : (st.push r).ρ n = some r:=by simp [St.push,h]
theorem WR.idle {B : Nat} {W w : World} {st : St} {h : ae} (hw : WR B W w st h) (o : Obj) : WR B W (w.alloc o) st h /\ dO w st (w.alloc o) st:=by
 have hsame : ∀ i,i < w.heap.size -> (w.alloc o).heap[i]? = w.heap[i]?:=fun i hi=>Below.heap_alloc w _ i hi
 have hE : dO w st (w.alloc o) st:=⟨Nat.le_refl _,fun _ _ _ _ h=>h,fun b hb=>⟨hb,hsame b (hw.stab b hb)⟩,fun _ _ h=>h,rfl,rfl,fun b hb=>hsame b (hw.x.ub b hb)⟩
 refine ⟨⟨hw.below.alloc hw.base _,by simp;have:=hw.base;omega,hw.seat.mono hE.S,hw.len,fun id a h1 h2 h3=>?_,fun id a h1 h2 h3=>?_,hw.dom,hw.inj,fun b hb=>by simp;have:=hw.stab b hb;omega,hw.live,hw.frz,hw.gho,hw.x.own,hw.x.low,fun b hb=>by simp;have:=hw.x.ub b hb;omega⟩,hE⟩
 ·obtain ⟨r,e1,e2⟩:=hw.obj id a h1 h2 h3
  exact ⟨r,e1,e2.mono hE fun hm=>hsame r.b (hw.blk_lt e1 hm)⟩
 ·obtain ⟨r,e1,e2⟩:=hw.mobj id a h1 h2 h3
  exact ⟨r,e1,e2.keep (hsame r.b (hw.blk_lt e1 e2.m))⟩
theorem WR.sink {B : Nat} {W w : World} {st : St} {h : ae} (hw : WR B W w st h) (o : Obj) : WR B W (w.alloc o) { st with S:=fun b=>st.S b \/ b = w.heap.size } h /\ dO w st (w.alloc o) { st with S:=fun b=>st.S b \/ b = w.heap.size }:=by
 have hsame : ∀ i,i < w.heap.size -> (w.alloc o).heap[i]? = w.heap[i]?:=fun i hi=>Below.heap_alloc w _ i hi
 have hE : dO w st (w.alloc o) { st with S:=fun b=>st.S b \/ b = w.heap.size }:=⟨Nat.le_refl _,fun _ _ _ _ h=>h,fun b hb=>⟨.inl hb,hsame b (hw.stab b hb)⟩,fun _ _ h=>h,rfl,rfl,fun b hb=>hsame b (hw.x.ub b hb)⟩
 refine ⟨⟨hw.below.alloc hw.base _,by simp;have:=hw.base;omega,hw.seat.mono hE.S,hw.len,fun id a h1 h2 h3=>?_,fun id a h1 h2 h3=>?_,hw.dom,hw.inj,fun b hb=>?_,fun id r o hr ho hst hm hS=>?_,fun id r o hr ho hst hm=>.inl (hw.frz id r o hr ho hst hm),hw.gho,hw.x.own,fun b hb=>?_,fun b hb=>by simp;have:=hw.x.ub b hb;omega⟩,hE⟩
 ·obtain ⟨r,e1,e2⟩:=hw.obj id a h1 h2 h3
  exact ⟨r,e1,e2.mono hE fun hm=>hsame r.b (hw.blk_lt e1 hm)⟩
 ·obtain ⟨r,e1,e2⟩:=hw.mobj id a h1 h2 h3
  exact ⟨r,e1,e2.keep (hsame r.b (hw.blk_lt e1 e2.m))⟩
 ·rcases hb with hb | hb
  ·simp;have:=hw.stab b hb;omega
  ·simp;omega
 ·rcases hS with hS | hS
  ·exact hw.live id r o hr ho hst hm hS
  ·have:=hw.blk_lt hr hm;omega
 ·rcases hb with hb | hb
  ·exact hw.x.low b hb
  ·exact .inr fun hU=>by have:=hw.x.ub b hU;omega
theorem dY {P : Program} {w : World} (e : Nat) (cs : Array Value) : (newRow e cs).run P w = .ok ⟨w.heap.size,0,none⟩ (w.alloc (.cells cs e)):=by
 simp [newRow]
theorem gz {B : Nat} {W w : World} {st : St} {h : ae} (hw : WR B W w st h) {w' : World} {k n m len : Nat} {cap : Option Nat} (hm : len <= m) (hn : cap = none -> len <= n /\ n <= m) (hc : ∀ c,cap = some c -> m = c) :
  aV w' (st.push ⟨w.heap.size,0,k,n,m⟩) (.sl h.length 0 len k cap) (.slice (some ⟨w.heap.size,0,none⟩) len m):=by
 refine eT.2 ⟨_,m,rfl,by simp [St.push,hw.len],fun hg=>hw.gn hg,hm,fun _=>⟨_,_,rfl⟩,hc,fun r hr=>?_⟩
 rw [St.push_at hw.len.symm] at hr
 cases hr
 exact ⟨rfl,by simp,fun _=>by simp,fun h=>by simp;exact hn h⟩
theorem uY (off : Nat) : ∀ (l : List Value) (n : Nat) (cells : Array Value),(l.zipIdx n).foldl (fun cs p=>cs.setIfInBounds (off + p.2) p.1) cells = tz cells (off + n) l
 | [],n,cells=>by simp [tz]
 | v :: l,n,cells=>by
  simp only [List.zipIdx_cons,List.foldl_cons,tz]
  rw [uY off l (n + 1)]
  rfl
theorem pX {place : Nat -> Option (Nat × Nat)} {cells : Array Value} {i : Nat} {v : Value} {rest : List (Nat × Value)} {off size : Nat} {us : List Value} (hp : place i = some (off,size)) (hu : v.cells.toList = us) (hs : us.length = size) (hb : off + us.length <= cells.size) :
  Instr.fill place cells ((i,v) :: rest) = Instr.fill place (tz cells off us) rest:=by
 have hsz : v.cells.size = size:=by rw [<- hs,<- hu];simp
 simp only [Instr.fill,hp]
 rw [if_neg (by simp [hsz];omega)]
 congr 1
 have:=uY off us 0 cells
 simp only [Nat.add_zero] at this
 rw [<- this,<- hu,<- Array.foldl_toList]
 simp
theorem nM {cells : Array Value} {off : Nat} {us : List Value} (hb : off + us.length <= cells.size) : (tz cells off us).toList = FP cells.toList off us:=by
 apply List.ext_getElem?
 intro i
 rw [rp (by simpa using hb)]
 have:=jb us cells off i hb
 simp only [Array.getElem?_toList]
 exact this
theorem yO {t : TI} {x : AV} (h : gQ t x = true) : x.cells.length = t.size:=by
 simp only [gQ,Bool.and_eq_true,beq_iff_eq] at h
 exact h.2.1
section
variable {P : Program} {E : TE} (hE : gJ P E) {B : Nat} {W w : World} {st : St} {h : ae} (hw : WR B W w st h)
include hE hw
theorem uJ {t : Nat} {x : AV} {v : Value} {K : KV} (hk : (E t).kind ≠ 0) (hf : gQ (E t) x = true) (hv : aV w st x v) (hK : eR h { elems:=[x],k:=(E t).size,st:=0 } (fun id h'=>K (.ptr id 0 0) h')) : lp P B W w st K (Instr.box t v):=by
 obtain ⟨us,u1,u2,u3,u4,u5,u6⟩:=dk hf hv
 rw [bT] at hK
 have hpos:=(hE.facts hk).pos
 have hcs : v.cells = us.toArray:=by rw [<- u1]
 obtain ⟨w1,e1⟩:=hw.newFlat (us.toArray) t (0,0) [x] (E t).size 1 hpos (by simp) (by simp [u2]) (fun j _ h=>by simp at h) (pZ u3 u2) (fun j v hj=>by simpa using hj)
 refine ⟨.pointer (some ⟨w.heap.size,0,none⟩),_,?_,_,_,_,hK,w1,?_,e1,rfl⟩
 ·simp only [Instr.box,newVar,Sem.run_bind,dY,Result.andThen_ok,Sem.run_pure,hcs]
 ·refine gL.2 ⟨_,_,rfl,by simp [St.push,hw.len],fun hg=>hw.gn hg,fun r hr=>?_⟩
  rw [St.push_at hw.len.symm] at hr
  cases hr
  simp
theorem xV {t : Nat} {K : KV} (hk : (E t).kind ≠ 0) (hK : eR h { elems:=[(E t).zero],k:=(E t).size,st:=0 } (fun id h'=>K (.ptr id 0 0) h')) : lp P B W w st K (Instr.alloc t true (.tuple #[])):=by
 obtain ⟨z,h1,h2⟩:=ka hE hk w
 obtain ⟨v, w', e1, e2⟩ := uJ hE hw hk (hE.facts hk).zfit (kQ h2) hK
 refine ⟨v, w', ?_, e2⟩
 simp only [Instr.alloc,Sem.run_bind,h1,Result.andThen_ok]
 simpa [Instr.box] using e1
omit hE hw in
theorem i0 {t : Nat} {T : List AV} {a : Act} (hT : aT w st T a.tmps) {place : Nat -> Option (Nat × Nat)} (hplace : ∀ i off size,((E t).kind = 5 -> ∃ p,(E t).fields[i]? = some p /\ p.1 = off /\ (E p.2).size = size /\ (E p.2).kind ≠ 0) -> ((E t).kind ≠ 5 -> off = i * (E (E t).elem).size /\ size = (E (E t).elem).size /\ (E (E t).elem).kind ≠ 0) -> place i = some (off,size)) :
  ∀ (ps : List (Nat × Operand)) (cs : List AV) (cells : Array Value) (K : List AV -> Prop),fO w st cs cells.toList -> fG E (E t) T ps cs K ->
   ∃ cs' cells', Instr.fill place cells (ps.map fun p => (p.1, a.eval p.2)) = some cells' /\ fO w st cs' cells'.toList /\ K cs'
 | [],cs,cells,K,hc,hk=>⟨cs,cells,rfl,hc,hk⟩
 | (i,x) :: ps,cs,cells,K,hc,hk=>by
  simp only [fG] at hk
  rw [aG] at hk
  have hv:=bc hT x
  have hlen:=bW _ _ hc
  rcases aq hk with ⟨h5,hk⟩ | ⟨h5,hk⟩
  ·simp only [beq_iff_eq] at h5
   obtain ⟨p,hp,hk⟩:=(aE _ _).1 hk
   obtain ⟨h2,hk⟩:=ai hk
   simp only [Bool.and_eq_true,decide_eq_true_eq,bne_iff_ne] at h2
   obtain ⟨hb,hf,hkind⟩:=h2
   rw [gw] at hk
   obtain ⟨us,u1,u2,u3,u4,u5,u6⟩:=dk hf hv
   have hb' : p.1 + us.length <= cells.size:=by rw [u2];simpa [<- hlen] using hb
   simp only [List.map_cons]
   rw [pX (hplace i p.1 (E p.2).size (fun _=>⟨p,hp,rfl,rfl,hkind⟩) (fun hn=>absurd h5 hn)) u1 u2 hb']
   exact i0 hT hplace ps _ _ K (by rw [nM hb'];exact rL hc u6 (by rw [yO hf];exact hb)) hk
  ·simp only [beq_eq_false_iff_ne] at h5
   obtain ⟨h2,hk⟩:=ai hk
   simp only [Bool.and_eq_true,decide_eq_true_eq,beq_iff_eq,bne_iff_ne] at h2
   obtain ⟨⟨h6,hkind⟩,hb,hf⟩:=h2
   rw [gw] at hk
   obtain ⟨us,u1,u2,u3,u4,u5,u6⟩:=dk hf hv
   have hb' : i * (E (E t).elem).size + us.length <= cells.size:=by rw [u2];simpa [<- hlen] using hb
   simp only [List.map_cons]
   rw [pX (hplace i _ _ (fun h=>absurd h h5) (fun _=>⟨rfl,rfl,hkind⟩)) u1 u2 hb']
   exact i0 hT hplace ps _ _ K (by rw [nM hb'];exact rL hc u6 (by rw [yO hf];exact hb)) hk
omit hE hw in
theorem s7 : ∀ (fs : List Field),(∀ f ∈ fs,(P.info? f.type).isSome = true) -> ∃ places,fs.mapM (fun f=>(P.info? f.type).map fun i=>(f.offset,i.size)) = some places /\ places.length = fs.length /\
  ∀ (i : Nat) (f : Field),fs[i]? = some f -> ∃ inf,P.info? f.type = some inf /\ places[i]? = some (f.offset,inf.size)
 | [],_=>⟨[],rfl,rfl,fun i f h=>by simp at h⟩
 | f :: fs,h=>by
  obtain ⟨ps,h1,h2,h3⟩:=s7 fs fun g hg=>h g (by simp [hg])
  obtain ⟨inf,hinf⟩:=Option.isSome_iff_exists.1 (h f (by simp))
  refine ⟨(f.offset,inf.size) :: ps,by simp [hinf,h1],by simp [h2],fun i g hg=>?_⟩
  cases i with
  | zero=>simp at hg;subst hg;exact ⟨inf,hinf,by simp⟩
  | succ i=>simpa using h3 i g (by simpa using hg)
theorem yc {t : Nat} {T : List AV} {a : Act} {ps : Array (Nat × Operand)} {K : KV} (hT : aT w st T a.tmps) (ht : (E t).kind = 5 \/ ((E t).kind = 6 /\ (E (E t).elem).kind ≠ 0)) (hk : fG E (E t) T ps.toList (E t).zero.cells (fun cs=>K (.agg cs) h)) :
  lp P B W w st K (Instr.build t (ps.map fun (i,x)=>(i,a.eval x))):=by
 have hkind : (E t).kind ≠ 0:=by omega
 have hF:=hE.facts hkind
 obtain ⟨i,d,z,f1,f2,f3,f4,f5,f6,f7,f8⟩:=hF.ex
 obtain ⟨zu,z1,z2,z3,z4,z5,z6⟩:=dk (w:=w) (st:=st) hF.zfit (kQ f7)
 have kX : ((ps.map fun (i,x)=>(i,a.eval x))).toList = ps.toList.map fun p=>(p.1,a.eval p.2):=by simp
 have fin : ∀ cells' cs', P.built t ((ps.map fun (i, x) => (i, a.eval x))).toList = some cells' -> fO w st cs' cells'.toList -> K (.agg cs') h -> lp P B W w st K (Instr.build t (ps.map fun (i, x) => (i, a.eval x))) := by
  intro cells' cs' h1 h2 h3
  exact ⟨_,w,run_build w t _ cells' h1,dE.same hw h3 ⟨cells'.toList,by simp [AV.isAgg],by simpa [aC] using h2⟩⟩
 rcases ht with h5 | ⟨h6,hke⟩
 ·obtain ⟨fs,hs,hm,hkn⟩:=gk hE h5
  obtain ⟨places,p1,p2,p3⟩:=s7 (P:=P) fs.toList hkn
  obtain ⟨cs', cells', g1, g2, g3⟩ := i0 (E := E) (t := t) hT (place := fun x => places.toArray[x]?) (fun j off size hh _ => by
   obtain ⟨p,q1,q2,q3,q4⟩:=hh h5
   obtain ⟨g,r1,r2,r3⟩:=sI hm q1
   obtain ⟨inf,s1,s2⟩:=p3 j g (by simpa using r1)
   have:=(hE.facts q4).ex
   obtain ⟨i', _, _, v1, _, v3, _⟩ := this
   rw [r3,v1] at s1
   cases s1
   simp only [List.getElem?_toArray,s2]
   rw [r2,q2,v3,q3]) ps.toList _ z.cells _ (by rw [z1];exact z6) hk
  refine fin cells' cs' ?_ g2 g3
  rw [kX]
  simp only [Program.built,f1,hs,f6,p1]
  exact g1
 ·have hu:=ir hE h6
  obtain ⟨ie,_,_,v1,_,v3,_⟩:=(hE.facts hke).ex
  obtain ⟨cs', cells', g1, g2, g3⟩ := i0 (E := E) (t := t) hT (place := fun i => some (i * ie.size, ie.size)) (fun j off size _ hh => by
   obtain ⟨q1,q2,q3⟩:=hh (by omega)
   rw [v3,q1,q2]) ps.toList _ z.cells _ (by rw [z1];exact z6) hk
  refine fin cells' cs' ?_ g2 g3
  rw [kX]
  simp only [Program.built,f1,hu,f6,v1]
  exact g1
omit hE hw in
theorem mw {k n : Nat} {z : AV} {zc : Array Value} (hz : aC w st z zc.toList) (hk : zc.size = k) : dz w st k (List.replicate n z) ((Array.range (n * k)).map (zc[· % zc.size]!)).toList:=by
 refine ⟨by simp,fun i x hx=>?_⟩
 have hi : i < n:=by
  have:=(List.getElem?_eq_some_iff.1 hx).1
  simpa using this
 rw [List.getElem?_replicate,if_pos hi] at hx
 cases hx
 have : (((Array.range (n * k)).map (zc[· % zc.size]!)).toList.drop (i * k)).take k = zc.toList:=by
  apply List.ext_getElem?
  intro j
  rw [List.getElem?_take]
  have hstep:=cE (k:=k) hi
  split
  ·rename_i hj
   rw [List.getElem?_drop]
   simp only [Array.toList_map,Array.toList_range,List.getElem?_map]
   rw [List.getElem?_range (by omega)]
   simp only [Option.map_some,hk]
   rw [show (i * k + j) % k = j by rw [Nat.mul_comm,Nat.mul_add_mod];exact Nat.mod_eq_of_lt hj]
   rw [getElem!_pos zc j (by omega)]
   simp [hk,hj]
  ·rename_i hj
   simp;omega
 rw [this];exact hz
omit hE hw in
theorem tK {t : Nat} {T : List AV} {a : Act} (hT : aT w st T a.tmps) (_hkind : (E t).kind ≠ 0) :
  ∀ (ps : List (Nat × Operand)) (es : List AV) (cells : Array Value) (K : List AV -> Prop),dz w st (E t).size es cells.toList -> iV (E t) T ps es K ->
   ∃ es' cells', Instr.fill (fun i => some (i * (E t).size, (E t).size)) cells (ps.map fun p => (p.1, a.eval p.2)) = some cells' /\ dz w st (E t).size es' cells'.toList /\ es'.length = es.length /\ K es'
 | [],es,cells,K,hc,hk=>⟨es,cells,rfl,hc,rfl,hk⟩
 | (i,x) :: ps,es,cells,K,hc,hk=>by
  simp only [iV] at hk
  rw [aG] at hk
  have hv:=bc hT x
  obtain ⟨h1,hk⟩:=ai hk
  simp only [Bool.and_eq_true,decide_eq_true_eq] at h1
  obtain ⟨hf,hi⟩:=h1
  rw [aU] at hk
  obtain ⟨us,u1,u2,u3,u4,u5,u6⟩:=dk hf hv
  have hb' : i * (E t).size + us.length <= cells.size:=by
   have h1:=hc.1
   have h2:=cE (k:=(E t).size) hi
   simp at h1
   omega
  simp only [List.map_cons]
  rw [pX rfl u1 u2 hb']
  have hset : es.set i (opnd T x) = eI es i [opnd T x]:=by
   rw [List.set_eq_take_append_cons_drop,if_pos hi]
   simp [eI]
  obtain ⟨es', cells', g1, g2, g3, g4⟩ := tK hT _hkind ps _ (tz cells (i * (E t).size) us) K (by
   rw [nM hb', hset]
   exact Bj hc (pZ u3 u2)) hk
  exact ⟨es', cells', g1, g2, by rw [g3]; simp, g4⟩
theorem pI {t n : Nat} {T : List AV} {a : Act} {ps : Array (Nat × Operand)} {K : KV} (hT : aT w st T a.tmps) (hk4 : (E t).kind = 4) (hsz : n * (E (E t).elem).size <= 16777216) (hkind : (E (E t).elem).kind ≠ 0)
  (hk : aR (n == 0) (a8 ps.toList.isEmpty (K .nilS h)) (tG n (E (E t).elem).zero (fun es=>iV (E (E t).elem) T ps.toList es (fun es=>aR ((E t).len == 0) (eR h { elems:=es,k:=(E (E t).elem).size,st:=0 } (fun id h'=>K (.sl id 0 n (E (E t).elem).size (some n)) h')) (kS es (fun ds=>K (.d (.fs ds)) h)))))) : lp P B W w st K (Instr.buildSlice t n (ps.map fun (i,x)=>(i,a.eval x))):=by
 have hF:=hE.facts hkind
 have hpos:=hF.pos
 obtain ⟨z,h1,h2⟩:=ka hE hkind w
 obtain ⟨zu,z1,z2,z3,z4,z5,z6⟩:=dk (w:=w) (st:=st) hF.zfit (kQ h2)
 rcases aq hk with ⟨h0,hk⟩ | ⟨h0,hk⟩
 ·simp at h0
  subst h0
  obtain ⟨hps,hkf⟩:=ai hk
  have hps0 : ps = #[]:=by simpa using hps
  clear hk hps
  subst hps0
  obtain ⟨w1,e1⟩:=hw.idle (.cells #[] (E t).elem)
  refine ⟨.slice (some ⟨w.heap.size,0,none⟩) 0 0,_,?_,st,_,_,hkf,w1,cw rfl (by simp [aC]),e1,rfl⟩
  simp only [Instr.buildSlice,Sem.run_bind,run_underlying (bd hE hk4),Result.andThen_ok,bx hE hkind]
  have hr0 : Array.range 0 = #[]:=rfl
  simp [Instr.fill,dY,hr0]
 ·rw [j8] at hk
  simp only [beq_eq_false_iff_ne] at h0
  have hzs : z.cells.size = (E (E t).elem).size:=by rw [<- z2,<- z1];simp
  have hz0:=mw (w:=w) (st:=st) (k:=(E (E t).elem).size) (n:=n) (z:=(E (E t).elem).zero) (zc:=z.cells) (by rw [z1];exact z3) hzs
  obtain ⟨es', cells', g1, g2, g3, g4⟩ := tK (E := E) hT hkind ps.toList _ _ _ hz0 hk
  simp at g3
  have hcs : cells'.size = n * (E (E t).elem).size:=by have:=g2.1;simp [g3] at this;exact this
  have hne : n * (E (E t).elem).size ≠ 0:=Nat.mul_ne_zero h0 (by omega)
  have kX : ((ps.map fun (i,x)=>(i,a.eval x))).toList = ps.toList.map fun p=>(p.1,a.eval p.2):=by simp
  have hrun : (Instr.buildSlice t n (ps.map fun (i,x)=>(i,a.eval x))).run P w = .ok (.slice (some ⟨w.heap.size,0,none⟩) n n) (w.alloc (.cells cells' (E t).elem)):=by
   simp only [Instr.buildSlice,Sem.run_bind,run_underlying (bd hE hk4),Result.andThen_ok,bx hE hkind]
   rw [if_neg (by omega),if_neg hne]
   simp only [Sem.run_bind,Sem.run_pure,Result.andThen_ok,h1]
   rw [kX,g1]
   simp [dY]
  rcases aq g4 with ⟨_,g4⟩ | ⟨_,g4⟩
  ·rw [bT] at g4
   obtain ⟨w1,e1⟩:=hw.newFlat cells' (E t).elem (0,0) es' (E (E t).elem).size n hpos (by omega) (by rw [hcs];exact Nat.le_refl _) (fun j _ h=>by simp at h) g2 (fun j v hj=>by simpa using hj)
   exact ⟨.slice (some ⟨w.heap.size,0,none⟩) n n,_,hrun,_,_,_,g4,w1,gz hw (Nat.le_refl _) (fun h=>by cases h) (fun c hc=>by simpa using hc),e1,rfl⟩
  ·unfold kS at g4
   split at g4
   ·rename_i ds hds
    obtain ⟨w1,e1⟩:=hw.sink (.cells cells' (E t).elem)
    refine ⟨.slice (some ⟨w.heap.size,0,none⟩) n n,_,hrun,_,_,_,g4,w1,cw rfl ?_,e1,rfl⟩
    obtain ⟨d1,d2⟩:=mN _ _ hds
    simp only [aC,cC]
    refine ⟨_,n,by rw [d1,g3],by omega,fun _=>⟨w.heap.size,0,(E (E t).elem).size,rfl,.inr rfl,hpos,(eV _ _).2 fun i x hx=>?_⟩⟩
    have hil : i < es'.length:=by rw [<- d1];exact (List.getElem?_eq_some_iff.1 hx).1
    have hli:=List.getElem?_eq_getElem hil
    have hview:=d2 i _ x hli hx
    obtain ⟨v1,v2⟩:=At h _ _ _ hview
    have hc:=g2.2 i _ hli
    refine ⟨_,sK g2.1 hil,gq (fun b hb=>⟨.inl hb,e1.S b hb |>.2⟩) _ _ (jq hw (S:=st.S) (fun b hb=>hb) _ _ x _ (fun id hid=>by rw [v2] at hid;cases hid) v1 hc),(bE _ _).2 fun j v hj=>?_⟩
    rw [List.getElem?_take] at hj
    split at hj
    ·rename_i hjk
     rw [List.getElem?_drop] at hj
     have hnew : (w.alloc (.cells cells' (E t).elem)).heap[w.heap.size]? = some (.cells cells' (E t).elem (0,0)):=by
      show (w.heap.push _)[w.heap.size]? = _
      simp
     rw [cN hnew]
     rw [show 0 + i * (E (E t).elem).size + j = i * (E (E t).elem).size + j by omega]
     simpa using hj
    ·cases hj
   ·exact g4.elim
theorem qZ {t : Nat} {k1 k2 : IntKind} {l c : Int} {K : KV} (hk4 : (E t).kind = 4) (hkind : (E (E t).elem).kind ≠ 0) (hb : 0 <= l /\ l <= c /\ c < 9223372036854775808 /\ c * (E (E t).elem).bytes <= 140737488355328)
  (hk : eR h { elems:=List.replicate c.toNat (E (E t).elem).zero,k:=(E (E t).elem).size,st:=0 } (fun id h'=>K (.sl id 0 l.toNat (E (E t).elem).size (some c.toNat)) h')) :
  lp P B W w st K (Instr.makeSlice t (.int k1 l) (.int k2 c)):=by
 have hF:=hE.facts hkind
 have hpos:=hF.pos
 rw [bT] at hk
 obtain ⟨z,h1,h2⟩:=ka hE hkind w
 obtain ⟨zu,z1,z2,z3,z4,z5,z6⟩:=dk (w:=w) (st:=st) hF.zfit (kQ h2)
 have hzs : z.cells.size = (E (E t).elem).size:=by rw [<- z2,<- z1];simp
 obtain ⟨i,t1,t2,t3⟩:=jo hE hkind w
 have wrapl : IntKind.i64.wrap l = l:=Go.IntWalk.i64_in l (by omega)
 have wrapc : IntKind.i64.wrap c = c:=Go.IntWalk.i64_in c (by omega)
 have hz0:=mw (w:=w) (st:=st) (k:=(E (E t).elem).size) (n:=c.toNat) (z:=(E (E t).elem).zero) (zc:=z.cells) (by rw [z1];exact z3) hzs
 obtain ⟨w1,e1⟩:=hw.newFlat ((Array.range (c.toNat * (E (E t).elem).size)).map (z.cells[· % z.cells.size]!)) (E t).elem (0,0) _ (E (E t).elem).size c.toNat hpos (by simp) (by simp) (fun j _ h=>by simp at h) hz0 (fun j v hj=>by rw [<- Array.getElem?_toList];exact hj)
 have hlen : (List.replicate c.toNat (E (E t).elem).zero).length = c.toNat:=by simp
 refine ⟨.slice (some ⟨w.heap.size,0,none⟩) l.toNat c.toNat,_,?_,_,_,_,hk,w1,gz hw (by omega) (fun h=>by cases h) (fun c' hc=>by simpa using hc),e1,rfl⟩
 have hbig : ¬ (((E (E t).elem).bytes : Int) * c > 2 ^ 48):=by rw [Int.mul_comm];omega
 simp only [Instr.makeSlice,Sem.run_bind,run_underlying (bd hE hk4),Result.andThen_ok,asInt,asIntOf,Sem.run_pure,t1,t3,wrapl,wrapc]
 rw [if_neg (by simp;omega)]
 simp only [Sem.run_bind,run_askRoom,Result.andThen_ok,bx hE hkind]
 by_cases hc0 : c.toNat * (E (E t).elem).size = 0
 ·have hr0 : Array.range 0 = #[]:=rfl
  simp [hc0,dY,hr0]
 ·rw [if_neg hc0]
  simp [h1,dY]
end
end Dw
namespace Dw
open Go Go.RowKit
theorem Bo {w : World} {st : St} {x : AV} {us : List Value} (hk : x.known = true) (h : aC w st x us) : ∀ u ∈ us,fM u = true:=by
 have viaCells : ∀ (cs : List AV),(∀ c ∈ cs,c.one = true) -> fO w st cs us -> ∀ u ∈ us,fM u = true:=by
  intro cs h1 h2 u hu
  obtain ⟨i,hi,rfl⟩:=List.getElem_of_mem hu
  have hl:=bW _ _ h2
  obtain ⟨u', e1, e2, e3⟩ := go cs us i cs[i] h2 (by simp)
  have : us[i] = u':=by rw [List.getElem?_eq_getElem hi] at e1;exact Option.some.inj e1
  rw [this]
  exact rd (h1 _ (List.getElem_mem _)) e3
 have single : ∀ v,us = [v] -> x.one = true -> ∀ u ∈ us,fM u = true:=by
  intro v hv h1 u hu
  subst hv
  simp at hu;subst hu
  exact rd h1 h
 cases x
 case d x=>
  by_cases ha : x.isAgg = true
  ·cases x<;>simp [D.isAgg] at ha
   rename_i l
   simp only [aC,cC] at h
   refine viaCells (l.map .d) (fun c hc=>?_) (wt l us h)
   obtain ⟨y,hy,rfl⟩:=List.mem_map.1 hc
   rw [D.one_av]
   have : ∀ (l : List D) (vs : List Value),fV w st.S l vs -> ∀ y ∈ l,y.one = true:=by
    intro l
    induction l with
    | nil=>intro vs _ y hy;cases hy
    | cons a l ih=>
     intro vs hvs y hy
     simp only [fV] at hvs
     obtain ⟨v,r,_,h2,_,h4⟩:=hvs
     rcases List.mem_cons.1 hy with rfl | hy
     ·exact h2
     ·exact ih r h4 y hy
   exact this l us h y hy
  ·have h1 : x.one = true:=by cases x<;>simp_all [D.isAgg,D.one,AV.known,D.memOk]
   obtain ⟨_,v,hv⟩:=nG (by cases x<;>simp_all [AV.isAgg,D.isAgg]) (by simp) h
   exact single v hv (by rw [D.one_av];exact h1)
 case agg l=>
  simp only [aC] at h
  exact viaCells l (by simpa [AV.known,AV.cells] using hk) h
 case junk=>simp [AV.known,AV.cells,AV.one] at hk
 all_goals
  obtain ⟨_,v,hv⟩:=nG rfl (by simp) h
  exact single v hv (by simpa [AV.known,AV.cells] using hk)
theorem mu {w : World} {st : St} {k : Nat} {l : List AV} {vs : List Value} (hk : ∀ x ∈ l,x.known = true) (h : dz w st k l vs) (hpos : 0 < k) : ∀ v ∈ vs,fM v = true:=by
 intro v hv
 obtain ⟨j,hj,rfl⟩:=List.getElem_of_mem hv
 have hlen:=h.1
 have hdiv : j / k < l.length:=Nat.div_lt_of_lt_mul (by rw [Nat.mul_comm];omega)
 have hx:=h.2 (j / k) l[j / k] (List.getElem?_eq_getElem hdiv)
 refine Bo (hk _ (List.getElem_mem _)) hx _ ?_
 have hmod:=Nat.mod_lt j hpos
 have e : j = (j / k) * k + j % k:=by rw [Nat.mul_comm];exact (Nat.div_add_mod j k).symm
 refine List.mem_iff_getElem?.2 ⟨j % k,?_⟩
 rw [List.getElem?_take,if_pos hmod,List.getElem?_drop,<- e,List.getElem?_eq_getElem hj]
theorem rH.flat {B : Nat} {w : World} {st : St} {r : qR} {o : AO} (h : rH B w st r o) (hm : r.m ≠ 0) (s len : Nat) (hb : s + len <= o.elems.length) :
  ∃ vs,dz w st r.k ((o.elems.drop s).take len) vs /\ ft w r.b (r.o + s * r.k) vs:=by
 obtain ⟨_,cs,e,fr,m1,m2,m3,m4⟩:=h.mem hm
 have hn:=h.n
 have hm':=h.m
 have hsz : (s + len) * r.k <= r.m * r.k:=Nat.mul_le_mul_right _ (by omega)
 rw [Nat.add_mul] at hsz
 let vs:=(cs.toList.drop (r.o + s * r.k)).take (len * r.k)
 have hvs : vs.length = len * r.k:=by simp [vs];omega
 have hget : ∀ j,j < len * r.k -> vs[j]? = cs[r.o + s * r.k + j]?:=by
  intro j hj
  simp only [vs]
  rw [List.getElem?_take,if_pos hj,List.getElem?_drop]
  simp
 refine ⟨vs,⟨by rw [hvs];simp;rw [Nat.min_eq_left (by omega)],fun i x hx=>?_⟩,(bE _ _).2 fun j v hj=>?_⟩
 ·rw [List.getElem?_take] at hx
  split at hx
  ·rename_i hi
   rw [List.getElem?_drop] at hx
   obtain ⟨us,u1,u2,u3⟩:=m4 _ x hx
   have hstep:=cE (k:=r.k) hi
   have : (vs.drop (i * r.k)).take r.k = us:=by
    apply List.ext_getElem?
    intro j
    rw [List.getElem?_take]
    split
    ·rename_i hj
     rw [List.getElem?_drop,hget _ (by omega)]
     have hj' : j < us.length:=by omega
     have:=(bE us _).1 u3 j us[j] (List.getElem?_eq_getElem hj')
     rw [cN m1] at this
     rw [List.getElem?_eq_getElem hj', <- this]
     congr 1
     rw [Nat.add_mul];omega
    ·rename_i hj
     rw [List.getElem?_eq_none (by omega)]
   rw [this];exact u2
  ·cases hx
 ·have hjl : j < len * r.k:=by rw [<- hvs];exact (List.getElem?_eq_some_iff.1 hj).1
  rw [hget j hjl] at hj
  rw [cN m1];exact hj
section
variable {P : Program} {E : TE} (hE : gJ P E) {B : Nat} {W w : World} {st : St} {h : ae} (hw : WR B W w st h)
include hw
omit hw in
theorem dX {a : Option Addr} {b o len cap k n : Nat} {vs : List Value} (ha : a = some ⟨b,o,none⟩) (hm : ft w b o vs) (hl : n * k <= vs.length) :
  (Builtin.firstCells k n (.slice a len cap)).run P w = .ok (vs.take (n * k)).toArray w:=by
 subst ha
 simp only [Builtin.firstCells]
 have h1:=vm hm 0 (n * k)
 simp only [Nat.add_zero,List.drop_zero] at h1
 have h2:=fK (P:=P) h1
 rw [List.length_take,Nat.min_eq_left hl] at h2
 exact h2
omit hw in
theorem bS {a : Option Addr} {len cap k : Nat} : (Builtin.firstCells k 0 (.slice a len cap)).run P w = .ok #[] w:=by
 cases a with
 | none=>simp [Builtin.firstCells]
 | some a=>simp [Builtin.firstCells,loadCells,loadCellsFrom]
theorem nW {k : Nat} {x : AV} {vx : Value} {K : List AV -> Prop} (hk0 : 0 < k) (hx : aV w st x vx) (hk : nV k h x K) :
  ∃ new vs,K new /\ dz w st k new vs /\ (Builtin.lenOf vx).run P w = .ok new.length w /\ (∀ v ∈ vs,fM v = true) /\ ∀ (n : Nat) (w2 : World),n <= new.length -> w2.heap = w.heap -> (Builtin.firstCells k n vx).run P w2 = .ok (vs.take (n * k)).toArray w2:=by
 unfold nV at hk
 split at hk
 ·obtain ⟨a,rfl⟩:=mc hx
  refine ⟨[],[],hk,jR _ _ _,rfl,by simp,fun n w2 hn _=>?_⟩
  simp at hn;subst hn
  simpa using bS
 ·rename_i l
  obtain ⟨a,c,rfl,h1,h2⟩:=qs.1 hx
  obtain ⟨hl,hk⟩:=hk
  by_cases hne : l = []
  ·subst hne
   refine ⟨[],[],hk,jR _ _ _,rfl,by simp,fun n w2 hn _=>?_⟩
   simp at hn;subst hn
   simpa using bS
  ·obtain ⟨b, o, k', rfl, h3, h4, h5⟩ := h2 hne
   have key : ∀ (l : List D) (o : Nat),(∀ y ∈ l,y.cells.length = k /\ y.memOk = true) -> ol w st.S b k' l o -> (l ≠ [] -> k' = k) /\ ∃ vs,dz w st k (l.map .d) vs /\ ft w b o vs:=by
    intro l
    induction l with
    | nil=>intro o _ _;exact ⟨fun h=>absurd rfl h,[],jR _ _ _,by simp [ft]⟩
    | cons y l ih=>
     intro o hy he
     simp only [ol] at he
     obtain ⟨us,e1,e2,e3,e4⟩:=he
     have hkk : k' = k:=by rw [<- e1,ip _ _ e2,(hy y (by simp)).1]
     obtain ⟨_,vs,f1,f2⟩:=ih (o + k') (fun z hz=>hy z (by simp [hz])) e4
     refine ⟨fun _=>hkk,us ++ vs,?_,?_⟩
     ·exact fH (pZ (x:=.d y) (by simpa [aC] using e2) (by rw [e1,hkk])) f1
     ·rw [bE] at *
      intro j v hj
      rw [List.getElem?_append] at hj
      split at hj
      ·exact e3 j v hj
      ·have:=f2 _ v hj
       rw [show o + k' + (j - us.length) = o + j by omega] at this
       exact this
   obtain ⟨_,vs,f1,f2⟩:=key l o hl h5
   refine ⟨_,vs,hk,f1,by simp [Builtin.lenOf],mu (fun x hx=>?_) f1 hk0,fun n w2 hn hh=>dX rfl (dW (by rw [hh]) f2) ?_⟩
   ·obtain ⟨y,hy,rfl⟩:=List.mem_map.1 hx
    exact (hl y hy).2
   ·rw [f1.1];exact Nat.mul_le_mul_right k hn
 ·rename_i s
  cases gM.1 hx
  obtain ⟨h1,hk⟩:=ai hk
  simp at h1;subst h1
  refine ⟨_,s.map fun b=>.int .u8 b.toNat,hk,⟨by simp,fun i x hi=>?_⟩,by simp [Builtin.lenOf,ya],by simp [fM],fun n w2 hn _=>?_⟩
  ·rw [List.getElem?_map] at hi
   obtain ⟨b,hb,rfl⟩:=Option.map_eq_some_iff.1 hi
   have hl:=(List.getElem?_eq_some_iff.1 hb).1
   rw [Nat.mul_one]
   have : ((s.map fun b=>Value.int .u8 b.toNat).drop i).take 1 = [Value.int .u8 b.toNat]:=by
    rw [List.drop_eq_getElem_cons (by simpa using hl)]
    have:=(List.getElem?_eq_some_iff.1 hb).2
    simp [this]
   rw [this]
   simp [fR,aC,cC]
  ·simp only [Builtin.firstCells,xX,Sem.run_pure]
   congr 1
   apply Array.ext'
   simp
 ·rename_i id s len k' cap
  obtain ⟨o,g1,g2,hk⟩:=ga hk
  obtain ⟨h1,hb,hk⟩:=ai hk
  simp at h1
  rw [cO] at hk
  have hk' : ((o.elems.drop s).take len).all AV.known = true /\ K ((o.elems.drop s).take len):=by
   rcases aq hk with ⟨h2,hk⟩ | ⟨h2,hk⟩
   ·simp only [beq_iff_eq] at h2
    obtain ⟨h3,hk⟩:=ai hk
    have : (o.elems.drop s).take len = o.elems.drop s:=List.take_of_length_le (by omega)
    rw [this];exact ⟨h3,hk⟩
   ·obtain ⟨h3,hk⟩:=ai hk
    rw [dM] at hk
    exact ⟨h3,hk⟩
  clear hk
  subst h1
  obtain ⟨hkn,hk⟩:=hk'
  obtain ⟨a,c,rfl,a1,a2,a3,a4,a5,a6⟩:=eT.1 hx
  obtain ⟨r,hr,hobj⟩:=hw.obj id o g1 g2 a2
  obtain ⟨r1,r2,r3,r4⟩:=a6 r hr
  have hlen : ((o.elems.drop s).take len).length = len:=by simp;omega
  by_cases h0 : len = 0
  ·subst h0
   have e : (o.elems.drop s).take 0 = []:=by simp
   rw [e] at hk
   refine ⟨[],[],hk,jR _ _ _,rfl,by simp,fun n w2 hn _=>?_⟩
   simp at hn;subst hn
   simpa using bS
  ·have hm : r.m ≠ 0:=by omega
   obtain ⟨vs,f1,f2⟩:=hobj.flat hm s len hb
   rw [r1] at f1
   refine ⟨_,vs,hk,f1,by simp [Builtin.lenOf,hlen],mu (by simpa using hkn) f1 hk0,fun n w2 hn hh=>dX (r3 (by omega)) (dW (by rw [hh]) f2) ?_⟩
   rw [f1.1];exact Nat.mul_le_mul_right _ hn
 ·rename_i a c
  obtain ⟨us,h1,h2⟩:=hx
  simp [AV.isAgg] at h1;subst h1
  simp [aC] at h2;subst h2
  refine ⟨[],[],hk,jR _ _ _,rfl,by simp,fun n w2 hn _=>?_⟩
  simp at hn;subst hn
  simpa using bS
 ·exact hk.elim
end
end Dw
namespace Dw
open Go Go.RowKit
theorem CV (n : Nat) : ∀ (r c : Nat),c <= 2 * n -> 256 <= c -> Builtin.growBy n r c <= 2 * n
 | 0,c,h,_=>h
 | r + 1,c,h,h2=>by
  unfold Builtin.growBy
  split
  ·exact h
  ·exact CV n r _ (by omega) (by omega)
theorem td {need cap : Nat} (h : cap < need) : Builtin.nextslicecap need cap <= 2 * need:=by
 unfold Builtin.nextslicecap
 split
 ·omega
 ·split
  ·omega
  ·exact CV need 4 cap (by omega) (by omega)
section
variable {P : Program} {E : TE} (hE : gJ P E) {B : Nat} {W w : World} {st : St} {h : ae} (hw : WR B W w st h)
include hE
theorem tL {ts : Array Nat} {ty t t' : Nat} {base : Option Addr} {sLen sCap n : Nat} {vx : Value} {vs : List Value} {w' : World} (h0 : ts[0]? = some t) (h1 : ts[1]? = some t') (hk4 : (E t).kind = 4)
  (hkind : (E (E t).elem).kind ≠ 0) (hz : (E t').kind ≠ 0 /\ (E t').kind ≠ 1) (hlen : (Builtin.lenOf vx).run P w = .ok n w) (hfc : (Builtin.firstCells (E (E t).elem).size n vx).run P w = .ok vs.toArray w) (hfit : sLen + n <= sCap)
  (hst : ∀ a,base = some a -> (storeCells (a.add (sLen * (E (E t).elem).size)) vs).run P w = .ok () w') (hno : base = none -> w' = w) :
  (Builtin.append_ ts ty #[.slice base sLen sCap,vx]).run P w = .ok (.slice base (sLen + n) sCap) w':=by
 obtain ⟨d,hd,hdk⟩:=l9 hE hz.1
 have hnint : ∀ k,d ≠ .int k:=by rintro k rfl;simp [lK] at hdk;exact hz.2 hdk.1
 simp only [Builtin.append_,h0,h1,List.getElem?_toArray,List.getElem?_cons_zero,List.getElem?_cons_succ,Sem.run_bind,run_underlying (bd hE hk4),Result.andThen_ok,bx hE hkind,run_underlying hd,Sem.run_pure,Bool.false_eq_true,if_false,hlen,Bool.not_false,if_true,hfit,hfc]
 cases base with
 | none=>simp [hno rfl]
 | some a=>simp [hst a rfl]
theorem q7 {ts : Array Nat} {ty t t' : Nat} {base : Option Addr} {sLen sCap n : Nat} {vx : Value} {os vs : List Value} (h0 : ts[0]? = some t) (h1 : ts[1]? = some t') (hk4 : (E t).kind = 4)
  (hkind : (E (E t).elem).kind ≠ 0) (hz : (E t').kind ≠ 0 /\ (E t').kind ≠ 1) (hlen : (Builtin.lenOf vx).run P w = .ok n w) (hfc : (Builtin.firstCells (E (E t).elem).size n vx).run P w.drew = .ok vs.toArray w.drew)
  (hfo : (Builtin.firstCells (E (E t).elem).size sLen (.slice base sLen sCap)).run P w.drew = .ok os.toArray w.drew) (hfit : ¬ sLen + n <= sCap) (hb0 : 0 < (E (E t).elem).bytes) (hb : (sLen + n) * (E (E t).elem).bytes <= 140737488355328) :
  ∃ c rest,sLen + n <= c /\ rest.size = (c - (sLen + n)) * (E (E t).elem).size /\
   (Builtin.append_ ts ty #[.slice base sLen sCap,vx]).run P w = .ok (.slice (some ⟨w.heap.size,0,none⟩) (sLen + n) c) (w.drew.alloc (.cells (os.toArray ++ vs.toArray ++ rest) (E t).elem)):=by
 obtain ⟨d,hd,hdk⟩:=l9 hE hz.1
 have hnint : ∀ k,d ≠ .int k:=by rintro k rfl;simp [lK] at hdk;exact hz.2 hdk.1
 obtain ⟨i,t1,t2,t3⟩:=jo hE hkind w
 have hF:=hE.facts hkind
 obtain ⟨z,z1,z2⟩:=ka hE hkind w.drew
 have t1' : ∀ w,(typeInfo (E t).elem).run P w = .ok i w:=by
  obtain ⟨i', d', z', e1, e2, e3, e4, e5⟩ := hF.ex
  have : i = i':=by simp [typeInfo,e1] at t1;exact t1.symm
  subst this
  intro w
  simp [typeInfo,e1]
 obtain ⟨zu,y1,y2,y3,y4,y5,y6⟩:=dk (w:=w) (st:=⟨0,fun _=>none,fun _=>False,fun _=>False,fun _=>False,fun _=>False⟩) hF.zfit (kQ z2)
 have hzs : z.cells.size = (E (E t).elem).size:=by rw [<- y2,<- y1];simp
 have hneed : sLen + n <= 140737488355328:=Nat.le_trans (Nat.le_mul_of_pos_right _ hb0) hb
 have hmax : ¬ (((sLen + n : Nat) : Int) > IntKind.i64.max /\ ((false : Bool) = true \/ (E (E t).elem).bytes = 0)):=by
  rintro ⟨_,h | h⟩
  ·cases h
  ·omega
 have hnc : ¬ Builtin.nextslicecap (sLen + n) sCap * (E (E t).elem).bytes > 2 ^ 48:=by
  have:=td (need:=sLen + n) (cap:=sCap) (by omega)
  have:=Nat.mul_le_mul_right (E (E t).elem).bytes this
  rw [Nat.mul_assoc] at this
  omega
 refine ⟨sLen + n + w.tape w.drawn (.appendCap (sLen + n) sCap (E t).elem) % (2 ^ 63 - (sLen + n)),Builtin.zeroCells z.cells (w.tape w.drawn (.appendCap (sLen + n) sCap (E t).elem) % (2 ^ 63 - (sLen + n))),by omega,?_,?_⟩
 ·simp [Builtin.zeroCells,hzs]
 ·simp only [Builtin.append_, h0, h1, List.getElem?_toArray, List.getElem?_cons_zero, List.getElem?_cons_succ, Sem.run_bind, run_underlying (bd hE hk4), Result.andThen_ok, bx hE hkind, run_underlying hd, Sem.run_pure, Bool.false_eq_true, if_false, hlen, Bool.not_false, if_true, hfit, t1', t3]
  simp only [Bool.false_eq_true] at hmax
  rw [if_neg hmax]
  simp only [Sem.run_bind, t1', Result.andThen_ok, t3]
  rw [if_neg hnc]
  simp only [Sem.run_bind, run_choose, Question.forced, Bool.false_eq_true, if_false, Result.andThen_ok, Question.cut, World.drew_eq, t1', run_askRoom, hfo, hfc, z1, dY, Sem.run_pure]
  simp
theorem q6 {ts : Array Nat} {ty t t' : Nat} {base : Option Addr} {sLen sCap : Nat} {kk : IntKind} {m : Int} {w' : World} (h0 : ts[0]? = some t) (h1 : ts[1]? = some t') (hk4 : (E t).kind = 4)
  (hkind : (E (E t).elem).kind ≠ 0) (hz : (E t').kind = 1) (hm : 0 <= m /\ m < 9223372036854775808 /\ m * (E (E t).elem).bytes <= 140737488355328) (hfit : sLen + m.toNat <= sCap) {z : Value} (hzv : (zeroValue (E t).elem).run P w = .ok z w)
  (hzs : z.cells.size = (E (E t).elem).size)
  (hst : ∀ a,base = some a -> (storeCells (a.add (sLen * (E (E t).elem).size)) (Builtin.zeroCells z.cells m.toNat).toList).run P w = .ok () w') (hno : base = none -> w' = w) :
  (Builtin.append_ ts ty #[.slice base sLen sCap,.int kk m]).run P w = .ok (.slice base (sLen + m.toNat) sCap) w':=by
 obtain ⟨i,t1,t2,t3⟩:=jo hE hkind w
 have wrapm : IntKind.i64.wrap m = m:=Go.IntWalk.i64_in m (by omega)
 have hpos:=(hE.facts hkind).pos
 simp only [Builtin.append_,h0,h1,List.getElem?_toArray,List.getElem?_cons_zero,List.getElem?_cons_succ,Sem.run_bind,run_underlying (bd hE hk4),Result.andThen_ok,bx hE hkind,run_underlying (eM hE hz),Sem.run_pure,if_true,asInt,asIntOf,wrapm]
 rw [if_neg (by omega)]
 simp only [Sem.run_bind,t1,Result.andThen_ok,t3]
 rw [if_neg (by omega)]
 simp only [Sem.run_pure,Result.andThen_ok,hfit,if_true,Sem.run_bind,Bool.not_true,Bool.false_eq_true,if_false]
 by_cases hm0 : m.toNat * (E (E t).elem).size = 0
 ·have hm1 : m.toNat = 0:=by rcases Nat.mul_eq_zero.1 hm0 with h | h;exact h;omega
  rw [if_pos hm0]
  rw [hm1] at hst
  have he : (Builtin.zeroCells z.cells 0).toList = []:=by simp [Builtin.zeroCells]
  rw [he] at hst
  cases base with
  | none=>simp [hno rfl]
  | some a=>simp [hst a rfl]
 ·rw [if_neg hm0]
  simp only [Sem.run_bind,hzv,Result.andThen_ok,Sem.run_pure]
  cases base with
  | none=>simp [hno rfl]
  | some a=>simp [hst a rfl]
theorem qm {ts : Array Nat} {ty t t' : Nat} {base : Option Addr} {sLen sCap : Nat} {kk : IntKind} {m : Int} {os : List Value} (h0 : ts[0]? = some t) (h1 : ts[1]? = some t') (hk4 : (E t).kind = 4)
  (hkind : (E (E t).elem).kind ≠ 0) (hz : (E t').kind = 1) (hm : 0 <= m /\ m < 9223372036854775808 /\ m * (E (E t).elem).bytes <= 140737488355328) {z : Value} (hzv : ∀ w,(zeroValue (E t).elem).run P w = .ok z w)
  (hzs : z.cells.size = (E (E t).elem).size)
  (hfo : (Builtin.firstCells (E (E t).elem).size sLen (.slice base sLen sCap)).run P w.drew = .ok os.toArray w.drew) (hfit : ¬ sLen + m.toNat <= sCap) (hb0 : 0 < (E (E t).elem).bytes) (hb : (sLen + m.toNat) * (E (E t).elem).bytes <= 140737488355328) :
  ∃ c rest,sLen + m.toNat <= c /\ rest.size = (c - (sLen + m.toNat)) * (E (E t).elem).size /\
   (Builtin.append_ ts ty #[.slice base sLen sCap,.int kk m]).run P w = .ok (.slice (some ⟨w.heap.size,0,none⟩) (sLen + m.toNat) c) (w.drew.alloc (.cells (os.toArray ++ Builtin.zeroCells z.cells m.toNat ++ rest) (E t).elem)):=by
 obtain ⟨i,t1,t2,t3⟩:=jo hE hkind w
 have hF:=hE.facts hkind
 have t1' : ∀ w,(typeInfo (E t).elem).run P w = .ok i w:=by
  obtain ⟨i', d', z', e1, e2, e3, e4, e5⟩ := hF.ex
  have : i = i':=by simp [typeInfo,e1] at t1;exact t1.symm
  subst this
  intro w
  simp [typeInfo,e1]
 have hpos:=hF.pos
 have wrapm : IntKind.i64.wrap m = m:=Go.IntWalk.i64_in m (by omega)
 have hneed : sLen + m.toNat <= 140737488355328:=Nat.le_trans (Nat.le_mul_of_pos_right _ hb0) hb
 have hmax : ¬ (((sLen + m.toNat : Nat) : Int) > IntKind.i64.max /\ (True \/ (E (E t).elem).bytes = 0)):=by
  rintro ⟨h,_⟩
  simp only [IntKind.max,IntKind.signed,IntKind.bits] at h
  simp at h
  omega
 have hnc : ¬ Builtin.nextslicecap (sLen + m.toNat) sCap * (E (E t).elem).bytes > 2 ^ 48:=by
  have:=td (need:=sLen + m.toNat) (cap:=sCap) (by omega)
  have:=Nat.mul_le_mul_right (E (E t).elem).bytes this
  rw [Nat.mul_assoc] at this
  omega
 refine ⟨sLen + m.toNat + w.tape w.drawn (.appendCap (sLen + m.toNat) sCap (E t).elem) % (2 ^ 63 - (sLen + m.toNat)),Builtin.zeroCells z.cells (w.tape w.drawn (.appendCap (sLen + m.toNat) sCap (E t).elem) % (2 ^ 63 - (sLen + m.toNat))),by omega,?_,?_⟩
 ·simp [Builtin.zeroCells,hzs]
 ·simp only [Builtin.append_,h0,h1,List.getElem?_toArray,List.getElem?_cons_zero,List.getElem?_cons_succ,Sem.run_bind,run_underlying (bd hE hk4),Result.andThen_ok,bx hE hkind,run_underlying (eM hE hz),Sem.run_pure,if_true,asInt,asIntOf,wrapm]
  rw [if_neg (by omega)]
  simp only [Sem.run_bind, t1', Result.andThen_ok, t3]
  rw [if_neg (by omega)]
  simp only [Sem.run_pure, Result.andThen_ok, hfit, if_true, if_false, Sem.run_bind, Bool.not_true, Bool.false_eq_true, t1', t3]
  rw [if_neg hmax]
  simp only [Sem.run_bind, t1', Result.andThen_ok, t3]
  rw [if_neg hnc]
  simp only [Sem.run_bind, run_choose, Question.forced, Bool.false_eq_true, if_false, Result.andThen_ok, Question.cut, World.drew_eq, t1', run_askRoom, hfo]
  by_cases hm0 : m.toNat * (E (E t).elem).size = 0
  ·have hm1 : m.toNat = 0:=by rcases Nat.mul_eq_zero.1 hm0 with h | h;exact h;omega
   have he : Builtin.zeroCells z.cells 0 = #[]:=by
    apply Array.ext'
    simp [Builtin.zeroCells]
   rw [if_pos hm0]
   simp only [Sem.run_pure,Result.andThen_ok,Sem.run_bind,hzv,dY,hm1,he]
   simp
  ·rw [if_neg hm0]
   simp only [Sem.run_bind,hzv,Result.andThen_ok,Sem.run_pure,dY]
   simp
end
end Dw
