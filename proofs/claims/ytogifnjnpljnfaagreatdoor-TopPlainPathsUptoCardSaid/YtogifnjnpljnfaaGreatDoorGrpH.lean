/-
  Own lemmas, no conditions: Rb, Rc, Rd, Re, Rf, Ra, Qt, Rg, Rh, Ri, Rj, Sc, Sh, Ld, Sg.
-/
import Derived.Test.YtogifnjnpljnfaaGreatDoorGrpF
import Derived.Test.YtogifnjnpljnfaaGreatDoorRows
import Derived.Test.YtogifnjnpljnfaaGreatDoorTie
import Derived.Test.YtogifnjnpljnfaaGreatDoorCards
import Derived.ProofKit
import Derived.LaidMore
import Derived.Lib.LaidU8
import Derived.LaidSub
import Derived.ChangeSame
set_option linter.unusedVariables false
set_option linter.unusedSimpArgs false
namespace Go.Proofs.YtogifnjnpljnfaaGreatDoor
open Go Dw
section
set_option maxRecDepth 10000
attribute [local irreducible] bn
set_option maxHeartbeats 1000000
open Paths
def mU : D:=.agg [i 4,.fs [],i 1]
def ON : jr:=⟨0,0,false,false,[],[]⟩
def Fh (tick : Int) (p : Bs) : D:=.agg [i 3,i 4,.fs [],i 1,i tick,.str p,.str [],i 0,i 400,.str [],i 0,i 0,.bool false,.bool false,.fs [],.fs [],i 0]
def LX : D:=.agg [.str [109,97,107,101,102,105,108,101],.bool true,.bool false,.bool false,.bool false,.bool false,.bool false,.bool false,.bool false,.bool false,.str [109,97,107,101,100,105,114,101,99,116,111,114,121],.bool true,.bool false,.bool false,.bool false,.bool false,.bool false,.bool false,.bool false,.bool false,.str [109,97,107,101,108,105,110,107],.bool true,.bool false,.bool true,.bool false,.bool false,.bool false,.bool false,.bool false,.bool false,.str [114,101,97,100],.bool true,.bool true,.bool false,.bool true,.bool true,.bool false,.bool false,.bool false,.bool true,.str [119,114,105,116,101],.bool true,.bool true,.bool false,.bool true,.bool false,.bool true,.bool false,.bool false,.bool false,.str [115,101,116,115,105,122,101],.bool true,.bool true,.bool false,.bool false,.bool true,.bool false,.bool false,.bool false,.bool false,.str [112,117,110,99,104],.bool true,.bool true,.bool false,.bool true,.bool true,.bool false,.bool false,.bool false,.bool false,.str [97,100,100,110,97,109,101],.bool true,.bool false,.bool true,.bool false,.bool false,.bool false,.bool false,.bool false,.bool false,.str [114,101,110,97,109,101],.bool true,.bool false,.bool true,.bool false,.bool false,.bool false,.bool false,.bool false,.bool false,.str [100,101,108,101,116,101],.bool true,.bool false,.bool false,.bool false,.bool false,.bool false,.bool false,.bool false,.bool false,.str [108,105,115,116],.bool true,.bool false,.bool false,.bool false,.bool false,.bool false,.bool false,.bool false,.bool true,.str [115,116,97,116],.bool true,.bool false,.bool false,.bool false,.bool false,.bool false,.bool false,.bool false,.bool true,.str [115,116,114,101,97,109,115],.bool true,.bool false,.bool false,.bool false,.bool false,.bool false,.bool false,.bool false,.bool true,.str [115,101,99,117,114,101],.bool true,.bool false,.bool false,.bool false,.bool false,.bool false,.bool true,.bool false,.bool false,.str [115,101,116,108,105,109,105,116],.bool false,.bool false,.bool false,.bool false,.bool true,.bool false,.bool false,.bool true,.bool false,.str [117,115,97,103,101],.bool false,.bool false,.bool false,.bool false,.bool false,.bool false,.bool false,.bool true,.bool true]
def Gw (f : Nat) : Bool:=false
theorem T7 : Fn 53 [] LX:=fe (fs:=Tryz.prog.funcs.toList) (orc:=jk) aZ gV (xs:=[]) rfl d7 Gw 300 30 (by kernel_rfl) rfl rfl
theorem UO : Fn 55 [i 3] (.bool false):=fe (fs:=Tryz.prog.funcs.toList) (orc:=jk) aZ gV (xs:=[_]) rfl d7 Gw 300 30 (by kernel_rfl) rfl rfl
theorem UP : Fn 56 [i 3] (.bool false):=fe (fs:=Tryz.prog.funcs.toList) (orc:=jk) aZ gV (xs:=[_]) rfl d7 Gw 300 30 (by kernel_rfl) rfl rfl
theorem Vh : Fn 99 [i 3] (.bool true):=fe (fs:=Tryz.prog.funcs.toList) (orc:=jk) aZ gV (xs:=[_]) rfl d7 Gw 300 30 (by kernel_rfl) rfl rfl
theorem Ni : Fn 100 [mU] (i 0):=fe (fs:=Tryz.prog.funcs.toList) (orc:=jk) aZ gV (xs:=[_]) rfl d7 Gw 300 30 (by kernel_rfl) rfl rfl
theorem QR : Fn 103 [ON.enc] (.bool true):=fe (fs:=Tryz.prog.funcs.toList) (orc:=jk) aZ gV (xs:=[_]) rfl d7 Gw 300 30 (by kernel_rfl) rfl rfl
theorem UB : Fn 28 [mU] mU:=fe (fs:=Tryz.prog.funcs.toList) (orc:=jk) aZ gV (xs:=[_]) rfl d7 Gw 300 30 (by kernel_rfl) rfl rfl
theorem Sf : Fn 268 [i 1] (i 0):=fe (fs:=Tryz.prog.funcs.toList) (orc:=jk) aZ gV (xs:=[_]) rfl d7 Gw 300 30 (by kernel_rfl) rfl rfl
theorem Sw : Fn 325 [mU] (i 73):=fe (fs:=Tryz.prog.funcs.toList) (orc:=jk) aZ gV (xs:=[_]) rfl d7 Gw 300 30 (by kernel_rfl) rfl rfl
end
section
set_option maxRecDepth 10000
attribute [local irreducible] bn
set_option maxHeartbeats 1000000
open Paths
def Ja (n : Int) : Bool:=decide (n = 1) || decide (n = 4)
def Mn (a : dd) (r : Int) : Bool:=decide (da .and .i64 a.flags 8 = 0) && (Ja a.who && !decide (da .and .i64 a.mask r = 0))
def qX : List dd -> Int -> Nat -> Int
 | [],_,_=>-1
 | a :: l,r,k=>if Mn a r = true then (k : Int) else qX l r (k + 1)
theorem CX : ∀ (l : List dd) (r : Int) (k : Nat),qX l r k < ((k + l.length : Nat) : Int)
 | [],r,k=>by simp only [qX];omega
 | a :: l,r,k=>by
  have:=CX l r (k + 1)
  simp only [qX,List.length_cons]
  split<;>omega
theorem Jf {l : List dd} {r : Int} {k : Nat} (h : ∀ j (hj : j < l.length),j < l.length -> Mn l[j] r = false) : qX l r k = -1:=by
 induction l generalizing k with
 | nil=>rfl
 | cons a l ih=>
  have h0:=h 0 (by simp) (by simp)
  simp only [List.getElem_cons_zero] at h0
  simp only [qX,h0,Bool.false_eq_true,if_false]
  exact ih fun j hj _=>h (j + 1) (by simpa using hj) (by simpa using hj)
theorem CW {r : Int} : ∀ {l : List dd} {k n : Nat} (hn : n < l.length),(∀ j (hj : j < l.length),j < n -> Mn l[j] r = false) -> Mn l[n] r = true -> qX l r k = ((k + n : Nat) : Int)
 | a :: l,k,0,hn,h,h1=>by
  simp only [List.getElem_cons_zero] at h1
  simp only [qX,h1,if_true,Nat.add_zero]
 | a :: l,k,n + 1,hn,h,h1=>by
  have h0:=h 0 (by simp) (by omega)
  simp only [List.getElem_cons_zero] at h0
  simp only [List.getElem_cons_succ] at h1
  simp only [qX,h0,Bool.false_eq_true,if_false]
  rw [CW (k:=k + 1) (by simpa using hn) (fun j hj hjn=>h (j + 1) (by simpa using hj) (by omega)) h1]
  congr 1;omega
def ld (d : jr) (r : Int) : Int:=if da .and .i64 73 r = 0 then (if ¬ da .and .i64 192 r = 0 /\ Ja d.owner = true then -2 else if d.has = false then -3 else if 0 <= qX d.es r 0 then qX d.es r 0 else -4) else -1
theorem Nk (n : Int) : Fn 105 [.fs [],i n] (.bool false):=fe (fs:=Tryz.prog.funcs.toList) (orc:=jk) aZ gV (xs:=[_,_]) rfl d7 Gw 300 30 (by kernel_rfl) rfl rfl
theorem Sy (a : dd) : Fn 328 [a.enc] (.bool (decide (da .and .i64 a.flags 8 = 0))):=by
 refine ac aZ Tryz.func328 rfl (by kernel_rfl) ?_
 conv=>whnf
 repeat' (first
 | (refine oh ?_;conv=>whnf)
 | ((with_reducible refine ag ?_);first | (exact aD rfl;done))
  | fail
  )
theorem Of (n : Int) : Fn 326 [mU,i n] (.bool (Ja n)):=by
 refine ac aZ Tryz.func326 rfl (by kernel_rfl) ?_
 conv=>whnf
 repeat' (first
 | ((with_reducible refine aB (fun h=>?_) (fun h=>?_))<;>(try simp only [List.length_map] at h)<;>conv=>whnf)
 | ((with_reducible refine ak ?_);(first | refine aa (ah (Nk _) rfl rfl) ?_);conv=>whnf)
 | ((with_reducible refine ag ?_);first | (refine aD (congrArg D.bool ?_);(unfold Ja;simp_all;done);done))
  | fail
  )
theorem Sx (a : dd) (r : Int) : Fn 327 [a.enc,.fp mU 0,.fp (i r) 0] (.bool (Mn a r)):=by
 refine ac aZ Tryz.func327 rfl (by kernel_rfl) ?_
 conv=>whnf
 repeat' (first
 | ((with_reducible refine aB (fun h=>?_) (fun h=>?_))<;>(try simp only [List.length_map] at h)<;>conv=>whnf)
 | ((with_reducible refine ao (fun h=>?_) (fun h=>?_))<;>conv=>whnf)
 | ((with_reducible refine ak ?_);(first | refine aa (af (xs:=[_]) (Sy a) _) ?_ | refine aa (ah (Of _) rfl rfl) ?_);conv=>whnf)
 | (refine oh ?_;conv=>whnf)
 | ((with_reducible refine ag ?_);first | (refine aD (congrArg D.bool ?_);(unfold Mn;simp_all;done);done))
  | fail
  )
theorem Su (es : List dd) (r : Int) (hl9 : es.length < 2000000) : Fn 318 [.fs (es.map dd.enc),.fn 327 [] [.fp mU 0,.fp (i r) 0]] (i (qX es r 0)):=by
 refine ac aZ Tryz.func318 rfl (by kernel_rfl) ?_
 conv=>whnf
 repeat' (first
 | ((with_reducible refine aB (fun h=>?_) (fun h=>?_))<;>(try simp only [List.length_map] at h)<;>conv=>whnf)
 | ((with_reducible refine ao (fun h=>?_) (fun h=>?_))<;>conv=>whnf)
 | ((with_reducible refine ak ?_);(first | refine aa (af (xs:=[_,_,_]) (Sx (es[k]'(by omega)) r) _) ?_);conv=>whnf)
 | ((with_reducible refine aO ?_);first | (refine bh (fun (k : Nat)=>es.length - k) (fun (k : Nat)=>k <= es.length /\ ∀ j,j < k -> ∀ (hj : j < es.length),Mn es[j] r = false) (fun (k : Nat)=>[(0,.d (.fs (es.map dd.enc))),(1,.d (.fn 327 [] [.fp mU 0,.fp (i r) 0])),(7,.d (i es.length)),(8,.d (i k))]) (fun (k : Nat)=>[]) (0) (by exact ⟨Nat.zero_le _,fun j hj=>by omega⟩) ?_ (fun k C hI hC=>?_);(exact ⟨[],rfl,rfl,⟨rfl,rfl,(by first | exact congrArg (D.int .i64) (by simp only [List.length_map]) ),(by first | exact congrArg (D.int .i64) (by omega) ),trivial⟩,trivial⟩);all_goals (conv=>whnf)))
 | ((with_reducible show C _ _);first | (refine hC (k + 1) _ _ ?_ (by omega) ?_;clear hC;rotate_left;(exact ⟨[],rfl,rfl,⟨rfl,rfl,rfl,(by first | exact congrArg (D.int .i64) (by omega) ),trivial⟩,trivial⟩);(exact ⟨by omega,fun j hj hjl=>(by by_cases e : j = k;(subst e;assumption);exact hI.2 j (by omega) hjl)⟩)))
 | (refine bf (by omega) ?_;conv=>whnf)
 | (refine ax (by omega) ?_;conv=>whnf)
 | ((with_reducible refine ag ?_);first | (exact aD (congrArg (D.int .i64) ((CW (k:=0) (n:=k) (by omega) (fun j hj hjn=>hI.2 j hjn hj) (by assumption)).trans (by omega)).symm);done) | (exact aD (congrArg (D.int .i64) (Jf (fun j hj _=>hI.2 j (by omega) hj)).symm);done))
  | fail
  )
theorem Sp (d : jr) (r : Int) (hl9 : d.es.length < 2000000) : Fn 308 [d.enc,mU,i r] (i (ld d r)):=by
 refine ac aZ Tryz.func308 rfl (by kernel_rfl) ?_
 conv=>whnf
 repeat' (first
 | ((with_reducible refine aB (fun h=>?_) (fun h=>?_))<;>(try simp only [List.length_map] at h)<;>conv=>whnf)
 | ((with_reducible refine bu (fun h=>?_) (fun h=>?_))<;>(try simp only [List.length_map] at h)<;>conv=>whnf)
 | ((with_reducible refine dj (fun h=>?_) (fun h=>?_))<;>conv=>whnf)
 | ((with_reducible refine ao (fun h=>?_) (fun h=>?_))<;>conv=>whnf)
 | ((with_reducible refine ak ?_);(first | refine aa (af (xs:=[_]) Sw _) ?_ | refine aa (ah (Of _) rfl rfl) ?_ | refine aa (ah (Su d.es r hl9) rfl (aK rfl (aK rfl bM))) ?_);conv=>whnf)
 | (refine ⟨[],[(2,1)],(by decide +kernel),?_⟩;conv=>whnf)
 | (refine oh ?_;conv=>whnf)
 | ((with_reducible refine ag ?_);first | (refine aD (congrArg (D.int .i64) ?_);(unfold ld;simp_all;done);done) | (refine aD (congrArg (D.int .i64) ?_);(unfold ld;simp_all;omega);done))
 | (refine ⟨rfl,?_⟩;conv=>whnf)
  | fail
  )
theorem Si (d : jr) : bn Tryz.prog 277 [.d d.enc,.d mU] [] (.d (.fn 307 [] [.fp d.enc 0,.fp mU 0])) []:=by
 refine ac aZ Tryz.func277 rfl (by kernel_rfl) ?_
 conv=>whnf
 repeat' (first
 | ((with_reducible refine ag ?_);first | (exact aP rfl rfl;done))
  | fail
  )
def QO (d : jr) (k : Nat) : List D:=[i ((2 ^ k : Nat) : Int),i (ld d ((2 ^ k : Nat) : Int))]
theorem TK {k : Nat} {K : Int -> Prop} (h : (k : Int) < 9) (hk : K ((2 ^ k : Nat) : Int)) : JQ .i64 1 (k : Int) K:=by
 have h2 : (2 : Int) ^ (min (k : Int).toNat IntKind.i64.bits) = ((2 ^ k : Nat) : Int):=by
  have : min (k : Int).toNat IntKind.i64.bits = k:=by
   show min (k : Int).toNat 64 = k
   omega
  rw [this];simp
 obtain ⟨m,hm,hb⟩ : ∃ m : Nat,2 ^ k = m /\ m <= 256:=⟨2 ^ k,rfl,Nat.pow_le_pow_right (n:=2) (by decide) (show k <= 8 by omega)⟩
 rw [hm] at h2 hk
 refine MA (m : Int) (decide_eq_true (by omega)) h2 (ax (by omega) ?_)
 rw [Int.one_mul];exact hk
theorem O7 (d : jr) (hl9 : d.es.length < 2000000) : n7 Tryz.prog 307 [] [.fp d.enc 0,.fp mU 0] ((List.range 9).map (QO d)):=by
 refine Jk aZ Tryz.func307 rfl (by kernel_rfl) (fun s ll hs=>?_)
 conv=>whnf
 repeat' (first
 | ((with_reducible refine aB (fun h=>?_) (fun h=>?_))<;>(try simp only [List.length_map] at h)<;>conv=>whnf)
 | ((with_reducible refine bu (fun h=>?_) (fun h=>?_))<;>(try simp only [List.length_map] at h)<;>conv=>whnf)
 | ((with_reducible refine aO ?_);first | (refine bh (fun (k : Nat)=>9 - k) (fun (k : Nat)=>k <= 9 /\ k <= s) (fun (k : Nat)=>[(0,.raw (.func (.yield ll) #[] #[])),(1,.d (.fp d.enc 0)),(2,.d (.fp mU 0)),(6,.d (i k))]) (fun (k : Nat)=>[trO k]) (0) (by exact ⟨Nat.zero_le _,Nat.zero_le _⟩) ?_ (fun k C hI hC=>?_);(exact ⟨[.old 0],rfl,rfl,⟨(by exact rfl),rfl,rfl,(by first | exact congrArg (D.int .i64) (by omega) ),trivial⟩,⟨Ar _,trivial⟩⟩);all_goals (conv=>whnf)))
 | ((with_reducible show C _ _);first | (refine hC (k + 1) _ _ ?_ (by omega) ?_;clear hC;rotate_left;(exact ⟨[.old 0],rfl,rfl,⟨(by exact rfl),rfl,rfl,(by first | exact congrArg (D.int .i64) (by omega) ),trivial⟩,⟨Ar _,trivial⟩⟩);(exact ⟨by omega,by omega⟩)))
 | (refine ax (by omega) ?_;conv=>whnf)
 | (refine ⟨_,_,⟨af (xs:=[_,_,_]) (Sp d _ hl9) _,rfl⟩,?_⟩;conv=>whnf)
 | (refine TK (by omega) ?_;conv=>whnf)
 | ((with_reducible refine uh ?_);(refine FL (i:=k) (by omega) (by omega) rfl ?_);conv=>whnf)
 | ((with_reducible refine ag ?_);first | (exact rj (by omega);done))
  | fail
  )
def C6 (d : jr) (n : Int) : Int:=match d.es[n.toNat]? with
 | some a=>a.kind
 | none=>1
def Jy (d : jr) (k : Nat) : Bool:=!decide (ld d ((2 ^ k : Nat) : Int) = -4) && (decide (ld d ((2 ^ k : Nat) : Int) < 0) || decide (C6 d (ld d ((2 ^ k : Nat) : Int)) = 0))
def kY (d : jr) : Nat -> Int
 | 0=>0
 | k + 1=>if Jy d k = true then da .or .i64 (kY d k) ((2 ^ k : Nat) : Int) else kY d k
theorem Hf (d : jr) : kY d 0 = 0:=rfl
theorem Hh {d : jr} {k : Nat} (h : Jy d k = true) : kY d (k + 1) = da .or .i64 (kY d k) ((2 ^ k : Nat) : Int):=if_pos h
theorem Hg {d : jr} {k : Nat} (h : Jy d k = false) : kY d (k + 1) = kY d k:=if_neg (by rw [h];decide)
theorem IV (d : jr) (r : Int) : ld d r < (d.es.length : Int):=by
 have:=CX d.es r 0
 unfold ld
 split
 ·split
  ·omega
  ·split
   ·omega
   ·split<;>omega
 ·omega
theorem Vj {d : jr} {r : Int} {K : D -> Prop} (h : ¬ ld d r < 0) (hk : ∀ a : dd,a.kind = C6 d (ld d r) -> K a.enc) : 0 <= ld d r /\ cX (d.es.map dd.enc) (ld d r).toNat K:=by
 have hb:=IV d r
 have hl : (ld d r).toNat < d.es.length:=by omega
 have hg:=List.getElem?_eq_getElem hl
 refine ⟨by omega,cj (x:=(d.es[(ld d r).toNat]'hl).enc) (by rw [List.getElem?_map,hg];rfl) (hk _ ?_)⟩
 unfold C6;rw [hg]
attribute [local irreducible] ld kY C6 Jy
theorem RX (d : jr) (hl9 : d.es.length < 2000000) : Fn 241 [d.enc,mU] (i (kY d 9)):=by
 refine tR aZ Tryz.func241 rfl (by kernel_rfl) ?_
 conv=>whnf
 repeat' (first
 | ((with_reducible refine zJ ?_);refine vH (σ:=Unit) (O7 d hl9) (fun _ _=>True) (fun _ _=>[(2,.ptr 0 0 0),(5,.ptr 2 0 0)]) (fun k _=>[⟨[.d d.enc],6,0⟩,⟨[.d mU],3,0⟩,⟨[.d (i (kY d k))],1,0⟩]) () trivial (.inr ⟨[.old 0,.old 1,.old 2],rfl,rfl,⟨⟨rfl,rfl,rfl⟩,⟨rfl,rfl,rfl⟩,trivial⟩,⟨⟨rfl,rfl,.inl ⟨[_],rfl,rfl⟩⟩,⟨rfl,rfl,.inl ⟨[_],rfl,rfl⟩⟩,⟨rfl,rfl,.inl ⟨[_],(by rw [Hf];rfl),rfl⟩⟩,trivial⟩⟩) (fun k u hk C hI hC=>?_) (fun u hI=>?_);(focus (refine ⟨_,rfl,?_⟩));all_goals (conv=>whnf))
 | ((with_reducible show C _);first | (refine hC () _ trivial (.inr ⟨[.old 0,.old 1,.old 2],rfl,rfl,⟨⟨rfl,rfl,rfl⟩,⟨rfl,rfl,rfl⟩,trivial⟩,⟨⟨rfl,rfl,.inl ⟨[_],rfl,rfl⟩⟩,⟨rfl,rfl,.inl ⟨[_],rfl,rfl⟩⟩,⟨rfl,rfl,.inl ⟨[_],(by rw [Hh (by unfold Jy;simp_all)];rfl),rfl⟩⟩,trivial⟩⟩)) | (refine hC () _ trivial (.inr ⟨[.old 0,.old 1,.old 2],rfl,rfl,⟨⟨rfl,rfl,rfl⟩,⟨rfl,rfl,rfl⟩,trivial⟩,⟨⟨rfl,rfl,.inl ⟨[_],rfl,rfl⟩⟩,⟨rfl,rfl,.inl ⟨[_],rfl,rfl⟩⟩,⟨rfl,rfl,.inl ⟨[_],(by rw [Hg (by unfold Jy;simp_all)];rfl),rfl⟩⟩,trivial⟩⟩)))
 | ((with_reducible refine aB (fun h=>?_) (fun h=>?_))<;>(try simp only [List.length_map] at h)<;>conv=>whnf)
 | ((with_reducible refine bu (fun h=>?_) (fun h=>?_))<;>(try simp only [List.length_map] at h)<;>conv=>whnf)
 | ((with_reducible refine ak ?_);(first | refine aa (af (xs:=[_,_]) (Si d) _) ?_);conv=>whnf)
 | (refine oh ?_;conv=>whnf)
 | (refine Vj (by assumption) (fun a hka=>?_);conv=>whnf)
 | ((with_reducible refine ag ?_);first | (exact aD rfl;done))
  | fail
  )
theorem Mq {a b : Nat} (ha : a < 512) (hb : b < 512) : da .or .i64 (a : Int) (b : Int) = ((a ||| b : Nat) : Int):=by
 have:=(Lp (a:=(a : Int)) (b:=(b : Int)) (K:=fun n=>n = ((a ||| b : Nat) : Int)) (by omega) (by simp)).out
 exact this
theorem PL (d : jr) : Jy d 0 = true:=by
 have h : ld d ((2 ^ 0 : Nat) : Int) = -1:=by
  unfold ld
  rw [if_neg (by decide)]
 unfold Jy
 rw [h]
 rfl
theorem zo (d : jr) : ∀ k,k <= 9 -> ∃ m : Nat,kY d k = (m : Int) /\ m < 2 ^ k /\ (1 <= k -> m.testBit 0 = true)
 | 0,_=>⟨0,Hf d,by decide,fun h=>by omega⟩
 | k + 1,hk=>by
  obtain ⟨m,h1,h2,h3⟩:=zo d k (by omega)
  have hp : 2 ^ k <= 256:=Nat.pow_le_pow_right (n:=2) (by decide) (show k <= 8 by omega)
  have hp2 : 2 ^ (k + 1) = 2 * 2 ^ k:=by rw [Nat.pow_succ];omega
  cases h : Jy d k with
  | true=>
   refine ⟨m ||| 2 ^ k,?_,Nat.or_lt_two_pow (by omega) (by omega),fun _=>?_⟩
   ·rw [Hh h,h1];exact Mq (by omega) (by omega)
   ·rw [Nat.testBit_or]
    by_cases hk0 : k = 0
    ·subst hk0;simp
    ·rw [h3 (by omega)];rfl
  | false=>
   refine ⟨m,by rw [Hg h,h1],by omega,fun _=>?_⟩
   by_cases hk0 : k = 0
   ·subst hk0;rw [PL] at h;cases h
   ·exact h3 (by omega)
theorem FU : ∀ m : Nat,m < 512 -> m.testBit 0 = true -> da .andNot .i64 1 (m : Int) = 0:=by decide +kernel
theorem Nb {d : jr} {K : Int -> Prop} (hk : K 0) : xY .andNot .i64 1 (kY d 9) K:=by
 obtain ⟨m,h1,h2,h3⟩:=zo d 9 (by omega)
 refine oh ?_
 rw [h1,FU m h2 (h3 (by omega))];exact hk
theorem NL : Fn 163 [.fs [i 0,i 0,i 0]] (i 0):=fe (fs:=Tryz.prog.funcs.toList) (orc:=jk) aZ gV (xs:=[_]) rfl d7 Gw 300 30 (by kernel_rfl) rfl rfl
theorem RV (d : jr) (K : It d) : Fn 231 [d.enc] (i 0):=by
 refine ac aZ Tryz.func231 rfl (by kernel_rfl) ?_
 conv=>whnf
 repeat' (first
 | ((with_reducible refine ak ?_);(first | refine aa (ah (Lt d K) rfl rfl) ?_);conv=>whnf)
 | ((with_reducible refine ag ?_);first | (exact aD rfl;done))
  | fail
  )
theorem RU (d : jr) (K : It d) : Fn 230 [d.enc,mU,i 1] (.tup [.bool true,i 0,i 0]):=by
 refine ac aZ Tryz.func230 rfl (by kernel_rfl) ?_
 conv=>whnf
 repeat' (first
 | ((with_reducible refine ak ?_);(first | refine aa (ah (RV d K) rfl rfl) ?_ | refine aa (ah Ni rfl rfl) ?_ | refine aa (ah Sf rfl rfl) ?_ | refine aa (ah NL rfl (aK rfl bM)) ?_ | refine aa (ah (RX d (by have:=K.e;omega)) rfl rfl) ?_);conv=>whnf)
 | (refine ⟨[],[(2,1)],(by decide +kernel),?_⟩;conv=>whnf)
 | (refine Nb ?_;conv=>whnf)
 | ((with_reducible refine ag ?_);first | (exact aP (aY (aK rfl (aK rfl (aK rfl bM)))) rfl;done))
 | (refine ⟨rfl,?_⟩;conv=>whnf)
  | fail
  )
end
section
set_option maxRecDepth 10000
attribute [local irreducible] bn
set_option maxHeartbeats 1000000
open Paths
attribute [local irreducible] aj normal text b6 ar
theorem S3 : Fn 84 [i 0,i 0,i 4096] (.bool true):=wq (by unfold ar;decide)
theorem S4 : Fn 84 [i 400,i 0,i 4096] (.bool true):=wq (by unfold ar;decide)
theorem S5 {n : Int} (h : b6 n = true) : Fn 84 [i n,i 0,i 1000000] (.bool true):=wq (by unfold b6 at h;exact h)
theorem SD {p : Bs} (h : (aj p).2 = 0) (ha : (aj p).1.abs = true) : Fn 36 [.str p] (.tup [.agg [.bool true,.fs ((aj p).1.parts.map D.str),.str (aj p).1.stream],i 0]):=by
 have:=II p
 rw [h] at this
 unfold js at this
 rw [ha] at this
 exact this
theorem QQ (p : Bs) (hpe : (aj p).2 = 0) (hpa : (aj p).1.abs = true) : Fn 101 [.str p,.bool true,.bool false] (i 0):=by
 refine ac aZ Tryz.func101 rfl (by kernel_rfl) ?_
 conv=>whnf
 repeat' (first
 | ((with_reducible refine ao (fun h=>?_) (fun h=>?_))<;>conv=>whnf)
 | ((with_reducible refine ak ?_);(first | refine aa (aA (SD hpe hpa) rfl) ?_ | refine aa (af (xs:=[_,_]) (rZ _) _) ?_ | refine aa (ah rY rfl (aK rfl bM)) ?_ );conv=>whnf)
 | ((with_reducible refine ag ?_);first | (exact aD rfl;done))
  | fail
  )
theorem UM (p : Bs) (hpe : (aj p).2 = 0) (hpa : (aj p).1.abs = true) (tick : Int) (htk : b6 tick = true) : Fn 51 [Fh tick p] (i 0):=by
 refine ac aZ Tryz.func51 rfl (by kernel_rfl) ?_
 conv=>whnf
 repeat' (first
 | ((with_reducible refine ak ?_);(first | refine aa (af (xs:=[_]) Vh _) ?_ | refine aa (aA T7 rfl) ?_ | refine aa (ah Ni rfl rfl) ?_ | refine aa (af (xs:=[_,_,_]) (S5 htk) _) ?_ | refine aa (af (xs:=[_,_,_]) S3 _) ?_ | refine aa (af (xs:=[_,_,_]) S4 _) ?_ | refine aa (af (xs:=[_,_]) (rZ _) _) ?_ | refine aa (ah rY rfl (aK rfl bM)) ?_ | refine aa (ah F2 rfl (aK rfl bM)) ?_ | refine aa (af (xs:=[_,_,_]) (QQ p hpe hpa) _) ?_ | refine aa (ah QR rfl rfl) ?_);conv=>whnf)
 | (refine ⟨[],[(4,2)],(by decide +kernel),?_⟩;conv=>whnf)
 | (refine ⟨[],[(4,0),(2,0)],(by decide +kernel),?_⟩;conv=>whnf)
 | (refine ⟨[],[(23,7),(23,18),(23,21)],(by decide +kernel),?_⟩;conv=>whnf)
 | (refine ⟨⟨by decide,by decide⟩,?_⟩;conv=>whnf)
 | ((with_reducible refine ag ?_);first | (exact aD rfl;done))
 | (refine ⟨rfl,?_⟩;conv=>whnf)
  | fail
  )
theorem Uv (tick : Int) (p : Bs) : Fn 12 [Fh tick p] (Fh tick p):=by
 refine ac aZ Tryz.func12 rfl (by kernel_rfl) ?_
 conv=>whnf
 repeat' (first
 | ((with_reducible refine ak ?_);(first | refine aa (aA UB rfl) ?_ | refine aa (aA (TV ON (by decide) (by decide)) rfl) ?_);conv=>whnf)
 | (refine ⟨[],[(4,2)],(by decide +kernel),?_⟩;conv=>whnf)
 | ((with_reducible refine ag ?_);first | (exact aP (be (aK rfl (aK rfl (aK rfl (aK rfl (aK rfl (aK rfl (aK rfl (aK rfl (aK rfl (aK rfl (aK rfl (aK rfl (aK rfl (aK rfl (aK rfl (aK rfl (aK rfl (bM))))))))))))))))))) rfl;done) )
 | (refine ⟨rfl,?_⟩;conv=>whnf)
  | fail
  )
 skip
theorem Uz (s : dn) (p : Bs) (hpe : (aj p).2 = 0) (hpa : (aj p).1.abs = true) (htk : b6 s.tick = true) : Fn 26 [.fp s.enc 0,Fh s.tick p] (i 0):=by
 refine ac aZ Tryz.func26 rfl (by kernel_rfl) ?_
 conv=>whnf
 repeat' (first
 | ((with_reducible refine ak ?_);(first | refine aa (ah (UM p hpe hpa s.tick htk) rfl rfl) ?_ | refine aa (af (xs:=[_,_]) (D8 (Int.le_refl _) _) _) ?_ | refine aa (ah rY rfl (aK rfl bM)) ?_ );conv=>whnf)
 | (refine ⟨[],[(3,1),(8,1)],(by decide +kernel),?_⟩;conv=>whnf)
 | ((with_reducible refine ag ?_);first | (exact aD rfl;done))
 | (refine ⟨rfl,?_⟩;conv=>whnf)
  | fail
  )
end
section
set_option maxRecDepth 10000
attribute [local irreducible] bn
set_option maxHeartbeats 1000000
open Paths
def Fv (s : dn) : AO:=⟨[.agg [.sl 1 0 s.nodes.length 13 none,.d (.fs (s.lims.map mb.enc)),.d (i s.tick)]],3,0⟩
def uy (s : dn) : AO:=⟨(s.nodes.map cu.enc).map .d,13,0⟩
def M5 (s : dn) (n : Nat) : AO:=⟨[.agg [.sl n 0 s.nodes.length 13 none,.d (.fs (s.lims.map mb.enc)),.d (i s.tick)]],3,0⟩
theorem L8 (τ : Nat -> Nat) (s : dn) : gF τ (uy s) = uy s:=by
 unfold gF uy
 rw [l4]
theorem MK (τ : Nat -> Nat) (s : dn) : gF τ (Fv s) = M5 s (τ 1):=rfl
theorem HA {f : Nat} {s : dn} {x : D} {r r' : AV} {H H' : ae} (hf : bn Tryz.prog f [.d x] [] r [Fv s,uy s]) (hr : ren (AE [] H.length) r = r') (hH : H ++ [M5 s (H.length + 1),uy s] = H') : bn Tryz.prog f [.d x] H r' H':=by
 refine gg (σ:=[]) (F:=[]) (fl:=false) hf List.nodup_nil (fun _ h=>by cases h) ⟨⟨rfl,fun _ h=>by cases h⟩,trivial⟩ trivial (fun h=>by cases h) hr ?_
 rw [<- hH]
 simp only [kI,cg,List.map_cons,List.map_nil,List.length_nil,List.drop_zero,L8,MK,AE,List.getElem?_nil,Nat.sub_zero,Bool.false_eq_true,if_false]
 rfl
attribute [local irreducible] iJ Op.bytesLess aN aX b6 fB dt eb iQ dA aW ju
theorem SN (s : dn) (B : Sb s) (V : lb s) : bn Tryz.prog 45 [.d s.enc] [] (.ptr 0 0 0) [Fv s,uy s]:=by
 have hn20:=V.n20
 refine ac aZ Tryz.func45 rfl (by kernel_rfl) ?_
 conv=>whnf
 repeat' (first
 | ((with_reducible refine aJ ?_ ?_);(focus ((try simp only [List.length_map,List.length_cons,List.length_nil,List.length_append]);omega));conv=>whnf)
 | ((with_reducible refine aB (fun h=>?_) (fun h=>?_))<;>(try simp only [List.length_map] at h)<;>conv=>whnf)
 | ((with_reducible refine ak ?_);(first | refine aa (aA (Ue s.lims (by have:=V.l10;omega)) rfl) ?_ | refine aa (aA (SO _ (B.el _ (List.getElem_mem (by omega : k < s.nodes.length)))) rfl) ?_ | refine aa (aA (Uf _ (B.sl _ (List.getElem_mem (by omega : k < s.nodes.length)))) rfl) ?_ | refine aa (aA (Ug (s.nodes[k]'(by omega)).d (by have:=(IX (V.nd k (by omega)).de).e;omega) (by have:=(IX (V.nd k (by omega)).de).a;omega)) rfl) ?_);conv=>whnf)
 | (refine ⟨[],[(4,2)],(by decide +kernel),?_⟩;conv=>whnf)
 | (refine ⟨[],[(5,7)],(by decide +kernel),?_⟩;conv=>whnf)
 | ((with_reducible refine aO ?_);first | (refine ni (fun (k : Nat) (out : List cu)=>s.nodes.length - k) (fun (k : Nat) (out : List cu)=>k <= s.nodes.length /\ out.length = k /\ out = s.nodes.take k) (fun (k : Nat) (out : List cu)=>[(3,.ptr 1 0 0),(15,.d (.fs (s.nodes.map cu.enc))),(16,.d (i s.nodes.length)),(17,.d (i k))]) (fun (k : Nat) (out : List cu)=>[⟨[.d s.enc],3,0⟩,⟨[.agg [.sl 2 0 out.length 13 none,.d (.fs (s.lims.map mb.enc)),.d (i s.tick)]],3,0⟩,⟨(out.map cu.enc).map .d,13,0⟩]) (0) ([]) (by exact ⟨Nat.zero_le _,rfl,rfl⟩) ?_ (fun k out C hI hC=>?_);(exact ⟨[.old 0,.old 1,.void 13],rfl,rfl,⟨⟨rfl,rfl,rfl⟩,rfl,(by first | exact congrArg (D.int .i64) (by simp only [List.length_map]) ),(by first | exact congrArg (D.int .i64) (by omega) ),trivial⟩,⟨⟨rfl,rfl,.inl ⟨[_],rfl,rfl⟩⟩,⟨rfl,rfl,.inr ⟨⟨⟨rfl,rfl,rfl,rfl⟩,rfl,rfl,trivial⟩,trivial⟩⟩,⟨rfl,rfl,(by decide),rfl⟩,trivial⟩⟩);all_goals (conv=>whnf)))
 | ((with_reducible show C _ _);first | (refine hC (k + 1) (out ++ [(s.nodes[k]'(by omega))]) _ _ ?_ (by omega) ?_;clear hC;rotate_left;(exact ⟨[.old 0,.old 1,.old 5],rfl,rfl,⟨⟨rfl,rfl,rfl⟩,rfl,rfl,(by first | exact congrArg (D.int .i64) (by omega) ),trivial⟩,⟨⟨rfl,rfl,.inl ⟨[_],rfl,rfl⟩⟩,⟨rfl,rfl,.inr ⟨⟨⟨rfl,rfl,(by simp),rfl,rfl⟩,rfl,rfl,trivial⟩,trivial⟩⟩,⟨rfl,rfl,.inr (fg (em _ _) ⟨rfl,rfl,rfl,rfl,rfl,rfl,rfl,rfl,rfl,rfl,rfl,rfl,rfl,rfl,trivial⟩)⟩,trivial⟩⟩);(exact ⟨by omega,by rw [List.length_append,List.length_singleton,hI.2.1],vU (by omega) hI.2.2⟩)))
 | (refine ⟨⟨(by first | (simp;done)),cm (by simp only [List.length_map,List.length_cons,List.length_nil,List.length_append];omega) rfl⟩,?_⟩;conv=>whnf)
 | (refine bf (by omega) ?_;conv=>whnf)
 | (refine ax (by omega) ?_;conv=>whnf)
 | (refine ⟨Nat.le_refl _,?_⟩;conv=>whnf)
 | (refine ⟨rfl,?_⟩;conv=>whnf)
 | ((with_reducible refine ag ?_);first | ((have e : out = s.nodes:=(by rw [hI.2.2];exact List.take_of_length_le (by omega)));subst e;exact bR (.inl ⟨[.old 1,.old 2],rfl,rfl,⟨⟨rfl,rfl,rfl⟩,trivial⟩,⟨⟨rfl,rfl,.inr ⟨⟨⟨rfl,rfl,rfl,rfl,rfl⟩,rfl,rfl,trivial⟩,trivial⟩⟩,⟨rfl,rfl,.inl ⟨_,rfl,rfl⟩⟩,trivial⟩⟩);done))
  | fail
  )
theorem RP (s : dn) (B : Sb s) (V : lb s) : bn Tryz.prog 21 [.d s.enc] [] (.tup [.ptr 0 0 0,.d (i 0)]) [Fv s,uy s]:=by
 refine ac aZ Tryz.func21 rfl (by kernel_rfl) ?_
 conv=>whnf
 repeat' (first
 | ((with_reducible refine ak ?_);(first | refine aa (af (xs:=[_]) (TZ s B V) _) ?_ | refine aa (HA (SN s B V) rfl rfl) ?_);conv=>whnf)
 | ((with_reducible refine ag ?_);first | (exact bR (.inl ⟨[.old 1,.old 2],rfl,rfl,⟨⟨⟨rfl,rfl,rfl⟩,rfl,trivial⟩,trivial⟩,⟨⟨rfl,rfl,.inr ⟨⟨⟨rfl,rfl,rfl,rfl,rfl⟩,rfl,rfl,trivial⟩,trivial⟩⟩,⟨rfl,rfl,.inl ⟨_,rfl,rfl⟩⟩,trivial⟩⟩);done) )
  | fail
  )
def iT (sv : AV) (tick : Int) (p : Bs) (x : Fd) (st : Bs) (n : Int) (dat : Bs) : AO:=⟨[.agg [sv,.d (i 3),.d (i 4),.d (.fs []),.d (i 1),.d (i tick),.d (.str p),.d (.str []),.d (i 0),.d (i 400),.d (.str []),.d (i 0),.d (i 0),.d (.bool false),.d (.bool false),.d (.fs []),.d (.fs []),.d (i 0),.d (i x.node),.d (i x.parent),.d (.str x.name),.d (.str st),.d (i n),.d (.fs (x.trail.map i)),.d (i 0),.d (.str dat),.d (.fs []),.d (i 0),.d (i 0),.d (i 0),.d (i 0),.d (i 0),.d (i 0)]],33,0⟩
theorem ff {s : dn} (B : Sb s) (V : lb s) : Tb (aN s.nodes):=⟨by rw [dN];have:=V.n20;omega,fun x hx=>(B.tr x hx).1,fun x hx=>(B.tr x hx).2⟩
theorem Va {s : dn} (B : Sb s) (V : lb s) {p : Bs} {x : Fd} {st : Bs} {n : Int} (h : dP (aN s.nodes) p true = ⟨x,st,n,0⟩) : Fn 8 [aS (aN s.nodes),.str p,.bool true] (.tup [x.enc st n,i 0]):=by
 have:=c8 (aN s.nodes) (ff B V) p true
 rw [h] at this
 exact this
theorem UN (s : dn) (B : Sb s) (V : lb s) (p : Bs) (x : Fd) (st : Bs) (n : Int) (hres : dP (aN s.nodes) p true = ⟨x,st,n,0⟩) : bn Tryz.prog 54 [.ptr 0 0 0,.d (.str p),.d (.bool true)] [iT (.d (.fp s.enc 0)) s.tick p ⟨0,0,[],[]⟩ [] 0 []] (.tup [.d (x.enc st n),.d (i 0)]) [iT (.d (.fp s.enc 0)) s.tick p ⟨0,0,[],[]⟩ [] 0 []]:=by
 refine cd aZ Tryz.func54 rfl (by kernel_rfl) [0] (by rfl) [] ?_
 conv=>whnf
 repeat' (first
 | ((with_reducible refine ak ?_);(first | refine aa (cb (RQ s (by have:=V.n20;omega) B.el) rfl rfl) ?_ | refine aa (cb (Va B V hres) rfl rfl) ?_);conv=>whnf)
 | ((with_reducible refine ag ?_);first | (exact bR (.inl ⟨[.old 0],rfl,rfl,⟨⟨rfl,rfl,trivial⟩,trivial⟩,⟨⟨rfl,rfl,.inr ⟨⟨rfl,rfl,rfl,rfl,rfl,rfl,rfl,rfl,rfl,rfl,rfl,rfl,rfl,rfl,rfl,rfl,rfl,rfl,rfl,rfl,rfl,rfl,rfl,rfl,rfl,rfl,rfl,rfl,rfl,rfl,rfl,rfl,rfl,trivial⟩,trivial⟩⟩,trivial⟩⟩);done) )
  | fail
  )
theorem Tx {s : dn} {k : Nat} {n : Int} {K : D -> Prop} (h : n = (k : Nat)) (hk : k < s.nodes.length) (hK : K (s.nodes[k]'hk).enc) : 0 <= n /\ cX (s.nodes.map cu.enc) n.toNat K:=by
 subst h
 exact ⟨by omega,cj (x:=(s.nodes[k]'hk).enc) (by rw [Int.toNat_natCast,List.getElem?_map,List.getElem?_eq_getElem hk];rfl) hK⟩
theorem LA (s : dn) (tick : Int) (p : Bs) (x : Fd) (n : Int) (dat : Bs) (k : Nat) (hk : k < s.nodes.length) (hxk : x.node = (k : Nat)) : bn Tryz.prog 181 [.ptr 0 0 0] [iT (.d (.fp s.enc 0)) tick p x [] n dat] (.d (.fp (s.nodes[k]'hk).enc 0)) [iT (.d (.fp s.enc 0)) tick p x [] n dat]:=by
 refine cd aZ Tryz.func181 rfl (by kernel_rfl) [0] (by rfl) [] ?_
 conv=>whnf
 repeat' (first
 | (refine ⟨[],[],(by decide +kernel),?_⟩;conv=>whnf)
 | (refine Tx hxk hk ?_;conv=>whnf)
 | ((with_reducible refine ag ?_);first | (exact bR (.inl ⟨[.old 0],rfl,rfl,⟨rfl,trivial⟩,⟨⟨rfl,rfl,.inr ⟨⟨rfl,rfl,rfl,rfl,rfl,rfl,rfl,rfl,rfl,rfl,rfl,rfl,rfl,rfl,rfl,rfl,rfl,rfl,rfl,rfl,rfl,rfl,rfl,rfl,rfl,rfl,rfl,rfl,rfl,rfl,rfl,rfl,rfl,trivial⟩,trivial⟩⟩,trivial⟩⟩);done) )
  | fail
  )
theorem RF (s : dn) (tick : Int) (p : Bs) (x : Fd) (n : Int) (dat : Bs) (k : Nat) (hk : k < s.nodes.length) (hxk : x.node = (k : Nat)) : bn Tryz.prog 179 [.ptr 0 0 0] [iT (.d (.fp s.enc 0)) tick p x [] n dat] (.d (.fp (s.nodes[k]'hk).enc 3)) [iT (.d (.fp s.enc 0)) tick p x [] n dat]:=by
 refine cd aZ Tryz.func179 rfl (by kernel_rfl) [0] (by rfl) [] ?_
 conv=>whnf
 repeat' (first
 | ((with_reducible refine ak ?_);(first | refine aa (LA s tick p x n dat k hk hxk) ?_);conv=>whnf)
 | ((with_reducible refine ag ?_);first | (exact bR (.inl ⟨[.old 0],rfl,rfl,⟨rfl,trivial⟩,⟨⟨rfl,rfl,.inr ⟨⟨rfl,rfl,rfl,rfl,rfl,rfl,rfl,rfl,rfl,rfl,rfl,rfl,rfl,rfl,rfl,rfl,rfl,rfl,rfl,rfl,rfl,rfl,rfl,rfl,rfl,rfl,rfl,rfl,rfl,rfl,rfl,rfl,rfl,trivial⟩,trivial⟩⟩,trivial⟩⟩);done) )
  | fail
  )
theorem RG (s : dn) (tick : Int) (p : Bs) (x : Fd) (n : Int) (dat : Bs) (k : Nat) (hk : k < s.nodes.length) (hxk : x.node = (k : Nat)) (hkd : (s.nodes[k]'hk).kind = 1) : bn Tryz.prog 180 [.ptr 0 0 0] [iT (.d (.fp s.enc 0)) tick p x [] n dat] (.d (i 0)) [iT (.d (.fp s.enc 0)) tick p x [] n dat]:=by
 refine cd aZ Tryz.func180 rfl (by kernel_rfl) [0] (by rfl) [] ?_
 conv=>whnf
 repeat' (first
 | ((with_reducible refine ak ?_);(first | refine aa (LA s tick p x n dat k hk hxk) ?_ | refine aa (af (xs:=[_,_]) (D8 (p:=(_ : Int) = _) (by assumption) _) _) ?_ );conv=>whnf)
 | ((with_reducible refine ag ?_);first | (exact bR (.inl ⟨[.old 0],rfl,rfl,⟨rfl,trivial⟩,⟨⟨rfl,rfl,.inr ⟨⟨rfl,rfl,rfl,rfl,rfl,rfl,rfl,rfl,rfl,rfl,rfl,rfl,rfl,rfl,rfl,rfl,rfl,rfl,rfl,rfl,rfl,rfl,rfl,rfl,rfl,rfl,rfl,rfl,rfl,rfl,rfl,rfl,rfl,trivial⟩,trivial⟩⟩,trivial⟩⟩);done) )
  | fail
  )
theorem RE (s : dn) (tick : Int) (p : Bs) (x : Fd) (n : Int) (dat : Bs) (k : Nat) (hk : k < s.nodes.length) (hxk : x.node = (k : Nat)) (V : lb s) : bn Tryz.prog 176 [.ptr 0 0 0,.d (.fp (s.nodes[k]'hk).enc 0),.d (i 1)] [iT (.d (.fp s.enc 0)) tick p x [] n dat] (.d (i 0)) [iT (.d (.fp s.enc 0)) tick p x [] n dat]:=by
 refine cd aZ Tryz.func176 rfl (by kernel_rfl) [0] (by rfl) [] ?_
 conv=>whnf
 repeat' (first
 | ((with_reducible refine ak ?_);(first | refine aa (ah (RU (s.nodes[k]'hk).d (IX (V.nd k hk).de)) rfl (aK rfl (aK (be (aK rfl (aK rfl (aK rfl bM)))) (aK rfl bM)))) ?_ | refine aa (af (xs:=[_,_]) (rZ _) _) ?_ | refine aa (ah rY rfl (aK rfl bM)) ?_ );conv=>whnf)
 | (refine ⟨[],[],(by decide +kernel),?_⟩;conv=>whnf)
 | ((with_reducible refine ag ?_);first | (exact bR (.inl ⟨[.old 0],rfl,rfl,⟨rfl,trivial⟩,⟨⟨rfl,rfl,.inr ⟨⟨rfl,rfl,rfl,rfl,rfl,rfl,rfl,rfl,rfl,rfl,rfl,rfl,rfl,rfl,rfl,rfl,rfl,rfl,rfl,rfl,rfl,rfl,rfl,rfl,rfl,rfl,rfl,rfl,rfl,rfl,rfl,rfl,rfl,trivial⟩,trivial⟩⟩,trivial⟩⟩);done) )
  | fail
  )
theorem JY {d : Bs} {K : Bs -> Prop} (hk : K d) : Am d (kW 0 (d.length : Int)) (d.length : Int) K:=by
 have e : kW 0 (d.length : Int) = ((0 : Nat) : Int):=by unfold kW;split<;>omega
 rw [e]
 refine eh 0 d.length rfl rfl ⟨Nat.zero_le _,Nat.le_refl _⟩ ?_
 simpa using hk
theorem JZ {d : Bs} {K : Bs -> Prop} (h4 : d.length <= 400) (hk : K d) : Am d 0 (kW 400 (d.length : Int)) K:=by
 have e : kW 400 (d.length : Int) = (d.length : Int):=by unfold kW;split<;>omega
 rw [e]
 refine eh 0 d.length rfl rfl ⟨Nat.zero_le _,Nat.le_refl _⟩ ?_
 simpa using hk
theorem QT (s : dn) (tick : Int) (p : Bs) (x : Fd) (n : Int) (k : Nat) (hk : k < s.nodes.length) (hxk : x.node = (k : Nat)) (V : lb s) (hkd : (s.nodes[k]'hk).kind = 1) (hd4 : (s.nodes[k]'hk).data.length <= 400) : bn Tryz.prog 107 [.ptr 0 0 0] [iT (.d (.fp s.enc 0)) tick p x [] n []] (.d (i 0)) [iT (.d (.fp s.enc 0)) tick p x [] n (s.nodes[k]'hk).data]:=by
 refine cd aZ Tryz.func107 rfl (by kernel_rfl) [0] (by rfl) [] ?_
 conv=>whnf
 repeat' (first
 | ((with_reducible refine ak ?_);(first | refine aa (RF s tick p x n [] k hk hxk) ?_ | refine aa (RG s tick p x n [] k hk hxk hkd) ?_ | refine aa (LA s tick p x n [] k hk hxk) ?_ | refine aa (RE s tick p x n [] k hk hxk V) ?_ | refine aa (af (xs:=[_,_]) (rZ _) _) ?_ | refine aa (ah F2 rfl (aK rfl bM)) ?_);conv=>whnf)
 | (refine ⟨[],[],(by decide +kernel),?_⟩;conv=>whnf)
 | (refine JY ?_;conv=>whnf)
 | (refine JZ hd4 ?_;conv=>whnf)
 | ((with_reducible refine ag ?_);first | (exact bR (.inl ⟨[.old 0],rfl,rfl,⟨rfl,trivial⟩,⟨⟨rfl,rfl,.inr ⟨⟨rfl,rfl,rfl,rfl,rfl,rfl,rfl,rfl,rfl,rfl,rfl,rfl,rfl,rfl,rfl,rfl,rfl,rfl,rfl,rfl,rfl,rfl,rfl,rfl,rfl,rfl,rfl,rfl,rfl,rfl,rfl,rfl,rfl,trivial⟩,trivial⟩⟩,trivial⟩⟩);done) )
  | fail
  )
theorem UQ (s : dn) (tick : Int) (p : Bs) (x : Fd) (n : Int) (k : Nat) (hk : k < s.nodes.length) (hxk : x.node = (k : Nat)) (V : lb s) (hkd : (s.nodes[k]'hk).kind = 1) (hd4 : (s.nodes[k]'hk).data.length <= 400) : bn Tryz.prog 57 [.ptr 0 0 0] [iT (.d (.fp s.enc 0)) tick p x [] n []] (.d (i 0)) [iT (.d (.fp s.enc 0)) tick p x [] n (s.nodes[k]'hk).data]:=by
 refine cd aZ Tryz.func57 rfl (by kernel_rfl) [0] (by rfl) [] ?_
 conv=>whnf
 repeat' (first
 | ((with_reducible refine ak ?_);(first | refine aa (QT s tick p x n k hk hxk V hkd hd4) ?_);conv=>whnf)
 | ((with_reducible refine ag ?_);first | (exact bR (.inl ⟨[.old 0],rfl,rfl,⟨rfl,trivial⟩,⟨⟨rfl,rfl,.inr ⟨⟨rfl,rfl,rfl,rfl,rfl,rfl,rfl,rfl,rfl,rfl,rfl,rfl,rfl,rfl,rfl,rfl,rfl,rfl,rfl,rfl,rfl,rfl,rfl,rfl,rfl,rfl,rfl,rfl,rfl,rfl,rfl,rfl,rfl,trivial⟩,trivial⟩⟩,trivial⟩⟩);done) )
  | fail
  )
end
section
set_option maxRecDepth 10000
attribute [local irreducible] bn
set_option maxHeartbeats 1000000
open Paths
theorem HJ {s : dn} {H : ae} (h0 : H[0]? = some (Fv s)) (h1 : H[1]? = some (uy s)) : bC 8 H (.ptr 0 0 0) = [0,1]:=by
 simp only [bC,h0,Fv,List.flatMap_cons,List.flatMap_nil,h1,uy,List.append_nil]
 exact congrArg (fun l=>0 :: 1 :: l) (List.flatMap_eq_nil_iff.2 fun a ha=>by
  obtain ⟨d,_,rfl⟩:=List.mem_map.1 ha
  rfl)
theorem Ki {s : dn} {H : ae} (h0 : H[0]? = some (Fv s)) (h1 : H[1]? = some (uy s)) : bl 8 H (.ptr 0 0 0) = some (.fp s.enc 0):=
 ma h0 Nat.two_pos rfl (be (aK (ca h1 Nat.two_pos) (aK rfl (aK rfl bM))))
def Nd (s : dn) (p : Bs) : AO:=⟨[.agg [.ptr 0 0 0,.d (i 3),.d (i 4),.d (.fs []),.d (i 1),.d (i s.tick),.d (.str p),.d (.str []),.d (i 0),.d (i 400),.d (.str []),.d (i 0),.d (i 0),.d (.bool false),.d (.bool false),.d (.fs []),.d (.fs []),.d (i 0),.d (i 0),.d (i 0),.d (.str []),.d (.str []),.d (i 0),.nilS,.d (i 0),.d (.str []),.nilS,.d (i 0),.d (i 0),.d (i 0),.d (i 0),.d (i 0),.d (i 0)]],33,0⟩
def LZ (s : dn) (p : Bs) : ae:=[Fv s,uy s,⟨[.d (Fh s.tick p)],17,0⟩,⟨[(E 55).zero],9,0⟩,Nd s p]
theorem Le (τ : Nat -> Nat) (s : dn) (p : Bs) : gF τ (iT (.d (.fp s.enc 0)) s.tick p ⟨0,0,[],[]⟩ [] 0 []) = iT (.d (.fp s.enc 0)) s.tick p ⟨0,0,[],[]⟩ [] 0 []:=rfl
theorem Oj (s : dn) (B : Sb s) (V : lb s) (p : Bs) (x : Fd) (st : Bs) (n : Int) (hres : dP (aN s.nodes) p true = ⟨x,st,n,0⟩) : bn Tryz.prog 54 [.ptr 4 0 0,.d (.str p),.d (.bool true)] (LZ s p) (.tup [.d (x.enc st n),.d (i 0)]) [{ Fv s with st:=1 },{ uy s with st:=1 },⟨[.d (Fh s.tick p)],17,0⟩,⟨[(E 55).zero],9,0⟩,iT (.d (.fp s.enc 0)) s.tick p ⟨0,0,[],[]⟩ [] 0 []]:=by
 have hv : bl 8 (LZ s p) (.ptr 0 0 0) = some (.fp s.enc 0):=Ki rfl rfl
 have hre : bC 8 (LZ s p) (.ptr 0 0 0) = [0,1]:=HJ rfl rfl
 refine gg (σ:=[4]) (F:=[0,1]) (fl:=false) (UN s B V p x st n hres) (by simp) (fun j hj=>by simp at hj ⊢;omega) ⟨⟨rfl,rfl,rfl⟩,⟨rfl,fun _ h=>by cases h⟩,⟨rfl,fun _ h=>by cases h⟩,trivial⟩ ⟨(aE _ _).2 ⟨Nd s p,rfl,rfl,rfl,.inr ⟨⟨⟨hv,fun j hj=>by rw [hre] at hj;exact hj⟩,⟨rfl,fun _ h=>by cases h⟩,⟨rfl,fun _ h=>by cases h⟩,⟨rfl,fun _ h=>by cases h⟩,⟨rfl,fun _ h=>by cases h⟩,⟨rfl,fun _ h=>by cases h⟩,⟨rfl,fun _ h=>by cases h⟩,⟨rfl,fun _ h=>by cases h⟩,⟨rfl,fun _ h=>by cases h⟩,⟨rfl,fun _ h=>by cases h⟩,⟨rfl,fun _ h=>by cases h⟩,⟨rfl,fun _ h=>by cases h⟩,⟨rfl,fun _ h=>by cases h⟩,⟨rfl,fun _ h=>by cases h⟩,⟨rfl,fun _ h=>by cases h⟩,⟨rfl,fun _ h=>by cases h⟩,⟨rfl,fun _ h=>by cases h⟩,⟨rfl,fun _ h=>by cases h⟩,⟨rfl,fun _ h=>by cases h⟩,⟨rfl,fun _ h=>by cases h⟩,⟨rfl,fun _ h=>by cases h⟩,⟨rfl,fun _ h=>by cases h⟩,⟨rfl,fun _ h=>by cases h⟩,⟨rfl,fun _ h=>by cases h⟩,⟨rfl,fun _ h=>by cases h⟩,⟨rfl,fun _ h=>by cases h⟩,⟨rfl,fun _ h=>by cases h⟩,⟨rfl,fun _ h=>by cases h⟩,⟨rfl,fun _ h=>by cases h⟩,⟨rfl,fun _ h=>by cases h⟩,⟨rfl,fun _ h=>by cases h⟩,⟨rfl,fun _ h=>by cases h⟩,⟨rfl,fun _ h=>by cases h⟩,trivial⟩,trivial⟩⟩,trivial⟩ (fun h=>by cases h) rfl ?_
 simp only [kI,cg,List.map_cons,List.map_nil,Le,List.length_cons,List.length_nil,List.drop_succ_cons,List.drop_zero,List.append_nil]
 rfl
theorem Ix (τ : Nat -> Nat) (s : dn) (tick : Int) (p : Bs) (x : Fd) (n : Int) (dat : Bs) : gF τ (iT (.d (.fp s.enc 0)) tick p x [] n dat) = iT (.d (.fp s.enc 0)) tick p x [] n dat:=rfl
def O4 (s : dn) (p : Bs) (o e : AO) : ae:=[{ Fv s with st:=1 },{ uy s with st:=1 },⟨[.d (Fh s.tick p)],17,0⟩,⟨[(E 55).zero],9,0⟩,o,e]
theorem Ok (s : dn) (p : Bs) (x : Fd) (n : Int) (k : Nat) (hk : k < s.nodes.length) (hxk : x.node = (k : Nat)) (V : lb s) (hkd : (s.nodes[k]'hk).kind = 1) (hd4 : (s.nodes[k]'hk).data.length <= 400) (e : AO) : bn Tryz.prog 57 [.ptr 4 0 0] (O4 s p (iT (.d (.fp s.enc 0)) s.tick p x [] n []) e) (.d (i 0)) (O4 s p (iT (.d (.fp s.enc 0)) s.tick p x [] n (s.nodes[k]'hk).data) e):=by
 refine gg (σ:=[4]) (F:=[]) (fl:=false) (UQ s s.tick p x n k hk hxk V hkd hd4) (by simp) (fun j hj=>by cases hj) ⟨⟨rfl,rfl,rfl⟩,trivial⟩ ⟨(aE _ _).2 ⟨iT (.d (.fp s.enc 0)) s.tick p x [] n [],rfl,rfl,rfl,.inr ⟨⟨⟨rfl,fun _ h=>by cases h⟩,⟨rfl,fun _ h=>by cases h⟩,⟨rfl,fun _ h=>by cases h⟩,⟨rfl,fun _ h=>by cases h⟩,⟨rfl,fun _ h=>by cases h⟩,⟨rfl,fun _ h=>by cases h⟩,⟨rfl,fun _ h=>by cases h⟩,⟨rfl,fun _ h=>by cases h⟩,⟨rfl,fun _ h=>by cases h⟩,⟨rfl,fun _ h=>by cases h⟩,⟨rfl,fun _ h=>by cases h⟩,⟨rfl,fun _ h=>by cases h⟩,⟨rfl,fun _ h=>by cases h⟩,⟨rfl,fun _ h=>by cases h⟩,⟨rfl,fun _ h=>by cases h⟩,⟨rfl,fun _ h=>by cases h⟩,⟨rfl,fun _ h=>by cases h⟩,⟨rfl,fun _ h=>by cases h⟩,⟨rfl,fun _ h=>by cases h⟩,⟨rfl,fun _ h=>by cases h⟩,⟨rfl,fun _ h=>by cases h⟩,⟨rfl,fun _ h=>by cases h⟩,⟨rfl,fun _ h=>by cases h⟩,⟨rfl,fun _ h=>by cases h⟩,⟨rfl,fun _ h=>by cases h⟩,⟨rfl,fun _ h=>by cases h⟩,⟨rfl,fun _ h=>by cases h⟩,⟨rfl,fun _ h=>by cases h⟩,⟨rfl,fun _ h=>by cases h⟩,⟨rfl,fun _ h=>by cases h⟩,⟨rfl,fun _ h=>by cases h⟩,⟨rfl,fun _ h=>by cases h⟩,⟨rfl,fun _ h=>by cases h⟩,trivial⟩,trivial⟩⟩,trivial⟩ (fun h=>by cases h) rfl ?_
 simp only [kI,cg,List.map_cons,List.map_nil,Ix,List.length_cons,List.length_nil,List.drop_succ_cons,List.drop_zero,List.append_nil]
 rfl
attribute [local irreducible] iJ Op.bytesLess aN aX b6 fB dt eb iQ dA aW ju aj dP
theorem UA (s : dn) (B : Sb s) (V : lb s) (p : Bs) (x : Fd) (n : Int) (hres : dP (aN s.nodes) p true = ⟨x,[],n,0⟩) (k : Nat) (hk : k < s.nodes.length) (hxk : x.node = (k : Nat)) (hkd : (s.nodes[k]'hk).kind = 1) (hd4 : (s.nodes[k]'hk).data.length <= 400) : bn Tryz.prog 27 [.ptr 0 0 0,.d (Fh s.tick p)] [Fv s,uy s] (.agg [.d (i 0),.d (.str (s.nodes[k]'hk).data),.d (.fs []),.d (i 0),.d (i 0),.d (i 0),.d (i 0),.d (i 0),.d (i 0)]) [{ Fv s with st:=1 },{ uy s with st:=1 }]:=by
 refine cd aZ Tryz.func27 rfl (by kernel_rfl) [0,1] (by rfl) [] ?_
 conv=>whnf
 repeat' (first
 | ((with_reducible refine bu (fun h=>?_) (fun h=>?_))<;>(try simp only [List.length_map] at h)<;>conv=>whnf)
 | ((with_reducible refine ak ?_);(first | refine aa (cb T7 rfl rfl) ?_ | refine aa (af (xs:=[_]) UO _) ?_ | refine aa (Oj s B V p x [] n hres) ?_ | refine aa (af (xs:=[_]) UP _) ?_ | refine aa (af (xs:=[_,_]) (rZ _) _) ?_ | refine aa (ah rY rfl (aK rfl bM)) ?_ | refine aa (Ok s p x n k hk hxk V hkd hd4 _) ?_);conv=>whnf)
 | (refine ⟨[],[(2,0)],(by decide +kernel),?_⟩;conv=>whnf)
 | (refine ⟨[],[(3,6)],(by decide +kernel),?_⟩;conv=>whnf)
 | (exact absurd (by assumption : x.node = -1) (by omega))
 | (refine ⟨⟨by decide,by decide⟩,?_⟩;conv=>whnf)
 | ((with_reducible refine ag ?_);first | (exact bR (.inl ⟨[.old 0,.old 1],rfl,rfl,⟨⟨rfl,rfl,rfl,rfl,rfl,rfl,rfl,rfl,rfl,trivial⟩,trivial⟩,⟨⟨rfl,rfl,.inr ⟨⟨⟨rfl,rfl,rfl,rfl,rfl⟩,rfl,rfl,trivial⟩,trivial⟩⟩,⟨rfl,rfl,.inl ⟨_,rfl,rfl⟩⟩,trivial⟩⟩);done) )
 | (refine ⟨rfl,?_⟩;conv=>whnf)
  | fail
  )
theorem JW (τ : Nat -> Nat) (s : dn) : gF τ { Fv s with st:=1 } = { M5 s (τ 1) with st:=1 }:=rfl
theorem Jx (τ : Nat -> Nat) (s : dn) : gF τ { uy s with st:=1 } = { uy s with st:=1 }:=by
 unfold gF uy
 rw [l4]
theorem Ob (s : dn) (B : Sb s) (V : lb s) (p : Bs) (x : Fd) (n : Int) (hres : dP (aN s.nodes) p true = ⟨x,[],n,0⟩) (k : Nat) (hk : k < s.nodes.length) (hxk : x.node = (k : Nat)) (hkd : (s.nodes[k]'hk).kind = 1) (hd4 : (s.nodes[k]'hk).data.length <= 400) (a b c d : AO) : bn Tryz.prog 27 [.ptr 4 0 0,.d (Fh s.tick p)] [a,b,c,d,M5 s 5,uy s] (.agg [.d (i 0),.d (.str (s.nodes[k]'hk).data),.d (.fs []),.d (i 0),.d (i 0),.d (i 0),.d (i 0),.d (i 0),.d (i 0)]) [a,b,c,d,{ M5 s 5 with st:=1 },{ uy s with st:=1 }]:=by
 refine gg (σ:=[4,5]) (F:=[]) (fl:=false) (UA s B V p x n hres k hk hxk hkd hd4) (by simp) (fun j hj=>by cases hj) ⟨⟨rfl,rfl,rfl⟩,⟨rfl,fun _ h=>by cases h⟩,trivial⟩ ⟨(aE _ _).2 ⟨M5 s 5,rfl,rfl,rfl,.inr ⟨⟨⟨rfl,rfl,rfl,rfl,rfl⟩,⟨rfl,fun _ h=>by cases h⟩,⟨rfl,fun _ h=>by cases h⟩,trivial⟩,trivial⟩⟩,(aE _ _).2 ⟨uy s,rfl,rfl,rfl,.inl ⟨_,rfl,rfl⟩⟩,trivial⟩ (fun h=>by cases h) rfl ?_
 simp only [kI,cg,List.map_cons,List.map_nil,JW,Jx,List.length_cons,List.length_nil,List.drop_succ_cons,List.drop_zero,List.append_nil]
 rfl
theorem Uu (s : dn) (B : Sb s) (V : lb s) (p : Bs) (x : Fd) (n : Int) (hres : dP (aN s.nodes) p true = ⟨x,[],n,0⟩) (k : Nat) (hk : k < s.nodes.length) (hxk : x.node = (k : Nat)) (hkd : (s.nodes[k]'hk).kind = 1) (hd4 : (s.nodes[k]'hk).data.length <= 400) (hpe : (aj p).2 = 0) (hpa : (aj p).1.abs = true) (htk : b6 s.tick = true) : Fn 11 [s.enc,Fh s.tick p] (.tup [s.enc,.agg [i 0,.str (s.nodes[k]'hk).data,.fs [],i 0,i 0,i 0,i 0,i 0,i 0],i 0]):=by
 refine ac aZ Tryz.func11 rfl (by kernel_rfl) ?_
 conv=>whnf
 repeat' (first
 | ((with_reducible refine ak ?_);(first | refine aa (HA (RP s B V) rfl rfl) ?_ | refine aa (ah (Uz s p hpe hpa htk) rfl (aK (ma rfl Nat.two_pos rfl (be (aK (ca rfl Nat.two_pos) (aK rfl (aK rfl bM))))) (aK rfl bM))) ?_ | refine aa (Ob s B V p x n hres k hk hxk hkd hd4 _ _ _ _) ?_);conv=>whnf)
 | (refine ⟨[],[(4,5)],(by decide +kernel),?_⟩;conv=>whnf)
 | ((with_reducible refine ag ?_);first | (exact aP (aY (aK (be (aK (ca rfl Nat.one_lt_two) (aK rfl (aK rfl bM)))) (aK (be (aK rfl (aK rfl (aK rfl (aK rfl (aK rfl (aK rfl (aK rfl (aK rfl (aK rfl (bM))))))))))) (aK rfl bM)))) rfl;done))
 | (refine ⟨rfl,?_⟩;conv=>whnf)
  | fail
  )
end
section
open Go Dw Paths
theorem E2 {l : List Bs} {s : Bs} (hl : l ≠ []) (hs : s = nf l) (hn : ∀ x ∈ l,am x = 0) (h : (aj s).2 = 0) : aj s = (⟨true,l,[]⟩,0):=by
 have hsg : s = 47 :: glue 47 l:=hs.trans (sU hl)
 have hno : ∀ x ∈ l,(47 : UInt8) ∉ x:=fun x hx=>(lL (hn x hx)).1
 have hcut : cut 47 (glue 47 l) = l:=yt hl hno
 have hrest : ay s = glue 47 l:=by rw [hsg];rfl
 have habs : dI s = true:=by rw [hsg];rfl
 have hcol : gO l = some (l,[]):=by
  have hm : l.getLastD [] ∈ l:=by
   rw [List.getLastD_eq_getLast?,List.getLast?_eq_some_getLast hl,Option.getD_some];exact List.getLast_mem hl
  unfold gO
  rw [iA (lL (hn _ hm)).2.1]
 have hne : ¬ s = [47]:=by
  rw [hsg]
  intro hc
  have hg : glue 47 l = []:=by simpa using hc
  rw [hg] at hcut
  obtain ⟨x, l', rfl⟩ := List.exists_cons_of_ne_nil hl
  have h1:=(lL (hn x (by simp))).2.2.1
  have : cut 47 [] = [[]]:=by decide
  rw [this] at hcut
  simp only [List.cons.injEq] at hcut
  exact h1 hcut.1.symm
 unfold aj at h ⊢
 by_cases h1 : 200 < s.length
 ·rw [if_pos h1] at h;exact absurd h (by decide)
 ·rw [if_neg h1,if_neg (by rw [hsg];simp),if_neg hne,hrest,hcut,hcol] at h ⊢
  simp only [habs] at h ⊢
  split at h
  ·exact absurd h (by decide)
  ·rename_i h2
   split at h
   ·rename_i h3;exact absurd h h3
   ·rename_i h3;rw [if_neg h2,if_neg h3]
theorem Eu {t : List aM} (V : Vt t) {m : Nat} {tr : List Int} {st : Int} {last : Bool} {e : bm} (hT : mP t tr) (he : e ∈ (aw t (ba tr)).ents) (k1 : (aw t e.node).kind = 1) : ∃ o,kV t (m + 1) tr [e.name] last st = some o /\ o.e = 0 /\ o.x.node = e.node:=by
 obtain ⟨h1,h2⟩:=qf V hT.here he
 have hn:=V.names hT.here e he
 have hd:=j5 hn
 have d1 : ¬ e.name = [46]:=fun hc=>by rw [hc] at hd;exact absurd hd (by decide)
 have d2 : ¬ e.name = [46,46]:=fun hc=>by rw [hc] at hd;exact absurd hd (by decide)
 have h3 : bz t tr e.name = e:=h2
 rw [uW]
 unfold yQ
 rw [if_neg (by simp),if_neg d1,if_neg d2,if_neg h1,h3,if_neg (by omega),if_pos k1]
 exact ⟨_,rfl,rfl,rfl⟩
theorem Ii {t : List aM} (V : Vt t) {k : Nat} {n : Int} {s : Bs} (h : nr t (k + 1) n s) (hk : (aw t n).kind = 1) : ∃ l : List Bs,l ≠ [] /\ s = nf l /\ (∀ x ∈ l,am x = 0) /\ ∀ last,l.length <= 16 -> ∃ o,kV t 2000 [0] l last 0 = some o /\ o.e = 0 /\ o.x.node = n:=by
 cases h with
 | @step _ a s e hw ha he=>
  obtain ⟨l,h1,h2,h3,h4,_⟩:=Kk V hw
  obtain ⟨tr,t1,t2,t3⟩:=h4 (V.dir ha he)
  have he' : e ∈ (aw t (ba tr)).ents:=by rw [t2];exact he
  refine ⟨l ++ [e.name],by simp,by rw [sV,<- h2],fun x hx=>?_,fun last hl=>?_⟩
  ·rcases List.mem_append.1 hx with hx | hx
   ·exact h3 x hx
   ·rw [List.mem_singleton] at hx;subst hx;exact V.names ha e he
  ·simp only [List.length_append,List.length_cons,List.length_nil] at hl
   have:=t3 (2000 - k) [e.name] last 0 (by simp;omega)
   rw [show 2000 - k + k = 2000 by omega] at this
   rw [this,show 2000 - k = (1999 - k) + 1 by omega]
   exact Eu V t1 he' hk
theorem qD : ∀ (l out : List Bs),(∀ x ∈ l,am x = 0) -> l.foldl (bb true) out = out ++ l
 | [],out,_=>by simp
 | x :: l,out,h=>by
  have hd:=j5 (h x (by simp))
  have d1 : ¬ x = [46]:=fun hc=>by rw [hc] at hd;exact absurd hd (by decide)
  have d2 : ¬ x = [46,46]:=fun hc=>by rw [hc] at hd;exact absurd hd (by decide)
  rw [List.foldl_cons,Fx ⟨d1,d2⟩,qD l _ (fun y hy=>h y (by simp [hy])),List.append_assoc];rfl
structure Kp (t : List aM) (n : Int) (p : Bs) : Prop where
 e : (dP t p true).e = 0
 nd : (dP t p true).x.node = n
 st : (dP t p true).s = []
 ab : (aj p).1.abs = true
 sm : (aj p).1.stream = []
 nm : text (normal (aj p).1) = p
 jn : eA [47] p = (p,0)
theorem BQ {t : List aM} (V : Vt t) {n : Int} {p : Bs} (hk : (aw t n).kind = 1) (h : p ∈ ef t n) (hp : (aj p).2 = 0) : Kp t n p:=by
 have h0 : ¬ n = 0:=fun c=>by subst c;rw [zN V] at hk;exact absurd hk (by decide)
 obtain ⟨k,hw⟩:=E4 V h0 h
 obtain ⟨l,hl,hs,hn,hf⟩:=Ii V hw hk
 have hpp:=E2 hl hs hn hp
 have hok:=GP (uV hp)
 rw [hpp] at hok
 obtain ⟨o,o1,o2,o3⟩:=hf true hok.1
 have ha : (aj p).1.abs = true:=by rw [hpp]
 have hfr : gT t (aj p).1.parts true = o:=by
  rw [hpp];unfold gT;rw [o1];rfl
 have htx : text (aj p).1 = p:=nX hp
 have hnm : normal (aj p).1 = (aj p).1:=by
  rw [hpp]
  unfold normal
  simp only [qD l [] hn,List.nil_append]
  rw [if_neg (fun c=>hl c.1)]
 have h47 : aj [47] = (⟨true,[],[]⟩,0):=by unfold aj;rw [if_neg (by decide),if_neg (by decide),if_pos rfl]
 refine ⟨?_,?_,?_,ha,by rw [hpp],by rw [hnm,htx],?_⟩
 ·rw [HU V.ok,HT hp ha (by rw [hfr];exact o2)]
 ·rw [HU V.ok,HT hp ha (by rw [hfr];exact o2),hfr];exact o3
 ·rw [HU V.ok,HT hp ha (by rw [hfr];exact o2),hpp]
 ·have k1:=hok.1
  have k2:=hok.2.2.2.2.2
  have k3 : (text (aj p).1).length <= 200:=by rw [hpp];exact k2
  have k4 : (aj p).1.parts.length <= 16:=by rw [hpp];exact k1
  rw [jD (by rw [h47]) hp (by rw [h47]) (by rw [h47]) ha,hnm,Dy (by omega) (by omega),htx]
theorem E3 {t : List aM} (V : Vt t) {n : Int} (h0 : ¬ n = 0) : (ef t n).length = aX t n:=by
 unfold ef
 rw [if_neg h0,(p9 _).length_eq]
 unfold M3
 rw [List.length_map,<- List.countP_eq_length_filter,lS n t 0]
end
section
open Go Dw Paths
set_option maxRecDepth 100000
def gX (a : List D) (y : D) : List D -> Option D:=fun xs=>if jK xs a then some y else none
theorem OZ {f : Nat} {a : List D} {y : D} (h : Fn f a y) : ∀ xs r,gX a y xs = some r -> bn Tryz.prog f (xs.map .d) [] (.d r) []:=by
 intro xs r e
 unfold gX at e
 split at e
 ·rename_i h2;cases e
  rw [gh _ _ h2];exact h
 ·cases e
def gS (args : List AV) (h : ae) : Option (AV × ae):=match args with
 | [.sl id s n k none]=>if Nat.beq s 0 && (Nat.beq n 1 && Nat.beq k 1) then (match h[id]? with
  | some ⟨[.d (.str _)],a,b⟩=>if Nat.beq a 1 && Nat.beq b 0 then some (.tup [],h) else none
  | _=>none) else none
 | _=>none
theorem OY : ∀ args h r h', gS args h = some (r, h') -> bn Tryz.prog 63 args h r h' := by
 intro args h r h' e
 unfold gS at e
 split at e
 ·rename_i id s n k
  split at e
  ·rename_i h1
   simp only [Bool.and_eq_true,Nat.beq_eq] at h1
   obtain ⟨rfl,rfl,rfl⟩:=h1
   split at e
   ·rename_i t a b ho
    split at e
    ·rename_i h2
     simp only [Bool.and_eq_true,Nat.beq_eq] at h2
     obtain ⟨rfl,rfl⟩:=h2
     cases e
     have:=zV (Oq [t] (by simp)) (fun x=>rfl) ho (args:=[]) rfl (fun j hj=>by cases hj) rfl
     have h3 : h.set id ⟨([t].map D.str).map .d,1,0⟩ = h:=tY ho
     rw [vP,h3] at this
     exact this
    ·cases e
   ·cases e
  ·cases e
 ·cases e
def Mr (f : Nat) : Option M0:=if Nat.beq f 21 then some (.fn (gX [BY.enc] (.tup [.fp BY.enc 0,i 0]))) else if Nat.beq f 63 then some (.at gS) else jk f
theorem O3 : B6 Tryz.prog Mr:=by
 intro f o h
 unfold Mr at h
 split at h
 ·rename_i h1;cases h;rw [Nat.eq_of_beq_eq_true h1]
  exact OZ (TU BY Vn TL)
 split at h
 ·rename_i h1;cases h;rw [Nat.eq_of_beq_eq_true h1]
  exact OY
 exact gV f o h
def Vi (f : Nat) : Bool:=false
theorem c4 : Fn 4 [] (.bool true):=
 fe (fs:=Tryz.prog.funcs.toList) (orc:=Mr) aZ O3 (xs:=[]) rfl d7 Vi 300 30 (by kernel_rfl) rfl rfl
end
section
set_option maxRecDepth 10000
attribute [local irreducible] bn
set_option maxHeartbeats 1000000
open Paths
attribute [local irreducible] iJ Op.bytesLess aN aX b6 fB dt eb iQ dA aW ju aj dP dx ar eA normal text
theorem LG {s : dn} (B : Sb s) {b : Bool} (h : dx s = b) : Fn 5 [s.enc] (.bool b):=by have:=c5 s B;rwa [h] at this
theorem c6 (s : dn) (B : Sb s) (V : lb s) : Fn 6 [s.enc] (.tup [aS (aN s.nodes),i 0]):=by
 refine ac aZ Tryz.func6 rfl (by kernel_rfl) ?_
 conv=>whnf
 repeat' (first
 | ((with_reducible refine ak ?_);(first | refine aa (aA (TU s B V) rfl) ?_ | refine aa (aA (RQ s (by have:=V.n20;omega) B.el) rfl) ?_);conv=>whnf)
 | ((with_reducible refine ag ?_);first | (exact aP (aY (aK rfl (aK rfl bM))) rfl;done))
  | fail
  )
theorem UF (s : dn) (B : Sb s) (path : Bs) (hsm : dx s = false) : Fn 3 [s.enc,.str path] (.bool true):=by
 refine ac aZ Tryz.func3 rfl (by kernel_rfl) ?_
 conv=>whnf
 repeat' (first
 | ((with_reducible refine ak ?_);(first | refine aa (af (xs:=[]) c4 _) ?_ | refine aa (af (xs:=[_]) (LG B hsm) _) ?_);conv=>whnf)
 | ((with_reducible refine ag ?_);first | (exact aD rfl;done))
  | fail
  )
theorem UG (s : dn) (B : Sb s) (path : Bs) (hsm : dx s = true) (h150 : (150 : Int) < path.length) : Fn 3 [s.enc,.str path] (.bool true):=by
 refine ac aZ Tryz.func3 rfl (by kernel_rfl) ?_
 conv=>whnf
 repeat' (first
 | ((with_reducible refine bP (by assumption) ?_);conv=>whnf)
 | ((with_reducible refine ak ?_);(first | refine aa (af (xs:=[]) c4 _) ?_ | refine aa (af (xs:=[_]) (LG B hsm) _) ?_);conv=>whnf)
 | ((with_reducible refine ag ?_);first | (exact aD rfl;done))
  | fail
  )
theorem OA {s : dn} (B : Sb s) (V : lb s) {p : Bs} {x : Fd} {st : Bs} {n e : Int} (h : dP (aN s.nodes) p true = ⟨x,st,n,e⟩) : Fn 8 [aS (aN s.nodes),.str p,.bool true] (.tup [x.enc st n,i e]):=by
 have:=c8 (aN s.nodes) (ff B V) p true
 rw [h] at this
 exact this
theorem QU {n lo hi : Int} {b : Bool} (h : ar n lo hi = b) : Fn 10 [i n,i lo,i hi] (.bool b):=by have:=Cu n lo hi;rwa [h] at this
theorem IE {s : dn} {n : Int} {b : Bool} (h : ar n 0 ((s.nodes.length : Int) - 1) = b) : Fn 10 [i n,i 0,i (((s.nodes.map cu.enc).length : Int) - 1)] (.bool b):=by rw [List.length_map];exact QU h
theorem SJ (s : dn) (B : Sb s) (V : lb s) (path : Bs) (hsm : dx s = true) (h150 : ¬ (150 : Int) < path.length) (x : Fd) (st : Bs) (n e : Int) (hres : dP (aN s.nodes) path true = ⟨x,st,n,e⟩) (he : ¬ e = 0) : Fn 3 [s.enc,.str path] (.bool true):=by
 refine ac aZ Tryz.func3 rfl (by kernel_rfl) ?_
 conv=>whnf
 repeat' (first
 | ((with_reducible refine aJ (by assumption) ?_);conv=>whnf)
 | ((with_reducible refine co (by assumption) ?_);conv=>whnf)
 | ((with_reducible refine ak ?_);(first | refine aa (af (xs:=[]) c4 _) ?_ | refine aa (af (xs:=[_]) (LG B hsm) _) ?_ | refine aa (aA (c7 s B V) rfl) ?_ | refine aa (aA (c6 s B V) rfl) ?_ | refine aa (aA (c9 (aN s.nodes) (ff B V)) rfl) ?_ | refine aa (aA (OA B V hres) rfl) ?_ );conv=>whnf)
 | ((with_reducible refine ag ?_);first | (exact aD rfl;done))
  | fail
  )
theorem SK (s : dn) (B : Sb s) (V : lb s) (path : Bs) (hsm : dx s = true) (h150 : ¬ (150 : Int) < path.length) (x : Fd) (st : Bs) (n e : Int) (hres : dP (aN s.nodes) path true = ⟨x,st,n,e⟩) (he : e = 0) (hwi : ar x.node 0 ((s.nodes.length : Int) - 1) = false) : Fn 3 [s.enc,.str path] (.bool true):=by
 refine ac aZ Tryz.func3 rfl (by kernel_rfl) ?_
 conv=>whnf
 repeat' (first
 | ((with_reducible refine aJ (by assumption) ?_);conv=>whnf)
 | ((with_reducible refine cY (by first | assumption ) ?_);conv=>whnf)
 | ((with_reducible refine ak ?_);(first | refine aa (af (xs:=[]) c4 _) ?_ | refine aa (af (xs:=[_]) (LG B hsm) _) ?_ | refine aa (aA (c7 s B V) rfl) ?_ | refine aa (aA (c6 s B V) rfl) ?_ | refine aa (aA (c9 (aN s.nodes) (ff B V)) rfl) ?_ | refine aa (aA (OA B V hres) rfl) ?_ | refine aa (af (xs:=[_,_,_]) (IE hwi) _) ?_);conv=>whnf)
 | (refine ax (by have:=V.n20;(try simp only [List.length_map]);omega) ?_;conv=>whnf)
 | ((with_reducible refine ag ?_);first | (exact aD rfl;done))
  | fail
  )
theorem SL (s : dn) (B : Sb s) (V : lb s) (path : Bs) (hsm : dx s = true) (h150 : ¬ (150 : Int) < path.length) (x : Fd) (st : Bs) (n e : Int) (hres : dP (aN s.nodes) path true = ⟨x,st,n,e⟩) (he : e = 0) (hwi : ar x.node 0 ((s.nodes.length : Int) - 1) = true) (hst : ¬ st = []) : Fn 3 [s.enc,.str path] (.bool true):=by
 refine ac aZ Tryz.func3 rfl (by kernel_rfl) ?_
 conv=>whnf
 repeat' (first
 | ((with_reducible refine aJ (by assumption) ?_);conv=>whnf)
 | ((with_reducible refine cY (by first | assumption ) ?_);conv=>whnf)
 | ((with_reducible refine dj (fun h=>?_) (fun h=>?_))<;>conv=>whnf)
 | ((with_reducible refine ak ?_);(first | refine aa (af (xs:=[]) c4 _) ?_ | refine aa (af (xs:=[_]) (LG B hsm) _) ?_ | refine aa (aA (c7 s B V) rfl) ?_ | refine aa (aA (c6 s B V) rfl) ?_ | refine aa (aA (c9 (aN s.nodes) (ff B V)) rfl) ?_ | refine aa (aA (OA B V hres) rfl) ?_ | refine aa (af (xs:=[_,_,_]) (IE hwi) _) ?_);conv=>whnf)
 | (refine ax (by have:=V.n20;(try simp only [List.length_map]);omega) ?_;conv=>whnf)
 | (exact absurd (show st = [] from of_decide_eq_true h) hst)
 | ((with_reducible refine ag ?_);first | (exact aD rfl;done))
  | fail
  )
theorem SM (s : dn) (B : Sb s) (V : lb s) (path : Bs) (hsm : dx s = true) (h150 : ¬ (150 : Int) < path.length) (x : Fd) (st : Bs) (n e : Int) (hres : dP (aN s.nodes) path true = ⟨x,st,n,e⟩) (he : e = 0) (hwi : ar x.node 0 ((s.nodes.length : Int) - 1) = true) (hst : st = []) (k : Nat) (hk : k < s.nodes.length) (hxk : x.node = (k : Nat)) (hkd : ¬ (s.nodes[k]'hk).kind = 1) : Fn 3 [s.enc,.str path] (.bool true):=by
 refine ac aZ Tryz.func3 rfl (by kernel_rfl) ?_
 conv=>whnf
 repeat' (first
 | ((with_reducible refine aJ (by assumption) ?_);conv=>whnf)
 | ((with_reducible refine cY (by first | assumption ) ?_);conv=>whnf)
 | ((with_reducible refine co (by assumption) ?_);conv=>whnf)
 | ((with_reducible refine dj (fun h=>?_) (fun h=>?_))<;>conv=>whnf)
 | ((with_reducible refine ak ?_);(first | refine aa (af (xs:=[]) c4 _) ?_ | refine aa (af (xs:=[_]) (LG B hsm) _) ?_ | refine aa (aA (c7 s B V) rfl) ?_ | refine aa (aA (c6 s B V) rfl) ?_ | refine aa (aA (c9 (aN s.nodes) (ff B V)) rfl) ?_ | refine aa (aA (OA B V hres) rfl) ?_ | refine aa (af (xs:=[_,_,_]) (IE hwi) _) ?_);conv=>whnf)
 | (refine ax (by have:=V.n20;(try simp only [List.length_map]);omega) ?_;conv=>whnf)
 | (exact absurd hst (show ¬ st = [] from of_decide_eq_false h))
 | (refine Tx hxk hk ?_;conv=>whnf)
 | ((with_reducible refine ag ?_);first | (exact aD rfl;done))
  | fail
  )
end
section
set_option maxRecDepth 10000
attribute [local irreducible] bn
set_option maxHeartbeats 1000000
open Paths
attribute [local irreducible] iJ Op.bytesLess aN aX b6 fB dt eb iQ dA aW ju aj dP dx ar eA normal text
def Dr (b : Bs) : D:=.agg [i 0,.str b,.fs [],i 0,i 0,i 0,i 0,i 0,i 0]
theorem UH (s : dn) (B : Sb s) (V : lb s) (path : Bs) (hsm : dx s = true) (h150 : ¬ (150 : Int) < path.length) (x : Fd) (n e : Int) (hres : dP (aN s.nodes) path true = ⟨x,[],n,e⟩) (he : e = 0) (hwi : ar x.node 0 ((s.nodes.length : Int) - 1) = true) (k : Nat) (hk : k < s.nodes.length) (hxk : x.node = (k : Nat)) (hkd : (s.nodes[k]'hk).kind = 1) (h11p : Fn 11 [s.enc,Fh s.tick path] (.tup [s.enc,Dr (s.nodes[k]'hk).data,i 0])) (l : List Bs) (hl9 : l.length < 2000000) (h13 : Fn 13 [aS (aN s.nodes),i x.node] (.tup [.fs (l.map D.str),i 0])) (h14 : Fn 14 [aS (aN s.nodes),i x.node] (i (l.length : Nat))) (h11 : ∀ j (h : j < l.length),(aj l[j]).2 = 0 -> Fn 11 [s.enc,Fh s.tick l[j]] (.tup [s.enc,Dr (s.nodes[k]'hk).data,i 0])) (h16 : ∀ j (h : j < l.length),(aj l[j]).2 = 0 -> Fn 16 [.str l[j]] (.tup [.str l[j],i 0])) (h17 : ∀ j (h : j < l.length),(aj l[j]).2 = 0 -> Fn 17 [.str [47],.str l[j]] (.tup [.str l[j],i 0])) : Fn 3 [s.enc,.str path] (.bool true):=by
 refine ac aZ Tryz.func3 rfl (by kernel_rfl) ?_
 conv=>whnf
 repeat' (first
 | ((with_reducible refine aJ (by assumption) ?_);conv=>whnf)
 | ((with_reducible refine cY (by first | assumption | rfl) ?_);conv=>whnf)
 | ((with_reducible refine aB (fun h=>?_) (fun h=>?_))<;>(try simp only [List.length_map] at h)<;>conv=>whnf)
 | ((with_reducible refine bu (fun h=>?_) (fun h=>?_))<;>(try simp only [List.length_map] at h)<;>conv=>whnf)
 | ((with_reducible refine ak ?_);(first | refine aa (af (xs:=[]) c4 _) ?_ | refine aa (af (xs:=[_]) (LG B hsm) _) ?_ | refine aa (cb (c7 s B V) rfl rfl) ?_ | refine aa (cb (c6 s B V) rfl rfl) ?_ | refine aa (cb (c9 (aN s.nodes) (ff B V)) rfl rfl) ?_ | refine aa (cb (OA B V hres) rfl rfl) ?_ | refine aa (af (xs:=[_,_,_]) (IE hwi) _) ?_ | refine aa (cb (Uv s.tick _) (aK (be (aK rfl (aK rfl (aK rfl (aK rfl (aK rfl (aK rfl (aK rfl (aK rfl (aK rfl (aK rfl (aK rfl (aK rfl (aK rfl (aK rfl (aK rfl (aK rfl (aK rfl (bM))))))))))))))))))) bM) rfl) ?_ | refine aa (cb h11p rfl rfl) ?_ | refine aa (cb (h11 j (by omega) (by assumption)) rfl rfl) ?_ | refine aa (cb h13 rfl rfl) ?_ | refine aa (cb h14 rfl rfl) ?_ | refine aa (cb (Q9 (l[j]'(by omega))) rfl rfl) ?_ | refine aa (cb (h16 j (by omega) (by assumption)) rfl rfl) ?_ | refine aa (cb (h17 j (by omega) (by assumption)) rfl rfl) ?_);conv=>whnf)
 | (refine ⟨[],[],(by decide +kernel),?_⟩;conv=>whnf)
 | (refine ⟨[],[(3,1)],(by decide +kernel),?_⟩;conv=>whnf)
 | (refine ⟨[],[(9,1),(9,3),(9,4),(10,1),(10,3),(10,4),(2,1)],(by decide +kernel),?_⟩;conv=>whnf)
 | ((with_reducible refine aO ?_);first | (refine ni (fun (j : Nat) (q : Bs)=>l.length - j) (fun (j : Nat) (q : Bs)=>j <= l.length) (fun (j : Nat) (q : Bs)=>[(2,.ptr 0 0 0),(10,.ptr 1 0 0),(12,.ptr 2 0 0),(14,.d (.fs (l.map D.str))),(16,.d (i j))]) (fun (j : Nat) (q : Bs)=>[⟨[.d s.enc],3,0⟩,⟨[.agg [.d (i 3),.d (i 4),.nilS,.d (i 1),.d (i s.tick),.d (.str q),.d (.str []),.d (i 0),.d (i 400),.d (.str []),.d (i 0),.d (i 0),.d (.bool false),.d (.bool false),.nilS,.nilS,.d (i 0)]],17,0⟩,⟨[.d (Dr (s.nodes[k]'hk).data)],9,0⟩]) (0) (path) (by exact Nat.zero_le _) ?_ (fun j q C hI hC=>?_);(exact ⟨[.old 0,.old 3,.old 5],rfl,rfl,⟨⟨rfl,rfl,rfl⟩,⟨rfl,rfl,rfl⟩,⟨rfl,rfl,rfl⟩,rfl,(by first | exact congrArg (D.int .i64) (by omega) ),trivial⟩,⟨⟨rfl,rfl,.inl ⟨[_],rfl,rfl⟩⟩,⟨rfl,rfl,.inr ⟨⟨rfl,rfl,trivial,rfl,rfl,rfl,rfl,rfl,rfl,rfl,rfl,rfl,rfl,rfl,trivial,trivial,rfl,trivial⟩,trivial⟩⟩,⟨rfl,rfl,.inl ⟨[_],rfl,rfl⟩⟩,trivial⟩⟩);all_goals (conv=>whnf)))
 | ((with_reducible show C _ _);first | (refine hC (j + 1) (q) _ _ ?_ (by omega) ?_;clear hC;rotate_left;(exact ⟨[.old 0,.old 1,.old 2],rfl,rfl,⟨⟨rfl,rfl,rfl⟩,⟨rfl,rfl,rfl⟩,⟨rfl,rfl,rfl⟩,rfl,(by first | exact congrArg (D.int .i64) (by omega) ),trivial⟩,⟨⟨rfl,rfl,.inl ⟨[_],rfl,rfl⟩⟩,⟨rfl,rfl,.inr ⟨⟨rfl,rfl,trivial,rfl,rfl,rfl,rfl,rfl,rfl,rfl,rfl,rfl,rfl,rfl,trivial,trivial,rfl,trivial⟩,trivial⟩⟩,⟨rfl,rfl,.inl ⟨[_],rfl,rfl⟩⟩,trivial⟩⟩);(exact by omega)) | (refine hC (j + 1) ((l[j]'(by omega))) _ _ ?_ (by omega) ?_;clear hC;rotate_left;(exact ⟨[.old 0,.old 1,.old 2],rfl,rfl,⟨⟨rfl,rfl,rfl⟩,⟨rfl,rfl,rfl⟩,⟨rfl,rfl,rfl⟩,rfl,(by first | exact congrArg (D.int .i64) (by omega) ),trivial⟩,⟨⟨rfl,rfl,.inl ⟨[_],rfl,rfl⟩⟩,⟨rfl,rfl,.inr ⟨⟨rfl,rfl,trivial,rfl,rfl,rfl,rfl,rfl,rfl,rfl,rfl,rfl,rfl,rfl,trivial,trivial,rfl,trivial⟩,trivial⟩⟩,⟨rfl,rfl,.inl ⟨[_],rfl,rfl⟩⟩,trivial⟩⟩);(exact by omega)))
 | (refine bf (by omega) ?_;conv=>whnf)
 | (refine ax (by omega) ?_;conv=>whnf)
 | (refine ax (by have:=V.n20;(try simp only [List.length_map]);omega) ?_;conv=>whnf)
 | (refine Tx hxk hk ?_;conv=>whnf)
 | (exact absurd trivial h)
 | ((with_reducible refine ag ?_);first | (exact aD rfl;done))
 | (refine ⟨rfl,?_⟩;conv=>whnf)
  | fail
  )
end
section
open Go Dw Paths
def q9 (l : List bm) : Nat -> Nat
 | 0=>0
 | m + 1=>q9 l m + eO l (m : Nat)
theorem Ao : ∀ m,q9 [] m = 0
 | 0=>rfl
 | m + 1=>by simp [q9,Ao m,eO]
theorem vT (e : bm) (l : List bm) : ∀ m : Nat,q9 (e :: l) m = q9 l m + (if 0 <= e.node /\ e.node < m then 1 else 0)
 | 0=>by simp only [q9];rw [if_neg (by omega)]
 | m + 1=>by
  have ih:=vT e l m
  simp only [q9,eO,lc,decide_eq_true_eq,ih]
  repeat' split
  all_goals omega
theorem yD : ∀ (l : List bm) (m : Nat),(∀ e ∈ l,0 <= e.node /\ e.node < m) -> l.length = q9 l m
 | [],m,_=>by rw [Ao];rfl
 | e :: l,m,h=>by
  rw [vT,if_pos (h e (by simp)),List.length_cons,yD l m (fun x hx=>h x (by simp [hx]))]
theorem DC {l : List bm} {c : Nat} : ∀ m : Nat,(∀ n : Nat,n < m -> eO l (n : Nat) <= c) -> q9 l m <= c * m
 | 0,_=>by simp [q9]
 | m + 1,h=>by
  have h1:=DC (c:=c) m (fun n hn=>h n (by omega))
  have h2:=h m (by omega)
  simp only [q9]
  rw [Nat.mul_succ];omega
theorem Gk : ∀ {l : List bm},(∀ e ∈ l,1 <= e.node) -> eO l 0 = 0
 | [],_=>rfl
 | e :: l,h=>by
  have h1:=h e (by simp)
  simp only [eO,lc,decide_eq_true_eq]
  rw [if_neg (by omega),Gk fun x hx=>h x (by simp [hx])]
theorem GN {s : dn} (B : Sb s) (V : lb s) : ∀ x ∈ aN s.nodes,x.ents.length <= 1000:=by
 have W : Vt (aN s.nodes):=⟨ff B V,V.ck⟩
 intro x hx
 obtain ⟨k,hk,rfl⟩:=List.getElem_of_mem hx
 have hO : gK (aN s.nodes) (k : Nat):=⟨by omega,by simpa using hk⟩
 have hn : aw (aN s.nodes) (k : Nat) = (aN s.nodes)[k]:=by
  unfold aw;rw [Int.toNat_natCast,List.getElem?_eq_getElem hk];rfl
 have hl : (aN s.nodes).length = s.nodes.length:=dN _
 have h20:=V.n20
 have h1 : ∀ e ∈ (aN s.nodes)[k].ents,1 <= e.node /\ e.node < ((aN s.nodes).length : Nat):=fun e he=>by
  rw [<- hn] at he
  have a:=W.ent1 hO he
  have b:=W.ent hO he
  have c:=b.2
  exact ⟨a,by omega⟩
 rw [yD _ _ (fun e he=>⟨by have:=(h1 e he).1;omega,(h1 e he).2⟩)]
 have h2 : q9 (aN s.nodes)[k].ents (aN s.nodes).length <= 4 * (aN s.nodes).length:=DC _ (fun n hn2=>by
  by_cases h0 : n = 0
  ·subst h0
   have:=Gk (fun e he=>(h1 e he).1)
   show eO _ ((0 : Nat) : Int) <= 4
   rw [show ((0 : Nat) : Int) = 0 from rfl,this];omega
  ·have c1:=nv (n:=(n : Nat)) hx
   by_cases hk1 : (aN s.nodes)[n].kind = 1
   ·have:=(V.nd n (by omega)).nm (by rw [<- show (aN s.nodes)[n].kind = (s.nodes[n]'(by omega)).kind by simp [aN]];exact hk1)
    omega
   ·have:=(W.ec (j:=n) (by omega) hn2).2.1 hk1
    omega)
 omega
end
section
open Go Dw Paths
set_option maxRecDepth 10000
attribute [local irreducible] bn
theorem JU {s : dn} (h : dx s = true) {k : Nat} (hk : k < s.nodes.length) : (s.nodes[k]'hk).data.length <= 400:=
 Decidable.byContradiction fun c=>by rw [DB hk c] at h;cases h
theorem Mw {t : List aM} (V : Vt t) {p : Bs} {x : Fd} {st : Bs} {n : Int} (h : dP t p true = ⟨x,st,n,0⟩) : (aj p).2 = 0 /\ (aj p).1.abs = true:=by
 obtain ⟨h1,h2,_⟩:=P0 V (s:=p) (last:=true) (by rw [h])
 exact ⟨h1,h2⟩
theorem c3 (s : dn) (B : Sb s) (path : Bs) : Fn 3 [s.enc,.str path] (.bool true):=by
 cases hsm : dx s with
 | false=>exact UF s B path hsm
 | true=>
  by_cases h150 : (150 : Int) < path.length
  ·exact UG s B path hsm h150
  have V : lb s:=K5 (Decidable.byContradiction fun c=>by rw [xA c] at hsm;cases hsm)
  have W : Vt (aN s.nodes):=⟨ff B V,V.ck⟩
  cases hres : dP (aN s.nodes) path true with | mk x st n e=>
  by_cases he : e = 0
  ·cases hwi : ar x.node 0 ((s.nodes.length : Int) - 1) with
   | false=>exact SK s B V path hsm h150 x st n e hres he hwi
   | true=>
    by_cases hst : st = []
    ·have hw:=hwi
     unfold ar at hw
     simp only [Bool.and_eq_true,decide_eq_true_eq] at hw
     have hk : x.node.toNat < s.nodes.length:=by omega
     have hxk : x.node = (x.node.toNat : Nat):=by omega
     by_cases hkd : (s.nodes[x.node.toNat]'hk).kind = 1
     ·subst he;subst hst
      have hd4:=JU hsm hk
      have hnd : (aw (aN s.nodes) x.node).kind = 1:=by
       unfold aw;rw [ke hk];exact hkd
      have h0 : ¬ x.node = 0:=fun c=>by rw [c,zN W] at hnd;exact absurd hnd (by decide)
      have ans : ∀ p x' n', dP (aN s.nodes) p true = ⟨x', [], n', 0⟩ -> x'.node = x.node -> Fn 11 [s.enc, Fh s.tick p] (.tup [s.enc, Dr (s.nodes[x.node.toNat]'hk).data, i 0]) := fun p x' n' hr hx => by
       obtain ⟨q1,q2⟩:=Mw W hr
       exact Uu s B V p x' n' hr x.node.toNat hk (by rw [hx];exact hxk) hkd hd4 q1 q2 V.tk
      have PF : ∀ j (h : j < (ef (aN s.nodes) x.node).length),(aj (ef (aN s.nodes) x.node)[j]).2 = 0 -> Kp (aN s.nodes) x.node (ef (aN s.nodes) x.node)[j]:=fun j h hp=>BQ W hnd (List.getElem_mem h) hp
      have hcnt:=E3 W h0
      refine UH s B V path hsm h150 x n 0 hres rfl hwi x.node.toNat hk hxk hkd (ans path x n hres rfl) (ef (aN s.nodes) x.node) ?_ ?_ ?_ (fun j h hp=>?_) (fun j h hp=>?_) (fun j h hp=>?_)
      ·have hk20:=V.n20
       have hl20 : (aN s.nodes).length = s.nodes.length:=dN _
       have hx : ((x.node.toNat : Nat) : Int) = x.node:=by omega
       have:=(V.nd x.node.toNat hk).nm hkd
       rw [hx] at this
       omega
      ·have:=Q1 (aN s.nodes) (ff B V) x.node (GN B V) V.ck (by rw [dN];exact hwi)
       exact this
      ·rw [hcnt];exact Q2 (aN s.nodes) x.node (ff B V).tl (ff B V).el
      ·have P:=PF j h hp
       cases hr : dP (aN s.nodes) (ef (aN s.nodes) x.node)[j] true with | mk x' st' n' e'=>
       have a1:=P.e;have a2:=P.nd;have a3:=P.st
       rw [hr] at a1 a2 a3
       simp only at a1 a2 a3
       subst a1;subst a3
       exact ans _ x' n' hr a2
      ·have P:=PF j h hp
       have:=Ry (ef (aN s.nodes) x.node)[j] hp
       rw [P.nm] at this;exact this
      ·have P:=PF j h hp
       have:=Uw [47] (ef (aN s.nodes) x.node)[j]
       rw [P.jn] at this;exact this
     ·exact SM s B V path hsm h150 x st n e hres he hwi hst x.node.toNat hk hxk hkd
    ·exact SL s B V path hsm h150 x st n e hres he hwi hst
  ·exact SJ s B V path hsm h150 x st n e hres he
end
section
open Go Dw Paths
theorem Ct {x : D} : ∀ {l : List D},x ∈ l -> ek x <= bI l
 | [],h=>by cases h
 | y :: l,h=>by
  simp only [bI]
  rcases List.mem_cons.1 h with rfl | h
  ·omega
  ·have:=Ct h;omega
theorem AK {α : Type} {f : α -> D} {a : α} {l : List α} (h : a ∈ l) : ek (f a) <= bI (l.map f):=Ct (List.mem_map_of_mem h)
theorem rf {α : Type} {f : α -> D} (h : ∀ a,1 <= ek (f a)) : ∀ l : List α,l.length <= bI (l.map f)
 | []=>Nat.zero_le _
 | a :: l=>by
  have h1:=h a
  have h2:=rf h l
  simp only [List.map_cons,List.length_cons,bI];omega
theorem Cs (x : bm) : ek x.enc = x.name.length + 2:=by simp only [bm.enc,ek,bI,i];try omega
theorem wl (x : kh) : ek x.enc = x.name.length + x.data.length + 2:=by simp only [kh.enc,ek,bI];omega
theorem pH (x : cu) : bI (x.ents.map bm.enc) + x.data.length + bI (x.sts.map kh.enc) + 1 <= ek x.enc:=by simp only [cu.enc,ek,bI,i];omega
theorem Lq (x : mb) : ek x.enc = 2:=by simp only [mb.enc,ek,bI,i]
theorem Lr (s : dn) : bI (s.nodes.map cu.enc) + bI (s.lims.map mb.enc) + 1 <= ek s.enc:=by simp only [dn.enc,ek,bI,i];omega
theorem wm : ∀ l : List kh,gZ l <= bI (l.map kh.enc)
 | []=>Nat.zero_le _
 | x :: l=>by
  have h1:=wl x
  have h2:=wm l
  simp only [gZ,List.map_cons,bI];omega
theorem DE : ∀ (l : List kh) (k : Nat),gZ (l.take k) <= gZ l
 | [],k=>by simp
 | x :: l,0=>by simp [gZ]
 | x :: l,k + 1=>by
  have:=DE l k
  simp only [List.take_succ_cons,gZ];omega
theorem Ce : ∀ (l : List cu) (k : Nat),eb (l.take k) <= eb l
 | [],k=>by simp
 | x :: l,0=>by simp [eb]
 | x :: l,k + 1=>by
  have:=Ce l k
  simp only [List.take_succ_cons,eb];omega
theorem Cp : ∀ l : List cu,eb l <= bI (l.map cu.enc)
 | []=>Nat.zero_le _
 | x :: l=>by
  have h1:=pH x
  have h2:=Cp l
  have h3:=wm x.sts
  simp only [eb,List.map_cons,bI,dt];omega
theorem P3 {s : dn} (h : ek s.enc <= 1048576) : Sb s:=by
 have h0:=Lr s
 have hx : ∀ x ∈ s.nodes,ek x.enc <= 1048576:=fun x hx=>by have:=AK (f:=cu.enc) hx;omega
 refine ⟨fun x m=>?_,fun x m y n=>?_,fun x m=>?_,fun x m y n=>?_,fun x m k=>?_,fun k=>?_,?_⟩
 ·have h1:=hx x m
  have h2:=pH x
  have h3:=rf (f:=bm.enc) (fun a=>by rw [Cs];omega) x.ents
  omega
 ·have h1:=hx x m
  have h2:=pH x
  have h3:=AK (f:=bm.enc) n
  rw [Cs] at h3
  omega
 ·have h1:=hx x m
  have h2:=pH x
  have h3:=rf (f:=kh.enc) (fun a=>by rw [wl];omega) x.sts
  omega
 ·have h1:=hx x m
  have h2:=pH x
  have h3:=AK (f:=kh.enc) n
  rw [wl] at h3
  omega
 ·have h1:=hx x m
  have h2:=pH x
  have h3:=wm x.sts
  have h4:=DE x.sts k
  omega
 ·have h1:=Cp s.nodes
  have h2:=Ce s.nodes k
  omega
 ·have h3:=rf (f:=mb.enc) (fun a=>by rw [Lq];omega) s.lims
  omega
end
section
open Go Dw Paths
theorem nD {α : Type} {f : α -> D} : ∀ (l : List D),(∀ y ∈ l,∃ a,y = f a) -> ∃ r : List α,l = r.map f
 | [],_=>⟨[],rfl⟩
 | x :: l,h=>by
  obtain ⟨a,rfl⟩:=h x (by simp)
  obtain ⟨r,rfl⟩:=nD l fun y hy=>h y (by simp [hy])
  exact ⟨a :: r,rfl⟩
theorem MC {n : Nat} {x : D} (h : ui E (n + 2) 93 x) : ∃ e : bm,x = e.enc:=by
 obtain ⟨cs,rfl,y1,r1,⟨k1,rfl,_⟩,rfl,y2,r2,⟨k2,rfl,_⟩,rfl,rfl⟩:=h
 exact ⟨⟨k1,k2⟩,rfl⟩
theorem MG {n : Nat} {x : D} (h : ui E (n + 2) 157 x) : ∃ e : kh,x = e.enc:=by
 obtain ⟨cs,rfl,y1,r1,⟨k1,rfl,_⟩,rfl,y2,r2,⟨k2,rfl,_⟩,rfl,rfl⟩:=h
 exact ⟨⟨k1,k2⟩,rfl⟩
theorem ME {n : Nat} {x : D} (h : ui E (n + 2) 148 x) : ∃ e : mb,x = e.enc:=by
 obtain ⟨cs,rfl,y1,r1,⟨k1,rfl,_⟩,rfl,y2,r2,⟨k2,rfl,_⟩,rfl,rfl⟩:=h
 exact ⟨⟨k1,k2⟩,rfl⟩
theorem H3 {n : Nat} {x : D} (h : ui E (n + 2) 218 x) : ∃ e : dd,x = e.enc:=by
 obtain ⟨cs,rfl,y1,r1,⟨k1,rfl,_⟩,rfl,y2,r2,⟨k2,rfl,_⟩,rfl,y3,r3,⟨k3,rfl,_⟩,rfl,y4,r4,⟨k4,rfl,_⟩,rfl,rfl⟩:=h
 exact ⟨⟨k1,k2,k3,k4⟩,rfl⟩
theorem MB {n : Nat} {x : D} (h : ui E (n + 4) 44 x) : ∃ d : jr,x = .agg d.cs:=by
 obtain ⟨cs,rfl,y1,r1,⟨k1,rfl,_⟩,rfl,y2,r2,⟨k2,rfl,_⟩,rfl,y3,r3,⟨k3,rfl⟩,rfl,y4,r4,⟨k4,rfl⟩,rfl,y5,r5,⟨l5,rfl,_,h5⟩,rfl,y6,r6,⟨l6,rfl,_,h6⟩,rfl,rfl⟩:=h
 obtain ⟨es,rfl⟩:=nD l5 fun y hy=>H3 (h5 y hy)
 obtain ⟨au,rfl⟩:=nD l6 fun y hy=>H3 (h6 y hy)
 exact ⟨⟨k1,k2,k3,k4,es,au⟩,rfl⟩
theorem MF {n : Nat} {x : D} (h : ui E (n + 5) 46 x) : ∃ e : cu,x = e.enc:=by
 obtain ⟨cs,rfl,y1,r1,⟨k1,rfl,_⟩,rfl,y2,r2,⟨l2,rfl,_,h2⟩,rfl,y3,r3,⟨k3,rfl,_⟩,rfl,y4,r4,⟨k4,rfl,_⟩,rfl,y5,r5,⟨l5,rfl,_,h5⟩,rfl,y6,r6,h6,rfl,y7,r7,⟨k7,rfl,_⟩,rfl,y8,r8,⟨k8,rfl,_⟩,rfl,rfl⟩:=h
 obtain ⟨en,rfl⟩:=nD l2 fun y hy=>MC (h2 y hy)
 obtain ⟨st,rfl⟩:=nD l5 fun y hy=>MG (h5 y hy)
 obtain ⟨d,rfl⟩:=MB h6
 exact ⟨⟨k1,en,k3,k4,st,d,k7,k8⟩,rfl⟩
theorem MI {n : Nat} {x : D} (h : ui E (n + 7) 25 x) : ∃ s : dn,x = s.enc:=by
 obtain ⟨cs,rfl,y1,r1,⟨l1,rfl,_,h1⟩,rfl,y2,r2,⟨l2,rfl,_,h2⟩,rfl,y3,r3,⟨k3,rfl,_⟩,rfl,rfl⟩:=h
 obtain ⟨nd,rfl⟩:=nD l1 fun y hy=>MF (h1 y hy)
 obtain ⟨lm,rfl⟩:=nD l2 fun y hy=>ME (h2 y hy)
 exact ⟨⟨nd,lm,k3⟩,rfl⟩
end
section
open Go Dw Go.ChangeShapes Go.WideShapes Go.RowKit
set_option maxRecDepth 100000
theorem PN : ownKnob Tryz.prog.godebug = none:=by kernel_rfl
theorem EE : laidOutB Tryz.prog = true:=by kernel_rfl
def Bp : List (String × DataW Unit) := [("math/bits.deBruijn32tab", Rows.laid_math_bits_deBruijn32tab), ("math/bits.deBruijn64tab", Rows.laid_math_bits_deBruijn64tab), ("internal/strconv.uint64pow10", Rows.laid_internal_strconv_uint64pow10), ("unicode/utf8.acceptRanges", Rows.laid_unicode_utf8_acceptRanges), ("depository/access.grants", Rows.laid_depository_access_grants), ("unicode/utf8.first", Rows.laid_unicode_utf8_first)]
def J2 : Array Value:=(Pinned.utf8FirstZ.map fun (n : Nat)=>Value.int .u8 n).toArray
def FJ (o : Go.Obj) : Go.Obj:=match o with
 | Go.Obj.cells _ t fr=>Go.Obj.cells J2 t fr
 | o=>o
noncomputable def Av (os : Os) : World:=
 { World.doorLaid Tryz.prog 60 os with heap:=(World.doorLaid Tryz.prog 60 os).heap.modify 2 FJ }
theorem AU (os : Os) (args : Array Value) : laidMetH Tryz.prog Bp ((Av os).forCall (fun _ _=>0) ⟨#[],args,[]⟩).memory:=
 laidMetH_of_parts3 (fuel:=8) (laidMet_of_run' 8 (by kernel_rfl) (by kernel_rfl)) (by kernel_rfl) (by kernel_rfl)
theorem H2 (os : Os) (args : Array Value) : ((Av os).forCall (fun _ _=>0) ⟨#[],args,[]⟩).Shaped Tryz.prog:=
 World.shaped_of_RefB (by kernel_rfl) (by kernel_rfl)
theorem Ls (H : Type) : Is (H:=H) Rows.uptoBulk Rows.uptoBulkAll where
 one:=fun d=>by
  cases d with
  | lit l=>cases l<;>simp [Rows.uptoBulk]
  | _=>simp [Rows.uptoBulk]
 str:=fun s=>by simp [Rows.uptoBulk]
 sl:=fun a b=>by simp only [Rows.uptoBulk];omega
 agg:=fun a=>by simp only [Rows.uptoBulk];omega
 nil:=rfl
 cons:=fun d l=>rfl
theorem IN {P : Program} {nm : String} {f0 : Nat} {fn0 : Func} {lk : Bool} (h1 : P.funcNamed nm = some f0) (h2 : P.funcs[f0]? = some fn0) (h3 : lk = P.looks []) (h4 : (fn0.params.toList.all fun t=>!P.wantsStandIn t) = true) :
  ∀ f fn,P.funcNamed nm = some f -> P.funcs[f]? = some fn -> lk = P.looks [] /\ ∀ (j : Nat) t,fn.params[j]? = some t -> P.wantsStandIn t = false:=by
 intro f fn h5 h6
 obtain rfl : f = f0:=(Option.some.inj (h1.symm.trans h5)).symm
 obtain rfl : fn = fn0:=(Option.some.inj (h2.symm.trans h6)).symm
 refine ⟨h3,fun j t ht=>?_⟩
 have:=List.all_eq_true.1 h4 t (List.mem_of_getElem? (by simpa using ht))
 simpa using this
end
section
open Go Dw Go.RowKit
set_option maxRecDepth 100000
theorem oK : Tryz.prog.globalNamed "depository/access.grants" = some 4 := by kernel_rfl
theorem yV : (Tryz.prog.globals[4]?).map (·.type) = some 357:=by kernel_rfl
theorem yj : Tryz.prog.cellsOf 356 = 2:=by kernel_rfl
theorem Gd : Tryz.prog.cellsOf 357 = 6:=by kernel_rfl
theorem IT : Tryz.prog.cellsOf 3 = 1:=by kernel_rfl
section
variable {H : Type} {enc : TypeId × Value -> H} {w : World} {base : Nat} {sp : Nat -> Bool} {held : Bool}
theorem u0 {fuel : Nat} {cs : List Value} {a : Int} {x : DataW H × List MemPlace} (h : DataW.trod enc Tryz.prog w base sp held fuel 3 cs = some x) (e : x.1 = .lit (.int .i64 a)) : cs = [.int .i64 a]:=by
 obtain ⟨n,rfl,rfl,_⟩:=DataW.trod_int Tryz.underlying3 h
 simp only [DataW.lit.injEq,Lit.int.injEq,true_and] at e
 rw [e]
theorem BP {fuel : Nat} {cs : List Value} {a b : Int} {x : DataW H × List MemPlace} (h : DataW.trod enc Tryz.prog w base sp held fuel 356 cs = some x) (e : x.1 = .agg [.lit (.int .i64 a),.lit (.int .i64 b)]) : cs = [.int .i64 a,.int .i64 b]:=by
 obtain ⟨y0,y1,n,rfl,hl,h0,h1⟩:=ChangeShapes.trod_struct2 Tryz.underlying356 h
 simp only [DataW.agg.injEq,List.cons.injEq,and_true] at e
 rw [yj] at hl
 match cs,hl with
 | [u,v],_=>
  have c0:=u0 h0 e.1
  have c1:=u0 h1 e.2
  simp only [IT] at c0 c1
  simp at c0 c1
  rw [c0,c1]
theorem wY {fuel : Nat} {cs : List Value} {p : List MemPlace} (h : DataW.trod enc Tryz.prog w base sp held fuel 357 cs = some (Rows.laid_depository_access_grants,p)) :
  cs = [1,73,2,438,8,256].map (Value.int .i64):=by
 cases fuel with
 | zero=>simp [DataW.trod] at h
 | succ n=>
  simp only [DataW.trod,Tryz.underlying357,Gd,yj] at h
  split at h
  ·rename_i hl
   obtain ⟨xs,hm,hx⟩:=Option.map_eq_some_iff.1 h
   have hxs : xs.map (·.1) = [.agg [.lit (.int .i64 1),.lit (.int .i64 73)],.agg [.lit (.int .i64 2),.lit (.int .i64 438)],.agg [.lit (.int .i64 8),.lit (.int .i64 256)]]:=by
    have:=congrArg Prod.fst hx
    simpa [Rows.laid_depository_access_grants] using this
   have at_ : ∀ (i : Nat) (a b : Int),i < 3 -> (xs.map (·.1))[i]? = some (.agg [.lit (.int .i64 a),.lit (.int .i64 b)]) -> (cs.drop (i * 2)).take 2 = [.int .i64 a,.int .i64 b]:=fun i a b hi e=>by
    obtain ⟨y,hy,hf⟩:=Lib.mapM_at hm i i (by simp [hi])
    rw [List.getElem?_map,hy] at e
    simp only [Option.map_some,Option.some.injEq] at e
    exact BP hf e
   rw [hxs] at at_
   have a0:=at_ 0 1 73 (by omega) rfl
   have a1:=at_ 1 2 438 (by omega) rfl
   have a2:=at_ 2 8 256 (by omega) rfl
   match cs,hl with
   | [c0,c1,c2,c3,c4,c5],_=>
    simp at a0 a1 a2
    simp [a0,a1,a2]
  ·cases h
end
theorem Fl {W : World} (h : laidMetH Tryz.prog Bp W) : mW W (fun b=>b < W.heap.size):=by
 have h1:=(laidMetH_iff.1 h).1
 obtain ⟨g, t, cs, fuel, p, e1, e2, e3, e4⟩ := Lib.laidMet.reads h1 (n := "depository/access.grants") (d := Rows.laid_depository_access_grants) (List.mem_filter.2 ⟨by simp [Bp], rfl⟩)
 obtain rfl : g = 4:=Option.some.inj (e1.symm.trans oK)
 obtain rfl : t = 357:=Option.some.inj (e2.symm.trans yV)
 have e5:=wY e4
 unfold World.var? at e3
 rw [oK] at e3
 simp only [Option.bind_some] at e3
 intro g x hx
 by_cases hg : g = 4
 ·subst hg
  obtain rfl : D.agg ([1,73,2,438,8,256].map (D.int .i64)) = x:=Option.some.inj hx
  split at e3
  ·next c t f hh=>
   simp only [Option.some.injEq] at e3
   subst e3
   refine ⟨4,0,[1,73,2,438,8,256].map (Value.int .i64),rfl,(Array.getElem?_eq_some_iff.1 hh).1,?_,?_⟩
   ·simp [cC,fV,D.one]
   ·have hc : ∀ j v,([1,73,2,438,8,256].map (Value.int .i64))[j]? = some v -> W.cell? ⟨4,j,none⟩ = some v:=fun j v hv=>by
     unfold World.cell?
     rw [hh]
     simp only [Option.isSome_none,Bool.false_eq_true,if_false]
     rw [<- Array.getElem?_toList,e5,hv]
    exact ⟨hc 0 _ rfl,hc 1 _ rfl,hc 2 _ rfl,hc 3 _ rfl,hc 4 _ rfl,hc 5 _ rfl,trivial⟩
  ·cases e3
 ·have : B7 g = none:=by
   unfold B7 Kq pn pn
   have : Nat.beq 4 g = false:=by cases hb : Nat.beq 4 g with | false=>rfl | true=>exact absurd (Nat.eq_of_beq_eq_true hb).symm hg
   simp only [this]
  rw [this] at hx;cases hx
end
end Go.Proofs.YtogifnjnpljnfaaGreatDoor
