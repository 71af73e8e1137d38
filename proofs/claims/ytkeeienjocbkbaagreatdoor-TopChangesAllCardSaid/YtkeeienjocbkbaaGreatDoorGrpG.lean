/-
  Own lemmas, no conditions: Ph, Pa, Pc, Xa, Xb, Pk, Pl, Yh.
-/
import Derived.Test.YtkeeienjocbkbaaGreatDoorGrpF
set_option linter.unusedVariables false
set_option linter.unusedSimpArgs false
namespace Go.Proofs.YtkeeienjocbkbaaGreatDoor
open Go Dw
theorem wo_bit (a b : Int) (k : Nat) : (woI a b).toNat.testBit k = (a.toNat.testBit k && !b.toNat.testBit k):=by
 unfold woI;rw [Int.toNat_natCast,andn_bit]
theorem with_bit (a b : Int) (k : Nat) : (withI a b).toNat.testBit k = (a.toNat.testBit k || b.toNat.testBit k):=by
 unfold withI;rw [Int.toNat_natCast,Nat.testBit_or]
theorem wo_zero {a b : Int} : woI a b = 0 ↔ ∀ k,a.toNat.testBit k = true → b.toNat.testBit k = true:=by
 constructor
 ·intro h k hk
  have:=wo_bit a b k
  rw [h] at this
  simp only [Int.toNat_zero,Nat.zero_testBit] at this
  rw [hk] at this
  simpa using this.symm
 ·intro h
  have h0 : (woI a b).toNat = 0:=by
   apply Nat.eq_of_testBit_eq
   intro k
   rw [wo_bit,Nat.zero_testBit]
   cases hk : a.toNat.testBit k with
   | false=>rfl
   | true=>rw [h k hk];rfl
  have h1 : 0 ≤ woI a b:=by unfold woI;omega
  omega
theorem bit_zero {a : Int} (h : 0 ≤ a) : a = 0 ↔ ∀ k,a.toNat.testBit k = false:=by
 constructor
 ·rintro rfl k;simp
 ·intro hk
  have : a.toNat = 0:=Nat.eq_of_testBit_eq fun k=>by rw [hk k,Nat.zero_testBit]
  omega
theorem hasR_tb {a : Int} (h : 0 ≤ a ∧ a ≤ 4095) (n : Nat) (_hn : n ≤ 11) : hasR a ((2 ^ n : Nat) : Int) = a.toNat.testBit n:=by
 unfold hasR
 have hp : 0 < 2 ^ n:=Nat.two_pow_pos n
 have e1 : a.tdiv ((2 ^ n : Nat) : Int) = ((a.toNat / 2 ^ n : Nat) : Int):=by
  rw [Int.tdiv_eq_ediv_of_nonneg h.1,Int.natCast_ediv]
  congr 1;omega
 have e2 : a.toNat / 2 ^ n ≤ a.toNat:=Nat.div_le_self _ _
 rw [e1,Nat.testBit_eq_decide_div_mod_eq]
 generalize a.toNat / 2 ^ n = q at e2
 rw [Go.IntWalk.i64_in _ (by omega),Int.tmod_eq_emod_of_nonneg (by omega),decide_eq_decide]
 omega
theorem pow_bit (n k : Nat) : ((2 ^ n : Nat) : Int).toNat.testBit k = decide (n = k):=by
 rw [Int.toNat_natCast,Nat.testBit_two_pow]
theorem bit_512 (k : Nat) : (512 : Int).toNat.testBit k = decide (9 = k):=pow_bit 9 k
theorem bit_1024 (k : Nat) : (1024 : Int).toNat.testBit k = decide (10 = k):=pow_bit 10 k
theorem bit_2048 (k : Nat) : (2048 : Int).toNat.testBit k = decide (11 = k):=pow_bit 11 k
theorem bit_3584 (k : Nat) : (3584 : Int).toNat.testBit k = (decide (9 = k) || decide (10 = k) || decide (11 = k)):=by
 have e : (3584 : Int).toNat = 2 ^ 9 ||| 2 ^ 10 ||| 2 ^ 11:=by decide
 rw [e,Nat.testBit_or,Nat.testBit_or,Nat.testBit_two_pow,Nat.testBit_two_pow,Nat.testBit_two_pow]
theorem bit_big {a : Int} {n : Nat} (h : 0 ≤ a ∧ a < ((2 ^ n : Nat) : Int)) {k : Nat} (hk : n ≤ k) : a.toNat.testBit k = false:=by
 apply Nat.testBit_lt_two_pow
 have : 2 ^ n ≤ 2 ^ k:=Nat.pow_le_pow_right (by omega) hk
 omega
structure Wrt (j0 : Jrn) (e : Evt) (j : Jrn) (N : List Chg) : Prop where
 recs : j.recs = j0.recs ++ N
 each : ∀ y ∈ N,y.file = e.file ∧ y.tick = e.tick ∧ j0.next ≤ y.usn
theorem Wrt.wr {j0 j : Jrn} {e : Evt} {N : List Chg} (h : Wrt j0 e j N) (hn : j0.next ≤ j.next) {x : Chg} (h1 : x.file = e.file) (h2 : x.tick = e.tick) : Wrt j0 e (j.wr x) (N ++ [{ x with usn:=j.next }]):=by
 refine ⟨by simp only [Jrn.wr,h.recs,List.append_assoc],fun y hy=>?_⟩
 rcases List.mem_append.1 hy with hy | hy
 ·exact h.each y hy
 ·rw [List.mem_singleton.1 hy];exact ⟨h1,h2,hn⟩
def Cov (N : List Chg) (k : Nat) : Prop:=∃ y ∈ N,y.reasons.toNat.testBit k = true
theorem Cov.mono {N M : List Chg} {k : Nat} (h : Cov N k) (hs : ∀ y ∈ N,y ∈ M) : Cov M k:=by
 obtain ⟨y,hy,hk⟩:=h
 exact ⟨y,hs y hy,hk⟩
section
variable {j : Jrn} {e : Evt} (V : Valid j) (he : eventErr e = 0)
include V he
theorem aft1_new : ∃ N,Wrt j e (aft1 j e).2 N ∧ N.length ≤ 1 ∧ (∀ k,(woI e.reasons 3584).toNat.testBit k = true → (openR j.opens e.file).toNat.testBit k = true ∨ Cov N k) ∧
  (aft1 j e).1 = withI (openR j.opens e.file) (woI e.reasons 3584) ∧ (woI (woI e.reasons 3584) (openR j.opens e.file) = 0 → N = [] ∧ aft1 j e = (openR j.opens e.file,j)):=by
 have ho:=open_lt V e.file
 have hP:=wo_lt (a:=e.reasons) (ev_bd he)
 unfold aft1
 by_cases h : woI (woI e.reasons 3584) (openR j.opens e.file) = 0
 ·rw [if_pos h]
  refine ⟨[],⟨by simp,fun y hy=>by cases hy⟩,by simp,fun k hk=>.inl (wo_zero.1 h k hk),?_,fun _=>⟨rfl,rfl⟩⟩
  have h2:=wo_zero.1 h
  have hb:=with_lt (a:=openR j.opens e.file) (b:=woI e.reasons 3584) 11 (by omega) (by omega)
  have : (openR j.opens e.file).toNat = (withI (openR j.opens e.file) (woI e.reasons 3584)).toNat:=by
   apply Nat.eq_of_testBit_eq
   intro k
   rw [with_bit]
   cases hk : (woI e.reasons 3584).toNat.testBit k with
   | false=>simp
   | true=>rw [h2 k hk];rfl
  show openR j.opens e.file = _
  omega
 ·rw [if_neg h]
  refine ⟨[] ++ [_],Wrt.wr (N:=[]) ⟨by simp,fun y hy=>by cases hy⟩ (Int.le_refl _) rfl rfl,by simp,fun k hk=>.inr ⟨_,List.mem_append_right _ (List.mem_singleton.2 rfl),?_⟩,rfl,fun h0=>absurd h0 h⟩
  show (withI _ _).toNat.testBit k = true
  rw [with_bit,hk];simp
theorem aft2_new {p : Int × Jrn} (hs : Semi j p.2 1 ∧ 0 ≤ p.1 ∧ p.1 < 2048) {N : List Chg} (hp : Wrt j e p.2 N) : ∃ M,Wrt j e (aft2 e p).2 (N ++ M) ∧ M.length ≤ 2 ∧ (hasR e.reasons 512 = true → Cov M 9 ∧ Cov M 10 ∧ (aft2 e p).1.toNat.testBit 10 = true) ∧ (hasR e.reasons 512 = false → M = [] ∧ aft2 e p = p):=by
 unfold aft2
 by_cases h : hasR e.reasons 512 = true
 ·rw [if_pos h]
  have s1:=hs.1.next
  have s2 : (j.next ≤ (p.2.wr ⟨0,e.file,e.parent,e.tick,withI p.1 512,e.name⟩).next):=by
   obtain ⟨h1,h2,h3,h4,h5,h6,h7,h8⟩:=eventErr_ok he
   have w1:=with_lt (a:=p.1) (b:=512) 11 (by omega) (by omega)
   have g1:=with_ge (a:=p.1) (b:=512) (by omega)
   exact (Semi.wr V (by omega) hs.1 (x:=⟨0,e.file,e.parent,e.tick,withI p.1 512,e.name⟩) (rec_mk h1 h2 h3 ⟨by show 1 ≤ withI _ _;omega,by show withI _ _ ≤ 4095;omega⟩ h6)).next.1
  refine ⟨[_] ++ [_],by rw [← List.append_assoc];exact (hp.wr s1.1 rfl rfl).wr s2 rfl rfl,by simp,fun _=>⟨⟨_,List.mem_append_left _ (List.mem_singleton.2 rfl),?_⟩,⟨_,List.mem_append_right _ (List.mem_singleton.2 rfl),?_⟩,?_⟩,fun h0=>by rw [h] at h0;cases h0⟩
  ·show (withI _ _).toNat.testBit 9 = true
   rw [with_bit,bit_512];simp
  ·show (withI _ _).toNat.testBit 10 = true
   rw [with_bit,bit_1024];simp
  ·show (withI _ _).toNat.testBit 10 = true
   rw [with_bit,bit_1024];simp
 ·rw [if_neg h]
  exact ⟨[],by simpa using hp,by simp,fun h0=>absurd h0 h,fun _=>⟨rfl,rfl⟩⟩
omit V he in
theorem aft3_new {p : Int × Jrn} (hs : Semi j p.2 3) {N : List Chg} (hp : Wrt j e p.2 N) : ∃ M,Wrt j e (aft3 e p).2 (N ++ M) ∧ M.length ≤ 1 ∧ (hasR e.reasons 2048 = true → ¬ p.1 = 0 → Cov M 11) ∧ (hasR e.reasons 2048 = false → M = [] ∧ aft3 e p = p):=by
 unfold aft3
 by_cases h : (hasR e.reasons 2048 && !decide (p.1 = 0)) = true
 ·rw [if_pos h]
  refine ⟨[_],hp.wr hs.next.1 (by split<;>rfl) (by split<;>rfl),by simp,fun _ _=>⟨_,List.mem_singleton.2 rfl,?_⟩,fun h0=>by rw [h0] at h;cases h⟩
  show (if hasR e.reasons 512 = true then (⟨0,e.file,e.np,e.tick,withI p.1 2048,e.nn⟩ : Chg) else ⟨0,e.file,e.parent,e.tick,withI p.1 2048,e.name⟩).reasons.toNat.testBit 11 = true
  have : (if hasR e.reasons 512 = true then (⟨0,e.file,e.np,e.tick,withI p.1 2048,e.nn⟩ : Chg) else ⟨0,e.file,e.parent,e.tick,withI p.1 2048,e.name⟩).reasons = withI p.1 2048:=by split<;>rfl
  rw [this,with_bit,bit_2048];simp
 ·rw [if_neg h]
  refine ⟨[],by simpa using hp,by simp,fun h1 h2=>?_,fun _=>⟨rfl,rfl⟩⟩
  rw [h1,decide_eq_false h2] at h
  exact absurd rfl h
theorem aft_new : ∃ N,Wrt j e (aft3 e (aft2 e (aft1 j e))).2 N ∧ N.length ≤ 4 ∧ ((woI e.reasons 2048 = 0 ∧ openR j.opens e.file = 0) ∨ ∀ k,e.reasons.toNat.testBit k = true → (openR j.opens e.file).toNat.testBit k = true ∨ Cov N k) ∧
  (woI e.reasons (openR j.opens e.file) = 0 → hasR e.reasons 512 = false → N = [] ∧ (aft3 e (aft2 e (aft1 j e))).2 = j):=by
 have hbd:=ev_bd he
 have ho:=open_lt V e.file
 obtain ⟨N1,w1,l1,b1,o1,q1⟩:=aft1_new V he
 obtain ⟨N2,w2,l2,b2,q2⟩:=aft2_new V he (aft1_ok V he) w1
 obtain ⟨N3,w3,l3,b3,q3⟩:=aft3_new (aft2_ok V he (aft1_ok V he)).1 w2
 have h9 : hasR e.reasons 512 = e.reasons.toNat.testBit 9:=hasR_tb hbd 9 (by omega)
 have h11 : hasR e.reasons 2048 = e.reasons.toNat.testBit 11:=hasR_tb hbd 11 (by omega)
 have h10 : e.reasons.toNat.testBit 10 = e.reasons.toNat.testBit 9:=by
  have h1 : hasR e.reasons 1024 = e.reasons.toNat.testBit 10:=hasR_tb hbd 10 (by omega)
  have h2 : hasR e.reasons 1024 = has e.reasons 1024:=hasR_has (by omega) (by omega) 10 (by omega)
  rw [← h1,h2,ev_has he,h9]
 refine ⟨_,w3,by simp only [List.length_append];omega,?_,?_⟩
 ·by_cases hcl : woI e.reasons 2048 = 0 ∧ openR j.opens e.file = 0
  ·exact .inl hcl
  ·refine .inr fun k hk=>?_
   by_cases k9 : k = 9
   ·subst k9
    exact .inr ((b2 (by rw [h9];exact hk)).1.mono fun y hy=>by simp [hy])
   ·by_cases k10 : k = 10
    ·subst k10
     exact .inr ((b2 (by rw [h9,← h10];exact hk)).2.1.mono fun y hy=>by simp [hy])
    ·by_cases k11 : k = 11
     ·subst k11
      have hne : ¬ (aft2 e (aft1 j e)).1 = 0:=by
       intro h0
       by_cases hr : hasR e.reasons 512 = true
       ·have:=(b2 hr).2.2
        rw [h0] at this;simp at this
       ·have hr' : hasR e.reasons 512 = false:=by simpa using hr
        rw [(q2 hr').2,o1] at h0
        have hz:=(bit_zero (with_lt (a:=openR j.opens e.file) (b:=woI e.reasons 3584) 11 (by omega) (by have:=wo_lt hbd;omega)).1).1 h0
        apply hcl
        constructor
        ·rw [wo_zero]
         intro i hi
         rw [bit_2048]
         by_cases h11' : 11 = i
         ·simp [h11']
         ·exfalso
          have hzi:=hz i
          rw [with_bit,wo_bit,bit_3584,hi] at hzi
          by_cases h9' : 9 = i
          ·subst h9';rw [h9,hi] at hr;exact hr rfl
          ·by_cases h10' : 10 = i
           ·subst h10';rw [h9,← h10,hi] at hr;exact hr rfl
           ·simp [h9', h10', h11'] at hzi
        ·exact (bit_zero ho.1).2 fun i=>by have:=hz i;rw [with_bit] at this;simpa using (Bool.or_eq_false_iff.1 this).1
      exact .inr ((b3 (by rw [h11];exact hk) hne).mono fun y hy=>by simp [hy])
     ·have hP : (woI e.reasons 3584).toNat.testBit k = true:=by
       rw [wo_bit,hk,bit_3584]
       have a1 : ¬ 9 = k:=fun h=>k9 h.symm
       have a2 : ¬ 10 = k:=fun h=>k10 h.symm
       have a3 : ¬ 11 = k:=fun h=>k11 h.symm
       simp [a1,a2,a3]
      rcases b1 k hP with h | h
      ·exact .inl h
      ·exact .inr (h.mono fun y hy=>by simp [hy])
 ·intro hq hr
  have hz:=wo_zero.1 hq
  have hc : hasR e.reasons 2048 = false:=by
   rw [h11]
   cases hh : e.reasons.toNat.testBit 11 with
   | false=>rfl
   | true=>
    have:=hz 11 hh
    rw [bit_big (n:=11) (by omega) (Nat.le_refl _)] at this
    cases this
  have hp : woI (woI e.reasons 3584) (openR j.opens e.file) = 0:=by
   rw [wo_zero]
   intro k hk
   rw [wo_bit] at hk
   exact hz k (by simp at hk;exact hk.1)
  obtain ⟨n1,e1⟩:=q1 hp
  obtain ⟨n2,e2⟩:=q2 hr
  obtain ⟨n3,e3⟩:=q3 hc
  exact ⟨by rw [n1,n2,n3];rfl,by rw [e3,e2,e1]⟩
end
theorem Chain.usn : ∀ {l : List Chg} {a b : Int},Chain a l b → ∀ y ∈ l,a ≤ y.usn ∧ y.usn < b
 | x :: l,a,b,h,y,hy=>by
  have hs:=rec_sz h.1
  have hl:=h.2.2.le
  rcases List.mem_cons.1 hy with rfl | hy
  ·have:=h.2.1;omega
  ·have:=Chain.usn h.2.2 y hy;omega
theorem trim_law {n m : Int} : ∀ {l : List Chg} {f : Int},Chain f l n → 0 ≤ f → n < 1000000000000 →
  ∃ d,l = d ++ (trimR n m f l).2 ∧ (∀ y ∈ d,y.usn < (trimR n m f l).1) ∧ (∀ y ∈ (trimR n m f l).2,(trimR n m f l).1 ≤ y.usn) ∧ ((trimR n m f l).2 = [] ∨ n - (trimR n m f l).1 ≤ m) ∧ (n - f ≤ m → trimR n m f l = (f,l))
 | [],f,h,_,_=>⟨[],rfl,(fun y hy=>by cases hy),(fun y hy=>by cases hy),.inl rfl,fun _=>rfl⟩
 | x :: l,f,h,h0,hb=>by
  have hs:=rec_sz h.1
  have hl:=h.2.2.le
  have hc':=h.le
  have hw : IntKind.i64.wrap (n - f) = n - f:=wrap_in (by simp only [List.length_cons] at hc';omega)
  simp only [trimR,hw]
  by_cases hc : m < n - f
  ·rw [if_pos hc,wrap_in (by omega)]
   obtain ⟨d,e1,e2,e3,e4,_⟩:=trim_law (m:=m) h.2.2 (by omega) hb
   have hle:=(trim_chain (m:=m) h.2.2 (by omega) hb).2
   refine ⟨x :: d,by rw [List.cons_append,← e1],fun y hy=>?_,e3,e4,fun hh=>by omega⟩
   rcases List.mem_cons.1 hy with rfl | hy
   ·have:=h.2.1;omega
   ·exact e2 y hy
  ·rw [if_neg hc]
   exact ⟨[],rfl,(fun y hy=>by cases hy),(fun y hy=>(h.usn y hy).1),.inr (by show n - f ≤ m;omega),fun _=>rfl⟩
theorem after_full {j : Jrn} {e : Evt} (V : Valid j) (he : eventErr e = 0) (hf : full (after j e) = true) : j.opens.length = 64 ∨ 2147483247 < j.next ∨ 196 < j.recs.length:=by
 obtain ⟨s,hb⟩:=aft_ok V he
 obtain ⟨N,w,hl,_,_⟩:=aft_new V he
 have hv:=V.nums
 have hn:=s.next
 have hop:=V.opens
 have hw:=congrArg List.length w.recs
 rw [List.length_append] at hw
 unfold full at hf
 simp only [Bool.or_eq_true,decide_eq_true_eq] at hf
 unfold after Jrn.trim Jrn.opened at hf
 generalize aft3 e (aft2 e (aft1 j e)) = p at *
 have hc:=s.chain
 rw [s.first] at hc
 obtain ⟨d,e1,_⟩:=trim_law (m:=p.2.most) hc (by omega) (by omega)
 have hd:=congrArg List.length e1
 rw [List.length_append] at hd
 simp only [s.first,s.opens] at hf
 have hol : (openGo e.file p.1 j.opens (decide (p.1 = 0)) []).length ≤ j.opens.length + 1:=by
  obtain ⟨k,k1,k2,k3,k4⟩:=opAt_ahead V e.file
  have h3 : ∀ a b (h : b < j.opens.length),(hab : a < b) → compare (j.opens[a]'(by omega)).file j.opens[b].file < 0:=fun a b h hab=>opens_lt V hab h
  rw [openGo_law (f:=e.file) (r:=p.1) (decide (p.1 = 0)) j.opens k [] k1 k2 k3 h3,List.nil_append,List.length_append,List.length_append,List.length_take,List.length_drop]
  have e7 : (if decide (p.1 = 0) = true then [] else [(⟨e.file,p.1⟩ : Opn)]).length ≤ 1:=by split<;>simp
  generalize (if decide (p.1 = 0) = true then [] else [(⟨e.file,p.1⟩ : Opn)]).length = z at *
  split
  ·split<;>omega
  ·omega
 rcases hf with (h | h) | h
 ·left;omega
 ·right;left;omega
 ·right;right;omega
end Go.Proofs.YtkeeienjocbkbaaGreatDoor
namespace Go.Proofs.YtkeeienjocbkbaaGreatDoor
open Go Dw
theorem rdAt_pos {j : Jrn} (V : Valid j) {q : Qry} {k : Nat} (hk : k ≤ j.recs.length) (hq : q.pos = posA j k) : rdAt j q = (k,decide (k < j.recs.length)):=by
 unfold rdAt
 rw [bsR_law hk (fun i h hi=>by rw [cmp_lt,posA_usn V h,hq];exact posA_lt V hi hk) (fun i h hi=>by rw [cmp_lt,posA_usn V h,hq];have:=posA_le V hi (Nat.le_of_lt h);omega)]
 by_cases hl : k < j.recs.length
 ·rw [dif_pos hl]
  have : cmp j.recs[k].usn q.pos = 0:=by rw [cmp_eq,posA_usn V hl,hq]
  simp [this,hl]
 ·rw [dif_neg hl];simp [hl]
def kept (q : Qry) (l : List Chg) : List Chg:=l.filter (fun x=>!Rd.skip q x)
theorem rfGo_law (q : Qry) (nx : Int) : ∀ (l : List Chg) (out : List Chg),(out.length : Int) < q.count → ∃ m,m ≤ l.length ∧ (rfGo q nx l out).1 = out ++ kept q (l.take m) ∧ ((rfGo q nx l out).1.length : Int) ≤ q.count ∧
  ((m = l.length ∧ (rfGo q nx l out).2 = nx) ∨ (((rfGo q nx l out).1.length : Int) = q.count ∧ ∃ n,m = n + 1 ∧ ∃ h : n < l.length,(rfGo q nx l out).2 = IntKind.i64.wrap (l[n].usn + size l[n].name.length)))
 | [],out,h=>⟨0,Nat.le_refl _,by simp [rfGo,kept],by simp only [rfGo];omega,.inl ⟨rfl,rfl⟩⟩
 | x :: l,out,h=>by
  simp only [rfGo]
  by_cases hs : Rd.skip q x = true
  ·rw [if_pos hs]
   obtain ⟨m,h1,h2,h3,h4⟩:=rfGo_law q nx l out h
   refine ⟨m + 1,by simp;omega,by rw [h2];simp [kept,hs],h3,?_⟩
   rcases h4 with ⟨h5,h6⟩ | ⟨h5,n,h6,h7,h8⟩
   ·exact .inl ⟨by simp;omega,h6⟩
   ·exact .inr ⟨h5,n + 1,by omega,by simp;omega,by simpa using h8⟩
  ·rw [if_neg hs]
   by_cases hc : ((out.length + 1 : Nat) : Int) = q.count
   ·rw [if_pos hc]
    exact ⟨1,by simp,by simp [kept,hs],by simp;omega,.inr ⟨by simpa using hc,0,rfl,by simp,by simp⟩⟩
   ·rw [if_neg hc]
    obtain ⟨m,h1,h2,h3,h4⟩:=rfGo_law q nx l (out ++ [x]) (by simp;omega)
    refine ⟨m + 1,by simp;omega,by rw [h2];simp [kept,hs],h3,?_⟩
    rcases h4 with ⟨h5,h6⟩ | ⟨h5,n,h6,h7,h8⟩
    ·exact .inl ⟨by simp;omega,h6⟩
    ·exact .inr ⟨h5,n + 1,by omega,by simp;omega,by simpa using h8⟩
theorem readF_at {j : Jrn} (hj : (checkJ j).2 = 0) {q : Qry} {k : Nat} (hk : k ≤ j.recs.length) (hid : q.id = j.id) (hq : q.pos = posA j k) (hr : 0 ≤ q.reasons ∧ q.reasons ≤ 4095) (hc : 1 ≤ q.count ∧ q.count ≤ 200) :
  ∃ m,k + m ≤ j.recs.length ∧ (k < j.recs.length → 0 < m) ∧ readF j q = (kept q ((j.recs.drop k).take m),posA j (k + m),0) ∧ ((kept q ((j.recs.drop k).take m)).length : Int) ≤ q.count ∧ (k + m = j.recs.length ∨ ((kept q ((j.recs.drop k).take m)).length : Int) = q.count):=by
 have V:=valid_of hj
 have hat:=rdAt_pos V hk hq
 have hb0:=posA_le V (Nat.zero_le k) hk
 have hb1:=posA_le V hk (Nat.le_refl _)
 rw [posA_zero] at hb0
 rw [posA_end V] at hb1
 have he : rdErr j q = 0:=by
  unfold rdErr
  have h1 : within q.reasons 0 4095 = true:=within_iff.2 hr
  have h2 : within q.count 1 200 = true:=within_iff.2 hc
  have h3 : ((rdAt j q).2 || decide (q.pos = j.next)) = true:=by
   rw [hat]
   by_cases hl : k < j.recs.length
   ·simp [hl]
   ·have : k = j.recs.length:=by omega
    subst this
    rw [hq,posA_end V];simp
  rw [hj,h1,h2,h3]
  have h4 : decide (q.id = j.id) = true:=by simp [hid]
  have h5 : decide (j.first ≤ q.pos) = true:=by rw [hq];simpa using hb0
  have h6 : decide (q.pos ≤ j.next) = true:=by rw [hq];simpa using hb1
  rw [h4,h5,h6]
  simp [first_cons,first_nil]
 have hf : rdFrom j q = j.recs.drop k:=by
  unfold rdFrom
  rw [hat,List.take_length]
 obtain ⟨m,h1,h2,h3,h4⟩:=rfGo_law q j.next (j.recs.drop k) [] (by simp;omega)
 rw [List.length_drop] at h1
 simp only [List.nil_append] at h2
 refine ⟨m,by omega,?_,?_,by rw [← h2];exact h3,?_⟩
 ·intro hl
  rcases h4 with ⟨h5,_⟩ | ⟨_,n,h6,_⟩
  ·rw [List.length_drop] at h5;omega
  ·omega
 ·have e2 : (rfGo q j.next (j.recs.drop k) []).2 = posA j (k + m):=by
   rcases h4 with ⟨h5,h6⟩ | ⟨_,n,h6,h7,h8⟩
   ·rw [List.length_drop] at h5
    rw [h6,show k + m = j.recs.length by omega,posA_end V]
   ·rw [List.length_drop] at h7
    rw [h8,h6]
    have hl : k + n < j.recs.length:=by omega
    have e : (j.recs.drop k)[n] = j.recs[k + n]:=by simp
    rw [e,posA_usn V hl,show k + (n + 1) = (k + n) + 1 by omega,posA_succ hl]
    have b1:=posA_bd V (Nat.le_of_lt hl)
    have b2:=size_bd (V.names _ (List.getElem_mem hl)).2
    exact wrap_in (by omega)
  unfold readF
  rw [if_neg (fun c=>c he),hf,h2,e2]
 ·rcases h4 with ⟨h5,_⟩ | ⟨h5,_⟩
  ·rw [List.length_drop] at h5;left;omega
  ·right;rw [← h2];exact h5
end Go.Proofs.YtkeeienjocbkbaaGreatDoor
namespace Go.Proofs.YtkeeienjocbkbaaGreatDoor
open Go Dw
def skipR (R : Int) (only : Bool) (x : Chg) : Bool:=decide (bitsOf .and .i64 x.reasons R = 0) || (only && !has x.reasons 2048)
def kp (R : Int) (only : Bool) (l : List Chg) : List Chg:=l.filter (fun x=>!skipR R only x)
theorem kept_kp (q : Qry) (l : List Chg) : kept q l = kp q.reasons q.only l:=by
 unfold kept kp
 refine List.filter_congr fun x _=>?_
 rw [skip_eq];rfl
def qk (j : Jrn) (R : Int) (only : Bool) (k : Nat) (c : Int) : Qry:=⟨j.id,posA j k,R,only,c⟩
theorem goes_ex {j : Jrn} (hj : (checkJ j).2 = 0) (R : Int) (only : Bool) (k : Nat) (c : Int) : ∃ m,(k ≤ j.recs.length → 0 ≤ R ∧ R ≤ 4095 → 1 ≤ c ∧ c ≤ 200 →
  k + m ≤ j.recs.length ∧ (k < j.recs.length → 0 < m) ∧ readF j (qk j R only k c) = (kp R only ((j.recs.drop k).take m),posA j (k + m),0) ∧ ((kp R only ((j.recs.drop k).take m)).length : Int) ≤ c ∧ (k + m = j.recs.length ∨ ((kp R only ((j.recs.drop k).take m)).length : Int) = c)):=by
 by_cases h : k ≤ j.recs.length ∧ (0 ≤ R ∧ R ≤ 4095) ∧ (1 ≤ c ∧ c ≤ 200)
 ·obtain ⟨m,h1,h2,h3,h4,h5⟩:=readF_at hj (q:=qk j R only k c) (k:=k) h.1 rfl rfl h.2.1 h.2.2
  rw [kept_kp] at h3 h4 h5
  exact ⟨m,fun _ _ _=>⟨h1,h2,h3,h4,h5⟩⟩
 ·exact ⟨0,fun a b c=>absurd ⟨a,b,c⟩ h⟩
noncomputable def mAt (j : Jrn) (R : Int) (only : Bool) (k : Nat) (c : Int) : Nat:=if hj : (checkJ j).2 = 0 then Classical.choose (goes_ex hj R only k c) else 0
noncomputable def seg (j : Jrn) (R : Int) (only : Bool) (k : Nat) (c : Int) : List Chg:=kp R only ((j.recs.drop k).take (mAt j R only k c))
theorem goes_at {j : Jrn} (hj : (checkJ j).2 = 0) {R : Int} {only : Bool} {k : Nat} {c : Int} (hk : k ≤ j.recs.length) (hR : 0 ≤ R ∧ R ≤ 4095) (hc : 1 ≤ c ∧ c ≤ 200) :
  k + mAt j R only k c ≤ j.recs.length ∧ (k < j.recs.length → 0 < mAt j R only k c) ∧ readF j (qk j R only k c) = (seg j R only k c,posA j (k + mAt j R only k c),0) ∧ ((seg j R only k c).length : Int) ≤ c ∧ (k + mAt j R only k c = j.recs.length ∨ ((seg j R only k c).length : Int) = c):=by
 have h:=Classical.choose_spec (goes_ex hj R only k c) hk hR hc
 unfold seg mAt
 rw [dif_pos hj]
 exact h
theorem bits_i {a b : Int} (ha : 0 ≤ a ∧ a ≤ 4095) (hb : 0 ≤ b ∧ b ≤ 4095) : bitsOf .and .i64 a b = ((a.toNat &&& b.toNat : Nat) : Int):=by
 have:=bits_and (a:=a.toNat) (b:=b.toNat) (by omega) (by omega)
 rwa [show ((a.toNat : Nat) : Int) = a by omega,show ((b.toNat : Nat) : Int) = b by omega] at this
theorem usn_sorted {j : Jrn} (V : Valid j) : j.recs.Pairwise (fun a b=>a.usn < b.usn):=by
 rw [List.pairwise_iff_getElem]
 intro a b ha hb hab
 rw [posA_usn V ha,posA_usn V hb]
 exact posA_lt V hab (Nat.le_of_lt hb)
end Go.Proofs.YtkeeienjocbkbaaGreatDoor
namespace Go.Proofs.YtkeeienjocbkbaaGreatDoor
open Go Dw
set_option maxRecDepth 10000
attribute [local irreducible] Run
set_option maxHeartbeats 2000000
theorem posV {j : Jrn} (V : Valid j) : ∀ x ∈ j.recs,0 ≤ x.usn ∧ x.usn ≤ 2147483647:=fun x hx=>by
 obtain ⟨k,hk,rfl⟩:=List.getElem_of_mem hx
 rw [posA_usn V hk]
 exact posA_bd V (Nat.le_of_lt hk)
attribute [local irreducible] leB refB size sz hdB opnB encB
end Go.Proofs.YtkeeienjocbkbaaGreatDoor
namespace Go.Proofs.YtkeeienjocbkbaaGreatDoor
open Go Dw
set_option maxRecDepth 10000
attribute [local irreducible] Run
set_option maxHeartbeats 4000000
theorem encB_pos (x : Chg) : 32 ≤ (encB x).length:=by
 rw [encB_eq,List.length_append,encA_length];omega
def nums (j : Jrn) : List Int:=[j.id,j.first,j.next,j.most]
def accA (j : Jrn) (k : Nat) : List UInt8:=((nums j).take k).flatMap fun n=>leB n.toNat 4
def accB (j : Jrn) (k : Nat) : List UInt8:=hdB j ++ (j.opens.take k).flatMap opnB
def accC (j : Jrn) (k : Nat) : List UInt8:=hdB j ++ j.opens.flatMap opnB ++ (j.recs.take k).flatMap encB
theorem accA_z (j : Jrn) : accA j 0 = []:=rfl
theorem accA_0 (j : Jrn) : accA j 1 = accA j 0 ++ leB j.id.toNat 4:=rfl
theorem accA_1 (j : Jrn) : accA j 2 = accA j 1 ++ leB j.first.toNat 4:=rfl
theorem accA_2 (j : Jrn) : accA j 3 = accA j 2 ++ leB j.next.toNat 4:=rfl
theorem accA_3 (j : Jrn) : accA j 4 = accA j 3 ++ leB j.most.toNat 4:=rfl
theorem accA_4 (j : Jrn) : accA j 4 ++ leB j.opens.length 2 = accB j 0:=by
 simp only [accA,nums,accB,hdB,List.take_zero,List.flatMap_nil,List.append_nil,List.take_succ_cons,List.flatMap_cons,List.append_assoc]
theorem accB_s (j : Jrn) {k : Nat} (h : k < j.opens.length) : accB j (k + 1) = accB j k ++ refB j.opens[k].file ++ leB j.opens[k].reasons.toNat 2:=by
 unfold accB;rw [flat_take h];simp only [opnB,List.append_assoc]
theorem accB_e (j : Jrn) {k : Nat} (h : j.opens.length ≤ k) : accB j k = accC j 0:=by
 unfold accB accC;rw [List.take_of_length_le h];simp
theorem accC_s (j : Jrn) {k : Nat} (h : k < j.recs.length) : accC j (k + 1) = accC j k ++ encB j.recs[k]:=by
 unfold accC;rw [flat_take h];simp only [List.append_assoc]
theorem accC_e (j : Jrn) {k : Nat} (h : j.recs.length ≤ k) : accC j k = jrnB j:=by
 unfold accC jrnB;rw [List.take_of_length_le h]
theorem accA_len (j : Jrn) {k : Nat} (h : k ≤ 4) : (accA j k).length ≤ 16:=by
 have e : ∀ (l : List Int),(l.flatMap fun n=>leB n.toNat 4).length = 4 * l.length:=by
  intro l
  induction l with
  | nil=>rfl
  | cons x l ih=>simp only [List.flatMap_cons,List.length_append,leB_length,ih,List.length_cons];omega
 unfold accA
 rw [e,List.length_take];omega
theorem accB_len {j : Jrn} (V : Valid j) (k : Nat) : (accB j k).length ≤ 1000:=by
 have:=V.opens
 unfold accB
 rw [List.length_append,hdB_length,opnsB_length,List.length_take];omega
theorem accC_len {j : Jrn} (V : Valid j) (k : Nat) : (accC j k).length ≤ 100000:=by
 have h1:=V.opens
 have h2:=V.recs
 have h3:=recsB_length (j.recs.take k) fun x hx=>V.recOk x (List.mem_of_mem_take hx)
 rw [List.length_take] at h3
 unfold accC
 rw [List.length_append,List.length_append,hdB_length,opnsB_length];omega
attribute [local irreducible] leB refB size sz hdB opnB encB accA accB accC
theorem c10 (j : Jrn) (hr : j.recs.length < 1000000) (hn : ∀ x ∈ j.recs,x.name.length < 1000000) (ho : j.opens.length < 1000000) : Fn 10 [j.enc] (.tup [.str (if (checkJ j).2 = 0 then jrnB j else []),i (checkJ j).2]):=by
 refine run_walkF eok Tryz.func10 rfl (by kernel_rfl) ?_
 conv=>whnf
 repeat' (first
 | ((with_reducible refine on_dec_f ?_ ?_);(focus ((try simp only [List.length_map,List.length_cons,List.length_nil,List.length_append]);omega));conv=>whnf)
 | ((with_reducible refine on_dec_t ?_ ?_);(focus ((try simp only [List.length_map,List.length_cons,List.length_nil,List.length_append]);omega));conv=>whnf)
 | ((with_reducible refine on_dec (fun h=>?_) (fun h=>?_))<;>(try simp only [List.length_map] at h)<;>conv=>whnf)
 | ((with_reducible refine on_ndec (fun h=>?_) (fun h=>?_))<;>(try simp only [List.length_map] at h)<;>conv=>whnf)
 | ((with_reducible refine on_not (fun h=>?_) (fun h=>?_))<;>conv=>whnf)
 | ((with_reducible refine onBool_split (fun h=>?_) (fun h=>?_))<;>conv=>whnf)
 | ((with_reducible refine call_go ?_);(first | refine call_step (run_view (c28 _ hr hn ho) rfl rfl) ?_ | refine call_step (run_buf (c32 (accA j 0) _ (by omega) (by have:=la 0 (by omega);omega)) rfl rfl rfl rfl) ?_ | refine call_step (run_buf (c32 (accA j 1) _ (by omega) (by have:=la 1 (by omega);omega)) rfl rfl rfl rfl) ?_ | refine call_step (run_buf (c32 (accA j 2) _ (by omega) (by have:=la 2 (by omega);omega)) rfl rfl rfl rfl) ?_ | refine call_step (run_buf (c32 (accA j 3) _ (by omega) (by have:=la 3 (by omega);omega)) rfl rfl rfl rfl) ?_ | refine call_step (run_buf (c33 (accA j k) _ (by rw [List.length_map];omega) (by have:=la k (by omega);omega)) rfl rfl rfl rfl) ?_ | refine call_step (run_buf (c33 (accB j k ++ refB (j.opens[k]'(by omega)).file) _ (by have:=vo2 _ (List.getElem_mem (l:=j.opens) (n:=k) (by omega));omega) (by have:=lb k;simp only [List.length_append,refB_length];omega)) rfl rfl rfl (by simp only [List.length_append])) ?_ | refine call_step (run_buf (c34 (accB j k) (j.opens[k]'(by omega)).file (by have:=vo _ (List.getElem_mem (l:=j.opens) (n:=k) (by omega));omega) (by have:=vo _ (List.getElem_mem (l:=j.opens) (n:=k) (by omega));omega) (by have:=lb k;omega)) rfl rfl rfl rfl) ?_ | refine call_step (run_view (c35 (j.recs[k]'(by omega)) (vp _ (List.getElem_mem _)) (vq _ (List.getElem_mem _))) rfl rfl) ?_);conv=>whnf)
 | (refine ⟨[],[(5,3)],(by decide +kernel),?_⟩;conv=>whnf)
 | (refine loop1 (fun (k : Nat)=>4 - k) (fun (k : Nat)=>k ≤ 4) (fun (k : Nat)=>[(1,.ptr 0 0 0),(5,.sl 1 0 (accA j k).length 1 none),(25,.agg [.d (i j.id),.d (i j.first),.d (i j.next),.d (i j.most)]),(26,.d (i k))]) (fun (k : Nat)=>[⟨[.d j.enc],6,0⟩,⟨(accA j k).map byteV,1,0⟩]) (0) (by exact Nat.zero_le _) ?_ (fun k C hI hC=>?_);(exact ⟨[.old 0,.void 1],rfl,rfl,⟨⟨rfl,rfl,rfl⟩,⟨rfl,rfl,(by rw [accA_z];rfl),rfl⟩,⟨rfl,rfl,rfl,rfl,trivial⟩,rfl,trivial⟩,⟨⟨rfl,rfl,.inl ⟨[_],rfl,rfl⟩⟩,⟨(by show (accA j 0).map byteV = [];rw [accA_z];rfl),rfl,(by decide),rfl⟩,trivial⟩⟩);have hv : (checkJ j).2 = 0:=(by simpa using h);have V:=valid_of hv;have vn:=V.nums;have vr:=V.recs;have vl:=V.opens;have vo:=fun x hx=>refErr_bd (V.opnOk x hx).1;have vo2:=fun x hx=>(V.opnOk x hx).2;have vq:=V.recOk;have vp:=posV V;have la:=fun k (hk : k ≤ 4)=>accA_len j hk;have lb:=accB_len V;have lc:=accC_len V;all_goals (conv=>whnf))
 | (refine hC (1) _ _ ?_ (by omega) ?_;clear hC;rotate_left;(exact ⟨[.old 0,.old 2],rfl,rfl,⟨(by first | exact congrArg (D.int .i64) (by omega) | exact ⟨rfl,rfl,rfl⟩ | exact ⟨rfl,rfl,rfl,rfl,rfl⟩ | (show (_ : D) = _;with_reducible rfl)),⟨rfl,rfl,(by rw [accA_0];(simp only [List.length_append,List.length_map])<;>rfl),rfl,rfl⟩,⟨rfl,rfl,rfl,rfl,trivial⟩,(by first | exact congrArg (D.int .i64) (by omega) | exact ⟨rfl,rfl,rfl⟩ | exact ⟨rfl,rfl,rfl,rfl,rfl⟩ | (show (_ : D) = _;with_reducible rfl)),trivial⟩,⟨⟨rfl,rfl,.inl ⟨[_],rfl,rfl⟩⟩,wkO_bytes (accA j 1) rfl rfl rfl (by (rw [accA_0])<;>rfl) rfl,trivial⟩⟩);(exact (by omega : 1 ≤ 4)))
 | (refine hC (2) _ _ ?_ (by omega) ?_;clear hC;rotate_left;(exact ⟨[.old 0,.old 2],rfl,rfl,⟨(by first | exact congrArg (D.int .i64) (by omega) | exact ⟨rfl,rfl,rfl⟩ | exact ⟨rfl,rfl,rfl,rfl,rfl⟩ | (show (_ : D) = _;with_reducible rfl)),⟨rfl,rfl,(by rw [accA_1];(simp only [List.length_append,List.length_map])<;>rfl),rfl,rfl⟩,⟨rfl,rfl,rfl,rfl,trivial⟩,(by first | exact congrArg (D.int .i64) (by omega) | exact ⟨rfl,rfl,rfl⟩ | exact ⟨rfl,rfl,rfl,rfl,rfl⟩ | (show (_ : D) = _;with_reducible rfl)),trivial⟩,⟨⟨rfl,rfl,.inl ⟨[_],rfl,rfl⟩⟩,wkO_bytes (accA j 2) rfl rfl rfl (by (rw [accA_1])<;>rfl) rfl,trivial⟩⟩);(exact (by omega : 2 ≤ 4)))
 | (refine hC (3) _ _ ?_ (by omega) ?_;clear hC;rotate_left;(exact ⟨[.old 0,.old 2],rfl,rfl,⟨(by first | exact congrArg (D.int .i64) (by omega) | exact ⟨rfl,rfl,rfl⟩ | exact ⟨rfl,rfl,rfl,rfl,rfl⟩ | (show (_ : D) = _;with_reducible rfl)),⟨rfl,rfl,(by rw [accA_2];(simp only [List.length_append,List.length_map])<;>rfl),rfl,rfl⟩,⟨rfl,rfl,rfl,rfl,trivial⟩,(by first | exact congrArg (D.int .i64) (by omega) | exact ⟨rfl,rfl,rfl⟩ | exact ⟨rfl,rfl,rfl,rfl,rfl⟩ | (show (_ : D) = _;with_reducible rfl)),trivial⟩,⟨⟨rfl,rfl,.inl ⟨[_],rfl,rfl⟩⟩,wkO_bytes (accA j 3) rfl rfl rfl (by (rw [accA_2])<;>rfl) rfl,trivial⟩⟩);(exact (by omega : 3 ≤ 4)))
 | (refine hC (4) _ _ ?_ (by omega) ?_;clear hC;rotate_left;(exact ⟨[.old 0,.old 2],rfl,rfl,⟨(by first | exact congrArg (D.int .i64) (by omega) | exact ⟨rfl,rfl,rfl⟩ | exact ⟨rfl,rfl,rfl,rfl,rfl⟩ | (show (_ : D) = _;with_reducible rfl)),⟨rfl,rfl,(by rw [accA_3];(simp only [List.length_append,List.length_map])<;>rfl),rfl,rfl⟩,⟨rfl,rfl,rfl,rfl,trivial⟩,(by first | exact congrArg (D.int .i64) (by omega) | exact ⟨rfl,rfl,rfl⟩ | exact ⟨rfl,rfl,rfl,rfl,rfl⟩ | (show (_ : D) = _;with_reducible rfl)),trivial⟩,⟨⟨rfl,rfl,.inl ⟨[_],rfl,rfl⟩⟩,wkO_bytes (accA j 4) rfl rfl rfl (by (rw [accA_3])<;>rfl) rfl,trivial⟩⟩);(exact (by omega : 4 ≤ 4)))
 | (refine loop1 (fun (k : Nat)=>j.opens.length - k) (fun (k : Nat)=>k ≤ j.opens.length) (fun (k : Nat)=>[(1,.ptr 0 0 0),(5,.sl 1 0 (accB j k).length 1 none),(41,.d (.fs (j.opens.map Opn.enc))),(42,.d (i j.opens.length)),(43,.d (i k))]) (fun (k : Nat)=>[⟨[.d j.enc],6,0⟩,⟨(accB j k).map byteV,1,0⟩]) (0) (by exact Nat.zero_le _) ?_ (fun k C hI hC=>?_);(exact ⟨[.old 0,.old 2],rfl,rfl,⟨⟨rfl,rfl,rfl⟩,⟨rfl,rfl,(by have h4 : k = 4:=(by omega);subst h4;rw [← accA_4];(simp only [List.length_append,List.length_map,leB_length])<;>rfl),rfl,rfl⟩,rfl,(congrArg (D.int .i64) (by (rw [List.length_map])<;>rfl)),rfl,trivial⟩,⟨⟨rfl,rfl,.inl ⟨[_],rfl,rfl⟩⟩,wkO_bytes (accB j 0) rfl rfl rfl (by have h4 : k = 4:=(by omega);subst h4;(rw [← accA_4,← List.length_map (f:=Opn.enc)])<;>rfl) rfl,trivial⟩⟩);all_goals (conv=>whnf))
 | (refine hC (k + 1) _ _ ?_ (by omega) ?_;clear hC;rotate_left;(exact ⟨[.old 0,.old 4],rfl,rfl,⟨(by first | exact congrArg (D.int .i64) (by omega) | exact ⟨rfl,rfl,rfl⟩ | exact ⟨rfl,rfl,rfl,rfl,rfl⟩ | (show (_ : D) = _;with_reducible rfl)),⟨rfl,rfl,(by rw [accB_s j (by omega)];(simp only [List.length_append,List.length_map])<;>rfl),rfl,rfl⟩,(by first | exact congrArg (D.int .i64) (by omega) | exact ⟨rfl,rfl,rfl⟩ | exact ⟨rfl,rfl,rfl,rfl,rfl⟩ | (show (_ : D) = _;with_reducible rfl)),(by first | exact congrArg (D.int .i64) (by omega) | exact ⟨rfl,rfl,rfl⟩ | exact ⟨rfl,rfl,rfl,rfl,rfl⟩ | (show (_ : D) = _;with_reducible rfl)),(by first | exact congrArg (D.int .i64) (by omega) | exact ⟨rfl,rfl,rfl⟩ | exact ⟨rfl,rfl,rfl,rfl,rfl⟩ | (show (_ : D) = _;with_reducible rfl)),trivial⟩,⟨⟨rfl,rfl,.inl ⟨[_],rfl,rfl⟩⟩,wkO_bytes (accB j (k + 1)) rfl rfl rfl (by (rw [accB_s j (by omega)])<;>rfl) rfl,trivial⟩⟩);(exact (by omega : k + 1 ≤ j.opens.length)))
 | (refine loop1 (fun (k : Nat)=>j.recs.length - k) (fun (k : Nat)=>k ≤ j.recs.length) (fun (k : Nat)=>[(1,.ptr 0 0 0),(5,.sl 1 0 (accC j k).length 1 none),(57,.d (.fs (j.recs.map Chg.enc))),(58,.d (i j.recs.length)),(59,.d (i k))]) (fun (k : Nat)=>[⟨[.d j.enc],6,0⟩,⟨(accC j k).map byteV,1,0⟩]) (0) (by exact Nat.zero_le _) ?_ (fun k C hI hC=>?_);(exact ⟨[.old 0,.old 1],rfl,rfl,⟨⟨rfl,rfl,rfl⟩,⟨rfl,rfl,(by rw [accB_e j (by omega)]),rfl,rfl⟩,rfl,(congrArg (D.int .i64) (by (rw [List.length_map])<;>rfl)),rfl,trivial⟩,⟨⟨rfl,rfl,.inl ⟨[_],rfl,rfl⟩⟩,wkO_bytes (accC j 0) rfl rfl rfl (by rw [accB_e j (by omega)]) rfl,trivial⟩⟩);all_goals (conv=>whnf))
 | (refine hC (k + 1) _ _ ?_ (by omega) ?_;clear hC;rotate_left;(exact ⟨[.old 0,.old 3],rfl,rfl,⟨(by first | exact congrArg (D.int .i64) (by omega) | exact ⟨rfl,rfl,rfl⟩ | exact ⟨rfl,rfl,rfl,rfl,rfl⟩ | (show (_ : D) = _;with_reducible rfl)),⟨rfl,rfl,(by rw [accC_s j (by omega)];(simp only [List.length_append,List.length_map])<;>rfl),rfl,rfl⟩,(by first | exact congrArg (D.int .i64) (by omega) | exact ⟨rfl,rfl,rfl⟩ | exact ⟨rfl,rfl,rfl,rfl,rfl⟩ | (show (_ : D) = _;with_reducible rfl)),(by first | exact congrArg (D.int .i64) (by omega) | exact ⟨rfl,rfl,rfl⟩ | exact ⟨rfl,rfl,rfl,rfl,rfl⟩ | (show (_ : D) = _;with_reducible rfl)),(by first | exact congrArg (D.int .i64) (by omega) | exact ⟨rfl,rfl,rfl⟩ | exact ⟨rfl,rfl,rfl,rfl,rfl⟩ | (show (_ : D) = _;with_reducible rfl)),trivial⟩,⟨⟨rfl,rfl,.inl ⟨[_],rfl,rfl⟩⟩,wkO_bytes (accC j (k + 1)) rfl rfl rfl (by (rw [accC_s j (by omega),List.map_append])<;>rfl) rfl,trivial⟩⟩);(exact (by omega : k + 1 ≤ j.recs.length)))
 | (refine ⟨⟨(by first | rfl | (simp;done)),cap_ok (by simp only [List.length_map,List.length_cons,List.length_nil,List.length_append];omega) rfl⟩,?_⟩;conv=>whnf)
 | (refine ⟨mem_one ⟨rfl,rfl⟩,?_⟩;conv=>whnf)
 | (refine ⟨(by intro y hy;obtain ⟨x,_,rfl⟩:=List.mem_map.1 hy;first | rfl | exact ⟨rfl,rfl⟩),?_⟩;conv=>whnf)
 | (refine ⟨cap_ok (by first | omega | (simp only [List.length_map];omega)) rfl,?_⟩;conv=>whnf)
 | (refine ix_map (by omega) ?_;conv=>whnf)
 | (refine ix_str (by omega) ?_;conv=>whnf)
 | (refine wrap64 (by omega) ?_;conv=>whnf)
 | (refine wrapU16 (by have:=vo2 _ (List.getElem_mem (l:=j.opens) (n:=k) (by omega));omega) ?_;conv=>whnf)
 | (rcases (by omega : k = 0 ∨ k = 1 ∨ k = 2 ∨ k = 3) with rfl | rfl | rfl | rfl<;>(refine ⟨⟨by decide,by decide⟩,?_⟩;conv=>whnf))
 | (refine wrapU16 (by rw [List.length_map];omega) ?_;conv=>whnf)
 | (refine ⟨⟨(by simp only [List.length_map];omega),cap_ok (by have:=lc k;have:=encB_length (vq _ (List.getElem_mem (l:=j.recs) (n:=k) (by omega)));simp only [List.length_map];omega) rfl⟩,?_⟩;conv=>whnf)
 | (refine ⟨jrnB j,⟨(by rw [accC_e j (by omega)];simp),(by rw [accC_e j (by omega),List.drop_zero];exact List.take_of_length_le (by simp))⟩,?_⟩;conv=>whnf)
 | (exfalso;have:=encB_pos (j.recs[k]'(by omega));(try simp only [List.length_map] at h);omega)
 | (refine wrap64 (by omega) ?_;conv=>whnf)
 | (refine wrapU32 (by omega) ?_;conv=>whnf)
 | (refine wrapU16 (by omega) ?_;conv=>whnf)
 | (refine wrapU8n ?_;conv=>whnf)
 | (refine wrapU16n ?_;conv=>whnf)
 | (refine shr_n 256 rfl rfl ?_;conv=>whnf)
 | (refine shr_n 65536 rfl rfl ?_;conv=>whnf)
 | (refine shr_n 16777216 rfl rfl ?_;conv=>whnf)
 | (refine ⟨Nat.le_refl _,?_⟩;conv=>whnf)
 | (refine ⟨⟨(by simp only [List.length_map,List.length_append];omega),cap_ok (by simp only [List.length_map,List.length_cons,List.length_nil,List.length_append,leB_length,refB_length];omega) rfl⟩,?_⟩;conv=>whnf)
 | (refine ⟨cap_ok (by simp only [List.length_map,List.length_cons,List.length_nil,List.length_append,leB_length,refB_length];omega) rfl,?_⟩;conv=>whnf)
 | (exfalso;simp only [List.length_map,List.length_cons,List.length_nil,List.length_append] at h;omega)
 | ((with_reducible refine endx_go ?_);first | (refine endx2 ?_;(rw [if_neg h])<;>rfl;done) | (refine endx2 ?_;(rw [if_pos hv,hv])<;>rfl;done))
 | (refine ⟨rfl,?_⟩;conv=>whnf)
  | fail
  )
end Go.Proofs.YtkeeienjocbkbaaGreatDoor
namespace Go.Proofs.YtkeeienjocbkbaaGreatDoor
open Go Dw
theorem zeros4 : ([0,0,0,0] : Bs) = Dw.leB 0 4:=by decide
section
attribute [local irreducible] Dw.leB
theorem nAt_here {n c : Nat} {t : Bs} (hn : n < 256 ^ c) : nAt (Dw.leB n c ++ t) 0 c = n:=by
 unfold nAt
 rw [List.drop_zero,List.take_left' (Dw.leB_length n c),leN_leB,Nat.mod_eq_of_lt hn]
theorem nAt_skip (a : Nat) {n c d : Nat} {t : Bs} : nAt (Dw.leB n c ++ t) (a + c) d = nAt t a d:=by
 unfold nAt
 rw [show a + c = (Dw.leB n c).length + a by rw [Dw.leB_length];omega,List.drop_append,List.drop_eq_nil_of_le (by omega),List.nil_append,Nat.add_sub_cancel_left]
theorem sz_bd {x : Chg} (hv : recordErr x = 0) : 32 + x.name.length ≤ sz x ∧ sz x ≤ 72 ∧ (sz x : Int) = (((32 + x.name.length : Nat) : Int) + 7) / 8 * 8:=by
 have v6:=nameErr_ok (recordErr_ok hv).2.2.2.2
 unfold sz size;omega
theorem encB_len {x : Chg} (hv : recordErr x = 0) : (encB x).length = sz x:=by
 have:=sz_bd hv
 rw [encB_eq,List.length_append,encA_length,List.length_replicate];omega
theorem enc_flat (x : Chg) (t : Bs) : encB x ++ t = Dw.leB (sz x) 4 ++ (Dw.leB x.usn.toNat 4 ++ (Dw.leB x.file.r.toNat 4 ++ (Dw.leB x.file.s.toNat 2 ++ (Dw.leB x.parent.r.toNat 4 ++ (Dw.leB x.parent.s.toNat 2 ++
  (Dw.leB x.tick.toNat 4 ++ (Dw.leB x.reasons.toNat 2 ++ (Dw.leB x.name.length 2 ++ (Dw.leB 0 4 ++ (x.name ++ (List.replicate (sz x - 32 - x.name.length) 0 ++ t))))))))))):=by
 unfold encB encH refB
 rw [zeros4]
 simp only [List.append_assoc]
theorem ofR_enc {x : Chg} (t : Bs) (h : cbErr x = 0) : ofR (encB x ++ t) = (x,(sz x : Int),0):=by
 obtain ⟨hu,hv⟩:=cbErr_ok h
 obtain ⟨v1,v2,v3,v4,v5⟩:=recordErr_ok hv
 have v6:=nameErr_ok v5;have v7:=refErr_bd v1;have v8:=refErr_bd v2
 obtain ⟨w1,w2,w3⟩:=sz_bd hv
 have hl:=encB_len hv
 have e:=enc_flat x t
 have b2 : (256 ^ 2 : Nat) = 65536:=by decide
 have b4 : (256 ^ 4 : Nat) = 4294967296:=by decide
 have a0 : nAt (encB x ++ t) 0 4 = sz x:=by rw [e];exact nAt_here (by omega)
 have a4 : nAt (encB x ++ t) 4 4 = x.usn.toNat:=by rw [e];exact (nAt_skip 0).trans (nAt_here (by omega))
 have a8 : nAt (encB x ++ t) 8 4 = x.file.r.toNat:=by rw [e];exact (nAt_skip 4).trans ((nAt_skip 0).trans (nAt_here (by omega)))
 have a12 : nAt (encB x ++ t) 12 2 = x.file.s.toNat:=by rw [e];exact (nAt_skip 8).trans ((nAt_skip 4).trans ((nAt_skip 0).trans (nAt_here (by omega))))
 have a14 : nAt (encB x ++ t) 14 4 = x.parent.r.toNat:=by rw [e];exact (nAt_skip 10).trans ((nAt_skip 6).trans ((nAt_skip 2).trans ((nAt_skip 0).trans (nAt_here (by omega)))))
 have a18 : nAt (encB x ++ t) 18 2 = x.parent.s.toNat:=by rw [e];exact (nAt_skip 14).trans ((nAt_skip 10).trans ((nAt_skip 6).trans ((nAt_skip 4).trans ((nAt_skip 0).trans (nAt_here (by omega))))))
 have a20 : nAt (encB x ++ t) 20 4 = x.tick.toNat:=by rw [e];exact (nAt_skip 16).trans ((nAt_skip 12).trans ((nAt_skip 8).trans ((nAt_skip 6).trans ((nAt_skip 2).trans ((nAt_skip 0).trans (nAt_here (by omega)))))))
 have a24 : nAt (encB x ++ t) 24 2 = x.reasons.toNat:=by rw [e];exact (nAt_skip 20).trans ((nAt_skip 16).trans ((nAt_skip 12).trans ((nAt_skip 10).trans ((nAt_skip 6).trans ((nAt_skip 4).trans ((nAt_skip 0).trans (nAt_here (by omega))))))))
 have a26 : nAt (encB x ++ t) 26 2 = x.name.length:=by rw [e];exact (nAt_skip 22).trans ((nAt_skip 18).trans ((nAt_skip 14).trans ((nAt_skip 12).trans ((nAt_skip 8).trans ((nAt_skip 6).trans ((nAt_skip 2).trans ((nAt_skip 0).trans (nAt_here (by omega)))))))))
 have a28 : nAt (encB x ++ t) 28 4 = 0:=by rw [e];exact (nAt_skip 24).trans ((nAt_skip 20).trans ((nAt_skip 16).trans ((nAt_skip 14).trans ((nAt_skip 10).trans ((nAt_skip 8).trans ((nAt_skip 4).trans ((nAt_skip 2).trans ((nAt_skip 0).trans (nAt_here (by omega))))))))))
 have hz : ((encB x ++ t).take (sz x)).drop (32 + x.name.length) = List.replicate (sz x - 32 - x.name.length) 0:=by
  rw [List.take_left' hl,encB_eq,List.drop_left' (encA_length x)]
 have hnm : ((encB x ++ t).take (32 + x.name.length)).drop 32 = x.name:=by
  rw [encB_eq,List.append_assoc,List.take_left' (encA_length x)]
  unfold encA
  rw [List.drop_left' (by simp [encH_length])]
 have hr : recAt (encB x ++ t) = x:=by
  unfold recAt
  rw [a4,a8,a12,a14,a18,a20,a24,a26,hnm]
  obtain ⟨u,⟨fr,fs⟩,⟨pr,ps⟩,tk,q,nm⟩:=x
  simp only at *
  rw [Int.toNat_of_nonneg hu.1,Int.toNat_of_nonneg v7.1.1,Int.toNat_of_nonneg (by omega : 0 ≤ fs),Int.toNat_of_nonneg v8.1.1,Int.toNat_of_nonneg (by omega : 0 ≤ ps),Int.toNat_of_nonneg v3.1,Int.toNat_of_nonneg (by omega : 0 ≤ q)]
 have hf : formB (encB x ++ t) = true:=form_t (by rw [a0,a26];exact w3) a28 (by rw [a0,a26,hz];unfold isz;simp)
 have hlen : (encB x ++ t).length = sz x + t.length:=by rw [List.length_append,hl]
 rw [ofR_o (by omega) (by omega) hf (by rw [hr];exact h),hr,a0]
theorem recsGo_enc : ∀ (l : List Chg) (f : Nat) (acc : List Chg),(∀ x ∈ l,cbErr x = 0) → (l.flatMap encB).length ≤ f → recsGo f (l.flatMap encB) acc = (acc ++ l,0)
 | [],f,acc,_,_=>by rw [recsGo_nil (by simp),List.append_nil]
 | x :: l,f,acc,h,hf=>by
  have hx:=h x (by simp)
  have hl:=encB_len (cbErr_ok hx).2
  have h32:=encB_pos x
  have eo:=ofR_enc (x:=x) (l.flatMap encB) hx
  rw [List.flatMap_cons] at hf ⊢
  rw [List.length_append] at hf
  rw [recsGo_o (by intro h0;have:=congrArg List.length h0;simp only [List.length_append,List.length_nil] at this;omega) (by rw [List.length_append];exact hf) (by rw [eo]),eo]
  simp only [Int.toNat_natCast]
  rw [List.drop_left' hl,recsGo_enc l (f - 1) _ (fun y hy=>h y (by simp [hy])) (by omega),List.append_assoc];rfl
theorem cb_of {x : Chg} (h1 : 0 ≤ x.usn ∧ x.usn ≤ 2147483647) (h2 : recordErr x = 0) : cbErr x = 0:=by
 unfold cbErr
 rw [within_iff.2 h1,h2];rfl
theorem opn_flat (x : Opn) (t : Bs) : opnB x ++ t = Dw.leB x.file.r.toNat 4 ++ (Dw.leB x.file.s.toNat 2 ++ (Dw.leB x.reasons.toNat 2 ++ t)):=by
 unfold opnB refB
 simp only [List.append_assoc]
theorem hd_flat (j : Jrn) (t : Bs) : hdB j ++ t = Dw.leB j.id.toNat 4 ++ (Dw.leB j.first.toNat 4 ++ (Dw.leB j.next.toNat 4 ++ (Dw.leB j.most.toNat 4 ++ (Dw.leB j.opens.length 2 ++ t)))):=by
 unfold hdB
 simp only [List.append_assoc]
theorem jrn_drop {j : Jrn} {k : Nat} (h : k ≤ j.opens.length) : (jrnB j).drop (18 + 8 * k) = (j.opens.drop k).flatMap opnB ++ j.recs.flatMap encB:=by
 have e : jrnB j = (hdB j ++ (j.opens.take k).flatMap opnB) ++ ((j.opens.drop k).flatMap opnB ++ j.recs.flatMap encB):=by
  have e0 : j.opens.flatMap opnB = (j.opens.take k).flatMap opnB ++ (j.opens.drop k).flatMap opnB:=by rw [← List.flatMap_append,List.take_append_drop]
  unfold jrnB
  rw [e0]
  simp only [List.append_assoc]
 rw [e,List.drop_left']
 rw [List.length_append,hdB_length,opnsB_length,List.length_take,Nat.min_eq_left h]
theorem opns_enc {j : Jrn} (V : Valid j) : ∀ k,k ≤ j.opens.length → opnsAt (jrnB j) k = j.opens.take k
 | 0,_=>rfl
 | k + 1,h=>by
  rw [opnsAt_succ,opns_enc V k (by omega),List.take_succ_eq_append_getElem (by omega)]
  congr 2
  have hd:=jrn_drop (j:=j) (k:=k) (by omega)
  rw [List.drop_eq_getElem_cons (by omega : k < j.opens.length),List.flatMap_cons,List.append_assoc,opn_flat] at hd
  obtain ⟨h1,h2⟩:=V.opnOk j.opens[k] (List.getElem_mem _)
  have v7:=refErr_bd h1
  have b2 : (256 ^ 2 : Nat) = 65536:=by decide
  have b4 : (256 ^ 4 : Nat) = 4294967296:=by decide
  have a0 : nAt (jrnB j) (18 + 8 * k) 4 = j.opens[k].file.r.toNat:=by
   have:=nAt_dr (s:=jrnB j) (a:=18 + 8 * k) (b:=0) (c:=4)
   rw [hd] at this;rw [← Nat.add_zero (18 + 8 * k),← this];exact nAt_here (by omega)
  have a4 : nAt (jrnB j) (18 + 8 * k + 4) 2 = j.opens[k].file.s.toNat:=by
   rw [← nAt_dr,hd];exact (nAt_skip 0).trans (nAt_here (by omega))
  have a6 : nAt (jrnB j) (18 + 8 * k + 6) 2 = j.opens[k].reasons.toNat:=by
   rw [← nAt_dr,hd];exact (nAt_skip 2).trans ((nAt_skip 0).trans (nAt_here (by omega)))
  unfold opnAt
  rw [a0,a4,a6]
  generalize j.opens[k] = o at *
  obtain ⟨⟨fr,fs⟩,q⟩:=o
  simp only at *
  rw [Int.toNat_of_nonneg v7.1.1,Int.toNat_of_nonneg (by omega : 0 ≤ fs),Int.toNat_of_nonneg (by omega : 0 ≤ q)]
theorem jof_enc {j : Jrn} (V : Valid j) (hs : (jrnB j).length ≤ 20000) : jofR (jrnB j) = (j,0):=by
 have e : jrnB j = hdB j ++ (j.opens.flatMap opnB ++ j.recs.flatMap encB):=by unfold jrnB;rw [List.append_assoc]
 have hlen : (jrnB j).length = 18 + 8 * j.opens.length + (j.recs.flatMap encB).length:=by rw [e,List.length_append,List.length_append,hdB_length,opnsB_length];omega
 have ho:=V.opens
 obtain ⟨n1,n2,n3,n4⟩:=V.nums
 have b2 : (256 ^ 2 : Nat) = 65536:=by decide
 have b4 : (256 ^ 4 : Nat) = 4294967296:=by decide
 rw [hd_flat] at e
 have a0 : nAt (jrnB j) 0 4 = j.id.toNat:=by rw [e];exact nAt_here (by omega)
 have a4 : nAt (jrnB j) 4 4 = j.first.toNat:=by rw [e];exact (nAt_skip 0).trans (nAt_here (by omega))
 have a8 : nAt (jrnB j) 8 4 = j.next.toNat:=by rw [e];exact (nAt_skip 4).trans ((nAt_skip 0).trans (nAt_here (by omega)))
 have a12 : nAt (jrnB j) 12 4 = j.most.toNat:=by rw [e];exact (nAt_skip 8).trans ((nAt_skip 4).trans ((nAt_skip 0).trans (nAt_here (by omega))))
 have a16 : nAt (jrnB j) 16 2 = j.opens.length:=by rw [e];exact (nAt_skip 12).trans ((nAt_skip 8).trans ((nAt_skip 4).trans ((nAt_skip 0).trans (nAt_here (by omega)))))
 have hj : jR (jrnB j) = (j.recs,0):=by
  unfold jR
  rw [a16,jrn_drop (Nat.le_refl _),List.drop_length,List.flatMap_nil,List.nil_append,recsGo_enc _ _ _ (fun x hx=>cb_of (posV V x hx) (V.recOk x hx)) (by omega)];rfl
 have hh : hdJ (jrnB j) j.recs = j:=by
  unfold hdJ
  rw [a0,a4,a8,a12,a16,opns_enc V _ (Nat.le_refl _),List.take_length]
  obtain ⟨id,fi,ne,mo,rs,os⟩:=j
  simp only at *
  rw [Int.toNat_of_nonneg n1.1,Int.toNat_of_nonneg n2.1,Int.toNat_of_nonneg n3.1,Int.toNat_of_nonneg (by omega : 0 ≤ mo)]
 rw [jof_o (by omega) (by omega) (by rw [a16];omega) hj (by rw [hh];exact valid_check V),hh]
end
end Go.Proofs.YtkeeienjocbkbaaGreatDoor
namespace Go.Proofs.YtkeeienjocbkbaaGreatDoor
open Go Dw
section
variable {j : Jrn} {e : Evt} (V : Valid j) (he : eventErr e = 0) (hb : 0 ≤ e.reasons ∧ e.reasons < 512)
include hb in
include V he hb in
include V in
include V he hb in
end
end Go.Proofs.YtkeeienjocbkbaaGreatDoor
namespace Go.Proofs.YtkeeienjocbkbaaGreatDoor
open Go Dw
set_option maxRecDepth 10000
attribute [local irreducible] Run
set_option maxHeartbeats 600000
def ev1 (e : Evt) : Evt:=⟨e.file,e.parent,e.tick,e.reasons % 512,e.name,⟨0,0⟩,[]⟩
theorem c10v {j : Jrn} (V : Valid j) : Fn 10 [j.enc] (.tup [.str (jrnB j),i 0]):=by
 have B:=bd_valid V
 have:=c10 j B.r B.n B.o
 rwa [valid_check V,if_pos rfl] at this
theorem c9v {j : Jrn} (V : Valid j) (hs : (jrnB j).length ≤ 20000) : Fn 15 [.str (jrnB j)] (.tup [j.enc,i 0]):=by
 have:=cJ9 (jrnB j) (by omega)
 rwa [jof_enc V hs] at this
theorem c16s {j : Jrn} (V : Valid j) : Fn 16 [j.enc,j.enc] (.bool true):=by
 have:=c16b (bd_valid V) (bd_valid V)
 rwa [decide_eq_true rfl] at this
theorem c8v {j b : Jrn} {e : Evt} (V : Valid j) (hn : e.name.length < 1000000 ∧ e.nn.length < 1000000) (h : noted j e = (b,0)) : Fn 8 [j.enc,e.enc] (.tup [b.enc,i 0]):=by
 have B:=bd_valid V
 have:=c8 j e hn.1 hn.2 B.r B.n B.o
 rwa [h] at this
attribute [local irreducible] jofR ofR jrnB encB first checkJ eventErr fewB shortB allR noted openB withI woI cbErr ev1
end Go.Proofs.YtkeeienjocbkbaaGreatDoor
