/-
  Own lemmas, no conditions: Qb, Qa, Qc, Qd, Qh, Qe, Qf, Qg.
-/
import Derived.Test.YtkeeienjocbkbaaGreatDoorGrpG
set_option linter.unusedVariables false
set_option linter.unusedSimpArgs false
namespace Go.Proofs.YtkeeienjocbkbaaGreatDoor
open Go Dw
theorem chain_split : ∀ (d : List Chg) {r : List Chg} {a b : Int},Chain a (d ++ r) b → Chain (pos a d) r b
 | [],_,_,_,h=>h
 | _ :: d,_,_,_,h=>chain_split d h.2.2
theorem chain_pos : ∀ {l : List Chg} {a b : Int},Chain a l b → pos a l = b
 | [],_,_,h=>h
 | _ :: l,_,_,h=>chain_pos (l:=l) h.2.2
theorem chain_uniq : ∀ {l : List Chg} {a c b : Int},Chain a l b → Chain c l b → a = c
 | [],_,_,_,h,k=>by simp only [Chain] at h k;omega
 | _ :: _,_,_,_,h,k=>by have:=h.2.1;have:=k.2.1;omega
structure Aft (j x : Jrn) (d N : List Chg) : Prop where
 recs : j.recs ++ N = d ++ x.recs
 new : ∀ y ∈ N,j.next ≤ y.usn
 first : x.first = pos j.first d
 id : x.id = j.id
 most : x.most = j.most
 next : j.next ≤ x.next ∧ x.next ≤ j.next + 288
 opens : x.opens.length ≤ j.opens.length + 1
 fit : x.recs = [] ∨ x.next - x.first ≤ j.most
 nm : ∀ y ∈ d,y.name.length ≤ 32
theorem after_shape {j : Jrn} {e : Evt} (V : Valid j) (he : eventErr e = 0) : ∃ d N,Aft j (after j e) d N:=by
 obtain ⟨s,hb⟩:=aft_ok V he
 obtain ⟨N,w,hl,_,_⟩:=aft_new V he
 have hv:=V.nums
 have hn:=s.next
 unfold after Jrn.trim Jrn.opened
 generalize aft3 e (aft2 e (aft1 j e)) = p at *
 have hc:=s.chain
 rw [s.first] at hc
 obtain ⟨d,e1,e2,e3,e4,e5⟩:=trim_law (m:=p.2.most) hc (by omega) (by omega)
 have ht:=trim_chain (m:=p.2.most) hc (by omega) (by omega)
 simp only [s.first]
 have hc':=hc
 rw [e1] at hc'
 refine ⟨d,N,?_,fun y hy=>(w.each y hy).2.2,?_,s.id,s.most,?_,?_,?_,fun y hy=>?_⟩
 ·rw [← w.recs];exact e1
 ·exact chain_uniq ht.1 (chain_split d hc')
 ·exact ⟨hn.1,by show p.2.next ≤ j.next + 288;omega⟩
 ·obtain ⟨k,k1,k2,k3,k4⟩:=opAt_ahead V e.file
  have h3 : ∀ a b (h : b < j.opens.length),(hab : a < b) → compare (j.opens[a]'(by omega)).file j.opens[b].file < 0:=fun a b h hab=>opens_lt V hab h
  simp only [s.opens]
  rw [openGo_law (f:=e.file) (r:=p.1) (decide (p.1 = 0)) j.opens k [] k1 k2 k3 h3,List.nil_append,List.length_append,List.length_append,List.length_take,List.length_drop]
  have e7 : (if decide (p.1 = 0) = true then [] else [(⟨e.file,p.1⟩ : Opn)]).length ≤ 1:=by split<;>simp
  generalize (if decide (p.1 = 0) = true then [] else [(⟨e.file,p.1⟩ : Opn)]).length = z at *
  split
  ·split<;>omega
  ·omega
 ·rcases e4 with h | h
  ·exact .inl h
  ·right;rw [s.most] at *;exact h
 ·exact (rec_nm (hc'.mem y (List.mem_append_left _ hy))).2
theorem after_read {j x : Jrn} {d N : List Chg} (V : Valid j) (h : Aft j x d N) : ∃ k,k ≤ x.recs.length ∧ (if j.next < x.first then x.first else j.next) = posA x k ∧ (∀ y ∈ x.recs.take k,y ∈ j.recs) ∧ (∀ y ∈ x.recs.drop k,j.next ≤ y.usn):=by
 have hj:=chain_pos V.chain
 by_cases hd : d.length ≤ j.recs.length
 ·have h1 : d = j.recs.take d.length:=by
   have:=congrArg (List.take d.length) h.recs
   rw [List.take_append_of_le_length hd,List.take_left] at this
   exact this.symm
  have h2 : x.recs = j.recs.drop d.length ++ N:=by
   have:=congrArg (List.drop d.length) h.recs
   rw [List.drop_append_of_le_length hd,List.drop_left] at this
   exact this.symm
  have hf : pos x.first (j.recs.drop d.length) = j.next:=by
   rw [h.first,← pos_app]
   conv=>lhs;rw [h1]
   rw [List.length_take,(by omega : min d.length j.recs.length = d.length),List.take_append_drop,hj]
  have hle : x.first ≤ j.next:=by
   have:=(pos_bd (j.recs.drop d.length) x.first (fun y hy=>(V.names y (List.mem_of_mem_drop hy)).2)).1
   omega
  refine ⟨(j.recs.drop d.length).length,by rw [h2,List.length_append];omega,?_,?_,?_⟩
  ·rw [if_neg (by omega)]
   unfold posA
   rw [h2,List.take_left,hf]
  ·intro y hy
   rw [h2,List.take_left] at hy
   exact List.mem_of_mem_drop hy
  ·intro y hy
   rw [h2,List.drop_left] at hy
   exact h.new y hy
 ·have h1 : d = j.recs ++ d.drop j.recs.length:=by
   have:=congrArg (List.take j.recs.length) h.recs
   rw [List.take_left,List.take_append_of_le_length (by omega)] at this
   conv=>lhs;rw [← List.take_append_drop j.recs.length d]
   rw [← this]
  have h2 : N = d.drop j.recs.length ++ x.recs:=by
   have:=congrArg (List.drop j.recs.length) h.recs
   rw [List.drop_left,List.drop_append_of_le_length (by omega)] at this
   exact this
  have hp:=(pos_bd (d.drop j.recs.length) j.next (fun y hy=>h.nm y (List.mem_of_mem_drop hy))).1
  have hf : x.first = pos j.next (d.drop j.recs.length):=by
   rw [h.first]
   conv=>lhs;rw [h1]
   rw [pos_app,hj]
  rw [List.length_drop] at hp
  refine ⟨0,Nat.zero_le _,?_,(by intro y hy;simp at hy),?_⟩
  ·rw [if_pos (by omega)];rfl
  ·intro y hy
   exact h.new y (by rw [h2];exact List.mem_append_right _ hy)
theorem kp_full {l : List Chg} (h : ∀ x ∈ l,1 ≤ x.reasons ∧ x.reasons ≤ 4095) : kp 4095 false l = l:=by
 unfold kp
 rw [List.filter_eq_self]
 intro x hx
 have hr:=h x hx
 unfold skipR
 rw [bits_i (by omega) (by omega)]
 have : x.reasons.toNat &&& (4095 : Int).toNat = x.reasons.toNat:=by
  have:=Nat.and_two_pow_sub_one_eq_mod x.reasons.toNat 12
  rw [Nat.mod_eq_of_lt (by omega)] at this
  exact this
 rw [this,decide_eq_false (by omega)]
 rfl
theorem read_all {j : Jrn} (V : Valid j) {k : Nat} (hk : k ≤ j.recs.length) : readF j ⟨j.id,posA j k,4095,false,200⟩ = (j.recs.drop k,j.next,0):=by
 obtain ⟨h1,h2,h3,h4,h5⟩:=goes_at (valid_iff.2 V) (R:=4095) (only:=false) (k:=k) (c:=200) hk (by omega) (by omega)
 have hl:=V.recs
 have hkp : ∀ n,kp 4095 false ((j.recs.drop k).take n) = (j.recs.drop k).take n:=fun n=>kp_full (fun x hx=>by
  have:=recordErr_ok (V.recOk x (List.mem_of_mem_drop (List.mem_of_mem_take hx)))
  omega)
 unfold seg at h3 h4 h5
 rw [hkp] at h3 h4 h5
 have hm : k + mAt j 4095 false k 200 = j.recs.length:=by
  rcases h5 with h5 | h5
  ·exact h5
  ·rw [List.length_take,List.length_drop] at h5
   omega
 rw [hm,posA_end V,List.take_of_length_le (by rw [List.length_drop];omega)] at h3
 exact h3
structure Kp (n : Nat) (j : Jrn) (seen : List Chg) : Prop where
 v : Valid j
 id : j.id = 3
 op : j.opens.length ≤ n
 nx : j.next ≤ 288 * n
 ms : j.most ≤ 427
 fn : j.next - j.first ≤ j.most
 srt : seen.Pairwise (fun a b=>a.usn < b.usn)
 lt : ∀ x ∈ seen,x.usn < j.next
 all : ∀ x ∈ j.recs,x ∈ seen
 len : seen.length ≤ 200 * n
 bd : ∀ x ∈ seen,x.name.length ≤ 32
theorem kp_step {n : Nat} {j : Jrn} {seen : List Chg} {e : Evt} (h : Kp n j seen) (he : eventErr e = 0) (hn : n < 12) :
  Valid (after j e) ∧ noted j e = (after j e,0) ∧ ∃ k,k ≤ (after j e).recs.length ∧ (if j.next < (after j e).first then (after j e).first else j.next) = posA (after j e) k ∧
   readF (after j e) ⟨3,posA (after j e) k,4095,false,200⟩ = ((after j e).recs.drop k,(after j e).next,0) ∧ Kp (n + 1) (after j e) (seen ++ (after j e).recs.drop k):=by
 have V:=h.v
 have hr : 32 * (j.recs.length : Int) ≤ 427:=by
  have:=V.chain.le.1
  have:=h.fn
  have:=h.ms
  omega
 have hf : full (after j e) = false:=by
  cases hq : full (after j e) with
  | false=>rfl
  | true=>
   have:=after_full V he hq
   have:=h.op
   have:=h.nx
   omega
 have W:=after_valid V he hf
 obtain ⟨d,N,A⟩:=after_shape V he
 refine ⟨W,?_,?_⟩
 ·unfold noted
  rw [if_neg (by rw [valid_iff.2 V];simp),if_neg (by rw [he];simp),hf]
  rfl
 ·obtain ⟨k,k1,k2,k3,k4⟩:=after_read V A
  have hid : (after j e).id = 3:=by rw [A.id,h.id]
  have hd : ∀ y ∈ (after j e).recs.drop k,y ∈ (after j e).recs:=fun y hy=>List.mem_of_mem_drop hy
  refine ⟨k,k1,k2,?_,⟨W,hid,?_,?_,?_,?_,?_,?_,?_,?_,?_⟩⟩
  ·have:=read_all W k1
   rwa [hid] at this
  ·have:=A.opens;have:=h.op;omega
  ·have:=A.next;have:=h.nx;omega
  ·rw [A.most];exact h.ms
  ·rw [A.most]
   rcases A.fit with q | q
   ·have c:=W.chain
    rw [q] at c
    have c : (after j e).first = (after j e).next:=c
    have:=V.nums
    omega
   ·exact q
  ·rw [List.pairwise_append]
   refine ⟨h.srt,(usn_sorted W).sublist (List.drop_sublist _ _),fun a ha b hb=>?_⟩
   have:=h.lt a ha
   have:=k4 b hb
   omega
  ·intro y hy
   rcases List.mem_append.1 hy with hy | hy
   ·have:=h.lt y hy
    have:=A.next
    omega
   ·exact (W.chain.usn y (hd y hy)).2
  ·intro y hy
   rw [← List.take_append_drop k (after j e).recs] at hy
   rcases List.mem_append.1 hy with hy | hy
   ·exact List.mem_append_left _ (h.all y (k3 y hy))
   ·exact List.mem_append_right _ hy
  ·have:=W.recs
   have:=h.len
   rw [List.length_append,List.length_drop]
   omega
  ·intro y hy
   rcases List.mem_append.1 hy with hy | hy
   ·exact h.bd y hy
   ·exact (W.names y (hd y hy)).2
def moreOf (J X : Jrn) : List Chg:=(readF X ⟨3,if J.next < X.first then X.first else J.next,4095,false,200⟩).1
structure Step1 (n : Nat) (J X : Jrn) (S : List Chg) (e : Evt) : Prop where
 v : Valid X
 nt : noted J e = (X,0)
 rd : readF X ⟨3,if J.next < X.first then X.first else J.next,4095,false,200⟩ = (moreOf J X,X.next,0)
 kp : Kp (n + 1) X (S ++ moreOf J X)
theorem kp_next {n : Nat} {J : Jrn} {S : List Chg} {e : Evt} (h : Kp n J S) (hn : n < 12) (he : eventErr e = 0) : Step1 n J (after J e) S e:=by
 obtain ⟨h1,h2,k,h3,h4,h5,h6⟩:=kp_step h he hn
 have hm : moreOf J (after J e) = (after J e).recs.drop k:=by
  unfold moreOf
  rw [h4,h5]
 refine ⟨h1,h2,?_,?_⟩
 ·rw [h4,h5,← hm]
 ·rw [hm];exact h6
def J0 (m : Int) : Jrn:=⟨3,0,0,m,[],[]⟩
theorem kp_zero {m : Int} (hm : 128 ≤ m ∧ m ≤ 427) : Kp 0 (J0 m) []:=by
 refine ⟨?_,rfl,Nat.le_refl 0,Int.le_refl 0,hm.2,(by show (0 : Int) - 0 ≤ m;omega),.nil,(by intro x hx;cases hx),(by intro x hx;cases hx),Nat.le_refl 0,(by intro x hx;cases hx)⟩
 exact valid_mk ⟨(by show (0 : Int) ≤ 3 ∧ (3 : Int) ≤ 2147483647;omega),(by show (0 : Int) ≤ 0 ∧ (0 : Int) ≤ 2147483647;omega),(by show (0 : Int) ≤ 0 ∧ (0 : Int) ≤ 2147483647;omega),by show 128 ≤ m ∧ m ≤ 8192;omega⟩ (Nat.zero_le _) (Nat.zero_le _) rfl ⟨(by intro x hx;cases hx),(by intro i k h hk;exact absurd h (Nat.not_lt_zero _))⟩
end Go.Proofs.YtkeeienjocbkbaaGreatDoor
namespace Go.Proofs.YtkeeienjocbkbaaGreatDoor
open Go Dw
abbrev Pg:=List UInt8
structure Pt where
 at_ : Nat
 old : Pg
 new : Pg
def Pt.enc (o : Pt) : D:=.agg [i 1,i o.at_,i 0,i 0,.str o.old,.str o.new]
structure Pt.Ok (o : Pt) : Prop where
 e : o.old.length = o.new.length
 p : 1 ≤ o.new.length
 s : o.new.length ≤ 200
 l : o.at_ + o.new.length ≤ 512
def skF (a b : Pg) : Nat → Nat → Nat
 | 0,k=>k
 | n + 1,k=>if a[k]? = b[k]? then skF a b n (k + 1) else k
def sk (a b : Pg) (k : Nat) : Nat:=skF a b (a.length - k) k
theorem sk_step {a b : Pg} {k : Nat} (h : k < a.length) (e : a[k]? = b[k]?) : sk a b (k + 1) = sk a b k:=by
 unfold sk
 obtain ⟨n,hn⟩ : ∃ n,a.length - k = n + 1:=⟨a.length - k - 1,by omega⟩
 rw [hn,(by omega : a.length - (k + 1) = n)]
 simp only [skF]
 rw [if_pos e]
theorem sk_stop {a b : Pg} {k : Nat} (h : k < a.length) (e : ¬ a[k]? = b[k]?) : sk a b k = k:=by
 unfold sk
 obtain ⟨n,hn⟩ : ∃ n,a.length - k = n + 1:=⟨a.length - k - 1,by omega⟩
 rw [hn]
 simp only [skF]
 rw [if_neg e]
theorem sk_end {a b : Pg} {k : Nat} (h : a.length ≤ k) : sk a b k = k:=by
 unfold sk
 rw [(by omega : a.length - k = 0)]
 rfl
theorem sk_law {a b : Pg} (hl : a.length = b.length) : ∀ (n k : Nat),a.length - k = n → k ≤ a.length → k ≤ sk a b k ∧ sk a b k ≤ a.length ∧ (∀ i,k ≤ i → i < sk a b k → a[i]? = b[i]?):=by
 intro n
 induction n with
 | zero=>
  intro k h hk
  rw [sk_end (by omega)]
  exact ⟨Nat.le_refl _,hk,fun i h1 h2=>by omega⟩
 | succ n ih=>
  intro k h hk
  by_cases e : a[k]? = b[k]?
  ·rw [← sk_step (by omega) e]
   obtain ⟨h1,h2,h3⟩:=ih (k + 1) (by omega) (by omega)
   refine ⟨by omega,h2,fun i hi hj=>?_⟩
   by_cases q : i = k
   ·rw [q];exact e
   ·exact h3 i (by omega) hj
  ·rw [sk_stop (by omega) e]
   exact ⟨Nat.le_refl _,hk,fun i h1 h2=>by omega⟩
def enF (a b : Pg) : Nat → Nat → Nat → Nat
 | 0,_,e=>e
 | n + 1,i,e=>if i < e + 4 then enF a b n (i + 1) (if a[i]? = b[i]? then e else i + 1) else e
def en (a b : Pg) (hi i e : Nat) : Nat:=enF a b (hi - i) i e
theorem en_eq {a b : Pg} {hi i e : Nat} (h : i < hi) (h4 : i < e + 4) (q : a[i]? = b[i]?) : en a b hi (i + 1) e = en a b hi i e:=by
 unfold en
 obtain ⟨n,hn⟩ : ∃ n,hi - i = n + 1:=⟨hi - i - 1,by omega⟩
 rw [hn,(by omega : hi - (i + 1) = n)]
 simp only [enF]
 rw [if_pos h4,if_pos q]
theorem en_ne {a b : Pg} {hi i e : Nat} (h : i < hi) (h4 : i < e + 4) (q : ¬ a[i]? = b[i]?) : en a b hi (i + 1) (i + 1) = en a b hi i e:=by
 unfold en
 obtain ⟨n,hn⟩ : ∃ n,hi - i = n + 1:=⟨hi - i - 1,by omega⟩
 rw [hn,(by omega : hi - (i + 1) = n)]
 simp only [enF]
 rw [if_pos h4,if_neg q]
theorem en_stop {a b : Pg} {hi i e : Nat} (h : ¬ i < hi ∨ ¬ i < e + 4) : en a b hi i e = e:=by
 unfold en
 by_cases hh : i < hi
 ·obtain ⟨n,hn⟩ : ∃ n,hi - i = n + 1:=⟨hi - i - 1,by omega⟩
  rw [hn]
  simp only [enF]
  rw [if_neg (by omega)]
 ·rw [(by omega : hi - i = 0)]
  rfl
theorem en_law {a b : Pg} {hi : Nat} : ∀ (n i e : Nat),hi - i = n → e ≤ i → e ≤ hi → e ≤ en a b hi i e ∧ en a b hi i e ≤ hi:=by
 intro n
 induction n with
 | zero=>
  intro i e h _ he
  rw [en_stop (.inl (by omega))]
  exact ⟨Nat.le_refl _,he⟩
 | succ n ih=>
  intro i e h hi' he
  by_cases h4 : i < e + 4
  ·by_cases q : a[i]? = b[i]?
   ·rw [← en_eq (by omega) h4 q]
    exact ih (i + 1) e (by omega) (by omega) he
   ·rw [← en_ne (e:=e) (by omega) h4 q]
    have:=ih (i + 1) (i + 1) (by omega) (Nat.le_refl _) (by omega)
    omega
  ·rw [en_stop (.inr h4)]
   exact ⟨Nat.le_refl _,he⟩
def qS (a b : Pg) (k : Nat) : Nat:=sk a b k
def pE (a b : Pg) (k : Nat) : Nat:=en a b (min a.length (sk a b k + 200)) (sk a b k + 1) (sk a b k + 1)
def cut (s : Pg) (m n : Nat) : Pg:=(s.drop m).take (n - m)
def pQ (a b : Pg) (k : Nat) : Pt:=⟨qS a b k,cut a (qS a b k) (pE a b k),cut b (qS a b k) (pE a b k)⟩
def betF (a b : Pg) : Nat → Nat → List Pt
 | 0,_=>[]
 | n + 1,k=>if qS a b k = a.length then [] else pQ a b k :: betF a b n (pE a b k)
def bet (a b : Pg) (k : Nat) : List Pt:=betF a b (a.length + 1 - k) k
def pat (o : Pt) (s : Pg) : Pg:=s.take o.at_ ++ o.new ++ s.drop (o.at_ + o.new.length)
def fitsP (o : Pt) (s : Pg) : Prop:=(s.drop o.at_).take o.old.length = o.old
def mid (a b : Pg) (k : Nat) : Pg:=b.take k ++ a.drop k
theorem cut_len {s : Pg} {m n : Nat} (hn : n ≤ s.length) : (cut s m n).length = n - m:=by
 unfold cut
 rw [List.length_take,List.length_drop]
 omega
theorem cut_app {s : Pg} {m n : Nat} (h : m ≤ n) : s.take m ++ cut s m n = s.take n:=by
 have:=List.take_add (l:=s) (i:=m) (j:=n - m)
 rw [(by omega : m + (n - m) = n)] at this
 unfold cut
 rw [this]
theorem mid_at {a b : Pg} {k : Nat} (hk : k ≤ b.length) (n : Nat) : (mid a b k)[n]? = if n < k then b[n]? else a[n]?:=by
 unfold mid
 by_cases h : n < k
 ·rw [if_pos h,List.getElem?_append_left (by rw [List.length_take];omega),List.getElem?_take_of_lt h]
 ·rw [if_neg h,List.getElem?_append_right (by rw [List.length_take];omega),List.length_take,(by omega : min k b.length = k),List.getElem?_drop,(by omega : k + (n - k) = n)]
theorem mid_skip {a b : Pg} (hl : a.length = b.length) {k : Nat} (hk : k ≤ a.length) : mid a b (qS a b k) = mid a b k:=by
 obtain ⟨h1,h2,h3⟩:=sk_law hl _ k rfl hk
 refine List.ext_getElem? (fun n=>?_)
 rw [mid_at (by unfold qS;omega),mid_at (by omega)]
 by_cases h : n < k
 ·rw [if_pos (by unfold qS;omega),if_pos h]
 ·rw [if_neg h]
  by_cases q : n < qS a b k
  ·rw [if_pos q,h3 n (by omega) q]
  ·rw [if_neg q]
theorem mid_zero {a b : Pg} : mid a b 0 = a:=by simp [mid]
theorem mid_full {a b : Pg} (hl : a.length = b.length) : mid a b a.length = b:=by
 unfold mid
 rw [hl,List.take_length,← hl,List.drop_length,List.append_nil]
theorem qS_le {a b : Pg} (hl : a.length = b.length) {k : Nat} (hk : k ≤ a.length) : k ≤ qS a b k ∧ qS a b k ≤ a.length:=by
 obtain ⟨h1,h2,_⟩:=sk_law hl _ k rfl hk
 exact ⟨h1,h2⟩
theorem pE_le {a b : Pg} (hl : a.length = b.length) {k : Nat} (hk : k ≤ a.length) (hs : ¬ qS a b k = a.length) : qS a b k + 1 ≤ pE a b k ∧ pE a b k ≤ a.length ∧ pE a b k ≤ qS a b k + 200:=by
 have h:=qS_le hl hk
 unfold qS at h hs
 have:=en_law (a:=a) (b:=b) (hi:=min a.length (sk a b k + 200)) _ (sk a b k + 1) (sk a b k + 1) rfl (Nat.le_refl _) (by omega)
 unfold pE qS
 omega
theorem mid_pat {a b : Pg} (hl : a.length = b.length) {k : Nat} (hk : k ≤ a.length) (hs : ¬ qS a b k = a.length) : pat (pQ a b k) (mid a b k) = mid a b (pE a b k) ∧ fitsP (pQ a b k) (mid a b k):=by
 have h:=qS_le hl hk
 have he:=pE_le hl hk hs
 have hb : (cut b (qS a b k) (pE a b k)).length = pE a b k - qS a b k:=cut_len (by omega)
 have ha : (cut a (qS a b k) (pE a b k)).length = pE a b k - qS a b k:=cut_len (by omega)
 rw [← mid_skip hl hk]
 have hd : ∀ n,qS a b k ≤ n → (mid a b (qS a b k)).drop n = a.drop n:=by
  intro n hn
  refine List.ext_getElem? (fun m=>?_)
  rw [List.getElem?_drop,mid_at (by omega),if_neg (by omega),List.getElem?_drop]
 have ht : (mid a b (qS a b k)).take (qS a b k) = b.take (qS a b k):=by
  unfold mid
  rw [List.take_append_of_le_length (by rw [List.length_take];omega),List.take_take,(by omega : min (qS a b k) (qS a b k) = qS a b k)]
 constructor
 ·unfold pat pQ
  simp only
  rw [hb,(by omega : qS a b k + (pE a b k - qS a b k) = pE a b k),hd _ (by omega),ht,cut_app (by omega)]
  rfl
 ·unfold fitsP pQ
  simp only
  rw [ha,hd _ (Nat.le_refl _)]
  rfl
def Aps : List Pt → Pg → Pg → Prop
 | [],s,r=>s = r
 | o :: l,s,r=>fitsP o s ∧ Aps l (pat o s) r
theorem bet_aps {a b : Pg} (hl : a.length = b.length) : ∀ (n k : Nat),a.length + 1 ≤ n + k → k ≤ a.length → Aps (betF a b n k) (mid a b k) b:=by
 intro n
 induction n with
 | zero=>intro k h hk;omega
 | succ n ih=>
  intro k h hk
  unfold betF
  by_cases hs : qS a b k = a.length
  ·rw [if_pos hs]
   show mid a b k = b
   rw [← mid_skip hl hk,hs,mid_full hl]
  ·rw [if_neg hs]
   have he:=pE_le hl hk hs
   have h1:=qS_le hl hk
   obtain ⟨p1,p2⟩:=mid_pat hl hk hs
   refine ⟨p2,?_⟩
   rw [p1]
   exact ih _ (by omega) (by omega)
theorem bet_apply {a b : Pg} (hl : a.length = b.length) : Aps (bet a b 0) a b:=by
 have:=bet_aps hl (a.length + 1 - 0) 0 (by omega) (Nat.zero_le _)
 rwa [mid_zero] at this
def Has (o : Pt) (s : Pg) : Prop:=(s.drop o.at_).take o.new.length = o.new
theorem has_pat {o : Pt} {s : Pg} (h : Has o s) : pat o s = s:=by
 unfold pat Has at *
 have h1 : s.take o.at_ ++ o.new = s.take (o.at_ + o.new.length):=by
  rw [List.take_add,h]
 rw [h1,List.take_append_drop]
theorem bet_ok {a b : Pg} (ha : a.length = 512) (hb : b.length = 512) : ∀ (n k : Nat),k ≤ 512 → ∀ o ∈ betF a b n k,o.Ok ∧ Has o b:=by
 intro n
 have hl : a.length = b.length:=by omega
 induction n with
 | zero=>intro k _ o ho;simp [betF] at ho
 | succ n ih=>
  intro k hk o ho
  unfold betF at ho
  by_cases hs : qS a b k = a.length
  ·rw [if_pos hs] at ho;simp at ho
  ·rw [if_neg hs] at ho
   have he:=pE_le hl (by omega) hs
   have h1:=qS_le hl (k:=k) (by omega)
   rcases List.mem_cons.1 ho with rfl | ho
   ·have q1 : (cut b (qS a b k) (pE a b k)).length = pE a b k - qS a b k:=cut_len (by omega)
    have q2 : (cut a (qS a b k) (pE a b k)).length = pE a b k - qS a b k:=cut_len (by omega)
    refine ⟨⟨by simp only [pQ];omega,by simp only [pQ];omega,by simp only [pQ];omega,by simp only [pQ];omega⟩,?_⟩
    unfold Has pQ
    simp only
    rw [q1]
    rfl
   ·exact ih _ (by omega) o ho
theorem bet_good {a b : Pg} (ha : a.length = 512) (hb : b.length = 512) : ∀ o ∈ bet a b 0,o.Ok ∧ Has o b:=bet_ok ha hb _ 0 (by omega)
theorem pat_len {o : Pt} {s : Pg} (ho : o.Ok) (hs : s.length = 512) : (pat o s).length = 512:=by
 unfold pat
 have:=ho.l
 rw [List.length_append,List.length_append,List.length_take,List.length_drop]
 omega
def rdo (l : List Pt) (s r : Pg) (k : Nat) : Pg:=if k ≤ l.length then (l.take k).foldl (fun s o=>pat o s) s else r
theorem aps_fold : ∀ {l : List Pt} {s r : Pg},Aps l s r → l.foldl (fun s o=>pat o s) s = r
 | [],_,_,h=>h
 | o :: l,_,_,h=>by rw [List.foldl_cons];exact aps_fold h.2
theorem rdo_len {l : List Pt} {s r : Pg} (hr : r.length = 512) (hs : s.length = 512) (ho : ∀ o ∈ l,o.Ok) (k : Nat) : (rdo l s r k).length = 512:=by
 unfold rdo
 split
 ·have : ∀ (m : List Pt) (s : Pg),(∀ o ∈ m,o.Ok) → s.length = 512 → (m.foldl (fun s o=>pat o s) s).length = 512:=by
   intro m
   induction m with
   | nil=>intro s _ h;exact h
   | cons o m ih=>intro s h1 h2;rw [List.foldl_cons];exact ih _ (fun x hx=>h1 x (List.mem_cons_of_mem _ hx)) (pat_len (h1 o List.mem_cons_self) h2)
  exact this _ _ (fun o h=>ho o (List.mem_of_mem_take h)) hs
 ·exact hr
theorem rdo_step {l : List Pt} {s r : Pg} (h : Aps l s r) (hh : ∀ o ∈ l,Has o r) {k : Nat} (hk : k < 2 * l.length) : pat (l[k % l.length]'(Nat.mod_lt _ (by omega))) (rdo l s r k) = rdo l s r (k + 1):=by
 by_cases q : k < l.length
 ·have : k % l.length = k:=Nat.mod_eq_of_lt q
  unfold rdo
  rw [if_pos (by omega),if_pos (by omega)]
  simp only [this]
  rw [List.take_succ_eq_append_getElem q,List.foldl_append]
  rfl
 ·have e : rdo l s r k = r:=by
   unfold rdo
   split
   ·have : k = l.length:=by omega
    rw [this,List.take_length,aps_fold h]
   ·rfl
  rw [e,has_pat (hh _ (List.getElem_mem _))]
  unfold rdo
  rw [if_neg (by omega)]
theorem rdo_zero {l : List Pt} {s r : Pg} : rdo l s r 0 = s:=by unfold rdo;rw [if_pos (Nat.zero_le _)];rfl
theorem rdo_end {l : List Pt} {s r : Pg} (h : Aps l s r) : rdo l s r (2 * l.length) = r:=by
 unfold rdo
 split
 ·have : l.length = 0:=by omega
  have hl:=List.length_eq_zero_iff.1 this
  subst hl
  exact h
 ·rfl
theorem aps_drop {l : List Pt} {s r : Pg} {k : Nat} (hk : k < l.length) (h : Aps (l.drop k) s r) : fitsP l[k] s ∧ Aps (l.drop (k + 1)) (pat l[k] s) r:=by
 rw [List.drop_eq_getElem_cons hk] at h
 exact h
end Go.Proofs.YtkeeienjocbkbaaGreatDoor
namespace Go.Proofs.YtkeeienjocbkbaaGreatDoor
open Go Dw
set_option maxRecDepth 10000
attribute [local irreducible] Run
set_option maxHeartbeats 600000
theorem c67 (n lo hi : Int) : Fn 67 [i n,i lo,i hi] (.bool (within n lo hi)):=by
 refine run_walkF eok Tryz.func67 rfl (by kernel_rfl) ?_
 conv=>whnf
 repeat' (first
 | ((with_reducible refine on_dec_t (by assumption) ?_);conv=>whnf)
 | ((with_reducible refine on_dec_f (by assumption) ?_);conv=>whnf)
 | ((with_reducible refine onBool_t (by assumption) ?_);conv=>whnf)
 | ((with_reducible refine onBool_f (by assumption) ?_);conv=>whnf)
 | ((with_reducible refine on_nt (by assumption) ?_);conv=>whnf)
 | ((with_reducible refine on_nf (by assumption) ?_);conv=>whnf)
 | ((with_reducible refine on_ndec_t (by first | assumption | rfl) ?_);conv=>whnf)
 | ((with_reducible refine on_ndec_f (by assumption) ?_);conv=>whnf)
 | ((with_reducible refine on_dec_t rfl ?_);conv=>whnf)
 | ((with_reducible refine on_dec_f ?_ ?_);(focus ((try simp only [List.length_map,List.length_cons,List.length_nil,List.length_append]);omega));conv=>whnf)
 | ((with_reducible refine on_dec_t ?_ ?_);(focus ((try simp only [List.length_map,List.length_cons,List.length_nil,List.length_append]);omega));conv=>whnf)
 | ((with_reducible refine on_dec (fun h=>?_) (fun h=>?_))<;>(try simp only [List.length_map] at h)<;>conv=>whnf)
 | ((with_reducible refine on_ndec (fun h=>?_) (fun h=>?_))<;>(try simp only [List.length_map] at h)<;>conv=>whnf)
 | ((with_reducible refine on_not (fun h=>?_) (fun h=>?_))<;>conv=>whnf)
 | ((with_reducible refine onBool_split (fun h=>?_) (fun h=>?_))<;>conv=>whnf)
 | (refine ⟨⟨(by first | rfl | (simp;done)),cap_ok (by simp only [List.length_map,List.length_cons,List.length_nil,List.length_append];omega) rfl⟩,?_⟩;conv=>whnf)
 | (refine ⟨mem_one ⟨rfl,rfl⟩,?_⟩;conv=>whnf)
 | (refine ⟨(by intro y hy;obtain ⟨x,_,rfl⟩:=List.mem_map.1 hy;first | rfl | exact ⟨rfl,rfl⟩),?_⟩;conv=>whnf)
 | (refine ⟨cap_ok (by first | omega | (simp only [List.length_map];omega)) rfl,?_⟩;conv=>whnf)
 | (refine ix_map (by omega) ?_;conv=>whnf)
 | (refine ix_str (by omega) ?_;conv=>whnf)
 | (refine wrap64 (by omega) ?_;conv=>whnf)
 | (exfalso;simp only [List.length_map,List.length_cons,List.length_nil,List.length_append] at h;omega)
 | ((with_reducible refine endx_go ?_);first | (exact endx (congrArg D.bool (by simp [h,within]));done) | (exact endx (congrArg D.bool (by have : ¬ lo ≤ n:=(by omega);simp [this,within]));done))
 | (refine ⟨rfl,?_⟩;conv=>whnf)
  | fail
  )
theorem c39 (b : Bool) (e : Int) : Fn 39 [.bool b,i e] (i (if b then 0 else e)):=by
 refine run_walkF eok Tryz.func39 rfl (by kernel_rfl) ?_
 conv=>whnf
 repeat' (first
 | ((with_reducible refine on_dec_t (by assumption) ?_);conv=>whnf)
 | ((with_reducible refine on_dec_f (by assumption) ?_);conv=>whnf)
 | ((with_reducible refine onBool_t (by assumption) ?_);conv=>whnf)
 | ((with_reducible refine onBool_f (by assumption) ?_);conv=>whnf)
 | ((with_reducible refine on_nt (by assumption) ?_);conv=>whnf)
 | ((with_reducible refine on_nf (by assumption) ?_);conv=>whnf)
 | ((with_reducible refine on_ndec_t (by first | assumption | rfl) ?_);conv=>whnf)
 | ((with_reducible refine on_ndec_f (by assumption) ?_);conv=>whnf)
 | ((with_reducible refine on_dec_t rfl ?_);conv=>whnf)
 | ((with_reducible refine on_dec_f ?_ ?_);(focus ((try simp only [List.length_map,List.length_cons,List.length_nil,List.length_append]);omega));conv=>whnf)
 | ((with_reducible refine on_dec_t ?_ ?_);(focus ((try simp only [List.length_map,List.length_cons,List.length_nil,List.length_append]);omega));conv=>whnf)
 | ((with_reducible refine on_dec (fun h=>?_) (fun h=>?_))<;>(try simp only [List.length_map] at h)<;>conv=>whnf)
 | ((with_reducible refine on_ndec (fun h=>?_) (fun h=>?_))<;>(try simp only [List.length_map] at h)<;>conv=>whnf)
 | ((with_reducible refine on_not (fun h=>?_) (fun h=>?_))<;>conv=>whnf)
 | ((with_reducible refine onBool_split (fun h=>?_) (fun h=>?_))<;>conv=>whnf)
 | (refine ⟨⟨(by first | rfl | (simp;done)),cap_ok (by simp only [List.length_map,List.length_cons,List.length_nil,List.length_append];omega) rfl⟩,?_⟩;conv=>whnf)
 | (refine ⟨mem_one ⟨rfl,rfl⟩,?_⟩;conv=>whnf)
 | (refine ⟨(by intro y hy;obtain ⟨x,_,rfl⟩:=List.mem_map.1 hy;first | rfl | exact ⟨rfl,rfl⟩),?_⟩;conv=>whnf)
 | (refine ⟨cap_ok (by first | omega | (simp only [List.length_map];omega)) rfl,?_⟩;conv=>whnf)
 | (refine ix_map (by omega) ?_;conv=>whnf)
 | (refine ix_str (by omega) ?_;conv=>whnf)
 | (refine wrap64 (by omega) ?_;conv=>whnf)
 | (exfalso;simp only [List.length_map,List.length_cons,List.length_nil,List.length_append] at h;omega)
 | ((with_reducible refine endx_go ?_);first | (exact endx rfl;done) | (exact endx (by simp_all);done))
 | (refine ⟨rfl,?_⟩;conv=>whnf)
  | fail
  )
theorem c36 (l : List Int) (hl : l.length < 1000000) : Fn 36 [.fs (l.map i)] (i (first l)):=by
 refine run_walkF eok Tryz.func36 rfl (by kernel_rfl) ?_
 conv=>whnf
 repeat' (first
 | ((with_reducible refine on_dec_t (by assumption) ?_);conv=>whnf)
 | ((with_reducible refine on_dec_f (by assumption) ?_);conv=>whnf)
 | ((with_reducible refine onBool_t (by assumption) ?_);conv=>whnf)
 | ((with_reducible refine onBool_f (by assumption) ?_);conv=>whnf)
 | ((with_reducible refine on_nt (by assumption) ?_);conv=>whnf)
 | ((with_reducible refine on_nf (by assumption) ?_);conv=>whnf)
 | ((with_reducible refine on_ndec_t (by first | assumption | rfl) ?_);conv=>whnf)
 | ((with_reducible refine on_ndec_f (by assumption) ?_);conv=>whnf)
 | ((with_reducible refine on_dec_t rfl ?_);conv=>whnf)
 | ((with_reducible refine on_dec_f ?_ ?_);(focus ((try simp only [List.length_map,List.length_cons,List.length_nil,List.length_append]);omega));conv=>whnf)
 | ((with_reducible refine on_dec_t ?_ ?_);(focus ((try simp only [List.length_map,List.length_cons,List.length_nil,List.length_append]);omega));conv=>whnf)
 | ((with_reducible refine on_dec (fun h=>?_) (fun h=>?_))<;>(try simp only [List.length_map] at h)<;>conv=>whnf)
 | ((with_reducible refine on_ndec (fun h=>?_) (fun h=>?_))<;>(try simp only [List.length_map] at h)<;>conv=>whnf)
 | ((with_reducible refine on_not (fun h=>?_) (fun h=>?_))<;>conv=>whnf)
 | ((with_reducible refine onBool_split (fun h=>?_) (fun h=>?_))<;>conv=>whnf)
 | ((with_reducible refine loop_go ?_);first | (refine loop1 (fun (k : Nat)=>l.length - k) (fun (k : Nat)=>k ≤ l.length ∧ first l = first (l.drop k)) (fun (k : Nat)=>[(5,.d (.fs (l.map i))),(6,.d (i l.length)),(7,.d (i k))]) (fun (k : Nat)=>[]) (0) (by exact ⟨Nat.zero_le _,rfl⟩) ?_ (fun k C hI hC=>?_);(exact ⟨[],rfl,rfl,⟨(by first | (show (_ : D) = _;with_reducible rfl) | exact rfl),(by first | (show (_ : D) = _;with_reducible rfl) | exact congrArg (D.int .i64) (by omega) | exact congrArg (D.int .i64) (by simp only [List.length_map]) | exact rfl),(by first | (show (_ : D) = _;with_reducible rfl) | exact congrArg (D.int .i64) (by omega) | exact congrArg (D.int .i64) (by simp only [List.length_map]) | exact rfl),trivial⟩,trivial⟩);all_goals (conv=>whnf)))
 | ((with_reducible show C _ _);first | (refine hC (k + 1) _ _ ?_ (by omega) ?_;clear hC;rotate_left;(exact ⟨[],rfl,rfl,⟨(by first | (show (_ : D) = _;with_reducible rfl) | exact rfl),(by first | (show (_ : D) = _;with_reducible rfl) | exact congrArg (D.int .i64) (by omega) | exact congrArg (D.int .i64) (by simp only [List.length_map]) | exact rfl),(by first | (show (_ : D) = _;with_reducible rfl) | exact congrArg (D.int .i64) (by omega) | exact congrArg (D.int .i64) (by simp only [List.length_map]) | exact rfl),trivial⟩,trivial⟩);(exact ⟨by omega,by rw [hI.2,List.drop_eq_getElem_cons (by omega),first_cons,if_pos (by assumption)]⟩)))
 | (refine ⟨⟨(by first | rfl | (simp;done)),cap_ok (by simp only [List.length_map,List.length_cons,List.length_nil,List.length_append];omega) rfl⟩,?_⟩;conv=>whnf)
 | (refine ⟨mem_one ⟨rfl,rfl⟩,?_⟩;conv=>whnf)
 | (refine ⟨(by intro y hy;obtain ⟨x,_,rfl⟩:=List.mem_map.1 hy;first | rfl | exact ⟨rfl,rfl⟩),?_⟩;conv=>whnf)
 | (refine ⟨cap_ok (by first | omega | (simp only [List.length_map];omega)) rfl,?_⟩;conv=>whnf)
 | (refine ix_map (by omega) ?_;conv=>whnf)
 | (refine ix_str (by omega) ?_;conv=>whnf)
 | (refine wrap64 (by omega) ?_;conv=>whnf)
 | (refine wrap64 (by omega) ?_;conv=>whnf)
 | (exfalso;simp only [List.length_map,List.length_cons,List.length_nil,List.length_append] at h;omega)
 | ((with_reducible refine endx_go ?_);first | (refine endx (congrArg i ?_);rw [hI.2,List.drop_eq_nil_of_le (by omega)];rfl;done) | (refine endx (congrArg i ?_);rw [hI.2,List.drop_eq_getElem_cons (by omega),first_cons,if_neg (by assumption)];done))
 | (refine ⟨rfl,?_⟩;conv=>whnf)
  | fail
  )
theorem c37 (s : Pg) (h : s.length = 512) : Fn 37 [.str s] (i 0):=by
 refine run_walkF eok Tryz.func37 rfl (by kernel_rfl) ?_
 conv=>whnf
 repeat' (first
 | ((with_reducible refine on_dec_t (by assumption) ?_);conv=>whnf)
 | ((with_reducible refine on_dec_f (by assumption) ?_);conv=>whnf)
 | ((with_reducible refine onBool_t (by assumption) ?_);conv=>whnf)
 | ((with_reducible refine onBool_f (by assumption) ?_);conv=>whnf)
 | ((with_reducible refine on_nt (by assumption) ?_);conv=>whnf)
 | ((with_reducible refine on_nf (by assumption) ?_);conv=>whnf)
 | ((with_reducible refine on_ndec_t (by first | assumption | rfl) ?_);conv=>whnf)
 | ((with_reducible refine on_ndec_f (by assumption) ?_);conv=>whnf)
 | ((with_reducible refine on_dec_t rfl ?_);conv=>whnf)
 | ((with_reducible refine on_dec_f ?_ ?_);(focus ((try simp only [List.length_map,List.length_cons,List.length_nil,List.length_append]);omega));conv=>whnf)
 | ((with_reducible refine on_dec_t ?_ ?_);(focus ((try simp only [List.length_map,List.length_cons,List.length_nil,List.length_append]);omega));conv=>whnf)
 | ((with_reducible refine on_dec (fun h=>?_) (fun h=>?_))<;>(try simp only [List.length_map] at h)<;>conv=>whnf)
 | ((with_reducible refine on_ndec (fun h=>?_) (fun h=>?_))<;>(try simp only [List.length_map] at h)<;>conv=>whnf)
 | ((with_reducible refine on_not (fun h=>?_) (fun h=>?_))<;>conv=>whnf)
 | ((with_reducible refine onBool_split (fun h=>?_) (fun h=>?_))<;>conv=>whnf)
 | ((with_reducible refine call_go ?_);(first | refine call_step (run_data (xs:=[_,_]) (c39 _ _) _) ?_);conv=>whnf)
 | (refine ⟨⟨(by first | rfl | (simp;done)),cap_ok (by simp only [List.length_map,List.length_cons,List.length_nil,List.length_append];omega) rfl⟩,?_⟩;conv=>whnf)
 | (refine ⟨mem_one ⟨rfl,rfl⟩,?_⟩;conv=>whnf)
 | (refine ⟨(by intro y hy;obtain ⟨x,_,rfl⟩:=List.mem_map.1 hy;first | rfl | exact ⟨rfl,rfl⟩),?_⟩;conv=>whnf)
 | (refine ⟨cap_ok (by first | omega | (simp only [List.length_map];omega)) rfl,?_⟩;conv=>whnf)
 | (refine ix_map (by omega) ?_;conv=>whnf)
 | (refine ix_str (by omega) ?_;conv=>whnf)
 | (refine wrap64 (by omega) ?_;conv=>whnf)
 | (exfalso;simp only [List.length_map,List.length_cons,List.length_nil,List.length_append] at h;omega)
 | ((with_reducible refine endx_go ?_);first | (exact endx (by rw [h];rfl);done) | (exact endx (congrArg i (by simp [h]));done))
 | (refine ⟨rfl,?_⟩;conv=>whnf)
  | fail
  )
theorem c42 : Fn 42 [i 1] (i 0):=by
 refine run_walkF eok Tryz.func42 rfl (by kernel_rfl) ?_
 conv=>whnf
 repeat' (first
 | ((with_reducible refine on_dec_t (by assumption) ?_);conv=>whnf)
 | ((with_reducible refine on_dec_f (by assumption) ?_);conv=>whnf)
 | ((with_reducible refine onBool_t (by assumption) ?_);conv=>whnf)
 | ((with_reducible refine onBool_f (by assumption) ?_);conv=>whnf)
 | ((with_reducible refine on_nt (by assumption) ?_);conv=>whnf)
 | ((with_reducible refine on_nf (by assumption) ?_);conv=>whnf)
 | ((with_reducible refine on_ndec_t (by first | assumption | rfl) ?_);conv=>whnf)
 | ((with_reducible refine on_ndec_f (by assumption) ?_);conv=>whnf)
 | ((with_reducible refine on_dec_t rfl ?_);conv=>whnf)
 | ((with_reducible refine on_dec_f ?_ ?_);(focus ((try simp only [List.length_map,List.length_cons,List.length_nil,List.length_append]);omega));conv=>whnf)
 | ((with_reducible refine on_dec_t ?_ ?_);(focus ((try simp only [List.length_map,List.length_cons,List.length_nil,List.length_append]);omega));conv=>whnf)
 | ((with_reducible refine on_dec (fun h=>?_) (fun h=>?_))<;>(try simp only [List.length_map] at h)<;>conv=>whnf)
 | ((with_reducible refine on_ndec (fun h=>?_) (fun h=>?_))<;>(try simp only [List.length_map] at h)<;>conv=>whnf)
 | ((with_reducible refine on_not (fun h=>?_) (fun h=>?_))<;>conv=>whnf)
 | ((with_reducible refine onBool_split (fun h=>?_) (fun h=>?_))<;>conv=>whnf)
 | ((with_reducible refine call_go ?_);(first | refine call_step (run_data (xs:=[_,_,_]) (c67 _ _ _) _) ?_ | refine call_step (run_data (xs:=[_,_]) (c39 _ _) _) ?_);conv=>whnf)
 | (refine ⟨⟨(by first | rfl | (simp;done)),cap_ok (by simp only [List.length_map,List.length_cons,List.length_nil,List.length_append];omega) rfl⟩,?_⟩;conv=>whnf)
 | (refine ⟨mem_one ⟨rfl,rfl⟩,?_⟩;conv=>whnf)
 | (refine ⟨(by intro y hy;obtain ⟨x,_,rfl⟩:=List.mem_map.1 hy;first | rfl | exact ⟨rfl,rfl⟩),?_⟩;conv=>whnf)
 | (refine ⟨cap_ok (by first | omega | (simp only [List.length_map];omega)) rfl,?_⟩;conv=>whnf)
 | (refine ix_map (by omega) ?_;conv=>whnf)
 | (refine ix_str (by omega) ?_;conv=>whnf)
 | (refine wrap64 (by omega) ?_;conv=>whnf)
 | (exfalso;simp only [List.length_map,List.length_cons,List.length_nil,List.length_append] at h;omega)
 | ((with_reducible refine endx_go ?_);first | (exact endx rfl;done))
 | (refine ⟨rfl,?_⟩;conv=>whnf)
  | fail
  )
theorem c70 (o : Pt) (ho : o.Ok) : Fn 70 [o.enc] (.str (o.old ++ o.new)):=by
 have h1:=ho.e;have h2:=ho.p;have h3:=ho.s;have h4:=ho.l
 refine run_walkF eok Tryz.func70 rfl (by kernel_rfl) ?_
 conv=>whnf
 repeat' (first
 | ((with_reducible refine on_dec_t (by assumption) ?_);conv=>whnf)
 | ((with_reducible refine on_dec_f (by assumption) ?_);conv=>whnf)
 | ((with_reducible refine onBool_t (by assumption) ?_);conv=>whnf)
 | ((with_reducible refine onBool_f (by assumption) ?_);conv=>whnf)
 | ((with_reducible refine on_nt (by assumption) ?_);conv=>whnf)
 | ((with_reducible refine on_nf (by assumption) ?_);conv=>whnf)
 | ((with_reducible refine on_ndec_t (by first | assumption | rfl) ?_);conv=>whnf)
 | ((with_reducible refine on_ndec_f (by assumption) ?_);conv=>whnf)
 | ((with_reducible refine on_dec_t rfl ?_);conv=>whnf)
 | ((with_reducible refine on_dec_f ?_ ?_);(focus ((try simp only [List.length_map,List.length_cons,List.length_nil,List.length_append]);omega));conv=>whnf)
 | ((with_reducible refine on_dec_t ?_ ?_);(focus ((try simp only [List.length_map,List.length_cons,List.length_nil,List.length_append]);omega));conv=>whnf)
 | ((with_reducible refine on_dec (fun h=>?_) (fun h=>?_))<;>(try simp only [List.length_map] at h)<;>conv=>whnf)
 | ((with_reducible refine on_ndec (fun h=>?_) (fun h=>?_))<;>(try simp only [List.length_map] at h)<;>conv=>whnf)
 | ((with_reducible refine on_not (fun h=>?_) (fun h=>?_))<;>conv=>whnf)
 | ((with_reducible refine onBool_split (fun h=>?_) (fun h=>?_))<;>conv=>whnf)
 | (refine ⟨⟨(by first | rfl | (simp;done)),cap_ok (by simp only [List.length_map,List.length_cons,List.length_nil,List.length_append];omega) rfl⟩,?_⟩;conv=>whnf)
 | (refine ⟨mem_one ⟨rfl,rfl⟩,?_⟩;conv=>whnf)
 | (refine ⟨(by intro y hy;obtain ⟨x,_,rfl⟩:=List.mem_map.1 hy;first | rfl | exact ⟨rfl,rfl⟩),?_⟩;conv=>whnf)
 | (refine ⟨cap_ok (by first | omega | (simp only [List.length_map];omega)) rfl,?_⟩;conv=>whnf)
 | (refine ix_map (by omega) ?_;conv=>whnf)
 | (refine ix_str (by omega) ?_;conv=>whnf)
 | (refine wrap64 (by omega) ?_;conv=>whnf)
 | (refine ⟨by first | omega | (simp only [List.length_append,List.length_take,List.length_drop];omega),?_⟩;conv=>whnf)
 | (exfalso;simp only [List.length_map,List.length_cons,List.length_nil,List.length_append] at h;omega)
 | ((with_reducible refine endx_go ?_);first | (exact endx rfl;done))
 | (refine ⟨rfl,?_⟩;conv=>whnf)
  | fail
  )
def kindsD : D:=.agg [.bool false,.bool false,.bool false,.bool false,.bool false,.bool true,.bool false,.bool false,.bool true,.bool true,.bool true,.bool true,.bool false,.bool false,.bool true,.bool true,.bool true,.bool false,.bool true,.bool false,.bool true,.bool false,.bool true,.bool false,.bool false,.bool true,.bool false,.bool true,.bool false,.bool false,.bool false,.bool false,.bool false,.bool true,.bool true]
theorem c68 : Fn 68 [] kindsD:=by
 refine run_walkF eok Tryz.func68 rfl (by kernel_rfl) ?_
 conv=>whnf
 repeat' (first
 | ((with_reducible refine on_dec_t (by assumption) ?_);conv=>whnf)
 | ((with_reducible refine on_dec_f (by assumption) ?_);conv=>whnf)
 | ((with_reducible refine onBool_t (by assumption) ?_);conv=>whnf)
 | ((with_reducible refine onBool_f (by assumption) ?_);conv=>whnf)
 | ((with_reducible refine on_nt (by assumption) ?_);conv=>whnf)
 | ((with_reducible refine on_nf (by assumption) ?_);conv=>whnf)
 | ((with_reducible refine on_ndec_t (by first | assumption | rfl) ?_);conv=>whnf)
 | ((with_reducible refine on_ndec_f (by assumption) ?_);conv=>whnf)
 | ((with_reducible refine on_dec_t rfl ?_);conv=>whnf)
 | ((with_reducible refine on_dec_f ?_ ?_);(focus ((try simp only [List.length_map,List.length_cons,List.length_nil,List.length_append]);omega));conv=>whnf)
 | ((with_reducible refine on_dec_t ?_ ?_);(focus ((try simp only [List.length_map,List.length_cons,List.length_nil,List.length_append]);omega));conv=>whnf)
 | ((with_reducible refine on_dec (fun h=>?_) (fun h=>?_))<;>(try simp only [List.length_map] at h)<;>conv=>whnf)
 | ((with_reducible refine on_ndec (fun h=>?_) (fun h=>?_))<;>(try simp only [List.length_map] at h)<;>conv=>whnf)
 | ((with_reducible refine on_not (fun h=>?_) (fun h=>?_))<;>conv=>whnf)
 | ((with_reducible refine onBool_split (fun h=>?_) (fun h=>?_))<;>conv=>whnf)
 | (refine ⟨⟨(by first | rfl | (simp;done)),cap_ok (by simp only [List.length_map,List.length_cons,List.length_nil,List.length_append];omega) rfl⟩,?_⟩;conv=>whnf)
 | (refine ⟨mem_one ⟨rfl,rfl⟩,?_⟩;conv=>whnf)
 | (refine ⟨(by intro y hy;obtain ⟨x,_,rfl⟩:=List.mem_map.1 hy;first | rfl | exact ⟨rfl,rfl⟩),?_⟩;conv=>whnf)
 | (refine ⟨cap_ok (by first | omega | (simp only [List.length_map];omega)) rfl,?_⟩;conv=>whnf)
 | (refine ix_map (by omega) ?_;conv=>whnf)
 | (refine ix_str (by omega) ?_;conv=>whnf)
 | (refine wrap64 (by omega) ?_;conv=>whnf)
 | (exfalso;simp only [List.length_map,List.length_cons,List.length_nil,List.length_append] at h;omega)
 | ((with_reducible refine endx_go ?_);first | (exact endxv (view_agg (by exact (vlc rfl (vlc rfl (vlc rfl (vlc rfl (vlc rfl (vlc rfl (vlc rfl (vlc rfl (vlc rfl (vlc rfl (vlc rfl (vlc rfl (vlc rfl (vlc rfl (vlc rfl (vlc rfl (vlc rfl (vlc rfl (vlc rfl (vlc rfl (vlc rfl (vlc rfl (vlc rfl (vlc rfl (vlc rfl (vlc rfl (vlc rfl (vlc rfl (vlc rfl (vlc rfl (vlc rfl (vlc rfl (vlc rfl (vlc rfl (vlc rfl vln))))))))))))))))))))))))))))))))))))) rfl;done))
 | (refine ⟨rfl,?_⟩;conv=>whnf)
  | fail
  )
theorem c69 (o : Pt) (ho : o.Ok) : Fn 69 [o.enc] (i 0):=by
 have h1:=ho.e;have h2:=ho.p;have h3:=ho.s;have h4:=ho.l
 refine run_walkF eok Tryz.func69 rfl (by kernel_rfl) ?_
 conv=>whnf
 repeat' (first
 | ((with_reducible refine on_dec_t (by assumption) ?_);conv=>whnf)
 | ((with_reducible refine on_dec_f (by assumption) ?_);conv=>whnf)
 | ((with_reducible refine onBool_t (by assumption) ?_);conv=>whnf)
 | ((with_reducible refine onBool_f (by assumption) ?_);conv=>whnf)
 | ((with_reducible refine on_nt (by assumption) ?_);conv=>whnf)
 | ((with_reducible refine on_nf (by assumption) ?_);conv=>whnf)
 | ((with_reducible refine on_ndec_t (by first | assumption | rfl) ?_);conv=>whnf)
 | ((with_reducible refine on_ndec_f (by assumption) ?_);conv=>whnf)
 | ((with_reducible refine on_dec_t rfl ?_);conv=>whnf)
 | ((with_reducible refine on_dec_f ?_ ?_);(focus ((try simp only [List.length_map,List.length_cons,List.length_nil,List.length_append]);omega));conv=>whnf)
 | ((with_reducible refine on_dec_t ?_ ?_);(focus ((try simp only [List.length_map,List.length_cons,List.length_nil,List.length_append]);omega));conv=>whnf)
 | ((with_reducible refine on_dec (fun h=>?_) (fun h=>?_))<;>(try simp only [List.length_map] at h)<;>conv=>whnf)
 | ((with_reducible refine on_ndec (fun h=>?_) (fun h=>?_))<;>(try simp only [List.length_map] at h)<;>conv=>whnf)
 | ((with_reducible refine on_not (fun h=>?_) (fun h=>?_))<;>conv=>whnf)
 | ((with_reducible refine onBool_split (fun h=>?_) (fun h=>?_))<;>conv=>whnf)
 | ((with_reducible refine call_go ?_);(first | refine call_step (run_data (xs:=[_,_,_]) (c67 _ _ _) _) ?_ | refine call_step (run_data (xs:=[_]) (c70 o ho) _) ?_ | refine call_step (run_data (xs:=[_,_]) (c39 _ _) _) ?_);conv=>whnf)
 | (refine ⟨⟨(by first | rfl | (simp;done)),cap_ok (by simp only [List.length_map,List.length_cons,List.length_nil,List.length_append];omega) rfl⟩,?_⟩;conv=>whnf)
 | (refine ⟨mem_one ⟨rfl,rfl⟩,?_⟩;conv=>whnf)
 | (refine ⟨(by intro y hy;obtain ⟨x,_,rfl⟩:=List.mem_map.1 hy;first | rfl | exact ⟨rfl,rfl⟩),?_⟩;conv=>whnf)
 | (refine ⟨cap_ok (by first | omega | (simp only [List.length_map];omega)) rfl,?_⟩;conv=>whnf)
 | (refine ix_map (by omega) ?_;conv=>whnf)
 | (refine ix_str (by omega) ?_;conv=>whnf)
 | (refine wrap64 (by omega) ?_;conv=>whnf)
 | (refine wrap64 (by omega) ?_;conv=>whnf)
 | (exfalso;simp only [List.length_map,List.length_cons,List.length_nil,List.length_append] at h;omega)
 | ((with_reducible refine endx_go ?_);first | (exact endx rfl;done) | (exact endx (congrArg i (by simp_all [within];omega));done))
 | (refine ⟨rfl,?_⟩;conv=>whnf)
  | fail
  )
theorem c40 (o : Pt) (ho : o.Ok) : Fn 40 [o.enc] (i 0):=by
 have h1:=ho.e;have h2:=ho.p;have h3:=ho.s;have h4:=ho.l
 refine run_walkF eok Tryz.func40 rfl (by kernel_rfl) ?_
 conv=>whnf
 repeat' (first
 | ((with_reducible refine on_dec_t (by assumption) ?_);conv=>whnf)
 | ((with_reducible refine on_dec_f (by assumption) ?_);conv=>whnf)
 | ((with_reducible refine onBool_t (by assumption) ?_);conv=>whnf)
 | ((with_reducible refine onBool_f (by assumption) ?_);conv=>whnf)
 | ((with_reducible refine on_nt (by assumption) ?_);conv=>whnf)
 | ((with_reducible refine on_nf (by assumption) ?_);conv=>whnf)
 | ((with_reducible refine on_ndec_t (by first | assumption | rfl) ?_);conv=>whnf)
 | ((with_reducible refine on_ndec_f (by assumption) ?_);conv=>whnf)
 | ((with_reducible refine on_dec_t rfl ?_);conv=>whnf)
 | ((with_reducible refine on_dec_f ?_ ?_);(focus ((try simp only [List.length_map,List.length_cons,List.length_nil,List.length_append]);omega));conv=>whnf)
 | ((with_reducible refine on_dec_t ?_ ?_);(focus ((try simp only [List.length_map,List.length_cons,List.length_nil,List.length_append]);omega));conv=>whnf)
 | ((with_reducible refine on_dec (fun h=>?_) (fun h=>?_))<;>(try simp only [List.length_map] at h)<;>conv=>whnf)
 | ((with_reducible refine on_ndec (fun h=>?_) (fun h=>?_))<;>(try simp only [List.length_map] at h)<;>conv=>whnf)
 | ((with_reducible refine on_not (fun h=>?_) (fun h=>?_))<;>conv=>whnf)
 | ((with_reducible refine onBool_split (fun h=>?_) (fun h=>?_))<;>conv=>whnf)
 | ((with_reducible refine call_go ?_);(first | refine call_step (run_data (xs:=[_,_,_]) (c67 _ _ _) _) ?_ | refine call_step (run_data (xs:=[]) c68 _) ?_ | refine call_step (run_data (xs:=[_,_]) (c39 _ _) _) ?_ | refine call_step (run_data (xs:=[_]) (c69 o ho) _) ?_ | refine call_step (run_view (c36 [_,_,_,_,_] (by simp)) rfl rfl) ?_);conv=>whnf)
 | (refine ⟨[],[(4,0),(2,0)],(by decide +kernel),?_⟩;conv=>whnf)
 | (refine ⟨[],[(18,1),(18,3),(18,10),(18,17)],(by decide +kernel),?_⟩;conv=>whnf)
 | (refine ⟨⟨(by first | rfl | (simp;done)),cap_ok (by simp only [List.length_map,List.length_cons,List.length_nil,List.length_append];omega) rfl⟩,?_⟩;conv=>whnf)
 | (refine ⟨mem_one ⟨rfl,rfl⟩,?_⟩;conv=>whnf)
 | (refine ⟨(by intro y hy;obtain ⟨x,_,rfl⟩:=List.mem_map.1 hy;first | rfl | exact ⟨rfl,rfl⟩),?_⟩;conv=>whnf)
 | (refine ⟨cap_ok (by first | omega | (simp only [List.length_map];omega)) rfl,?_⟩;conv=>whnf)
 | (refine ix_map (by omega) ?_;conv=>whnf)
 | (refine ix_str (by omega) ?_;conv=>whnf)
 | (refine wrap64 (by omega) ?_;conv=>whnf)
 | (refine wrap64 (by omega) ?_;conv=>whnf)
 | (refine ⟨by decide +kernel,?_⟩;conv=>whnf)
 | (exfalso;simp only [List.length_map,List.length_cons,List.length_nil,List.length_append] at h;omega)
 | ((with_reducible refine endx_go ?_);first | (exact endx (congrArg i (by have e : goMax (o.old.length) (o.new.length) = (o.new.length : Int):=(by unfold goMax;split<;>omega);rw [e,decide_eq_true (show ((o.old.length : Nat) : Int) = (o.new.length : Nat) by omega),decide_eq_true (show (0 : Int) < (o.new.length : Nat) by omega),decide_eq_true (show ((o.new.length : Nat) : Int) ≤ 200 by omega)];rfl));done))
 | (refine ⟨rfl,?_⟩;conv=>whnf)
  | fail
  )
theorem c71 (s : Pg) (a : Nat) (b : Pg) (h : a + b.length ≤ s.length) (hs : s.length < 1000000) : Fn 71 [.str s,i a,.str b] (.str (s.take a ++ b ++ s.drop (a + b.length))):=by
 refine run_walkF eok Tryz.func71 rfl (by kernel_rfl) ?_
 conv=>whnf
 repeat' (first
 | ((with_reducible refine on_dec_t (by assumption) ?_);conv=>whnf)
 | ((with_reducible refine on_dec_f (by assumption) ?_);conv=>whnf)
 | ((with_reducible refine onBool_t (by assumption) ?_);conv=>whnf)
 | ((with_reducible refine onBool_f (by assumption) ?_);conv=>whnf)
 | ((with_reducible refine on_nt (by assumption) ?_);conv=>whnf)
 | ((with_reducible refine on_nf (by assumption) ?_);conv=>whnf)
 | ((with_reducible refine on_ndec_t (by first | assumption | rfl) ?_);conv=>whnf)
 | ((with_reducible refine on_ndec_f (by assumption) ?_);conv=>whnf)
 | ((with_reducible refine on_dec_t rfl ?_);conv=>whnf)
 | ((with_reducible refine on_dec_f ?_ ?_);(focus ((try simp only [List.length_map,List.length_cons,List.length_nil,List.length_append]);omega));conv=>whnf)
 | ((with_reducible refine on_dec_t ?_ ?_);(focus ((try simp only [List.length_map,List.length_cons,List.length_nil,List.length_append]);omega));conv=>whnf)
 | ((with_reducible refine on_dec (fun h=>?_) (fun h=>?_))<;>(try simp only [List.length_map] at h)<;>conv=>whnf)
 | ((with_reducible refine on_ndec (fun h=>?_) (fun h=>?_))<;>(try simp only [List.length_map] at h)<;>conv=>whnf)
 | ((with_reducible refine on_not (fun h=>?_) (fun h=>?_))<;>conv=>whnf)
 | ((with_reducible refine onBool_split (fun h=>?_) (fun h=>?_))<;>conv=>whnf)
 | (refine ⟨[],[],(by decide +kernel),?_⟩;conv=>whnf)
 | (refine ⟨⟨(by first | rfl | (simp;done)),cap_ok (by simp only [List.length_map,List.length_cons,List.length_nil,List.length_append];omega) rfl⟩,?_⟩;conv=>whnf)
 | (refine ⟨mem_one ⟨rfl,rfl⟩,?_⟩;conv=>whnf)
 | (refine ⟨(by intro y hy;obtain ⟨x,_,rfl⟩:=List.mem_map.1 hy;first | rfl | exact ⟨rfl,rfl⟩),?_⟩;conv=>whnf)
 | (refine ⟨cap_ok (by first | omega | (simp only [List.length_map];omega)) rfl,?_⟩;conv=>whnf)
 | (refine ix_map (by omega) ?_;conv=>whnf)
 | (refine ix_str (by omega) ?_;conv=>whnf)
 | (refine wrap64 (by omega) ?_;conv=>whnf)
 | (refine wrap64 (by omega) ?_;conv=>whnf)
 | (refine sl_str 0 a rfl rfl ⟨by omega,by omega⟩ ?_;conv=>whnf)
 | (refine sl_str (a + b.length) s.length (by omega) rfl ⟨by omega,by omega⟩ ?_;conv=>whnf)
 | (refine ⟨by first | omega | (simp only [List.length_append,List.length_take,List.length_drop];omega),?_⟩;conv=>whnf)
 | (refine ⟨by simp only [List.drop_zero,List.length_append,List.length_take,List.length_drop];omega,?_⟩;conv=>whnf)
 | (exfalso;simp only [List.length_map,List.length_cons,List.length_nil,List.length_append] at h;omega)
 | ((with_reducible refine endx_go ?_);first | (exact endx (by rw [List.drop_zero,List.take_length]);done))
 | (refine ⟨rfl,?_⟩;conv=>whnf)
  | fail
  )
theorem c41 (s : Pg) (hs : s.length = 512) (o : Pt) (ho : o.Ok) : Fn 41 [.str s,o.enc] (.tup [.str (pat o s),.bool (decide ((s.drop o.at_).take o.old.length = o.old))]):=by
 have h1:=ho.e;have h2:=ho.p;have h3:=ho.s;have h4:=ho.l
 refine run_walkF eok Tryz.func41 rfl (by kernel_rfl) ?_
 conv=>whnf
 repeat' (first
 | ((with_reducible refine on_dec_t (by assumption) ?_);conv=>whnf)
 | ((with_reducible refine on_dec_f (by assumption) ?_);conv=>whnf)
 | ((with_reducible refine onBool_t (by assumption) ?_);conv=>whnf)
 | ((with_reducible refine onBool_f (by assumption) ?_);conv=>whnf)
 | ((with_reducible refine on_nt (by assumption) ?_);conv=>whnf)
 | ((with_reducible refine on_nf (by assumption) ?_);conv=>whnf)
 | ((with_reducible refine on_ndec_t (by first | assumption | rfl) ?_);conv=>whnf)
 | ((with_reducible refine on_ndec_f (by assumption) ?_);conv=>whnf)
 | ((with_reducible refine on_dec_t rfl ?_);conv=>whnf)
 | ((with_reducible refine on_dec_f ?_ ?_);(focus ((try simp only [List.length_map,List.length_cons,List.length_nil,List.length_append]);omega));conv=>whnf)
 | ((with_reducible refine on_dec_t ?_ ?_);(focus ((try simp only [List.length_map,List.length_cons,List.length_nil,List.length_append]);omega));conv=>whnf)
 | ((with_reducible refine on_dec (fun h=>?_) (fun h=>?_))<;>(try simp only [List.length_map] at h)<;>conv=>whnf)
 | ((with_reducible refine on_ndec (fun h=>?_) (fun h=>?_))<;>(try simp only [List.length_map] at h)<;>conv=>whnf)
 | ((with_reducible refine on_not (fun h=>?_) (fun h=>?_))<;>conv=>whnf)
 | ((with_reducible refine onBool_split (fun h=>?_) (fun h=>?_))<;>conv=>whnf)
 | ((with_reducible refine call_go ?_);(first | refine call_step (run_data (xs:=[_]) (c70 o ho) _) ?_ | refine call_step (run_data (xs:=[_,_,_]) (c71 s o.at_ o.new (by omega) (by omega)) _) ?_);conv=>whnf)
 | (refine ⟨[],[],(by decide +kernel),?_⟩;conv=>whnf)
 | (refine ⟨[],[(8,5),(11,5),(13,5),(15,5)],(by decide +kernel),?_⟩;conv=>whnf)
 | (refine ⟨[],[(2,29),(3,29),(5,29),(9,29),(11,29),(12,29),(16,29)],(by decide +kernel),?_⟩;conv=>whnf)
 | (refine ⟨[],[(2,14),(3,14),(6,14),(10,14),(11,14),(18,14),(23,14),(26,14),(28,14)],(by decide +kernel),?_⟩;conv=>whnf)
 | (refine ⟨⟨(by first | rfl | (simp;done)),cap_ok (by simp only [List.length_map,List.length_cons,List.length_nil,List.length_append];omega) rfl⟩,?_⟩;conv=>whnf)
 | (refine ⟨mem_one ⟨rfl,rfl⟩,?_⟩;conv=>whnf)
 | (refine ⟨(by intro y hy;obtain ⟨x,_,rfl⟩:=List.mem_map.1 hy;first | rfl | exact ⟨rfl,rfl⟩),?_⟩;conv=>whnf)
 | (refine ⟨cap_ok (by first | omega | (simp only [List.length_map];omega)) rfl,?_⟩;conv=>whnf)
 | (refine ix_map (by omega) ?_;conv=>whnf)
 | (refine ix_str (by omega) ?_;conv=>whnf)
 | (refine wrap64 (by omega) ?_;conv=>whnf)
 | (refine wrap64 (by omega) ?_;conv=>whnf)
 | (refine sl_str o.at_ s.length rfl rfl ⟨by omega,Nat.le_refl _⟩ ?_;conv=>whnf)
 | (refine sl_str 0 o.old.length rfl rfl ⟨by omega,by rw [List.length_drop,List.length_take];omega⟩ ?_;conv=>whnf)
 | (exfalso;simp only [List.length_map,List.length_cons,List.length_nil,List.length_append] at h;omega)
 | ((with_reducible refine endx_go ?_);first | ((rw [List.drop_zero,List.take_length];exact endxv (view_tup (vlc rfl (vlc rfl vln))) rfl);done))
 | (refine ⟨rfl,?_⟩;conv=>whnf)
  | fail
  )
end Go.Proofs.YtkeeienjocbkbaaGreatDoor
namespace Go.Proofs.YtkeeienjocbkbaaGreatDoor
open Go Dw
set_option maxRecDepth 10000
attribute [local irreducible] Run
set_option maxHeartbeats 600000
def zop : D:=.agg [i 0,i 0,i 0,i 0,.str [],.str []]
def pK (a b : Pg) (k : Nat) : Int:=if qS a b k = 512 then 0 else 1
def qT (a b : Pg) (k : Nat) : Int:=if qS a b k = 512 then 0 else qS a b k
def pL (a b : Pg) (k : Nat) : Pg:=if qS a b k = 512 then [] else cut a (qS a b k) (pE a b k)
def pW (a b : Pg) (k : Nat) : Pg:=if qS a b k = 512 then [] else cut b (qS a b k) (pE a b k)
abbrev pD (a b : Pg) (k : Nat) : D:=.agg [i (pK a b k),i (qT a b k),i 0,i 0,.str (pL a b k),.str (pW a b k)]
def pA (a b : Pg) (k : Nat) : Nat:=if qS a b k = 512 then 512 else pE a b k
def pB (a b : Pg) (k : Nat) : Bool:=!decide (qS a b k = 512)
theorem by8 {a b : Pg} {k : Nat} (ha : k < a.length) (hb : k < b.length) : ((a[k].toNat : Int) = (b[k].toNat : Int)) ↔ a[k]? = b[k]?:=by
 rw [List.getElem?_eq_getElem ha,List.getElem?_eq_getElem hb]
 constructor
 ·intro h
  have : a[k] = b[k]:=UInt8.toNat_inj.1 (by omega)
  rw [this]
 ·intro h
  rw [Option.some.inj h]
theorem pD_n {a b : Pg} {k : Nat} (h : qS a b k = 512) : pD a b k = zop:=by unfold pD pK qT pL pW;simp only [if_pos h];rfl
theorem pA_n {a b : Pg} {k : Nat} (h : qS a b k = 512) : pA a b k = 512:=by unfold pA;rw [if_pos h]
theorem pB_n {a b : Pg} {k : Nat} (h : qS a b k = 512) : pB a b k = false:=by unfold pB;rw [decide_eq_true h];rfl
theorem pD_s {a b : Pg} {k : Nat} (h : ¬ qS a b k = 512) : pD a b k = (pQ a b k).enc:=by unfold pD pK qT pL pW pQ Pt.enc;simp only [if_neg h]
theorem pA_s {a b : Pg} {k : Nat} (h : ¬ qS a b k = 512) : pA a b k = pE a b k:=by unfold pA;rw [if_neg h]
theorem pB_s {a b : Pg} {k : Nat} (h : ¬ qS a b k = 512) : pB a b k = true:=by unfold pB;rw [decide_eq_false h];rfl
theorem pB_t {a b : Pg} {k : Nat} (h : pB a b k = true) : ¬ qS a b k = 512:=by
 intro c
 rw [pB_n c] at h
 cases h
theorem pB_f {a b : Pg} {k : Nat} (h : pB a b k = false) : qS a b k = 512:=by
 by_cases c : qS a b k = 512
 ·exact c
 ·rw [pB_s c] at h;cases h
theorem on_gmin {n k x : Nat} {A B : Prop} (ht : x < min n (k + 200) → A) (hf : ¬ x < min n (k + 200) → B) : onBool (decide ((x : Int) < goMin (n : Int) ((k : Int) + 200))) A B:=by
 have e : goMin (n : Int) ((k : Int) + 200) = ((min n (k + 200) : Nat) : Int):=by unfold goMin;split<;>omega
 rw [e]
 exact on_dec (fun h=>ht (by omega)) (fun h=>hf (by omega))
theorem c39t {p : Prop} [Decidable p] (h : p) (e : Int) : Fn 39 [.bool (decide p),i e] (i 0):=by
 rw [decide_eq_true h]
 exact c39 true e
theorem fitsP_eq {o : Pt} {s : Pg} (h : fitsP o s) : (s.drop o.at_).take o.old.length = o.old:=h
theorem betF_n {a b : Pg} (ha : a.length = 512) {k : Nat} (h : qS a b k = 512) : ∀ n,betF a b n k = []
 | 0=>rfl
 | n + 1=>by unfold betF;rw [if_pos (by omega)]
theorem betF_s {a b : Pg} (ha : a.length = 512) {k : Nat} (h : ¬ qS a b k = 512) {n : Nat} (hn : 0 < n) : betF a b n k = pQ a b k :: betF a b (n - 1) (pE a b k):=by
 obtain ⟨m,rfl⟩ : ∃ m,n = m + 1:=⟨n - 1,by omega⟩
 conv=>lhs;unfold betF
 rw [if_neg (by omega)]
 rfl
theorem pA_fact {a b : Pg} (ha : a.length = 512) (hb : b.length = 512) {k : Nat} (hk : k ≤ 512) (h : pB a b k = true) : k + 1 ≤ pA a b k ∧ pA a b k ≤ 512 ∧ ¬ qS a b k = 512 ∧ pA a b k = pE a b k:=by
 have hS:=pB_t h
 have h1:=qS_le (a:=a) (b:=b) (by omega) (k:=k) (by omega)
 have h2:=pE_le (a:=a) (b:=b) (by omega) (k:=k) (by omega) (by omega)
 rw [pA_s hS]
 exact ⟨by omega,by omega,hS,rfl⟩
theorem bet_zero {a b : Pg} (ha : a.length = 512) : [] ++ betF a b 513 0 = bet a b 0:=by unfold bet;rw [ha];rfl
attribute [local irreducible] sk en qS pE pK qT pL pW pA pB pQ bet betF pat fitsP
theorem sk_qS (a b : Pg) (k : Nat) : sk a b k = qS a b k:=by unfold qS;rfl
theorem en_pE {a b : Pg} (ha : a.length = 512) (k : Nat) : en a b (min 512 (qS a b k + 200)) (qS a b k + 1) (qS a b k + 1) = pE a b k:=by unfold pE;rw [ha,sk_qS]
theorem cut_sl (s : Pg) (m n : Nat) : (s.take n).drop m = cut s m n:=by unfold cut;rw [List.drop_take]
theorem pQ_enc (a b : Pg) (k : Nat) : (pQ a b k).enc = .agg [i 1,i (qS a b k),i 0,i 0,.str (cut a (qS a b k) (pE a b k)),.str (cut b (qS a b k) (pE a b k))]:=by unfold pQ Pt.enc;rfl
theorem c38 (a b : Pg) (ha : a.length = 512) (hb : b.length = 512) (k0 : Nat) (hk : k0 ≤ 512) : Fn 38 [.str a,.str b,i k0] (.tup [pD a b k0,i (pA a b k0),.bool (pB a b k0)]):=by
 refine run_walkF eok Tryz.func38 rfl (by kernel_rfl) ?_
 conv=>whnf
 repeat' (first
 | ((with_reducible refine on_dec_t (by assumption) ?_);conv=>whnf)
 | ((with_reducible refine on_dec_f (by assumption) ?_);conv=>whnf)
 | ((with_reducible refine onBool_t (by assumption) ?_);conv=>whnf)
 | ((with_reducible refine onBool_f (by assumption) ?_);conv=>whnf)
 | ((with_reducible refine on_nt (by assumption) ?_);conv=>whnf)
 | ((with_reducible refine on_nf (by assumption) ?_);conv=>whnf)
 | ((with_reducible refine on_ndec_t (by first | assumption | rfl) ?_);conv=>whnf)
 | ((with_reducible refine on_ndec_f (by assumption) ?_);conv=>whnf)
 | ((with_reducible refine on_dec_t rfl ?_);conv=>whnf)
 | ((with_reducible refine on_gmin (fun h=>?_) (fun h=>?_))<;>conv=>whnf)
 | ((with_reducible refine on_dec (fun h=>?_) (fun h=>?_))<;>(try simp only [List.length_map] at h)<;>conv=>whnf)
 | ((with_reducible refine on_dec_f ?_ ?_);(focus ((try simp only [List.length_map,List.length_cons,List.length_nil,List.length_append]);omega));conv=>whnf)
 | ((with_reducible refine on_dec_t ?_ ?_);(focus ((try simp only [List.length_map,List.length_cons,List.length_nil,List.length_append]);omega));conv=>whnf)
 | ((with_reducible refine on_dec (fun h=>?_) (fun h=>?_))<;>(try simp only [List.length_map] at h)<;>conv=>whnf)
 | ((with_reducible refine on_ndec (fun h=>?_) (fun h=>?_))<;>(try simp only [List.length_map] at h)<;>conv=>whnf)
 | ((with_reducible refine on_not (fun h=>?_) (fun h=>?_))<;>conv=>whnf)
 | ((with_reducible refine onBool_split (fun h=>?_) (fun h=>?_))<;>conv=>whnf)
 | (refine ⟨[],[],(by decide +kernel),?_⟩;conv=>whnf)
 | ((with_reducible refine loop_go ?_);first | (refine loop2 (fun (x : Nat) (e : Nat)=>512 - x) (fun (x : Nat) (e : Nat)=>k + 1 ≤ e ∧ e ≤ x ∧ e ≤ 512 ∧ e ≤ k + 200 ∧ x ≤ 512 ∧ en a b (min 512 (k + 200)) x e = en a b (min 512 (k + 200)) (k + 1) (k + 1)) (fun (x : Nat) (e : Nat)=>[(0,.d (.str a)),(1,.d (.str b)),(2,.d (i k)),(6,.ptr 0 0 0),(9,.d (i e)),(10,.d (i x))]) (fun (x : Nat) (e : Nat)=>[⟨[.d zop],6,0⟩]) (k + 1) (k + 1) (by exact ⟨by omega,by omega,by omega,by omega,by omega,rfl⟩) ?_ (fun x e C2 hI2 hC2=>?_);(exact ⟨[.old 0],rfl,rfl,⟨(by first | (show (_ : D) = _;with_reducible rfl) | exact rfl),(by first | (show (_ : D) = _;with_reducible rfl) | exact rfl),(by first | (show (_ : D) = _;with_reducible rfl) | exact congrArg (D.int .i64) (by omega) | exact congrArg (D.int .i64) (by simp only [List.length_map]) | exact rfl),⟨rfl,rfl,rfl⟩,(by first | (show (_ : D) = _;with_reducible rfl) | exact congrArg (D.int .i64) (by omega) | exact congrArg (D.int .i64) (by simp only [List.length_map]) | exact rfl),(by first | (show (_ : D) = _;with_reducible rfl) | exact congrArg (D.int .i64) (by omega) | exact congrArg (D.int .i64) (by simp only [List.length_map]) | exact rfl),trivial⟩,⟨⟨rfl,rfl,.inl ⟨[_],rfl,rfl⟩⟩,trivial⟩⟩);all_goals (conv=>whnf)) | (refine loop1 (fun (k : Nat)=>512 - k) (fun (k : Nat)=>k ≤ 512 ∧ sk a b k = sk a b k0) (fun (k : Nat)=>[(0,.d (.str a)),(1,.d (.str b)),(2,.d (i k)),(6,.ptr 0 0 0)]) (fun (k : Nat)=>[⟨[.d zop],6,0⟩]) (k0) (by exact ⟨hk,rfl⟩) ?_ (fun k C hI hC=>?_);(exact ⟨[.old 0],rfl,rfl,⟨(by first | (show (_ : D) = _;with_reducible rfl) | exact rfl),(by first | (show (_ : D) = _;with_reducible rfl) | exact rfl),(by first | (show (_ : D) = _;with_reducible rfl) | exact congrArg (D.int .i64) (by omega) | exact congrArg (D.int .i64) (by simp only [List.length_map]) | exact rfl),⟨rfl,rfl,rfl⟩,trivial⟩,⟨⟨rfl,rfl,.inr ⟨⟨rfl,⟨rfl,rfl,rfl,rfl,rfl,rfl,trivial⟩⟩,trivial⟩⟩,trivial⟩⟩);all_goals (conv=>whnf)))
 | ((with_reducible show C _ _);first | (refine hC (k + 1) _ _ ?_ (by omega) ?_;clear hC;rotate_left;(exact ⟨[.old 0],rfl,rfl,⟨(by first | (show (_ : D) = _;with_reducible rfl) | exact rfl),(by first | (show (_ : D) = _;with_reducible rfl) | exact rfl),(by first | (show (_ : D) = _;with_reducible rfl) | exact congrArg (D.int .i64) (by omega) | exact congrArg (D.int .i64) (by simp only [List.length_map]) | exact rfl),⟨rfl,rfl,rfl⟩,trivial⟩,⟨⟨rfl,rfl,.inl ⟨[_],rfl,rfl⟩⟩,trivial⟩⟩);(exact ⟨by omega,by rw [← hI.2];exact sk_step (by omega) ((by8 (by omega) (by omega)).1 (by assumption))⟩)))
 | ((with_reducible show C2 _ _);first | (refine hC2 (x + 1) (x + 1) _ _ ?_ (by omega) ?_;clear hC2;rotate_left;(exact ⟨[.old 0],rfl,rfl,⟨(by first | (show (_ : D) = _;with_reducible rfl) | exact rfl),(by first | (show (_ : D) = _;with_reducible rfl) | exact rfl),(by first | (show (_ : D) = _;with_reducible rfl) | exact congrArg (D.int .i64) (by omega) | exact congrArg (D.int .i64) (by simp only [List.length_map]) | exact rfl),⟨rfl,rfl,rfl⟩,(by first | (show (_ : D) = _;with_reducible rfl) | exact congrArg (D.int .i64) (by omega) | exact congrArg (D.int .i64) (by simp only [List.length_map]) | exact rfl),(by first | (show (_ : D) = _;with_reducible rfl) | exact congrArg (D.int .i64) (by omega) | exact congrArg (D.int .i64) (by simp only [List.length_map]) | exact rfl),trivial⟩,⟨⟨rfl,rfl,.inl ⟨[_],rfl,rfl⟩⟩,trivial⟩⟩);(exact ⟨by omega,by omega,by omega,by omega,by omega,by rw [← hI2.2.2.2.2.2];exact en_ne (by omega) (by omega) (fun c=>by have:=(by8 (by omega) (by omega)).2 c;omega)⟩)) | (refine hC2 (x + 1) (e) _ _ ?_ (by omega) ?_;clear hC2;rotate_left;(exact ⟨[.old 0],rfl,rfl,⟨(by first | (show (_ : D) = _;with_reducible rfl) | exact rfl),(by first | (show (_ : D) = _;with_reducible rfl) | exact rfl),(by first | (show (_ : D) = _;with_reducible rfl) | exact congrArg (D.int .i64) (by omega) | exact congrArg (D.int .i64) (by simp only [List.length_map]) | exact rfl),⟨rfl,rfl,rfl⟩,(by first | (show (_ : D) = _;with_reducible rfl) | exact congrArg (D.int .i64) (by omega) | exact congrArg (D.int .i64) (by simp only [List.length_map]) | exact rfl),(by first | (show (_ : D) = _;with_reducible rfl) | exact congrArg (D.int .i64) (by omega) | exact congrArg (D.int .i64) (by simp only [List.length_map]) | exact rfl),trivial⟩,⟨⟨rfl,rfl,.inl ⟨[_],rfl,rfl⟩⟩,trivial⟩⟩);(exact ⟨by omega,by omega,by omega,by omega,by omega,by rw [← hI2.2.2.2.2.2];exact en_eq (by omega) (by omega) ((by8 (by omega) (by omega)).1 (by omega))⟩)))
 | (refine ⟨⟨(by first | rfl | (simp;done)),cap_ok (by simp only [List.length_map,List.length_cons,List.length_nil,List.length_append];omega) rfl⟩,?_⟩;conv=>whnf)
 | (refine ⟨mem_one ⟨rfl,rfl⟩,?_⟩;conv=>whnf)
 | (refine ⟨(by intro y hy;obtain ⟨x,_,rfl⟩:=List.mem_map.1 hy;first | rfl | exact ⟨rfl,rfl⟩),?_⟩;conv=>whnf)
 | (refine ⟨cap_ok (by first | omega | (simp only [List.length_map];omega)) rfl,?_⟩;conv=>whnf)
 | (refine ix_map (by omega) ?_;conv=>whnf)
 | (refine ix_str (by omega) ?_;conv=>whnf)
 | (refine wrap64 (by omega) ?_;conv=>whnf)
 | (refine wrap64 (by omega) ?_;conv=>whnf)
 | (refine sl_str k e rfl rfl ⟨by omega,by omega⟩ ?_;conv=>whnf)
 | (exfalso;simp only [List.length_map,List.length_cons,List.length_nil,List.length_append] at h;omega)
 | ((with_reducible refine endx_go ?_);first | (exfalso;omega;done) | ((have hS : qS a b k0 = 512:=(by rw [← sk_qS,← hI.2,sk_end (by omega)];omega));refine endxv (view_tup (vlc rfl (vlc rfl (vlc rfl vln)))) ?_;rw [pD_n hS,pA_n hS,pB_n hS,show k = 512 by omega];rfl;done) | ((have hS : qS a b k0 = k:=(by rw [← sk_qS,← hI.2];exact sk_stop (by omega) (fun c=>absurd ((by8 (by omega) (by omega)).2 c) (by assumption))));(have hE : pE a b k0 = e:=(by rw [← en_pE ha,hS,← hI2.2.2.2.2.2];exact en_stop (by omega)));(have e9 : D.tup [pD a b k0,i (pA a b k0),.bool (pB a b k0)] = .tup [.agg [i 1,i k,i 0,i 0,.str ((a.take e).drop k),.str ((b.take e).drop k)],i e,.bool true]:=(by rw [pD_s (by omega),pA_s (by omega),pB_s (by omega),pQ_enc,hS,hE,← cut_sl,← cut_sl]));rw [e9];exact endxv (view_tup (vlc rfl (vlc rfl (vlc rfl vln)))) rfl;done))
 | (refine ⟨rfl,?_⟩;conv=>whnf)
  | fail
  )
theorem c38z (a b : Pg) (ha : a.length = 512) (hb : b.length = 512) : Fn 38 [.str a,.str b,.int .i64 0] (.tup [pD a b 0,i (pA a b 0),.bool (pB a b 0)]):=c38 a b ha hb 0 (Nat.zero_le _)
theorem c11 (a b : Pg) (ha : a.length = 512) (hb : b.length = 512) : Fn 11 [.str a,.str b] (.tup [.fs ((bet a b 0).map Pt.enc),i 0]):=by
 refine run_walkF eok Tryz.func11 rfl (by kernel_rfl) ?_
 conv=>whnf
 repeat' (first
 | ((with_reducible refine on_dec_t (by assumption) ?_);conv=>whnf)
 | ((with_reducible refine on_dec_f (by assumption) ?_);conv=>whnf)
 | ((with_reducible refine onBool_t (by assumption) ?_);conv=>whnf)
 | ((with_reducible refine onBool_f (by assumption) ?_);conv=>whnf)
 | ((with_reducible refine on_nt (by assumption) ?_);conv=>whnf)
 | ((with_reducible refine on_nf (by assumption) ?_);conv=>whnf)
 | ((with_reducible refine on_ndec_t (by first | assumption | rfl) ?_);conv=>whnf)
 | ((with_reducible refine on_ndec_f (by assumption) ?_);conv=>whnf)
 | ((with_reducible refine on_dec_t rfl ?_);conv=>whnf)
 | ((with_reducible refine on_gmin (fun h=>?_) (fun h=>?_))<;>conv=>whnf)
 | ((with_reducible refine on_dec (fun h=>?_) (fun h=>?_))<;>(try simp only [List.length_map] at h)<;>conv=>whnf)
 | ((with_reducible refine on_dec_f ?_ ?_);(focus ((try simp only [List.length_map,List.length_cons,List.length_nil,List.length_append]);omega));conv=>whnf)
 | ((with_reducible refine on_dec_t ?_ ?_);(focus ((try simp only [List.length_map,List.length_cons,List.length_nil,List.length_append]);omega));conv=>whnf)
 | ((with_reducible refine on_dec (fun h=>?_) (fun h=>?_))<;>(try simp only [List.length_map] at h)<;>conv=>whnf)
 | ((with_reducible refine on_ndec (fun h=>?_) (fun h=>?_))<;>(try simp only [List.length_map] at h)<;>conv=>whnf)
 | ((with_reducible refine on_not (fun h=>?_) (fun h=>?_))<;>conv=>whnf)
 | ((with_reducible refine onBool_split (fun h=>?_) (fun h=>?_))<;>conv=>whnf)
 | ((with_reducible refine call_go ?_);(first | refine call_step (run_data (xs:=[_]) (c37 a (by omega)) _) ?_ | refine call_step (run_data (xs:=[_]) (c37 b (by omega)) _) ?_ | refine call_step (run_view (c36 [_,_] (by simp)) rfl rfl) ?_ | refine call_step (run_data (xs:=[_,_,_]) (c38z a b ha hb) _) ?_ | refine call_step (run_data (xs:=[_,_,_]) (c38 a b ha hb _ (pA_fact ha hb hI.2.1 (by assumption)).2.1) _) ?_);conv=>whnf)
 | ((with_reducible refine loop_go ?_);first | (refine loop3 (fun (n : Nat) (k : Nat) (out : List Pt)=>n) (fun (n : Nat) (k : Nat) (out : List Pt)=>513 ≤ n + k ∧ k ≤ 512 ∧ out.length ≤ k ∧ out ++ betF a b n k = bet a b 0) (fun (n : Nat) (k : Nat) (out : List Pt)=>[(0,.d (.str a)),(1,.d (.str b)),(7,.sl 1 0 out.length 6 none),(8,.ptr 0 0 0),(9,.d (i (pA a b k))),(10,.d (.bool (pB a b k)))]) (fun (n : Nat) (k : Nat) (out : List Pt)=>[⟨[.d (pD a b k)],6,0⟩,⟨(out.map Pt.enc).map .d,6,0⟩]) (513) (0) ([]) (by exact ⟨by omega,by omega,by simp,bet_zero ha⟩) ?_ (fun n k out C hI hC=>?_);(exact ⟨[.old 1,.void 6],rfl,rfl,⟨(by first | (show (_ : D) = _;with_reducible rfl) | exact rfl),(by first | (show (_ : D) = _;with_reducible rfl) | exact rfl),⟨rfl,rfl,rfl,rfl⟩,⟨rfl,rfl,rfl⟩,(by first | (show (_ : D) = _;with_reducible rfl) | exact congrArg (D.int .i64) (by omega) | exact congrArg (D.int .i64) (by simp only [List.length_map]) | exact rfl),(by first | (show (_ : D) = _;with_reducible rfl) | (refine congrArg D.bool ?_;simp_all)),trivial⟩,⟨⟨rfl,rfl,.inl ⟨[_],rfl,rfl⟩⟩,⟨rfl,rfl,(by decide),rfl⟩,trivial⟩⟩);all_goals (conv=>whnf)))
 | ((with_reducible show C _ _);first | (refine hC (n - 1) (pA a b k) (out ++ [pQ a b k]) _ _ ?_ (by omega) ?_;clear hC;rotate_left;(exact ⟨[.old 4,.old 3],rfl,rfl,⟨(by first | (show (_ : D) = _;with_reducible rfl) | exact rfl),(by first | (show (_ : D) = _;with_reducible rfl) | exact rfl),⟨rfl,rfl,(by simp),rfl,rfl⟩,⟨rfl,rfl,rfl⟩,(by first | (show (_ : D) = _;with_reducible rfl) | exact congrArg (D.int .i64) (by omega) | exact congrArg (D.int .i64) (by simp only [List.length_map]) | exact rfl),(by first | (show (_ : D) = _;with_reducible rfl) | (refine congrArg D.bool ?_;simp_all)),trivial⟩,⟨⟨rfl,rfl,.inl ⟨[_],rfl,rfl⟩⟩,⟨rfl,rfl,.inr (wks_add (wksd _ _) (by rw [← pD_s (pB_t (by assumption))];rfl))⟩,trivial⟩⟩);(have hQ:=pA_fact ha hb hI.2.1 (by assumption);exact ⟨by omega,hQ.2.1,by rw [List.length_append,List.length_singleton];omega,by rw [hQ.2.2.2,List.append_assoc,List.singleton_append,← betF_s ha hQ.2.2.1 (by omega)];exact hI.2.2.2⟩)))
 | (refine ⟨⟨(by first | rfl | (simp;done)),cap_ok (by simp only [List.length_map,List.length_cons,List.length_nil,List.length_append];omega) rfl⟩,?_⟩;conv=>whnf)
 | (refine ⟨mem_one ⟨rfl,rfl⟩,?_⟩;conv=>whnf)
 | (refine ⟨(by intro y hy;obtain ⟨x,_,rfl⟩:=List.mem_map.1 hy;first | rfl | exact ⟨rfl,rfl⟩),?_⟩;conv=>whnf)
 | (refine ⟨cap_ok (by first | omega | (simp only [List.length_map];omega)) rfl,?_⟩;conv=>whnf)
 | (refine ix_map (by omega) ?_;conv=>whnf)
 | (refine ix_str (by omega) ?_;conv=>whnf)
 | (refine wrap64 (by omega) ?_;conv=>whnf)
 | (refine wrap64 (by omega) ?_;conv=>whnf)
 | (refine ⟨(by simp),?_⟩;conv=>whnf)
 | (exfalso;simp only [List.length_map,List.length_cons,List.length_nil,List.length_append] at h;omega)
 | ((with_reducible refine endx_go ?_);first | ((have e : out = bet a b 0:=(by rw [← hI.2.2.2,betF_n ha (pB_f (by assumption)),List.append_nil]));refine endxv (view_tup (vlc (view_map rfl Nat.two_pos) (vlc rfl vln))) ?_;((rw [e])<;>rfl);done))
 | (refine ⟨rfl,?_⟩;conv=>whnf)
  | fail
  )
theorem c13 (l : List Pt) (hl : l.length < 1000000) : Fn 13 [.fs (l.map Pt.enc)] (.fs (l.map Pt.enc)):=by
 refine run_walkF eok Tryz.func13 rfl (by kernel_rfl) ?_
 conv=>whnf
 repeat' (first
 | ((with_reducible refine on_dec_t (by assumption) ?_);conv=>whnf)
 | ((with_reducible refine on_dec_f (by assumption) ?_);conv=>whnf)
 | ((with_reducible refine onBool_t (by assumption) ?_);conv=>whnf)
 | ((with_reducible refine onBool_f (by assumption) ?_);conv=>whnf)
 | ((with_reducible refine on_nt (by assumption) ?_);conv=>whnf)
 | ((with_reducible refine on_nf (by assumption) ?_);conv=>whnf)
 | ((with_reducible refine on_ndec_t (by first | assumption | rfl) ?_);conv=>whnf)
 | ((with_reducible refine on_ndec_f (by assumption) ?_);conv=>whnf)
 | ((with_reducible refine on_dec_t rfl ?_);conv=>whnf)
 | ((with_reducible refine on_gmin (fun h=>?_) (fun h=>?_))<;>conv=>whnf)
 | ((with_reducible refine on_dec (fun h=>?_) (fun h=>?_))<;>(try simp only [List.length_map] at h)<;>conv=>whnf)
 | ((with_reducible refine on_dec_f ?_ ?_);(focus ((try simp only [List.length_map,List.length_cons,List.length_nil,List.length_append]);omega));conv=>whnf)
 | ((with_reducible refine on_dec_t ?_ ?_);(focus ((try simp only [List.length_map,List.length_cons,List.length_nil,List.length_append]);omega));conv=>whnf)
 | ((with_reducible refine on_dec (fun h=>?_) (fun h=>?_))<;>(try simp only [List.length_map] at h)<;>conv=>whnf)
 | ((with_reducible refine on_ndec (fun h=>?_) (fun h=>?_))<;>(try simp only [List.length_map] at h)<;>conv=>whnf)
 | ((with_reducible refine on_not (fun h=>?_) (fun h=>?_))<;>conv=>whnf)
 | ((with_reducible refine onBool_split (fun h=>?_) (fun h=>?_))<;>conv=>whnf)
 | (refine ⟨⟨(by first | rfl | (simp;done)),cap_ok (by simp only [List.length_map,List.length_cons,List.length_nil,List.length_append];omega) rfl⟩,?_⟩;conv=>whnf)
 | (refine ⟨mem_one ⟨rfl,rfl⟩,?_⟩;conv=>whnf)
 | (refine ⟨(by intro y hy;obtain ⟨x,_,rfl⟩:=List.mem_map.1 hy;first | rfl | exact ⟨rfl,rfl⟩),?_⟩;conv=>whnf)
 | (refine ⟨cap_ok (by first | omega | (simp only [List.length_map];omega)) rfl,?_⟩;conv=>whnf)
 | (refine ix_map (by omega) ?_;conv=>whnf)
 | (refine ix_str (by omega) ?_;conv=>whnf)
 | (refine wrap64 (by omega) ?_;conv=>whnf)
 | (refine wrap64 (by omega) ?_;conv=>whnf)
 | (exfalso;simp only [List.length_map,List.length_cons,List.length_nil,List.length_append] at h;omega)
 | ((with_reducible refine endx_go ?_);first | (exact endxv (view_new rfl (by decide)) rfl;done))
 | (refine ⟨rfl,?_⟩;conv=>whnf)
  | fail
  )
theorem c12 (l : List Pt) (s r : Pg) (hs : s.length = 512) (h : Aps l s r) (ho : ∀ o ∈ l,o.Ok) (hl : l.length ≤ 64) : Fn 12 [.str s,.fs (l.map Pt.enc)] (.tup [.str r,i l.length,i 0]):=by
 refine run_walkF eok Tryz.func12 rfl (by kernel_rfl) ?_
 conv=>whnf
 repeat' (first
 | ((with_reducible refine on_dec_t (by assumption) ?_);conv=>whnf)
 | ((with_reducible refine on_dec_f (by assumption) ?_);conv=>whnf)
 | ((with_reducible refine onBool_t (by assumption) ?_);conv=>whnf)
 | ((with_reducible refine onBool_f (by assumption) ?_);conv=>whnf)
 | ((with_reducible refine on_nt (by assumption) ?_);conv=>whnf)
 | ((with_reducible refine on_nf (by assumption) ?_);conv=>whnf)
 | ((with_reducible refine on_ndec_t (by first | assumption | rfl) ?_);conv=>whnf)
 | ((with_reducible refine on_ndec_f (by assumption) ?_);conv=>whnf)
 | ((with_reducible refine on_dec_t rfl ?_);conv=>whnf)
 | ((refine on_nf (decide_eq_true (fitsP_eq (aps_drop (by omega) hI.2.2).1)) ?_);conv=>whnf)
 | ((with_reducible refine on_dec_f ?_ ?_);(focus ((try simp only [List.length_map,List.length_cons,List.length_nil,List.length_append]);omega));conv=>whnf)
 | ((with_reducible refine on_dec_t ?_ ?_);(focus ((try simp only [List.length_map,List.length_cons,List.length_nil,List.length_append]);omega));conv=>whnf)
 | ((with_reducible refine on_dec (fun h=>?_) (fun h=>?_))<;>(try simp only [List.length_map] at h)<;>conv=>whnf)
 | ((with_reducible refine on_ndec (fun h=>?_) (fun h=>?_))<;>(try simp only [List.length_map] at h)<;>conv=>whnf)
 | ((with_reducible refine on_not (fun h=>?_) (fun h=>?_))<;>conv=>whnf)
 | ((with_reducible refine onBool_split (fun h=>?_) (fun h=>?_))<;>conv=>whnf)
 | ((with_reducible refine call_go ?_);(first | refine call_step (run_data (xs:=[_]) (c37 s (by omega)) _) ?_ | refine call_step (run_data (xs:=[_]) (c37 p hI.2.1) _) ?_ | refine call_step (run_data (xs:=[_,_]) (c39t (by first | omega | (simp only [List.length_map];omega)) _) _) ?_ | refine call_step (run_view (c36 [_,_] (by simp)) rfl rfl) ?_ | refine call_step (run_view (c36 [_,_,_] (by simp)) rfl rfl) ?_ | refine call_step (run_data (xs:=[_]) (c40 (l[k]'(by omega)) (ho _ (List.getElem_mem _))) _) ?_ | refine call_step (run_data (xs:=[_]) (c40 o ho) _) ?_ | refine call_step (run_data (xs:=[_,_]) (c41 p hI.2.1 (l[k]'(by omega)) (ho _ (List.getElem_mem _))) _) ?_ | refine call_step (run_data (xs:=[_,_]) (c41 s hs o ho) _) ?_);conv=>whnf)
 | ((with_reducible refine loop_go ?_);first | (refine loop2 (fun (k : Nat) (p : Pg)=>l.length - k) (fun (k : Nat) (p : Pg)=>k ≤ l.length ∧ p.length = 512 ∧ Aps (l.drop k) p r) (fun (k : Nat) (p : Pg)=>[(0,.d (.str p)),(1,.d (.fs (l.map Pt.enc))),(24,.d (.fs (l.map Pt.enc))),(25,.d (i l.length)),(26,.d (i k))]) (fun (k : Nat) (p : Pg)=>[]) (0) (s) (by exact ⟨Nat.zero_le _,hs,h⟩) ?_ (fun k p C hI hC=>?_);(exact ⟨[],rfl,rfl,⟨(by first | (show (_ : D) = _;with_reducible rfl) | exact rfl),(by first | (show (_ : D) = _;with_reducible rfl) | exact rfl),(by first | (show (_ : D) = _;with_reducible rfl) | exact rfl),(by first | (show (_ : D) = _;with_reducible rfl) | exact congrArg (D.int .i64) (by omega) | exact congrArg (D.int .i64) (by simp only [List.length_map]) | exact rfl),(by first | (show (_ : D) = _;with_reducible rfl) | exact congrArg (D.int .i64) (by omega) | exact congrArg (D.int .i64) (by simp only [List.length_map]) | exact rfl),trivial⟩,trivial⟩);all_goals (conv=>whnf)))
 | ((with_reducible show C _ _);first | (refine hC (k + 1) (pat (l[k]'(by omega)) p) _ _ ?_ (by omega) ?_;clear hC;rotate_left;(exact ⟨[],rfl,rfl,⟨(by first | (show (_ : D) = _;with_reducible rfl) | exact rfl),(by first | (show (_ : D) = _;with_reducible rfl) | exact rfl),(by first | (show (_ : D) = _;with_reducible rfl) | exact rfl),(by first | (show (_ : D) = _;with_reducible rfl) | exact congrArg (D.int .i64) (by omega) | exact congrArg (D.int .i64) (by simp only [List.length_map]) | exact rfl),(by first | (show (_ : D) = _;with_reducible rfl) | exact congrArg (D.int .i64) (by omega) | exact congrArg (D.int .i64) (by simp only [List.length_map]) | exact rfl),trivial⟩,trivial⟩);(exact ⟨by omega,pat_len (ho _ (List.getElem_mem _)) hI.2.1,(aps_drop (by omega) hI.2.2).2⟩)))
 | (refine ⟨⟨(by first | rfl | (simp;done)),cap_ok (by simp only [List.length_map,List.length_cons,List.length_nil,List.length_append];omega) rfl⟩,?_⟩;conv=>whnf)
 | (refine ⟨mem_one ⟨rfl,rfl⟩,?_⟩;conv=>whnf)
 | (refine ⟨(by intro y hy;obtain ⟨x,_,rfl⟩:=List.mem_map.1 hy;first | rfl | exact ⟨rfl,rfl⟩),?_⟩;conv=>whnf)
 | (refine ⟨cap_ok (by first | omega | (simp only [List.length_map];omega)) rfl,?_⟩;conv=>whnf)
 | (refine ix_map (by omega) ?_;conv=>whnf)
 | (refine ix_str (by omega) ?_;conv=>whnf)
 | (refine wrap64 (by omega) ?_;conv=>whnf)
 | (refine wrap64 (by omega) ?_;conv=>whnf)
 | (exfalso;simp only [List.length_map,List.length_cons,List.length_nil,List.length_append] at h;omega)
 | ((with_reducible refine endx_go ?_);first | ((have e : p = r:=(by have:=hI.2.2;rw [List.drop_eq_nil_of_le (by omega)] at this;exact this));refine endxv (view_tup (vlc rfl (vlc rfl (vlc rfl vln)))) ?_;rw [e,List.length_map];done) | (exact absurd (fitsP_eq (aps_drop (by omega) hI.2.2).1) (by assumption);done))
 | (refine ⟨rfl,?_⟩;conv=>whnf)
  | fail
  )
theorem c14 (s : Pg) (hs : s.length = 512) (o : Pt) (ho : o.Ok) : Fn 14 [.str s,.bool true,i 1,o.enc] (.tup [.str (pat o s),.bool (!decide (pat o s = s)),i 0]):=by
 refine run_walkF eok Tryz.func14 rfl (by kernel_rfl) ?_
 conv=>whnf
 repeat' (first
 | ((with_reducible refine on_dec_t (by assumption) ?_);conv=>whnf)
 | ((with_reducible refine on_dec_f (by assumption) ?_);conv=>whnf)
 | ((with_reducible refine onBool_t (by assumption) ?_);conv=>whnf)
 | ((with_reducible refine onBool_f (by assumption) ?_);conv=>whnf)
 | ((with_reducible refine on_nt (by assumption) ?_);conv=>whnf)
 | ((with_reducible refine on_nf (by assumption) ?_);conv=>whnf)
 | ((with_reducible refine on_ndec_t (by first | assumption | rfl) ?_);conv=>whnf)
 | ((with_reducible refine on_ndec_f (by assumption) ?_);conv=>whnf)
 | ((with_reducible refine on_dec_t rfl ?_);conv=>whnf)
 | ((with_reducible refine on_dec_f ?_ ?_);(focus ((try simp only [List.length_map,List.length_cons,List.length_nil,List.length_append]);omega));conv=>whnf)
 | ((with_reducible refine on_dec_t ?_ ?_);(focus ((try simp only [List.length_map,List.length_cons,List.length_nil,List.length_append]);omega));conv=>whnf)
 | ((with_reducible refine on_dec (fun h=>?_) (fun h=>?_))<;>(try simp only [List.length_map] at h)<;>conv=>whnf)
 | ((with_reducible refine on_ndec (fun h=>?_) (fun h=>?_))<;>(try simp only [List.length_map] at h)<;>conv=>whnf)
 | ((with_reducible refine on_not (fun h=>?_) (fun h=>?_))<;>conv=>whnf)
 | ((with_reducible refine onBool_split (fun h=>?_) (fun h=>?_))<;>conv=>whnf)
 | ((with_reducible refine call_go ?_);(first | refine call_step (run_data (xs:=[_]) (c37 s (by omega)) _) ?_ | refine call_step (run_data (xs:=[_]) (c37 p hI.2.1) _) ?_ | refine call_step (run_data (xs:=[_]) c42 _) ?_ | refine call_step (run_data (xs:=[_]) (c40 (l[k]'(by omega)) (ho _ (List.getElem_mem _))) _) ?_ | refine call_step (run_data (xs:=[_]) (c40 o ho) _) ?_ | refine call_step (run_view (c36 [_,_] (by simp)) rfl rfl) ?_ | refine call_step (run_view (c36 [_,_,_] (by simp)) rfl rfl) ?_ | refine call_step (run_data (xs:=[_,_]) (c41 p hI.2.1 (l[k]'(by omega)) (ho _ (List.getElem_mem _))) _) ?_ | refine call_step (run_data (xs:=[_,_]) (c41 s hs o ho) _) ?_);conv=>whnf)
 | (refine ⟨[],[(4,1),(4,3)],(by decide +kernel),?_⟩;conv=>whnf)
 | (refine ⟨⟨(by first | rfl | (simp;done)),cap_ok (by simp only [List.length_map,List.length_cons,List.length_nil,List.length_append];omega) rfl⟩,?_⟩;conv=>whnf)
 | (refine ⟨mem_one ⟨rfl,rfl⟩,?_⟩;conv=>whnf)
 | (refine ⟨(by intro y hy;obtain ⟨x,_,rfl⟩:=List.mem_map.1 hy;first | rfl | exact ⟨rfl,rfl⟩),?_⟩;conv=>whnf)
 | (refine ⟨cap_ok (by first | omega | (simp only [List.length_map];omega)) rfl,?_⟩;conv=>whnf)
 | (refine ix_map (by omega) ?_;conv=>whnf)
 | (refine ix_str (by omega) ?_;conv=>whnf)
 | (refine wrap64 (by omega) ?_;conv=>whnf)
 | (refine wrap64 (by omega) ?_;conv=>whnf)
 | (exfalso;simp only [List.length_map,List.length_cons,List.length_nil,List.length_append] at h;omega)
 | ((with_reducible refine endx_go ?_);first | (exact endxv (view_tup (vlc rfl (vlc rfl (vlc rfl vln)))) rfl;done))
 | (refine ⟨rfl,?_⟩;conv=>whnf)
  | fail
  )
end Go.Proofs.YtkeeienjocbkbaaGreatDoor
namespace Go.Proofs.YtkeeienjocbkbaaGreatDoor
open Go Dw
set_option maxRecDepth 10000
attribute [local irreducible] Run
theorem cCp (j : Jrn) (hr : j.recs.length < 1000000) (ho : j.opens.length < 1000000) : Fn 9 [j.enc] j.enc:=by
 refine run_walkF eok Tryz.func9 rfl (by kernel_rfl) ?_
 conv=>whnf
 repeat' (first
 | ((with_reducible refine on_dec_f ?_ ?_);(focus ((try simp only [List.length_map,List.length_cons,List.length_nil,List.length_append]);omega));conv=>whnf)
 | ((with_reducible refine on_dec_t ?_ ?_);(focus ((try simp only [List.length_map,List.length_cons,List.length_nil,List.length_append]);omega));conv=>whnf)
 | ((with_reducible refine on_dec (fun h=>?_) (fun h=>?_))<;>(try simp only [List.length_map] at h)<;>conv=>whnf)
 | ((with_reducible refine on_ndec (fun h=>?_) (fun h=>?_))<;>(try simp only [List.length_map] at h)<;>conv=>whnf)
 | ((with_reducible refine on_not (fun h=>?_) (fun h=>?_))<;>conv=>whnf)
 | ((with_reducible refine onBool_split (fun h=>?_) (fun h=>?_))<;>conv=>whnf)
 | (refine call_step (run_data (c31 _ (by omega)) _) ?_;conv=>whnf)
 | (refine ⟨⟨(by first | rfl | (simp;done)),cap_ok (by simp only [List.length_map,List.length_cons,List.length_nil,List.length_append];omega) rfl⟩,?_⟩;conv=>whnf)
 | (refine ⟨mem_one ⟨rfl,rfl⟩,?_⟩;conv=>whnf)
 | (refine ⟨(by intro y hy;obtain ⟨x,_,rfl⟩:=List.mem_map.1 hy;first | rfl | exact ⟨rfl,rfl⟩),?_⟩;conv=>whnf)
 | (refine ⟨cap_ok (by first | omega | (simp only [List.length_map];omega)) rfl,?_⟩;conv=>whnf)
 | (refine ix_map (by omega) ?_;conv=>whnf)
 | (refine ix_str (by omega) ?_;conv=>whnf)
 | (refine wrap64 (by omega) ?_;conv=>whnf)
 | (exfalso;simp only [List.length_map,List.length_cons,List.length_nil,List.length_append] at h;omega)
 | (exact endxv (view_agg (vlc rfl (vlc rfl (vlc rfl (vlc rfl (vlc rfl (vlc (view_new rfl (by decide)) vln))))))) rfl;done)
 | (refine ⟨rfl,?_⟩;conv=>whnf)
  | fail
  )
end Go.Proofs.YtkeeienjocbkbaaGreatDoor
namespace Go.Proofs.YtkeeienjocbkbaaGreatDoor
open Go Dw
set_option maxRecDepth 10000
attribute [local irreducible] Run
set_option maxHeartbeats 600000
def zs (n : Nat) : Pg:=List.replicate n 0
abbrev aft512 (j : Jrn) : Pg:=jrnB j ++ zs (512 - (jrnB j).length)
theorem aft512_len {j : Jrn} (h : (jrnB j).length ≤ 512) : (aft512 j).length = 512:=by
 rw [List.length_append,show (zs (512 - (jrnB j).length)).length = 512 - (jrnB j).length from List.length_replicate]
 omega
theorem aft512_take {j : Jrn} {n : Nat} (h : n = (jrnB j).length) : ((aft512 j).take n).drop 0 = jrnB j:=by
 rw [h,List.take_left,List.drop_zero]
theorem c15x {j : Jrn} {s : Pg} (V : Valid j) (h : (jrnB j).length ≤ 512) (hs : s = jrnB j) : Fn 15 [.str s] (.tup [j.enc,i 0]):=by
 subst hs
 exact c9v V (by omega)
theorem c17x {x : Jrn} {f nx : Int} {M : List Chg} (V : Valid x) (h : readF x ⟨3,f,4095,false,200⟩ = (M,nx,0)) : Fn 17 [x.enc,.agg [i 3,i f,i 4095,.bool false,i 200]] (.tup [.fs (M.map Chg.enc),i nx,i 0]):=by
 have B:=bd_valid V
 have:=c17 x ⟨3,f,4095,false,200⟩ B.r B.n B.o
 rw [h] at this
 exact this
theorem gz {n : Nat} (h : n ≤ 512) : goMax 0 (goMin (n : Int) 200000) = (n : Int):=by
 have e : goMin (n : Int) 200000 = (n : Int):=by unfold goMin;rw [if_neg (by omega)]
 rw [e]
 unfold goMax
 split<;>omega
theorem zs_map (n : Nat) : List.take n (List.drop 0 (List.replicate n (AV.d (.int .u8 0)))) = (zs n).map byteV:=by
 rw [List.drop_zero,List.take_of_length_le (by simp),rep_byteV];rfl
theorem c5m {m : Int} (hm : 128 ≤ m ∧ m ≤ 427) : Fn 5 [i 3,i m] (.tup [(J0 m).enc,i 0]):=by
 have h:=c5 3 m
 have e : numbersErr (⟨3,0,0,m,[],[]⟩ : Jrn) = 0:=by
  unfold numbersErr
  rw [within_iff.2 (by show (0 : Int) ≤ 3 ∧ (3 : Int) ≤ 2147483647;omega),within_iff.2 (by show (0 : Int) ≤ 0 ∧ (0 : Int) ≤ 2147483647;omega),within_iff.2 (by show (128 : Int) ≤ m ∧ m ≤ 8192;omega)]
  rfl
 simp only [e,if_true] at h
 exact h
attribute [local irreducible] jrnB bet after eventErr moreOf readF J0 zs pat fitsP checkJ noted
theorem c6z (n : Nat) (h : n ≤ 512) : Fn 6 [i n] (.str (zs n)):=by
 refine run_walkF eok Tryz.func6 rfl (by kernel_rfl) ?_
 conv=>whnf
 repeat' (first
 | ((with_reducible refine on_dec_t (by assumption) ?_);conv=>whnf)
 | ((with_reducible refine on_dec_f (by assumption) ?_);conv=>whnf)
 | ((with_reducible refine onBool_t (by assumption) ?_);conv=>whnf)
 | ((with_reducible refine onBool_f (by assumption) ?_);conv=>whnf)
 | ((with_reducible refine on_nt (by assumption) ?_);conv=>whnf)
 | ((with_reducible refine on_nf (by assumption) ?_);conv=>whnf)
 | ((with_reducible refine on_ndec_t (by first | assumption | rfl) ?_);conv=>whnf)
 | ((with_reducible refine on_ndec_f (by assumption) ?_);conv=>whnf)
 | ((with_reducible refine on_dec_t rfl ?_);conv=>whnf)
 | ((with_reducible refine on_dec_f ?_ ?_);(focus ((try simp only [List.length_map,List.length_cons,List.length_nil,List.length_append]);omega));conv=>whnf)
 | ((with_reducible refine on_dec_t ?_ ?_);(focus ((try simp only [List.length_map,List.length_cons,List.length_nil,List.length_append]);omega));conv=>whnf)
 | ((with_reducible refine on_dec (fun h=>?_) (fun h=>?_))<;>(try simp only [List.length_map] at h)<;>conv=>whnf)
 | ((with_reducible refine on_ndec (fun h=>?_) (fun h=>?_))<;>(try simp only [List.length_map] at h)<;>conv=>whnf)
 | ((with_reducible refine on_not (fun h=>?_) (fun h=>?_))<;>conv=>whnf)
 | ((with_reducible refine onBool_split (fun h=>?_) (fun h=>?_))<;>conv=>whnf)
 | (refine ⟨⟨(by first | rfl | (simp;done)),cap_ok (by simp only [List.length_map,List.length_cons,List.length_nil,List.length_append];omega) rfl⟩,?_⟩;conv=>whnf)
 | (refine ⟨mem_one ⟨rfl,rfl⟩,?_⟩;conv=>whnf)
 | (refine ⟨(by intro y hy;obtain ⟨x,_,rfl⟩:=List.mem_map.1 hy;first | rfl | exact ⟨rfl,rfl⟩),?_⟩;conv=>whnf)
 | (refine ⟨cap_ok (by first | omega | (simp only [List.length_map];omega)) rfl,?_⟩;conv=>whnf)
 | (refine ix_map (by omega) ?_;conv=>whnf)
 | (refine ix_str (by omega) ?_;conv=>whnf)
 | (refine wrap64 (by omega) ?_;conv=>whnf)
 | (refine wrap64 (by omega) ?_;conv=>whnf)
 | (rw [gz h];refine ⟨⟨by omega,by omega,by omega,by show (n : Int) * 1 ≤ _;omega⟩,?_⟩;conv=>whnf)
 | (refine ⟨zs n,⟨by simp,zs_map n⟩,?_⟩;conv=>whnf)
 | (exfalso;simp only [List.length_map,List.length_cons,List.length_nil,List.length_append] at h;omega)
 | ((with_reducible refine endx_go ?_);first | (exact endx rfl;done))
 | (refine ⟨rfl,?_⟩;conv=>whnf)
  | fail
  )
theorem c6a : Fn 6 [.int .i64 512] (.str (zs 512)):=c6z 512 (Nat.le_refl _)
theorem c6d {s : Pg} (h : s.length ≤ 512) : Fn 6 [i (512 - (s.length : Int))] (.str (zs (512 - s.length))):=by
 have:=c6z (512 - s.length) (by omega)
 rw [show (((512 - s.length : Nat) : Int)) = 512 - (s.length : Int) by omega] at this
 exact this
theorem c9J {j : Jrn} (V : Valid j) : Fn 9 [j.enc] j.enc:=by
 have B:=bd_valid V
 exact cCp j B.r B.o
theorem zs_len (n : Nat) : (zs n).length = n:=by unfold zs;exact List.length_replicate
theorem over_nl {S M : List Chg} (h : M.length = 0) : over ((S.map Chg.enc).map AV.d) (0 + S.length) ((M.map Chg.enc).map AV.d) = (S.map Chg.enc).map AV.d:=by
 have : M = []:=List.length_eq_zero_iff.1 h
 subst this
 unfold over
 simp
end Go.Proofs.YtkeeienjocbkbaaGreatDoor
namespace Go.Proofs.YtkeeienjocbkbaaGreatDoor
open Go Dw
set_option maxRecDepth 100000
theorem c4 : Run Tryz.prog 4 [] [] (.d (.bool true)) []:=
 run_ev (fs:=Tryz.prog.funcs.toList) (orc:=orc24) eok horc24 (xs:=[]) rfl names_ok dm24 300 30 (by kernel_rfl) rfl rfl
end Go.Proofs.YtkeeienjocbkbaaGreatDoor
namespace Go.Proofs.YtkeeienjocbkbaaGreatDoor
open Go Dw
set_option maxRecDepth 10000
attribute [local irreducible] Run
set_option maxHeartbeats 600000
attribute [local irreducible] jrnB bet after eventErr moreOf readF zs pat fitsP checkJ noted rdo
theorem fd_all {S : List Chg} {x : Chg} {fd : Bool} (hx : x ∈ S) (h : ∀ m (hm : m < S.length),S[m] = x → fd = true) : fd = true:=by
 obtain ⟨m,hm,e⟩:=List.mem_iff_getElem.1 hx
 exact h m hm e
theorem nth_mm {l : List Chg} {n : Nat} {K : AV → Prop} (k : Nat) (hn : n = k) (h : k < l.length) (hk : K (.d (l[k].enc))) : nthK ((l.map Chg.enc).map AV.d) n K:=by
 subst hn
 exact nthK_of (by rw [List.map_map,List.getElem?_map,List.getElem?_eq_getElem h];rfl) hk
theorem fd_step {S : List Chg} {x : Chg} {fd : Bool} {q : Nat} (hq : q < S.length) (hf : fd = false) (h : ∀ a (ha : a < S.length),a < q → S[a] = x → fd = true) : ∀ a (ha : a < S.length),a < q + 1 → S[a] = x → decide (S[q] = x) = true:=by
 intro a ha h1 e
 by_cases c : a = q
 ·subst c;exact decide_eq_true e
 ·have:=h a ha (by omega) e
  rw [hf] at this
  cases this
theorem rem_len {a : Nat} {b : Int} {K : Int → Prop} (c : Nat) (hb : b = c) (h : 0 < c) (hk : K ((a % c : Nat) : Int)) : remK (a : Int) b K:=by
 subst hb
 exact rem_nat h hk
theorem rdo_fin {l : List Pt} {s r : Pg} {k : Nat} (h : Aps l s r) (h1 : k ≤ 2 * l.length) (h2 : ¬ k < 2 * l.length) : rdo l s r k = r:=by
 rw [show k = 2 * l.length by omega]
 exact rdo_end h
theorem c17p {n : Nat} {J X : Jrn} {S : List Chg} {e : Evt} (h : Step1 n J X S e) (hlt : J.next < X.first) : Fn 17 [X.enc,.agg [i 3,i X.first,i 4095,.bool false,i 200]] (.tup [.fs ((moreOf J X).map Chg.enc),i X.next,i 0]):=
 c17x h.v (by have:=h.rd;rwa [if_pos hlt] at this)
theorem c17q {n : Nat} {J X : Jrn} {S : List Chg} {e : Evt} (h : Step1 n J X S e) (hlt : ¬ J.next < X.first) : Fn 17 [X.enc,.agg [i 3,i J.next,i 4095,.bool false,i 200]] (.tup [.fs ((moreOf J X).map Chg.enc),i X.next,i 0]):=
 c17x h.v (by have:=h.rd;rwa [if_neg hlt] at this)
theorem run_dataW {f : Nat} {xs : List D} {r : D} {args : List AV} {H : Heap} (hf : Run Tryz.prog f (xs.map .d) [] (.d r) []) (hv : vl (view 8 H) args = some xs) (hre : args.flatMap (reach 8 H) = []) : Run Tryz.prog f args H (.d r) H:=by
 have:=run_viewF hf hv
 rw [hre] at this;exact this
theorem kp_nil {n : Nat} {X : Jrn} {S M : List Chg} (h : Kp n X (S ++ M)) (hM : 0 + S.length + M.length ≤ S.length) : Kp n X S:=by
 have : M = []:=List.length_eq_zero_iff.1 (by omega)
 rw [this,List.append_nil] at h
 exact h
theorem map_two (S M : List Chg) : (S.map Chg.enc).map AV.d ++ (M.map Chg.enc).map AV.d = ((S ++ M).map Chg.enc).map AV.d:=by rw [List.map_append,List.map_append]
theorem srt_at {S : List Chg} (h : S.Pairwise (fun a b=>a.usn < b.usn)) {k : Nat} (h0 : 0 < k) (hk : k < S.length) : ¬ (S[k].usn ≤ (S[k - 1]'(by omega)).usn):=by
 rw [List.pairwise_iff_getElem] at h
 have:=h (k - 1) k (by omega) hk (by omega)
 omega
theorem c3 (l : List Evt) (m : Int) (hm : 0 ≤ m ∧ m < 65536) : Fn 3 [.fs (l.map Evt.enc),.int .u16 m] (.bool true):=by
 refine run_walkF eok Tryz.func3 rfl (by kernel_rfl) ?_
 conv=>whnf
 repeat' (first
 | ((with_reducible refine on_dec_t (by assumption) ?_);conv=>whnf)
 | ((with_reducible refine on_dec_f (by assumption) ?_);conv=>whnf)
 | ((with_reducible refine onBool_t (by assumption) ?_);conv=>whnf)
 | ((with_reducible refine onBool_f (by assumption) ?_);conv=>whnf)
 | ((with_reducible refine on_nt (by assumption) ?_);conv=>whnf)
 | ((with_reducible refine on_nf (by assumption) ?_);conv=>whnf)
 | ((with_reducible refine on_ndec_t (by first | assumption | rfl) ?_);conv=>whnf)
 | ((with_reducible refine on_ndec_f (by assumption) ?_);conv=>whnf)
 | ((with_reducible refine on_dec_t rfl ?_);conv=>whnf)
 | ((refine on_ndec_t (rdo_fin (bet_apply (hI.2.2.1.trans (aft512_len (by omega)).symm)) hI1 (by omega)) ?_);conv=>whnf)
 | ((with_reducible refine on_dec_f ?_ ?_);(focus ((try simp only [List.length_map,List.length_cons,List.length_nil,List.length_append]);omega));conv=>whnf)
 | ((with_reducible refine on_dec_t ?_ ?_);(focus ((try simp only [List.length_map,List.length_cons,List.length_nil,List.length_append]);omega));conv=>whnf)
 | ((with_reducible refine on_dec (fun h=>?_) (fun h=>?_))<;>(try simp only [List.length_map] at h)<;>conv=>whnf)
 | ((with_reducible refine on_ndec (fun h=>?_) (fun h=>?_))<;>(try simp only [List.length_map] at h)<;>conv=>whnf)
 | ((with_reducible refine on_not (fun h=>?_) (fun h=>?_))<;>conv=>whnf)
 | ((with_reducible refine onBool_split (fun h=>?_) (fun h=>?_))<;>conv=>whnf)
 | ((with_reducible refine call_go ?_);(first | refine call_step (run_data (xs:=[]) c4 _) ?_ | refine call_step (run_data (xs:=[_,_]) (c5m (by omega)) _) ?_ | refine call_step (run_data (xs:=[_]) c6a _) ?_ | refine call_step (run_data (xs:=[_]) (c6d (by omega)) _) ?_ | refine call_step (run_data (xs:=[_]) (c7 (l[n]'(by omega)) (by omega) (by omega)) _) ?_ | refine call_step (run_data (xs:=[_]) (c9J hI.2.1.v) _) ?_ | refine call_step (run_data (xs:=[_]) (c9J (kp_next (e:=(l[n]'(by omega))) hI.2.1 (by omega) (by assumption)).v) _) ?_ | refine call_step (run_data (xs:=[_,_]) (c8v hI.2.1.v ⟨by omega,by omega⟩ (kp_next (e:=(l[n]'(by omega))) hI.2.1 (by omega) (by assumption)).nt) _) ?_ | refine call_step (run_data (xs:=[_]) (c10v (kp_next (e:=(l[n]'(by omega))) hI.2.1 (by omega) (by assumption)).v) _) ?_ | refine call_step (run_data (xs:=[_,_]) (c11 p (aft512 (after J (l[n]'(by omega)))) hI.2.2.1 (aft512_len (by omega))) _) ?_ | refine call_step (run_data (xs:=[_]) (c13 (bet p (aft512 (after J (l[n]'(by omega)))) 0) (by omega)) _) ?_ | refine call_step (run_data (xs:=[_,_]) (c12 (bet p (aft512 (after J (l[n]'(by omega)))) 0) p (aft512 (after J (l[n]'(by omega)))) hI.2.2.1 (bet_apply (hI.2.2.1.trans (aft512_len (by omega)).symm)) (fun o h=>(bet_good hI.2.2.1 (aft512_len (by omega)) o h).1) (by omega)) _) ?_ | refine call_step (run_data (xs:=[_,_,_,_]) (c14 (rdo (bet p (aft512 (after J (l[n]'(by omega)))) 0) p (aft512 (after J (l[n]'(by omega)))) k) (rdo_len (aft512_len (by omega)) hI.2.2.1 (fun o h=>(bet_good hI.2.2.1 (aft512_len (by omega)) o h).1) k) ((bet p (aft512 (after J (l[n]'(by omega)))) 0)[k % (bet p (aft512 (after J (l[n]'(by omega)))) 0).length]'(Nat.mod_lt _ (by omega))) (bet_good hI.2.2.1 (aft512_len (by omega)) _ (List.getElem_mem _)).1) _) ?_ | refine call_step (run_data (xs:=[_]) (c15x (kp_next (e:=(l[n]'(by omega))) hI.2.1 (by omega) (by assumption)).v (by omega) (aft512_take rfl)) _) ?_ | refine call_step (run_data (xs:=[_,_]) (c16s (kp_next (e:=(l[n]'(by omega))) hI.2.1 (by omega) (by assumption)).v) _) ?_ | refine call_step (run_dataW (c17p (kp_next (e:=(l[n]'(by omega))) hI.2.1 (by omega) (by assumption)) (by assumption)) (vlc rfl (vlc (view_agg (vlc rfl (vlc rfl (vlc rfl (vlc rfl (vlc rfl vln)))))) vln)) rfl) ?_ | refine call_step (run_dataW (c17q (kp_next (e:=(l[n]'(by omega))) hI.2.1 (by omega) (by assumption)) (by assumption)) (vlc rfl (vlc (view_agg (vlc rfl (vlc rfl (vlc rfl (vlc rfl (vlc rfl vln)))))) vln)) rfl) ?_);conv=>whnf)
 | (refine ⟨[],[],(by decide +kernel),?_⟩;conv=>whnf)
 | (refine ⟨[],[(10,1),(10,6),(5,1)],(by decide +kernel),?_⟩;conv=>whnf)
 | ((with_reducible refine loop_go ?_);first | (refine loop2 (fun (q : Nat) (fd : Bool)=>S.length - q) (fun (q : Nat) (fd : Bool)=>q ≤ S.length ∧ (∀ a (ha : a < S.length),a < q → S[a] = (J.recs[k]'(by omega)) → fd = true)) (fun (q : Nat) (fd : Bool)=>[(5,.ptr 0 0 0),(8,.d (i z)),(10,.sl 1 0 S.length 8 none),(31,.d (i k)),(32,.d (.bool fd)),(33,.d (i q))]) (fun (q : Nat) (fd : Bool)=>[⟨[.d J.enc],6,0⟩,⟨(S.map Chg.enc).map .d,8,0⟩]) (0) (false) (by exact ⟨Nat.zero_le _,fun a ha h0=>absurd h0 (Nat.not_lt_zero _)⟩) ?_ (fun q fd C4 hI4 hC4=>?_);(exact ⟨[.old 0,.old 1],rfl,rfl,⟨⟨rfl,rfl,rfl⟩,(by first | (show (_ : D) = _;with_reducible rfl) | exact congrArg (D.int .i64) (by omega) | exact congrArg (D.int .i64) (by simp only [List.length_map]) | exact rfl),(by first | exact congrArg (D.int .i64) (by omega) | exact ⟨rfl,rfl,rfl⟩ | exact ⟨rfl,rfl,rfl,rfl,rfl⟩ | (show (_ : D) = _;with_reducible rfl)),(by first | (show (_ : D) = _;with_reducible rfl) | exact congrArg (D.int .i64) (by omega) | exact congrArg (D.int .i64) (by simp only [List.length_map]) | exact rfl),(by first | (show (_ : D) = _;with_reducible rfl) | (refine congrArg D.bool ?_;simp_all)),(by first | (show (_ : D) = _;with_reducible rfl) | exact congrArg (D.int .i64) (by omega) | exact congrArg (D.int .i64) (by simp only [List.length_map]) | exact rfl),trivial⟩,⟨⟨rfl,rfl,.inl ⟨[_],rfl,rfl⟩⟩,⟨rfl,rfl,.inl ⟨_,rfl,rfl⟩⟩,trivial⟩⟩);all_goals (conv=>whnf)) | (refine loop1 (fun (k : Nat)=>J.recs.length - k) (fun (k : Nat)=>k ≤ J.recs.length) (fun (k : Nat)=>[(5,.ptr 0 0 0),(8,.d (i z)),(10,.sl 1 0 S.length 8 none),(31,.d (i k))]) (fun (k : Nat)=>[⟨[.d J.enc],6,0⟩,⟨(S.map Chg.enc).map .d,8,0⟩]) (0) (by exact Nat.zero_le _) ?_ (fun k C3 hI3 hC3=>?_);(exact ⟨[.old 0,.old 1],rfl,rfl,⟨⟨rfl,rfl,rfl⟩,(by first | (show (_ : D) = _;with_reducible rfl) | exact congrArg (D.int .i64) (by omega) | exact congrArg (D.int .i64) (by simp only [List.length_map]) | exact rfl),(by first | exact congrArg (D.int .i64) (by omega) | exact ⟨rfl,rfl,rfl⟩ | exact ⟨rfl,rfl,rfl,rfl,rfl⟩ | (show (_ : D) = _;with_reducible rfl)),(by first | (show (_ : D) = _;with_reducible rfl) | exact congrArg (D.int .i64) (by omega) | exact congrArg (D.int .i64) (by simp only [List.length_map]) | exact rfl),trivial⟩,⟨⟨rfl,rfl,.inl ⟨[_],rfl,rfl⟩⟩,⟨rfl,rfl,.inl ⟨_,rfl,rfl⟩⟩,trivial⟩⟩);all_goals (conv=>whnf)) | (refine loop1 (fun (k : Nat)=>S.length - k) (fun (k : Nat)=>k ≤ S.length) (fun (k : Nat)=>[(5,.ptr 0 0 0),(8,.d (i z)),(10,.sl 1 0 S.length 8 none),(30,.d (i k))]) (fun (k : Nat)=>[⟨[.d J.enc],6,0⟩,⟨(S.map Chg.enc).map .d,8,0⟩]) (0) (by exact Nat.zero_le _) ?_ (fun k C2 hI2 hC2=>?_);(exact ⟨[.old 0,.old 1],rfl,rfl,⟨⟨rfl,rfl,rfl⟩,(by first | (show (_ : D) = _;with_reducible rfl) | exact congrArg (D.int .i64) (by omega) | exact congrArg (D.int .i64) (by simp only [List.length_map]) | exact rfl),(by first | exact congrArg (D.int .i64) (by omega) | exact ⟨rfl,rfl,rfl⟩ | exact ⟨rfl,rfl,rfl,rfl,rfl⟩ | (show (_ : D) = _;with_reducible rfl)),(by first | (show (_ : D) = _;with_reducible rfl) | exact congrArg (D.int .i64) (by omega) | exact congrArg (D.int .i64) (by simp only [List.length_map]) | exact rfl),trivial⟩,⟨⟨rfl,rfl,.inl ⟨[_],rfl,rfl⟩⟩,⟨rfl,rfl,.inl ⟨_,rfl,rfl⟩⟩,trivial⟩⟩);all_goals (conv=>whnf)) | (refine loop1 (fun (k : Nat)=>2 * (bet p (aft512 (after J (l[n]'(by omega)))) 0).length - k) (fun (k : Nat)=>k ≤ 2 * (bet p (aft512 (after J (l[n]'(by omega)))) 0).length) (fun (k : Nat)=>[(0,.d (.fs (l.map Evt.enc))),(5,.ptr 0 0 0),(9,.d (i J.next)),(10,.sl 1 0 S.length 8 none),(11,.d (i n)),(12,.ptr 2 0 0),(14,.d (.str (jrnB (after J (l[n]'(by omega)))))),(16,.d (.str (aft512 (after J (l[n]'(by omega)))))),(17,.d (.fs ((bet p (aft512 (after J (l[n]'(by omega)))) 0).map Pt.enc))),(19,.d (.str (aft512 (after J (l[n]'(by omega)))))),(22,.d (.str (rdo (bet p (aft512 (after J (l[n]'(by omega)))) 0) p (aft512 (after J (l[n]'(by omega)))) k))),(23,.d (i k))]) (fun (k : Nat)=>[⟨[.d J.enc],6,0⟩,⟨(S.map Chg.enc).map .d,8,0⟩,⟨[.d (after J (l[n]'(by omega))).enc],6,0⟩]) (0) (by exact Nat.zero_le _) ?_ (fun k C1 hI1 hC1=>?_);(exact ⟨[.old 0,.old 1,.old 2],rfl,rfl,⟨(by first | (show (_ : D) = _;with_reducible rfl) | exact rfl),⟨rfl,rfl,rfl⟩,(by first | (show (_ : D) = _;with_reducible rfl) | exact congrArg (D.int .i64) (by omega) | exact congrArg (D.int .i64) (by simp only [List.length_map]) | exact rfl),(by first | exact congrArg (D.int .i64) (by omega) | exact ⟨rfl,rfl,rfl⟩ | exact ⟨rfl,rfl,rfl,rfl,rfl⟩ | (show (_ : D) = _;with_reducible rfl)),(by first | (show (_ : D) = _;with_reducible rfl) | exact congrArg (D.int .i64) (by omega) | exact congrArg (D.int .i64) (by simp only [List.length_map]) | exact rfl),⟨rfl,rfl,rfl⟩,(by first | (show (_ : D) = _;with_reducible rfl) | exact rfl),(by first | (show (_ : D) = _;with_reducible rfl) | exact rfl),(by first | (show (_ : D) = _;with_reducible rfl) | exact rfl),(by first | (show (_ : D) = _;with_reducible rfl) | exact rfl),(congrArg D.str rdo_zero.symm),(by first | (show (_ : D) = _;with_reducible rfl) | exact congrArg (D.int .i64) (by omega) | exact congrArg (D.int .i64) (by simp only [List.length_map]) | exact rfl),trivial⟩,⟨⟨rfl,rfl,.inl ⟨[_],rfl,rfl⟩⟩,⟨rfl,rfl,.inl ⟨_,rfl,rfl⟩⟩,⟨rfl,rfl,.inl ⟨[_],rfl,rfl⟩⟩,trivial⟩⟩);all_goals (conv=>whnf)) | (refine loop5 (fun (n : Nat) (J : Jrn) (S : List Chg) (p : Pg) (z : Nat)=>l.length - n) (fun (n : Nat) (J : Jrn) (S : List Chg) (p : Pg) (z : Nat)=>n ≤ l.length ∧ Kp n J S ∧ p.length = 512 ∧ z ≤ 512) (fun (n : Nat) (J : Jrn) (S : List Chg) (p : Pg) (z : Nat)=>[(0,.d (.fs (l.map Evt.enc))),(5,.ptr 0 0 0),(7,.d (.str p)),(8,.d (i z)),(9,.d (i J.next)),(10,.sl 1 0 S.length 8 none),(11,.d (i n))]) (fun (n : Nat) (J : Jrn) (S : List Chg) (p : Pg) (z : Nat)=>[⟨[.d J.enc],6,0⟩,⟨(S.map Chg.enc).map .d,8,0⟩]) (0) (J0 (128 + m % 300)) ([]) (zs 512) (0) (by exact ⟨Nat.zero_le _,kp_zero (by omega),zs_len 512,by omega⟩) ?_ (fun n J S p z C hI hC=>?_);(exact ⟨[.old 0,.void 8],rfl,rfl,⟨(by first | (show (_ : D) = _;with_reducible rfl) | exact rfl),⟨rfl,rfl,rfl⟩,(by first | (show (_ : D) = _;with_reducible rfl) | exact rfl),(by first | (show (_ : D) = _;with_reducible rfl) | exact congrArg (D.int .i64) (by omega) | exact congrArg (D.int .i64) (by simp only [List.length_map]) | exact rfl),(by first | (show (_ : D) = _;with_reducible rfl) | exact congrArg (D.int .i64) (by omega) | exact congrArg (D.int .i64) (by simp only [List.length_map]) | exact rfl),⟨rfl,rfl,rfl,rfl⟩,(by first | (show (_ : D) = _;with_reducible rfl) | exact congrArg (D.int .i64) (by omega) | exact congrArg (D.int .i64) (by simp only [List.length_map]) | exact rfl),trivial⟩,⟨⟨rfl,rfl,.inl ⟨[_],rfl,rfl⟩⟩,⟨rfl,rfl,(by decide),rfl⟩,trivial⟩⟩);all_goals (conv=>whnf)))
 | ((with_reducible show C _ _);first | (refine hC (n + 1) ((after J (l[n]'(by omega)))) (S) ((aft512 (after J (l[n]'(by omega))))) ((jrnB (after J (l[n]'(by omega)))).length) _ _ ?_ (by omega) ?_;clear hC;rotate_left;(exact ⟨[.old 0,.old 1],rfl,rfl,⟨(by first | (show (_ : D) = _;with_reducible rfl) | exact rfl),⟨rfl,rfl,rfl⟩,(by first | (show (_ : D) = _;with_reducible rfl) | exact rfl),(by first | (show (_ : D) = _;with_reducible rfl) | exact congrArg (D.int .i64) (by omega) | exact congrArg (D.int .i64) (by simp only [List.length_map]) | exact rfl),(by first | (show (_ : D) = _;with_reducible rfl) | exact congrArg (D.int .i64) (by omega) | exact congrArg (D.int .i64) (by simp only [List.length_map]) | exact rfl),⟨rfl,rfl,(by simp only [List.length_map];omega),rfl,rfl⟩,(by first | (show (_ : D) = _;with_reducible rfl) | exact congrArg (D.int .i64) (by omega) | exact congrArg (D.int .i64) (by simp only [List.length_map]) | exact rfl),trivial⟩,⟨⟨rfl,rfl,.inl ⟨[_],rfl,rfl⟩⟩,⟨rfl,rfl,.inl ⟨S.map Chg.enc,over_nl (by omega),rfl⟩⟩,trivial⟩⟩);(exact ⟨by omega,kp_nil (kp_next (e:=(l[n]'(by omega))) hI.2.1 (by omega) (by assumption)).kp (by assumption),(aft512_len (by omega)),by omega⟩)) | (refine hC (n + 1) ((after J (l[n]'(by omega)))) (S ++ moreOf J (after J (l[n]'(by omega)))) ((aft512 (after J (l[n]'(by omega))))) ((jrnB (after J (l[n]'(by omega)))).length) _ _ ?_ (by omega) ?_;clear hC;rotate_left;(exact ⟨[.old 0,.old 4],rfl,rfl,⟨(by first | (show (_ : D) = _;with_reducible rfl) | exact rfl),⟨rfl,rfl,rfl⟩,(by first | (show (_ : D) = _;with_reducible rfl) | exact rfl),(by first | (show (_ : D) = _;with_reducible rfl) | exact congrArg (D.int .i64) (by omega) | exact congrArg (D.int .i64) (by simp only [List.length_map]) | exact rfl),(by first | (show (_ : D) = _;with_reducible rfl) | exact congrArg (D.int .i64) (by omega) | exact congrArg (D.int .i64) (by simp only [List.length_map]) | exact rfl),⟨rfl,rfl,(by simp),rfl,rfl⟩,(by first | (show (_ : D) = _;with_reducible rfl) | exact congrArg (D.int .i64) (by omega) | exact congrArg (D.int .i64) (by simp only [List.length_map]) | exact rfl),trivial⟩,⟨⟨rfl,rfl,.inl ⟨[_],rfl,rfl⟩⟩,⟨rfl,rfl,.inl ⟨(S ++ moreOf J (after J (l[n]'(by omega)))).map Chg.enc,map_two _ _,rfl⟩⟩,trivial⟩⟩);(exact ⟨by omega,(kp_next (e:=(l[n]'(by omega))) hI.2.1 (by omega) (by assumption)).kp,(aft512_len (by omega)),by omega⟩)))
 | ((with_reducible show C1 _ _);first | (refine hC1 (k + 1) _ _ ?_ (by omega) ?_;clear hC1;rotate_left;(exact ⟨[.old 0,.old 1,.old 2],rfl,rfl,⟨(by first | (show (_ : D) = _;with_reducible rfl) | exact rfl),⟨rfl,rfl,rfl⟩,(by first | (show (_ : D) = _;with_reducible rfl) | exact congrArg (D.int .i64) (by omega) | exact congrArg (D.int .i64) (by simp only [List.length_map]) | exact rfl),(by first | exact congrArg (D.int .i64) (by omega) | exact ⟨rfl,rfl,rfl⟩ | exact ⟨rfl,rfl,rfl,rfl,rfl⟩ | (show (_ : D) = _;with_reducible rfl)),(by first | (show (_ : D) = _;with_reducible rfl) | exact congrArg (D.int .i64) (by omega) | exact congrArg (D.int .i64) (by simp only [List.length_map]) | exact rfl),⟨rfl,rfl,rfl⟩,(by first | (show (_ : D) = _;with_reducible rfl) | exact rfl),(by first | (show (_ : D) = _;with_reducible rfl) | exact rfl),(by first | (show (_ : D) = _;with_reducible rfl) | exact rfl),(by first | (show (_ : D) = _;with_reducible rfl) | exact rfl),(congrArg D.str (rdo_step (bet_apply (hI.2.2.1.trans (aft512_len (by omega)).symm)) (fun o h=>(bet_good hI.2.2.1 (aft512_len (by omega)) o h).2) (by omega))),(by first | (show (_ : D) = _;with_reducible rfl) | exact congrArg (D.int .i64) (by omega) | exact congrArg (D.int .i64) (by simp only [List.length_map]) | exact rfl),trivial⟩,⟨⟨rfl,rfl,.inl ⟨[_],rfl,rfl⟩⟩,⟨rfl,rfl,.inl ⟨_,rfl,rfl⟩⟩,⟨rfl,rfl,.inl ⟨[_],rfl,rfl⟩⟩,trivial⟩⟩);(exact (by omega))))
 | ((with_reducible show C2 _ _);first | (refine hC2 (k + 1) _ _ ?_ (by omega) ?_;clear hC2;rotate_left;(exact ⟨[.old 0,.old 1],rfl,rfl,⟨⟨rfl,rfl,rfl⟩,(by first | (show (_ : D) = _;with_reducible rfl) | exact congrArg (D.int .i64) (by omega) | exact congrArg (D.int .i64) (by simp only [List.length_map]) | exact rfl),(by first | exact congrArg (D.int .i64) (by omega) | exact ⟨rfl,rfl,rfl⟩ | exact ⟨rfl,rfl,rfl,rfl,rfl⟩ | (show (_ : D) = _;with_reducible rfl)),(by first | (show (_ : D) = _;with_reducible rfl) | exact congrArg (D.int .i64) (by omega) | exact congrArg (D.int .i64) (by simp only [List.length_map]) | exact rfl),trivial⟩,⟨⟨rfl,rfl,.inl ⟨[_],rfl,rfl⟩⟩,⟨rfl,rfl,.inl ⟨_,rfl,rfl⟩⟩,trivial⟩⟩);(exact (by omega))))
 | ((with_reducible show C3 _ _);first | (refine hC3 (k + 1) _ _ ?_ (by omega) ?_;clear hC3;rotate_left;(exact ⟨[.old 0,.old 1],rfl,rfl,⟨⟨rfl,rfl,rfl⟩,(by first | (show (_ : D) = _;with_reducible rfl) | exact congrArg (D.int .i64) (by omega) | exact congrArg (D.int .i64) (by simp only [List.length_map]) | exact rfl),(by first | exact congrArg (D.int .i64) (by omega) | exact ⟨rfl,rfl,rfl⟩ | exact ⟨rfl,rfl,rfl,rfl,rfl⟩ | (show (_ : D) = _;with_reducible rfl)),(by first | (show (_ : D) = _;with_reducible rfl) | exact congrArg (D.int .i64) (by omega) | exact congrArg (D.int .i64) (by simp only [List.length_map]) | exact rfl),trivial⟩,⟨⟨rfl,rfl,.inl ⟨[_],rfl,rfl⟩⟩,⟨rfl,rfl,.inl ⟨_,rfl,rfl⟩⟩,trivial⟩⟩);(exact (by omega))))
 | ((with_reducible show C4 _ _);first | (refine hC4 (q + 1) (decide ((S[q]'(by omega)) = (J.recs[k]'(by omega)))) _ _ ?_ (by omega) ?_;clear hC4;rotate_left;(exact ⟨[.old 0,.old 1],rfl,rfl,⟨⟨rfl,rfl,rfl⟩,(by first | (show (_ : D) = _;with_reducible rfl) | exact congrArg (D.int .i64) (by omega) | exact congrArg (D.int .i64) (by simp only [List.length_map]) | exact rfl),(by first | exact congrArg (D.int .i64) (by omega) | exact ⟨rfl,rfl,rfl⟩ | exact ⟨rfl,rfl,rfl,rfl,rfl⟩ | (show (_ : D) = _;with_reducible rfl)),(by first | (show (_ : D) = _;with_reducible rfl) | exact congrArg (D.int .i64) (by omega) | exact congrArg (D.int .i64) (by simp only [List.length_map]) | exact rfl),(congrArg D.bool (chg_cells (S[q]'(by omega)) (J.recs[k]'(by omega)))),(by first | (show (_ : D) = _;with_reducible rfl) | exact congrArg (D.int .i64) (by omega) | exact congrArg (D.int .i64) (by simp only [List.length_map]) | exact rfl),trivial⟩,⟨⟨rfl,rfl,.inl ⟨[_],rfl,rfl⟩⟩,⟨rfl,rfl,.inl ⟨_,rfl,rfl⟩⟩,trivial⟩⟩);(exact ⟨by omega,fd_step (S:=S) (x:=J.recs[k]'(by omega)) (fd:=fd) (by omega) (by assumption) hI4.2⟩)) | (refine hC4 (q + 1) (true) _ _ ?_ (by omega) ?_;clear hC4;rotate_left;(exact ⟨[.old 0,.old 1],rfl,rfl,⟨⟨rfl,rfl,rfl⟩,(by first | (show (_ : D) = _;with_reducible rfl) | exact congrArg (D.int .i64) (by omega) | exact congrArg (D.int .i64) (by simp only [List.length_map]) | exact rfl),(by first | exact congrArg (D.int .i64) (by omega) | exact ⟨rfl,rfl,rfl⟩ | exact ⟨rfl,rfl,rfl,rfl,rfl⟩ | (show (_ : D) = _;with_reducible rfl)),(by first | (show (_ : D) = _;with_reducible rfl) | exact congrArg (D.int .i64) (by omega) | exact congrArg (D.int .i64) (by simp only [List.length_map]) | exact rfl),(by exact rfl),(by first | (show (_ : D) = _;with_reducible rfl) | exact congrArg (D.int .i64) (by omega) | exact congrArg (D.int .i64) (by simp only [List.length_map]) | exact rfl),trivial⟩,⟨⟨rfl,rfl,.inl ⟨[_],rfl,rfl⟩⟩,⟨rfl,rfl,.inl ⟨_,rfl,rfl⟩⟩,trivial⟩⟩);(exact ⟨by omega,fun _ _ _ _=>rfl⟩)))
 | (refine ⟨⟨(by first | rfl | (simp;done)),cap_ok (by simp only [List.length_map,List.length_cons,List.length_nil,List.length_append];omega) rfl⟩,?_⟩;conv=>whnf)
 | (refine ⟨mem_one ⟨rfl,rfl⟩,?_⟩;conv=>whnf)
 | (refine ⟨(by intro y hy;obtain ⟨x,_,rfl⟩:=List.mem_map.1 hy;first | rfl | exact ⟨rfl,rfl⟩),?_⟩;conv=>whnf)
 | (refine ⟨cap_ok (by first | omega | (simp only [List.length_map];omega)) rfl,?_⟩;conv=>whnf)
 | (refine ix_map (by omega) ?_;conv=>whnf)
 | (refine ix_str (by omega) ?_;conv=>whnf)
 | (refine wrap64 (by omega) ?_;conv=>whnf)
 | (refine wrap64 (by omega) ?_;conv=>whnf)
 | (refine sl_str 0 (jrnB (after J (l[n]'(by omega)))).length rfl rfl ⟨Nat.zero_le _,by rw [(aft512_len (by omega))];omega⟩ ?_;conv=>whnf)
 | (refine rem_len (bet p (aft512 (after J (l[n]'(by omega)))) 0).length (by rw [List.length_map]) (by omega) ?_;conv=>whnf)
 | (refine ⟨⟨(by simp),cap_ok (by simp only [List.length_map];have h9:=(kp_next (e:=(l[n]'(by omega))) hI.2.1 (by omega) (by assumption)).kp.len;rw [List.length_append] at h9;omega) rfl⟩,?_⟩;conv=>whnf)
 | (refine ix_map (Nat.mod_lt _ (by omega)) ?_;conv=>whnf)
 | (refine wrap64 (by rw [List.length_map];omega) ?_;conv=>whnf)
 | (refine nth_mm (l:=S) k (by omega) (by omega) ?_;conv=>whnf)
 | (refine nth_mm (l:=S) (k - 1) (by omega) (by omega) ?_;conv=>whnf)
 | (refine nth_mm (l:=S) q (by omega) (by omega) ?_;conv=>whnf)
 | (refine wrap64 (by have:=hI.2.1.len;have:=hI.2.1.v.recs;omega) ?_;conv=>whnf)
 | (refine ⟨by rw [zs_len];omega,?_⟩;conv=>whnf)
 | (refine ⟨⟨by omega,by omega⟩,?_⟩;conv=>whnf)
 | (refine rem_nat (by omega) ?_;conv=>whnf)
 | (refine rem_nn ⟨by omega,by omega⟩ ?_;conv=>whnf)
 | (exfalso;simp only [List.length_map,List.length_cons,List.length_nil,List.length_append] at h;omega)
 | ((with_reducible refine endx_go ?_);first | (exact endx rfl;done) | (exact endx (congrArg D.bool (decide_eq_true (by omega)));done) | (exact absurd trivial h;done) | (exact absurd h (srt_at hI.2.1.srt (by omega) (by omega));done) | (exact absurd (fd_all (x:=J.recs[k]'(by omega)) (S:=S) (fd:=fd) (hI.2.1.all _ (List.getElem_mem _)) (fun a ha e=>hI4.2 a ha (by omega) e)) (by rw [show fd = false by assumption];decide);done))
 | (refine ⟨rfl,?_⟩;conv=>whnf)
  | fail
  )
end Go.Proofs.YtkeeienjocbkbaaGreatDoor
