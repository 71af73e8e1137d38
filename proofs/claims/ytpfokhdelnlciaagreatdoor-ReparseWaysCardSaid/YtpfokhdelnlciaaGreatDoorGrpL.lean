/-
  Own lemmas, no conditions: Pp, Pq, Pr, Ps, Xo, Xp, Xq, Av.
-/
import Derived.Test.YtpfokhdelnlciaaGreatDoorGrpK
set_option linter.unusedVariables false
set_option linter.unusedSimpArgs false
namespace Go.Proofs.YtpfokhdelnlciaaGreatDoor
open Go Dw Paths
def posG : List Nod → Nat → List (Nat × Ent)
 | [],_=>[]
 | x :: l,k=>x.ents.map (fun e=>(k,e)) ++ posG l (k + 1)
theorem mem_posG {a : Nat} {e : Ent} : ∀ (t : List Nod) (k : Nat),(a,e) ∈ posG t k ↔ ∃ x,k ≤ a ∧ t[a - k]? = some x ∧ e ∈ x.ents
 | [],k=>by simp [posG]
 | x :: l,k=>by
  simp only [posG,List.mem_append,List.mem_map,Prod.mk.injEq,mem_posG l (k + 1)]
  constructor
  ·rintro (⟨e', he, rfl, rfl⟩ | ⟨y, h1, h2, h3⟩)
   ·exact ⟨x,Nat.le_refl _,by simp,he⟩
   ·refine ⟨y,by omega,?_,h3⟩
    rw [show a - k = (a - (k + 1)) + 1 by omega];exact h2
  ·rintro ⟨y,h1,h2,h3⟩
   by_cases h : a = k
   ·subst h
    simp at h2
    subst h2
    exact .inl ⟨e,h3,rfl,rfl⟩
   ·right
    refine ⟨y,by omega,?_,h3⟩
    rw [show a - k = (a - (k + 1)) + 1 by omega] at h2;exact h2
theorem cntE_count (n : Int) : ∀ l : List Ent,cntE l n = l.countP (fun e=>decide (e.node = n))
 | []=>rfl
 | e :: l=>by
  simp only [cntE,List.countP_cons,cntE_count n l,bitN]
  by_cases h : e.node = n<;>simp [h]<;>omega
theorem names_count (n : Int) : ∀ (t : List Nod) (k : Nat),namesR t n = (posG t k).countP (fun p=>decide (p.2.node = n))
 | [],_=>rfl
 | x :: t,k=>by
  simp only [namesR,posG,List.countP_append,List.countP_map,names_count n t (k + 1),cntE_count]
  rfl
theorem count_uniq {α : Type} {p : α → Bool} : ∀ {l : List α} {x y : α},l.countP p ≤ 1 → x ∈ l → y ∈ l → p x = true → p y = true → x = y
 | [],x,_,_,h,_,_,_=>by cases h
 | z :: l,x,y,hc,hx,hy,px,py=>by
  rw [List.countP_cons] at hc
  have pos : ∀ w,w ∈ l → p w = true → 1 ≤ l.countP p:=fun w hw pw=>List.countP_pos_iff.2 ⟨w,hw,pw⟩
  rcases List.mem_cons.1 hx with rfl | hx'
  ·rcases List.mem_cons.1 hy with rfl | hy'
   ·rfl
   ·have:=pos y hy' py
    rw [if_pos px] at hc;omega
  ·rcases List.mem_cons.1 hy with rfl | hy'
   ·have:=pos x hx' px
    rw [if_pos py] at hc;omega
   ·exact count_uniq (by omega) hx' hy' px py
theorem chk_errC {t : List Nod} (h : (checkT t).2 = 0) : ∀ j,j < t.length → errC t (rchF t 0) j = 0:=by
 have h3 : (frst (errN t) t.length 0).2 = 0:=by
  unfold checkT at h
  split at h
  ·cases h
  split at h
  ·cases h
  split at h
  ·assumption
  ·exact h
 have h4 : (frst (errC t (rchF t 0)) t.length 0).2 = 0:=by
  unfold checkT at h
  split at h
  ·cases h
  split at h
  ·cases h
  first | exact h | (rw [if_pos h3] at h;exact h)
 intro j hj
 exact frst_ok t.length 0 rfl h4 j (Nat.zero_le _) hj
section
variable {t : List Nod} (V : Vt t)
include V
theorem Vt.ec {j : Nat} (h0 : 1 ≤ j) (h : j < t.length) : ¬ namesR t j = 0 ∧ (¬ t[j].kind = 1 → namesR t j ≤ 1) ∧ isT (rchF t 0) j:=by
 have e:=chk_errC V.ok j h
 rw [errC_at h0 h] at e
 by_cases e1 : namesR t j = 0
 ·rw [if_pos e1] at e;cases e
 ·rw [if_neg e1] at e
  by_cases e2 : 1 < namesR t j ∧ t[j].kind ≠ 1
  ·rw [if_pos e2] at e;cases e
  ·rw [if_neg e2] at e
   refine ⟨e1,fun hk=>?_,?_⟩
   ·apply Classical.byContradiction
    intro hc
    exact e2 ⟨by omega,hk⟩
   ·by_cases e3 : (rchF t 0)[j]? = some true
    ·exact e3
    ·rw [if_neg e3] at e;cases e
theorem Vt.rch {n : Int} (h : OkI t n) : Reach t 0 n.toNat:=by
 by_cases h0 : n.toNat = 0
 ·rw [h0];exact .refl
 ·exact (rch_iff V.good V.len.1 _).1 (V.ec (by omega) h.2).2.2
theorem Vt.pos {a : Nat} {e : Ent} (h : (a,e) ∈ posG t 0) : OkI t (a : Int) ∧ e ∈ (nodAt t a).ents ∧ OkI t e.node ∧ 1 ≤ e.node ∧ (nodAt t a).kind = 0:=by
 obtain ⟨x,_,h2,h3⟩:=(mem_posG t 0).1 h
 have ha : OkI t (a : Int):=⟨by omega,by have:=(List.getElem?_eq_some_iff.1 h2).1;simpa using this⟩
 have hx : nodAt t a = x:=by have:=ha.get;simp only [Int.toNat_natCast] at this;rw [Nat.sub_zero] at h2;rw [h2] at this;exact (Option.some.inj this).symm
 subst hx
 have hg:=V.good _ ha.mem e h3
 refine ⟨ha,h3,V.ent ha h3,hg.1,?_⟩
 apply Classical.byContradiction
 intro hk
 rw [V.noents ha hk] at h3
 cases h3
omit V in
theorem Vt.pos_of {a : Int} (ha : OkI t a) {e : Ent} (he : e ∈ (nodAt t a).ents) : (a.toNat,e) ∈ posG t 0:=
 (mem_posG t 0).2 ⟨nodAt t a,Nat.zero_le _,ha.get,he⟩
theorem Vt.one {n : Int} (hn : OkI t n) (h1 : 1 ≤ n) (hk : ¬ (nodAt t n).kind = 1) {a b : Int} (ha : OkI t a) (hb : OkI t b) {e f : Ent} (he : e ∈ (nodAt t a).ents) (hf : f ∈ (nodAt t b).ents) (e1 : e.node = n) (f1 : f.node = n) : a = b ∧ e = f:=by
 have hx:=hn.get
 rw [List.getElem?_eq_getElem hn.2] at hx
 have hc:=(V.ec (j:=n.toNat) (by omega) hn.2).2.1 (by rw [Option.some.inj hx];exact hk)
 have hN : ((n.toNat : Nat) : Int) = n:=Int.toNat_of_nonneg hn.1
 rw [hN,names_count n t 0] at hc
 have:=count_uniq hc (Vt.pos_of ha he) (Vt.pos_of hb hf) (decide_eq_true e1) (decide_eq_true f1)
 injection this with h2 h3
 have h4:=ha.1
 have h5:=hb.1
 exact ⟨by omega,h3⟩
end
inductive Wyt (t : List Nod) : Nat → Int → Bs → Prop
 | root : Wyt t 0 0 []
 | step {k : Nat} {a : Int} {s : Bs} {e : Ent} : Wyt t k a s → OkI t a → e ∈ (nodAt t a).ents → Wyt t (k + 1) e.node (s ++ [47] ++ e.name)
section
variable {t : List Nod} (V : Vt t)
include V
theorem Wyt.okI {k : Nat} {n : Int} {s : Bs} (h : Wyt t k n s) : OkI t n:=by
 cases h with
 | root=>exact ⟨by omega,V.len.1⟩
 | step _ ha he=>exact V.ent ha he
theorem Vt.ent1 {a : Int} (ha : OkI t a) {e : Ent} (he : e ∈ (nodAt t a).ents) : 1 ≤ e.node:=(V.good _ ha.mem e he).1
theorem Vt.dir {a : Int} (ha : OkI t a) {e : Ent} (he : e ∈ (nodAt t a).ents) : (nodAt t a).kind = 0:=by
 apply Classical.byContradiction
 intro hk
 rw [V.noents ha hk] at he
 cases he
theorem Wyt.uniq : ∀ {k : Nat} {n : Int} {s : Bs},Wyt t k n s → ∀ {k' : Nat} {s' : Bs},Wyt t k' n s' → ¬ (nodAt t n).kind = 1 → k = k' ∧ s = s':=by
 intro k n s h
 induction h with
 | root=>
  intro k' s' h' hk
  generalize hn : (0 : Int) = n at h'
  cases h' with
  | root=>exact ⟨rfl,rfl⟩
  | step _ ha he=>have:=V.ent1 ha he;omega
 | @step k a s e hw ha he ih=>
  intro k' s' h' hk
  generalize hn : e.node = n at h'
  cases h' with
  | root=>have:=V.ent1 ha he;omega
  | @step k2 b s2 f hw2 hb hf=>
   have h1:=V.ent1 ha he
   obtain ⟨h3,h4⟩:=V.one (V.ent ha he) h1 hk ha hb he hf rfl hn.symm
   subst h3;subst h4
   obtain ⟨h5,h6⟩:=ih hw2 (by rw [V.dir ha he];decide)
   exact ⟨by rw [h5],by rw [h6]⟩
theorem Vt.way {n : Int} (h : OkI t n) : ∃ k s,Wyt t k n s:=by
 have h1:=V.rch h
 have hN : ((n.toNat : Nat) : Int) = n:=Int.toNat_of_nonneg h.1
 rw [← hN]
 generalize n.toNat = m at h1
 clear hN
 induction h1 with
 | refl=>exact ⟨0,[],.root⟩
 | @step b x e _ hx he ih=>
  obtain ⟨k,s,hw⟩:=ih
  have hb:=hw.okI V
  have hxx : nodAt t (b : Int) = x:=by have:=hb.get;simp only [Int.toNat_natCast] at this;rw [hx] at this;exact (Option.some.inj this).symm
  subst hxx
  have:=hw.step hb he
  have h1:=V.ent1 hb he
  rw [show ((e.node.toNat : Nat) : Int) = e.node by omega]
  exact ⟨_,_,this⟩
end
theorem pigeon : ∀ (n : Nat) (l : List Nat),l.Nodup → (∀ x ∈ l,x < n) → l.length ≤ n
 | 0,[],_,_=>Nat.le_refl _
 | 0,x :: l,_,h=>absurd (h x (by simp)) (by omega)
 | n + 1,l,hd,h=>by
  have h1:=pigeon n (l.erase n) (hd.erase n) fun x hx=>by
   have h2:=(hd.mem_erase_iff).1 hx
   have:=h x h2.2
   omega
  have h2:=List.length_erase (a:=n) (l:=l)
  split at h2<;>omega
section
variable {t : List Nod} (V : Vt t)
include V
theorem Wyt.chain {k : Nat} {n : Int} {s : Bs} (h : Wyt t k n s) : ∃ L : List Nat, L.length = k ∧ L.Nodup ∧ ∀ x ∈ L, x < t.length ∧ ∃ j s', j < k ∧ Wyt t j (x : Int) s' ∧ (nodAt t (x : Int)).kind = 0 := by
 induction h with
 | root=>exact ⟨[],rfl,List.nodup_nil,fun x hx=>by cases hx⟩
 | @step k a s e hw ha he ih=>
  obtain ⟨L,h1,h2,h3⟩:=ih
  have hN : ((a.toNat : Nat) : Int) = a:=Int.toNat_of_nonneg ha.1
  have hk:=V.dir ha he
  refine ⟨a.toNat :: L,by simp [h1],List.nodup_cons.2 ⟨fun hm=>?_,h2⟩,fun x hx=>?_⟩
  ·obtain ⟨_, j, s', hj, hw2, _⟩ := h3 _ hm
   rw [hN] at hw2
   have:=(hw.uniq V hw2 (by rw [hk];decide)).1
   omega
  ·rcases List.mem_cons.1 hx with rfl | hx
   ·exact ⟨ha.2,k,s,by omega,by rw [hN];exact hw,by rw [hN];exact hk⟩
   ·obtain ⟨q1, j, s', hj, q2⟩ := h3 x hx
    exact ⟨q1, j, s', by omega, q2⟩
theorem Wyt.le {k : Nat} {n : Int} {s : Bs} (h : Wyt t k n s) : k ≤ t.length:=by
 obtain ⟨L,h1,h2,h3⟩:=h.chain V
 rw [← h1]
 exact pigeon _ _ h2 fun x hx=>(h3 x hx).1
theorem Wyt.name {k : Nat} {n : Int} {s : Bs} (h : Wyt t k n s) : s.length ≤ 33 * k:=by
 induction h with
 | root=>exact Nat.zero_le _
 | @step k a s e hw ha he ih=>
  have:=(legal_no (V.names ha e he)).2.2.2
  simp only [List.length_append,List.length_cons,List.length_nil]
  omega
end
end Go.Proofs.YtpfokhdelnlciaaGreatDoor
namespace Go.Proofs.YtpfokhdelnlciaaGreatDoor
open Go Dw Paths
def kidsL (t : List Nod) (w : Way) : List Way:=(nodAt t w.1).ents.map (kidW w)
theorem kids_ok {t : List Nod} {w : Way} (h : OkI t w.1) : kids t w = some (kidsL t w):=by
 unfold kids
 rw [if_pos h.1,h.get];rfl
theorem bfs_fix {t : List Nod} : ∀ (n : Nat) (q r : List Way),bfs t n q = some r → r = (q ++ r).flatMap (kidsL t)
 | n,[],r,h=>by
  have:=bfs_nil h
  subst this;rfl
 | n,w :: q,r,h=>by
  obtain ⟨m, nd, r', rfl, h0, hd, hb, rfl⟩ := bfs_consK h
  have ih:=bfs_fix m _ _ hb
  have hk : nd.ents.map (kidW w) = kidsL t w:=by
   unfold kidsL nodAt
   rw [hd];rfl
  rw [hk] at ih ⊢
  show kidsL t w ++ r' = (w :: (q ++ (kidsL t w ++ r'))).flatMap (kidsL t)
  rw [List.flatMap_cons,← List.append_assoc,← ih]
def AllW (t : List Nod) (q : List Way) : Prop:=∀ w ∈ q,∃ k,Wyt t k w.1 w.2
section
variable {t : List Nod} (V : Vt t)
include V
theorem kids_wyt {w : Way} (h : ∃ k,Wyt t k w.1 w.2) : AllW t (kidsL t w):=by
 intro v hv
 obtain ⟨e,he,rfl⟩:=List.mem_map.1 hv
 obtain ⟨k,hw⟩:=h
 exact ⟨k + 1,hw.step (hw.okI V) he⟩
theorem bfs_wyt : ∀ (n : Nat) (q r : List Way),bfs t n q = some r → AllW t q → AllW t r
 | n,[],r,h,_=>by
  have:=bfs_nil h
  subst this;intro w hw;cases hw
 | n,w :: q,r,h,hq=>by
  obtain ⟨m, nd, r', rfl, h0, hd, hb, rfl⟩ := bfs_consK h
  have hk : nd.ents.map (kidW w) = kidsL t w:=by
   unfold kidsL nodAt
   rw [hd];rfl
  rw [hk] at hb ⊢
  have h1:=kids_wyt V (hq w (by simp))
  have ih:=bfs_wyt m _ _ hb fun v hv=>by
   rcases List.mem_append.1 hv with hv | hv
   ·exact hq v (by simp [hv])
   ·exact h1 v hv
  intro v hv
  rcases List.mem_append.1 hv with hv | hv
  ·exact h1 v hv
  ·exact ih v hv
def wgt (t : List Nod) (p : Way × Nat) : Nat:=1000000 ^ (t.length - p.2)
omit V in
theorem wgt_pos (t : List Nod) (p : Way × Nat) : 1 ≤ wgt t p:=Nat.pow_pos (by decide)
theorem bfs_ex : ∀ (m : Nat) (ps : List (Way × Nat)),(∀ p ∈ ps,Wyt t p.2 p.1.1 p.1.2) → (ps.map (wgt t)).sum ≤ m → ∃ N r,bfs t N (ps.map (·.1)) = some r
 | m,[],_,_=>⟨0,[],rfl⟩
 | 0,p :: ps,_,h=>by
  have:=wgt_pos t p
  simp only [List.map_cons,List.sum_cons] at h;omega
 | m + 1,p :: ps,hw,h=>by
  obtain ⟨w,k⟩:=p
  have hp : Wyt t k w.1 w.2:=hw (w,k) (by simp)
  have hi:=hp.okI V
  let ks : List (Way × Nat):=(kidsL t w).map fun v=>(v,k + 1)
  have hks : ∀ v ∈ ks,Wyt t v.2 v.1.1 v.1.2:=by
   intro v hv
   obtain ⟨u,hu,rfl⟩:=List.mem_map.1 hv
   obtain ⟨e,he,rfl⟩:=List.mem_map.1 hu
   exact hp.step hi he
  have hsum : (ks.map (wgt t)).sum < wgt t (w,k):=by
   have e1 : ks.map (wgt t) = List.replicate (nodAt t w.1).ents.length (1000000 ^ (t.length - (k + 1))):=by
    rw [List.eq_replicate_iff]
    refine ⟨by simp [ks,kidsL],fun b hb=>?_⟩
    simp only [ks,List.map_map,List.mem_map] at hb
    obtain ⟨u,_,rfl⟩:=hb
    rfl
   rw [e1,List.sum_replicate_nat]
   by_cases h0 : (nodAt t w.1).ents.length = 0
   ·rw [h0,Nat.zero_mul];exact wgt_pos t _
   ·have hk1 : k + 1 ≤ t.length:=by
     cases hz : (nodAt t w.1).ents with
     | nil=>rw [hz] at h0;exact absurd rfl h0
     | cons e l=>exact (hp.step hi (e:=e) (by rw [hz];simp)).le V
    have hb:=V.b.el _ hi.mem
    show _ < 1000000 ^ (t.length - k)
    rw [show t.length - k = (t.length - (k + 1)) + 1 by omega,Nat.pow_succ,Nat.mul_comm]
    exact Nat.mul_lt_mul_of_pos_left hb (Nat.pow_pos (by decide))
  obtain ⟨N,r,hr⟩:=bfs_ex m (ps ++ ks) (fun v hv=>by
   rcases List.mem_append.1 hv with hv | hv
   ·exact hw v (by simp [hv])
   ·exact hks v hv) (by
   rw [List.map_append,List.sum_append_nat]
   simp only [List.map_cons,List.sum_cons] at h
   omega)
  refine ⟨N + 1,kidsL t w ++ r,?_⟩
  have e2 : (ps ++ ks).map (·.1) = ps.map (·.1) ++ kidsL t w:=by
   rw [List.map_append]
   simp only [ks,List.map_map]
   congr 1
   exact (List.map_congr_left (g:=id) fun x _=>rfl).trans (List.map_id _)
  rw [e2] at hr
  show (match kids t w with
   | none=>none
   | some ks=>match bfs t N ((ps.map fun (x : Way × Nat)=>x.1) ++ ks) with
    | none=>none
    | some r=>some (ks ++ r)) = _
  rw [kids_ok hi]
  simp only [hr]
theorem Vt.ways : ∃ N ys,bfs t N [(0,[])] = some ys:=bfs_ex V _ [(((0 : Int),([] : Bs)),(0 : Nat))] (fun p hp=>by rw [List.mem_singleton] at hp;subst hp;exact .root) (Nat.le_refl _)
omit V in
theorem cntE_names {n : Int} : ∀ {t : List Nod} {x : Nod},x ∈ t → cntE x.ents n ≤ namesR t n
 | y :: t,x,h=>by
  rcases List.mem_cons.1 h with rfl | h
  ·simp only [namesR];omega
  ·have:=cntE_names (n:=n) h
   simp only [namesR];omega
omit V in
theorem sum_ind {α : Type} [BEq α] [LawfulBEq α] {f : α → Nat} {u : α} : ∀ l : List α,(∀ v ∈ l,f v = if v == u then 1 else 0) → (l.map f).sum = l.count u
 | [],_=>rfl
 | v :: l,h=>by
  rw [List.map_cons,List.sum_cons,List.count_cons,h v (by simp),sum_ind l fun x hx=>h x (by simp [hx])]
  omega
theorem way_once {N : Nat} {ys : List Way} (hy : bfs t N [(0,[])] = some ys) {k : Nat} {n : Int} {s : Bs} (h : Wyt t k n s) (hk : ¬ (nodAt t n).kind = 1) : ((0,[]) :: ys : List Way).count (n,s) = 1:=by
 have hfix:=bfs_fix _ _ _ hy
 have hall : AllW t ((0,[]) :: ys):=fun w hw=>by
  rcases List.mem_cons.1 hw with rfl | hw
  ·exact ⟨0,.root⟩
  ·exact bfs_wyt V _ _ _ hy (fun v hv=>by rw [List.mem_singleton] at hv;subst hv;exact ⟨0,.root⟩) w hw
 have hno : ∀ (s : Bs),ys.count ((0 : Int),s) = 0:=by
  intro s
  rw [List.count_eq_zero]
  intro hm
  rw [hfix] at hm
  obtain ⟨v,hv,hm⟩:=List.mem_flatMap.1 hm
  obtain ⟨e,he,hem⟩:=List.mem_map.1 hm
  obtain ⟨kv,hvw⟩:=hall v hv
  have:=V.ent1 (hvw.okI V) he
  have h2:=congrArg Prod.fst hem
  have h3 : e.node = 0:=h2
  omega
 revert hk
 induction h with
 | root=>
  intro _
  rw [List.count_cons,hno];simp
 | @step k a s e hw ha he ih=>
  intro hk
  have hd:=V.dir ha he
  have h1:=V.ent1 ha he
  have hu:=ih (by rw [hd];decide)
  have hne : ((0,[]) : Way) ≠ (e.node,s ++ [47] ++ e.name):=fun hc=>by
   have:=congrArg Prod.fst hc
   have : (0 : Int) = e.node:=this
   omega
  rw [List.count_cons,if_neg (by simp),Nat.add_zero]
  have e1 : ys.count (e.node,s ++ [47] ++ e.name) = (((0,[]) :: ys : List Way).flatMap (kidsL t)).count (e.node,s ++ [47] ++ e.name):=congrArg (List.count _) hfix
  rw [e1,List.count_flatMap,← hu]
  refine sum_ind _ fun v hv=>?_
  obtain ⟨kv,hvw⟩:=hall v hv
  have hvi:=hvw.okI V
  show (kidsL t v).count _ = _
  by_cases hvu : v = (a,s)
  ·subst hvu
   rw [if_pos (by simp)]
   have hge : 1 ≤ (kidsL t (a,s)).count (e.node,s ++ [47] ++ e.name):=List.one_le_count_iff.2 (List.mem_map.2 ⟨e,he,rfl⟩)
   have hle : (kidsL t (a,s)).count (e.node,s ++ [47] ++ e.name) ≤ 1:=by
    have h2 : (kidsL t (a,s)).count (e.node,s ++ [47] ++ e.name) ≤ cntE (nodAt t a).ents e.node:=by
     rw [cntE_count]
     unfold kidsL List.count
     rw [List.countP_map]
     refine List.countP_mono_left fun x _ hx=>?_
     have hx2 : kidW (a,s) x = (e.node,s ++ [47] ++ e.name):=by simpa using hx
     have:=congrArg Prod.fst hx2
     exact decide_eq_true this
    have h3:=cntE_names (n:=e.node) ha.mem
    have hn:=V.ent ha he
    have hx:=hn.get
    rw [List.getElem?_eq_getElem hn.2] at hx
    have hc:=(V.ec (j:=e.node.toNat) (by omega) hn.2).2.1 (by rw [Option.some.inj hx];exact hk)
    rw [Int.toNat_of_nonneg hn.1] at hc
    omega
   omega
  ·rw [if_neg (by simp only [beq_iff_eq];exact hvu)]
   rw [List.count_eq_zero]
   intro hm
   obtain ⟨f,hf,hfe⟩:=List.mem_map.1 hm
   have hfn : f.node = e.node:=congrArg Prod.fst hfe
   obtain ⟨h3,h4⟩:=V.one (V.ent ha he) h1 hk ha hvi he hf rfl hfn
   subst h3
   have:=(hw.uniq V hvw (by rw [hd];decide)).2
   exact hvu (Prod.ext rfl this.symm)
end
end Go.Proofs.YtpfokhdelnlciaaGreatDoor
namespace Go.Proofs.YtpfokhdelnlciaaGreatDoor
open Go Dw Paths
open Classical in
noncomputable def pw (t : List Nod) (a : Int) : Bs:=if h : ∃ s,∃ k,Wyt t k a s then h.choose else []
noncomputable def plR (t : List Nod) (n : Int) : List Bs:=((posG t 0).filter fun p=>decide (p.2.node = n)).map fun p=>pw t p.1 ++ [47] ++ p.2.name
def insB : List Bs → Bs → List Bs
 | [],s=>[s]
 | x :: l,s=>if s < x then s :: x :: l else x :: insB l s
def insS (l : List Bs) : List Bs:=l.foldl insB []
noncomputable def pathsR (t : List Nod) (n : Int) : List Bs:=if n = 0 then [[47]] else insS (plR t n)
section
variable {t : List Nod} (V : Vt t)
include V
theorem pw_of {k : Nat} {a : Int} {s : Bs} (h : Wyt t k a s) (hk : ¬ (nodAt t a).kind = 1) : pw t a = s:=by
 unfold pw
 have hex : ∃ s,∃ k,Wyt t k a s:=⟨s,k,h⟩
 rw [dif_pos hex]
 obtain ⟨k', h'⟩ := hex.choose_spec
 exact (h'.uniq V h hk).2
theorem pw_way {a : Int} (ha : OkI t a) (hk : ¬ (nodAt t a).kind = 1) : ∃ k,Wyt t k a (pw t a):=by
 obtain ⟨k,s,h⟩:=V.way ha
 rw [pw_of V h hk];exact ⟨k,h⟩
omit V in
theorem fm_congr {α β : Type} {f g : α → List β} : ∀ {l : List α},(∀ x ∈ l,f x = g x) → l.flatMap f = l.flatMap g
 | [],_=>rfl
 | x :: l,h=>by rw [List.flatMap_cons,List.flatMap_cons,h x (by simp),fm_congr fun y hy=>h y (by simp [hy])]
def isDr (t : List Nod) (w : Way) : Bool:=decide ((nodAt t w.1).kind = 0)
noncomputable def dirW (t : List Nod) : List Way:=((List.range t.length).map fun (a : Nat)=>((a : Int),pw t (a : Int))).filter (isDr t)
omit V in
theorem nodup_snd (f : Int → Bs) : ∀ l : List Nat,l.Nodup → (l.map fun (a : Nat)=>((a : Int),f (a : Int))).Nodup:=by
 intro l h
 refine List.pairwise_map.2 (h.imp fun {x y} hne e=>hne ?_)
 have:=congrArg Prod.fst e
 have : (x : Int) = y:=this
 omega
theorem dirs_perm {N : Nat} {ys : List Way} (hy : bfs t N [(0,[])] = some ys) : (((0,[]) :: ys : List Way).filter (isDr t)).Perm (dirW t):=by
 have hall : AllW t ((0,[]) :: ys):=fun w hw=>by
  rcases List.mem_cons.1 hw with rfl | hw
  ·exact ⟨0,.root⟩
  ·exact bfs_wyt V _ _ _ hy (fun v hv=>by rw [List.mem_singleton] at hv;subst hv;exact ⟨0,.root⟩) w hw
 rw [List.perm_iff_count]
 intro w
 have hd2 : (dirW t).Nodup:=(nodup_snd (pw t) _ List.nodup_range).filter _
 by_cases hz : isDr t w = true
 ·have hk : ¬ (nodAt t w.1).kind = 1:=by
   have:=of_decide_eq_true hz
   rw [this];decide
  rw [List.count_filter hz]
  by_cases hw : ∃ k,Wyt t k w.1 w.2
  ·obtain ⟨k,hk2⟩:=hw
   rw [way_once V hy (n:=w.1) (s:=w.2) hk2 hk,hd2.count,if_pos]
   refine List.mem_filter.2 ⟨List.mem_map.2 ⟨w.1.toNat,?_,?_⟩,hz⟩
   ·exact List.mem_range.2 (hk2.okI V).2
   ·have h1 : ((w.1.toNat : Nat) : Int) = w.1:=Int.toNat_of_nonneg (hk2.okI V).1
    rw [h1,pw_of V hk2 hk]
  ·rw [List.count_eq_zero.2 fun hm=>hw (hall w hm),List.count_eq_zero.2 fun hm=>?_]
   obtain ⟨hm,_⟩:=List.mem_filter.1 hm
   obtain ⟨a,ha,rfl⟩:=List.mem_map.1 hm
   have hai : OkI t (a : Int):=⟨by omega,by simpa using List.mem_range.1 ha⟩
   exact hw (pw_way V hai hk)
 ·have h1 : List.count w (dirW t) = 0:=List.count_eq_zero.2 fun hm=>hz (List.mem_filter.1 hm).2
  rw [h1]
  exact List.count_eq_zero.2 fun hm=>hz (List.mem_filter.1 hm).2
theorem flat_dirs (l : List Way) (hl : AllW t l) : l.flatMap (kidsL t) = (l.filter (isDr t)).flatMap (kidsL t):=by
 induction l with
 | nil=>rfl
 | cons w l ih=>
  have ih:=ih fun v hv=>hl v (by simp [hv])
  rw [List.flatMap_cons,ih]
  by_cases hz : isDr t w = true
  ·rw [List.filter_cons_of_pos hz,List.flatMap_cons]
  ·rw [List.filter_cons_of_neg hz]
   obtain ⟨k,hw⟩:=hl w (by simp)
   have : (nodAt t w.1).ents = []:=V.noents (hw.okI V) fun h=>hz (decide_eq_true h)
   unfold kidsL
   rw [this];rfl
omit V in
theorem flat_pos (f : Nat → Bs) (g : Nat → Bool) : ∀ (l : List Nod) (k : Nat),((List.range' k l.length).flatMap fun (a : Nat)=>(((l[a - k]?).getD ⟨0,[],[]⟩).ents.map fun e=>(e.node,f a ++ [47] ++ e.name))) = (posG l k).map fun p=>(p.2.node,f p.1 ++ [47] ++ p.2.name)
 | [],k=>rfl
 | x :: l,k=>by
  simp only [List.length_cons,List.range'_succ,List.flatMap_cons,posG,List.map_append,List.map_map]
  rw [← flat_pos f g l (k + 1)]
  congr 1
  ·simp
  ·refine fm_congr fun a ha=>?_
   have:=(List.mem_range'_1.1 ha).1
   rw [show a - k = (a - (k + 1)) + 1 by omega];rfl
theorem ways_perm {N : Nat} {ys : List Way} (hy : bfs t N [(0,[])] = some ys) : ys.Perm ((posG t 0).map fun p=>(p.2.node,pw t p.1 ++ [47] ++ p.2.name)):=by
 have hall : AllW t ((0,[]) :: ys):=fun w hw=>by
  rcases List.mem_cons.1 hw with rfl | hw
  ·exact ⟨0,.root⟩
  ·exact bfs_wyt V _ _ _ hy (fun v hv=>by rw [List.mem_singleton] at hv;subst hv;exact ⟨0,.root⟩) w hw
 have hfix:=bfs_fix _ _ _ hy
 have e1 : ((0,[]) :: ys : List Way).flatMap (kidsL t) = ys:=hfix.symm
 rw [flat_dirs V _ hall] at e1
 have h2:=(dirs_perm V hy).flatMap_right (kidsL t)
 rw [e1] at h2
 refine h2.trans ?_
 have hall2 : AllW t ((List.range t.length).map fun (a : Nat)=>((a : Int),pw t (a : Int))) → True:=fun _=>trivial
 have e3 : (dirW t).flatMap (kidsL t) = ((List.range t.length).map fun (a : Nat)=>((a : Int),pw t (a : Int))).flatMap (kidsL t):=by
  unfold dirW
  generalize hL : ((List.range t.length).map fun (a : Nat)=>((a : Int),pw t (a : Int))) = L
  have hok : ∀ w ∈ L,OkI t w.1:=by
   intro w hw
   subst hL
   obtain ⟨a,ha,rfl⟩:=List.mem_map.1 hw
   exact ⟨by show (0 : Int) ≤ (a : Int);omega,by simpa using List.mem_range.1 ha⟩
  clear hL
  induction L with
  | nil=>rfl
  | cons w l ih=>
   have ih:=ih fun v hv=>hok v (by simp [hv])
   rw [List.flatMap_cons,← ih]
   by_cases hz : isDr t w = true
   ·rw [List.filter_cons_of_pos hz,List.flatMap_cons]
   ·rw [List.filter_cons_of_neg hz]
    have : (nodAt t w.1).ents = []:=V.noents (hok w (by simp)) fun h=>hz (decide_eq_true h)
    unfold kidsL
    rw [this];rfl
 rw [e3,List.flatMap_map]
 have e4:=flat_pos (fun a=>pw t (a : Int)) (fun _=>true) t 0
 rw [← e4,← List.range_eq_range']
 refine List.Perm.of_eq (fm_congr fun a _=>?_)
 show (nodAt t (a : Int)).ents.map _ = _
 unfold nodAt
 rw [Int.toNat_natCast,Nat.sub_zero]
 rfl
theorem toN_perm {N : Nat} {ys : List Way} (hy : bfs t N [(0,[])] = some ys) {n : Int} (h0 : ¬ n = 0) : (toN n (allW ys)).Perm (plR t n):=by
 unfold toN allW plR
 rw [List.filter_cons_of_neg (by simpa using fun e : (0 : Int) = n=>h0 e.symm)]
 refine ((((ways_perm V hy).filter _).map _)).trans (List.Perm.of_eq ?_)
 rw [List.filter_map,List.map_map]
 rfl
end
theorem insB_perm : ∀ (l : List Bs) (s : Bs),(insB l s).Perm (s :: l)
 | [],s=>.refl _
 | x :: l,s=>by
  unfold insB
  split
  ·exact .refl _
  ·exact ((insB_perm l s).cons x).trans (.swap s x l)
theorem insS_perm_go : ∀ (l out : List Bs),(l.foldl insB out).Perm (out ++ l)
 | [],out=>by simp
 | s :: l,out=>by
  rw [List.foldl_cons]
  refine (insS_perm_go l _).trans ?_
  refine ((insB_perm out s).append_right l).trans ?_
  exact List.perm_middle.symm
theorem insS_perm (l : List Bs) : (insS l).Perm l:=by
 have:=insS_perm_go l []
 rwa [List.nil_append] at this
def Srt (l : List Bs) : Prop:=l.Pairwise fun a b=>a ≤ b
theorem insB_srt : ∀ (l : List Bs) (s : Bs),Srt l → Srt (insB l s)
 | [],s,_=>by unfold insB Srt;simp
 | x :: l,s,h=>by
  unfold insB
  obtain ⟨h1,h2⟩:=List.pairwise_cons.1 h
  split
  ·rename_i hs
   refine List.pairwise_cons.2 ⟨fun y hy=>?_,h⟩
   have hsx : s ≤ x:=List.le_of_lt hs
   rcases List.mem_cons.1 hy with rfl | hy
   ·exact hsx
   ·exact List.le_trans hsx (h1 y hy)
  ·rename_i hs
   refine List.pairwise_cons.2 ⟨fun y hy=>?_,insB_srt l s h2⟩
   rcases List.mem_cons.1 ((insB_perm l s).mem_iff.1 hy) with rfl | hy
   ·exact List.not_lt.1 hs
   ·exact h1 y hy
theorem insS_srt (l : List Bs) : Srt (insS l):=by
 unfold insS
 have : ∀ (l out : List Bs),Srt out → Srt (l.foldl insB out):=by
  intro l
  induction l with
  | nil=>exact fun _ h=>h
  | cons s l ih=>exact fun out h=>ih _ (insB_srt out s h)
 exact this l [] List.Pairwise.nil
theorem sortB_srt (l : List Bs) : Srt (sortB l):=by
 have:=List.pairwise_mergeSort (le:=fun x y : Bs=>decide (x ≤ y)) (fun a b c h1 h2=>decide_eq_true (List.le_trans (of_decide_eq_true h1) (of_decide_eq_true h2))) (fun a b=>by
  rcases List.le_total a b with h | h
  ·simp [h]
  ·simp [h]) l
 exact this.imp fun h=>of_decide_eq_true h
theorem srt_perm {a b : List Bs} (ha : Srt a) (hb : Srt b) (h : a.Perm b) : a = b:=
 h.eq_of_pairwise (fun _ _ _ _ h1 h2=>List.le_antisymm h1 h2) ha hb
theorem sort_paths {t : List Nod} (V : Vt t) {N : Nat} {ys : List Way} (hy : bfs t N [(0,[])] = some ys) (n : Int) : sortB (toN n (allW ys)) = pathsR t n:=by
 unfold pathsR
 by_cases h0 : n = 0
 ·rw [if_pos h0]
  subst h0
  have : toN 0 (allW ys) = [[47]]:=by
   unfold toN allW
   rw [List.filter_cons_of_pos (by simp)]
   have : ys.filter (fun w=>decide (w.1 = 0)) = []:=by
    rw [List.filter_eq_nil_iff]
    intro w hw hc
    have hp:=(ways_perm V hy).mem_iff.1 hw
    obtain ⟨⟨a,e⟩,hm,rfl⟩:=List.mem_map.1 hp
    have h1:=(V.pos hm).2.2.2.1
    have h2 : e.node = 0:=of_decide_eq_true hc
    omega
   rw [this];rfl
  rw [this,sortB_one]
 ·rw [if_neg h0]
  exact srt_perm (sortB_srt _) (insS_srt _) (((List.mergeSort_perm _ _).trans (toN_perm V hy h0)).trans (insS_perm _).symm)
end Go.Proofs.YtpfokhdelnlciaaGreatDoor
namespace Go.Proofs.YtpfokhdelnlciaaGreatDoor
open Go Dw Paths
def abv (_ : List Nod) (a : Int) (p : Bs) : Bs:=if a = 0 then [47] else p
section
variable {t : List Nod} (V : Vt t)
include V
theorem plR_mem {n : Int} {p : Bs} (h : p ∈ plR t n) : ∃ a e,(a,e) ∈ posG t 0 ∧ e.node = n ∧ p = pw t (a : Int) ++ [47] ++ e.name ∧ ∃ k,Wyt t (k + 1) n p:=by
 obtain ⟨⟨a,e⟩,hm,rfl⟩:=List.mem_map.1 h
 obtain ⟨h1,h2⟩:=List.mem_filter.1 hm
 have h3 : e.node = n:=of_decide_eq_true h2
 obtain ⟨ha,he,hn,_,hk⟩:=V.pos h1
 obtain ⟨k,hw⟩:=pw_way V ha (by rw [hk];decide)
 exact ⟨a,e,h1,h3,rfl,k,by have:=hw.step ha he;rwa [h3] at this⟩
theorem paths_mem {n : Int} {p : Bs} (h0 : ¬ n = 0) (h : p ∈ pathsR t n) : ∃ k,Wyt t (k + 1) n p:=by
 unfold pathsR at h
 rw [if_neg h0] at h
 obtain ⟨_,_,_,_,_,k,hw⟩:=plR_mem V ((insS_perm _).mem_iff.1 h)
 exact ⟨k,hw⟩
theorem paths_one {a : Int} (ha : OkI t a) (h0 : ¬ a = 0) (hk : ¬ (nodAt t a).kind = 1) : pathsR t a = [pw t a]:=by
 have h1 : 1 ≤ a:=by have:=ha.1;omega
 have hx:=ha.get
 rw [List.getElem?_eq_getElem ha.2] at hx
 have hc:=V.ec (j:=a.toNat) (by omega) ha.2
 have hN : ((a.toNat : Nat) : Int) = a:=Int.toNat_of_nonneg ha.1
 rw [hN] at hc
 have hl : (plR t a).length = 1:=by
  unfold plR
  rw [List.length_map,← List.countP_eq_length_filter,← names_count a t 0]
  have:=hc.2.1 (by rw [Option.some.inj hx];exact hk)
  have:=hc.1
  omega
 obtain ⟨x,hx⟩:=List.length_eq_one_iff.1 hl
 obtain ⟨_,_,_,_,_,k,hw⟩:=plR_mem V (n:=a) (p:=x) (by rw [hx];simp)
 unfold pathsR
 rw [if_neg h0,hx,pw_of V hw hk];rfl
theorem pw_root : pw t 0 = []:=by
 have h : ¬ (nodAt t 0).kind = 1:=by
  have:=V.nod (n:=0) ⟨by omega,V.len.1⟩
  unfold nodE at this
  split at this
  ·cases this
  split at this
  ·cases this
  ·rename_i h2
   intro hc
   exact h2 ⟨rfl,by rw [hc];decide⟩
 exact pw_of V .root h
theorem paths_dir {a : Int} (ha : OkI t a) (hk : ¬ (nodAt t a).kind = 1) : pathsR t a = [abv t a (pw t a)]:=by
 by_cases h0 : a = 0
 ·unfold pathsR abv;rw [if_pos h0,if_pos h0]
 ·rw [paths_one V ha h0 hk];unfold abv;rw [if_neg h0]
theorem pw_ne {a : Int} (ha : OkI t a) (h0 : ¬ a = 0) (hk : ¬ (nodAt t a).kind = 1) : pw t a ≠ [47]:=by
 obtain ⟨k,hw⟩:=pw_way V ha hk
 generalize pw t a = s at hw
 cases hw with
 | root=>exact absurd rfl h0
 | step hw hb he=>
  have:=(legal_no (V.names hb _ he)).2.2.1
  intro hc
  have hl:=congrArg List.length hc
  simp only [List.length_append,List.length_cons,List.length_nil] at hl
  have:=List.length_pos_iff.2 this
  omega
theorem pw_len {a : Int} (ha : OkI t a) (hk : ¬ (nodAt t a).kind = 1) : (pw t a).length ≤ 1400:=by
 obtain ⟨k,hw⟩:=pw_way V ha hk
 have:=hw.name V
 have:=hw.le V
 have:=V.len.2
 omega
end
theorem ents_okE {len : Int} {l : List Ent} : ∀ (n k : Nat),n = l.length - k → entsE len l n k = 0 → ∀ j (h : j < l.length),k ≤ j → entE len (l.take j) l[j] = 0
 | 0,k,hn,_,j,h,hk=>by omega
 | n + 1,k,hn,he,j,h,hk=>by
  have hkl : k < l.length:=by omega
  rw [ents_at hkl hn] at he
  by_cases e : entE len (l.take k) l[k] = 0
  ·rw [if_neg (by simpa using e)] at he
   by_cases hj : j = k
   ·subst hj;exact e
   ·exact ents_okE (l.length - (k + 1)) (k + 1) rfl he j h (by omega)
  ·rw [if_pos e] at he;exact absurd he e
theorem Vt.dist {t : List Nod} (V : Vt t) {n : Int} (h : OkI t n) {i j : Nat} (hi : i < j) (hj : j < (nodAt t n).ents.length) : ¬ fold (nodAt t n).ents[i].name = fold (nodAt t n).ents[j].name:=by
 have hn:=V.nod h
 unfold nodE at hn
 split at hn
 ·cases hn
 split at hn
 ·cases hn
 split at hn
 ·cases hn
 split at hn
 ·rename_i h4;exact absurd hn h4
 ·rename_i h4
  have:=ents_okE _ 0 rfl (Classical.not_not.1 h4) j hj (Nat.zero_le _)
  unfold entE at this
  split at this
  ·rename_i h5;exact absurd this h5
  split at this
  ·cases this
  ·rename_i h6
   intro hc
   exact h6 (List.any_eq_true.2 ⟨(nodAt t n).ents[i],List.mem_take_iff_getElem.2 ⟨i,by omega,rfl⟩,decide_eq_true hc⟩)
theorem lookG_hit {s : Bs} : ∀ (l : List Ent) (k : Nat),(∃ e ∈ l,fold e.name = fold s) → ∃ j,∃ h : j < l.length,lookG l s k = ((k + j : Nat) : Int) ∧ fold l[j].name = fold s
 | [],k,⟨e,he,_⟩=>by cases he
 | x :: l,k,⟨e,he,hf⟩=>by
  have e2 : lookG (x :: l) s k = if fold x.name = fold s then (k : Int) else lookG l s (k + 1):=rfl
  rw [e2]
  by_cases hx : fold x.name = fold s
  ·exact ⟨0,by simp,by rw [if_pos hx];rfl,hx⟩
  ·rw [if_neg hx]
   have he2 : e ∈ l:=by
    rcases List.mem_cons.1 he with rfl | h
    ·exact absurd hf hx
    ·exact h
   obtain ⟨j,h1,h2,h3⟩:=lookG_hit l (k + 1) ⟨e,he2,hf⟩
   exact ⟨j + 1,by simpa using h1,by rw [h2];congr 1;omega,h3⟩
theorem look_self {t : List Nod} (V : Vt t) {n : Int} (h : OkI t n) {e : Ent} (he : e ∈ (nodAt t n).ents) : ¬ look (nodAt t n).ents e.name < 0 ∧ entR (nodAt t n).ents e.name = e:=by
 obtain ⟨j,hj,hl,hf⟩:=lookG_hit (s:=e.name) (nodAt t n).ents 0 ⟨e,he,rfl⟩
 obtain ⟨m,hm,hme⟩:=List.getElem_of_mem he
 have hjm : j = m:=by
  rcases Nat.lt_trichotomy j m with h1 | h1 | h1
  ·exact absurd (by rw [hme];exact hf) (V.dist h h1 hm)
  ·exact h1
  ·exact absurd (by rw [hme];exact hf.symm) (V.dist h h1 hj)
 subst hjm
 have hlk : look (nodAt t n).ents e.name = ((j : Nat) : Int):=by
  unfold look;rw [hl,Nat.zero_add]
 refine ⟨by rw [hlk];omega,?_⟩
 unfold entR
 rw [hlk,Int.toNat_natCast,List.getElem?_eq_getElem hj,hme];rfl
def joinS (l : List Bs) : Bs:=(l.map fun x=>47 :: x).flatten
theorem joinS_snoc (l : List Bs) (x : Bs) : joinS (l ++ [x]) = joinS l ++ [47] ++ x:=by simp [joinS]
theorem joinS_glue : ∀ {l : List Bs},l ≠ [] → joinS l = 47 :: glue 47 l
 | [x],_=>by simp [joinS,glue]
 | x :: y :: l,_=>by
  have ih:=joinS_glue (l:=y :: l) (by simp)
  rw [glue_cons x (y :: l) (by simp)]
  have : joinS (x :: y :: l) = (47 :: x) ++ joinS (y :: l):=rfl
  rw [this,ih];rfl
theorem fol_name {t : List Nod} (V : Vt t) {m : Nat} {tr : List Int} {r : List Bs} {last : Bool} {st : Int} {e : Ent} (hT : OkT t tr) (he : e ∈ (nodAt t (hereOf tr)).ents) (hr : r.length + 1 ≤ 64) (hk : (nodAt t e.node).kind = 0) : fol t (m + 1) tr (e.name :: r) last st = fol t m (tr ++ [e.node]) r last st:=by
 obtain ⟨h1,h2⟩:=look_self V hT.here he
 have hn:=V.names hT.here e he
 have hd:=name_dots hn
 have d1 : ¬ e.name = [46]:=fun hc=>by rw [hc] at hd;exact absurd hd (by decide)
 have d2 : ¬ e.name = [46,46]:=fun hc=>by rw [hc] at hd;exact absurd hd (by decide)
 have h3 : entOf t tr e.name = e:=h2
 rw [fol_1]
 unfold folS
 rw [if_neg (by omega),if_neg d1,if_neg d2,if_neg h1,h3,if_pos hk]
theorem fol_last {t : List Nod} (V : Vt t) {m : Nat} {tr : List Int} {st : Int} {e : Ent} (hT : OkT t tr) (he : e ∈ (nodAt t (hereOf tr)).ents) : ∃ o,fol t (m + 2) tr [e.name] false st = some o ∧ o.e = 0 ∧ o.st = st ∧ o.x.node = e.node:=by
 obtain ⟨h1,h2⟩:=look_self V hT.here he
 have hn:=V.names hT.here e he
 have hd:=name_dots hn
 have d1 : ¬ e.name = [46]:=fun hc=>by rw [hc] at hd;exact absurd hd (by decide)
 have d2 : ¬ e.name = [46,46]:=fun hc=>by rw [hc] at hd;exact absurd hd (by decide)
 have h3 : entOf t tr e.name = e:=h2
 rw [fol_1]
 unfold folS
 rw [if_neg (by simp),if_neg d1,if_neg d2,if_neg h1,h3]
 by_cases k0 : (nodAt t e.node).kind = 0
 ·rw [if_pos k0]
  refine ⟨_,fol_0 t m _ false st,rfl,rfl,hereOf_snoc _ _⟩
 ·rw [if_neg k0]
  by_cases k1 : (nodAt t e.node).kind = 1
  ·rw [if_pos k1];exact ⟨⟨⟨e.node,hereOf tr,e.name,tr⟩,0,st⟩,rfl,rfl,rfl,rfl⟩
  ·rw [if_neg k1,if_pos ⟨rfl,rfl⟩];exact ⟨_,rfl,rfl,rfl,rfl⟩
theorem way_fol {t : List Nod} (V : Vt t) {k : Nat} {n : Int} {s : Bs} (h : Wyt t k n s) : ∃ l : List Bs,l.length = k ∧ s = joinS l ∧ (∀ x ∈ l,nameErr x = 0) ∧
  ((nodAt t n).kind = 0 → ∃ tr,OkT t tr ∧ hereOf tr = n ∧ ∀ m r last st,l.length + r.length ≤ 64 → fol t (m + k) [0] (l ++ r) last st = fol t m tr r last st) ∧
  (k ≠ 0 → l.length ≤ 64 → ∀ m st,∃ o,fol t (m + k + 1) [0] l false st = some o ∧ o.e = 0 ∧ o.st = st ∧ o.x.node = n):=by
 induction h with
 | root=>exact ⟨[],rfl,rfl,(fun x hx=>by cases hx),fun _=>⟨[0],V.root,rfl,fun m r last st _=>rfl⟩,fun hc=>absurd rfl hc⟩
 | @step k a s e hw ha he ih=>
  obtain ⟨l,h1,h2,h3,h4,_⟩:=ih
  obtain ⟨tr,t1,t2,t3⟩:=h4 (V.dir ha he)
  have he' : e ∈ (nodAt t (hereOf tr)).ents:=by rw [t2];exact he
  refine ⟨l ++ [e.name],by simp [h1],by rw [joinS_snoc,← h2],fun x hx=>?_,fun hk=>⟨tr ++ [e.node],t1.snoc (V.ent ha he),hereOf_snoc _ _,fun m r last st hl=>?_⟩,fun _ hl m st=>?_⟩
  ·rcases List.mem_append.1 hx with hx | hx
   ·exact h3 x hx
   ·rw [List.mem_singleton] at hx;subst hx;exact V.names ha e he
  ·simp only [List.length_append,List.length_cons,List.length_nil] at hl
   rw [List.append_assoc,show m + (k + 1) = (m + 1) + k by omega,t3 (m + 1) ([e.name] ++ r) last st (by simp only [List.length_append,List.length_cons,List.length_nil];omega)]
   show fol t (m + 1) tr (e.name :: r) last st = _
   exact fol_name V t1 he' (by omega) hk
  ·simp only [List.length_append,List.length_cons,List.length_nil] at hl
   rw [show m + (k + 1) + 1 = (m + 2) + k by omega,t3 (m + 2) [e.name] false st (by simp;omega)]
   exact fol_last V t1 he'
theorem way_res {t : List Nod} (V : Vt t) {k : Nat} {n : Int} {s : Bs} (h : Wyt t (k + 1) n s) (hs : s.length ≤ 200) (hc : (cut 47 s).length ≤ 16) : (resR t s false).e = 0 ∧ (resR t s false).x.node = n ∧ (resR t s false).st = 0:=by
 obtain ⟨l,h1,h2,h3,_,h5⟩:=way_fol V h
 have hl : l ≠ []:=fun hc=>by rw [hc] at h1;simp at h1
 have hsg : s = 47 :: glue 47 l:=h2.trans (joinS_glue hl)
 have hno : ∀ x ∈ l,(47 : UInt8) ∉ x:=fun x hx=>(legal_no (h3 x hx)).1
 have hcut : cut 47 s = [] :: l:=by
  rw [hsg]
  have:=cut_at (c:=47) (a:=[]) (glue 47 l) (by simp)
  rw [List.nil_append] at this
  rw [this,cut_glue hl hno]
 have hlen : l.length ≤ 15:=by rw [hcut] at hc;simp at hc;omega
 have htext : text ⟨true,l,[]⟩ = s:=by
  unfold text;rw [hsg];simp
 have hp : parse s = (⟨true,l,[]⟩,0):=by
  rw [← htext]
  refine parse_text ?_
  have e1 : ∀ x ∈ l,partErr x = 0:=fun x hx=>by unfold partErr;rw [name_dots (h3 x hx)];exact h3 x hx
  unfold fmtErr
  rw [htext]
  have e2 : firstE (l.map partErr) = 0:=by
   have : ∀ l : List Bs,(∀ x ∈ l,partErr x = 0) → firstE (l.map partErr) = 0:=by
    intro l
    induction l with
    | nil=>exact fun _=>rfl
    | cons x l ih=>exact fun h=>by rw [List.map_cons,h x (by simp)];exact ih fun y hy=>h y (by simp [hy])
   exact this l e1
  simp [firstE,e2,streamErr,hl]
  omega
 obtain ⟨o,o1,o2,o3,o4⟩:=h5 (by omega) (by omega) (2000 - (k + 1) - 1) 0
 have hkl:=h.le V
 have hl40:=V.len.2
 rw [show 2000 - (k + 1) - 1 + (k + 1) + 1 = 2000 by omega] at o1
 have hfr : folR t (parse s).1.parts false = o:=by
  rw [hp]
  unfold folR
  rw [o1];rfl
 have he : (parse s).2 = 0:=by rw [hp]
 have ha : (parse s).1.abs = true:=by rw [hp]
 rw [rr_b V.ok,rp_d he ha (by rw [hfr];exact o2),hfr]
 exact ⟨rfl,o4,o3⟩
theorem root_res {t : List Nod} (V : Vt t) : (resR t [47] false).e = 0 ∧ (resR t [47] false).x.node = 0 ∧ (resR t [47] false).st = 0:=by
 have hp : parse [47] = (⟨true,[],[]⟩,0):=by unfold parse;rw [if_neg (by decide),if_neg (by decide),if_pos rfl]
 have he : (parse [47]).2 = 0:=by rw [hp]
 have ha : (parse [47]).1.abs = true:=by rw [hp]
 have hfr : folR t (parse [47]).1.parts false = ⟨⟨0,(parOf t 0).1,(parOf t 0).2,[0]⟩,0,0⟩:=by
  rw [hp];rfl
 rw [rr_b V.ok,rp_d he ha (by rw [hfr]),hfr]
 exact ⟨rfl,rfl,rfl⟩
theorem paths_res {t : List Nod} (V : Vt t) {n : Int} {p : Bs} (h : p ∈ pathsR t n) (hs : p.length ≤ 200) (hc : (cut 47 p).length ≤ 16) : (resR t p false).e = 0 ∧ (resR t p false).x.node = n ∧ (resR t p false).st = 0:=by
 by_cases h0 : n = 0
 ·unfold pathsR at h
  rw [if_pos h0,List.mem_singleton] at h
  subst h;subst h0
  exact root_res V
 ·obtain ⟨k,hw⟩:=paths_mem V h0 h
  exact way_res V hw hs hc
def belR (t : List Nod) (d n : Int) : Bool:=((rchF t d.toNat)[n.toNat]?).getD false
theorem bel_iff {t : List Nod} (V : Vt t) {d n : Int} (hd : OkI t d) : belR t d n = true ↔ Reach t d.toNat n.toNat:=by
 rw [← rch_iff V.good hd.2]
 unfold belR isT
 cases (rchF t d.toNat)[n.toNat]? with
 | none=>simp
 | some b=>simp
theorem Reach.trans {t : List Nod} {a b c : Nat} (h : Reach t a b) (h2 : Reach t b c) : Reach t a c:=by
 induction h2 with
 | refl=>exact h
 | step _ hx he ih=>exact .step ih hx he
theorem Reach.head {t : List Nod} {a b : Nat} (h : Reach t a b) : a = b ∨ ∃ x e,t[a]? = some x ∧ e ∈ x.ents ∧ Reach t e.node.toNat b:=by
 induction h with
 | refl=>exact .inl rfl
 | @step b x e _ hx he ih=>
  right
  rcases ih with rfl | ⟨y,f,h1,h2,h3⟩
  ·exact ⟨x,e,hx,he,.refl⟩
  ·exact ⟨y,f,h1,h2,.step h3 hx he⟩
theorem bel_self {t : List Nod} (V : Vt t) {d : Int} (hd : OkI t d) : belR t d d = true:=(bel_iff V hd).2 .refl
theorem bel_ent {t : List Nod} (V : Vt t) {d n : Int} (hd : OkI t d) {e : Ent} (he : e ∈ (nodAt t d).ents) (h : belR t e.node n = true) : belR t d n = true:=by
 have h1:=(bel_iff V (V.ent hd he)).1 h
 refine (bel_iff V hd).2 (Reach.trans ?_ h1)
 exact .step .refl hd.get he
theorem bel_no {t : List Nod} (V : Vt t) {d n : Int} (hd : OkI t d) (hn : OkI t n) (hne : ¬ n = d) (h : ∀ e ∈ (nodAt t d).ents,¬ e.node = n ∧ ((nodAt t e.node).kind = 0 → belR t e.node n = false)) : belR t d n = false:=by
 cases hb : belR t d n with
 | false=>rfl
 | true=>
  exfalso
  have h1:=(bel_iff V hd).1 hb
  rcases h1.head with e | ⟨x,e,hx,he,hr⟩
  ·have:=hd.1
   have:=hn.1
   omega
  ·have hxx : nodAt t d = x:=by have:=hd.get;rw [hx] at this;exact (Option.some.inj this).symm
   subst hxx
   have he2:=V.ent hd he
   have hb2 : belR t e.node n = true:=(bel_iff V he2).2 hr
   obtain ⟨h2,h3⟩:=h e he
   by_cases hk : (nodAt t e.node).kind = 0
   ·rw [h3 hk] at hb2;cases hb2
   ·rcases hr.head with e3 | ⟨y,f,hy,hf,_⟩
    ·have:=he2.1
     have:=hn.1
     exact h2 (by omega)
    ·have hyy : nodAt t e.node = y:=by have:=he2.get;rw [hy] at this;exact (Option.some.inj this).symm
     subst hyy
     rw [V.noents he2 hk] at hf
     cases hf
end Go.Proofs.YtpfokhdelnlciaaGreatDoor
namespace Go.Proofs.YtpfokhdelnlciaaGreatDoor
open Go Dw
set_option maxRecDepth 10000
attribute [local irreducible] Run
set_option maxHeartbeats 1000000
open Paths
attribute [local irreducible] nameErr cut normal dots partErr text parse glue fold within
theorem less_lt (x y : Bs) : Op.bytesLess x y = decide (x < y):=by
 induction x generalizing y with
 | nil=>cases y<;>simp [Op.bytesLess]
 | cons a x ih=>
  cases y with
  | nil=>simp [Op.bytesLess]
  | cons b y=>
   rw [Op.bytesLess,ih y]
   simp only [List.cons_lt_cons_iff]
   by_cases h1 : a < b
   ·simp [h1]
   ·by_cases h2 : a = b
    ·subst h2;simp [h1]
    ·simp [h1,h2]
def InsI (l : List Bs) (s : Bs) (k : Nat) (out : List Bs) (dn : Bool) : Prop:=out.length ≤ k + (if dn = true then 1 else 0) ∧ ((dn = true ∧ insB l s = out ++ l.drop k) ∨ (dn = false ∧ insB l s = out ++ insB (l.drop k) s))
theorem ins_0 {l : List Bs} {s : Bs} : InsI l s 0 [] false:=⟨by simp,.inr ⟨rfl,rfl⟩⟩
section
variable {l : List Bs} {s : Bs} {k : Nat} {out : List Bs} (hk : k < l.length)
include hk
theorem ins_d (h : InsI l s k out true) : InsI l s (k + 1) (out ++ [l[k]]) true:=by
 rcases h with ⟨h1,⟨_,h2⟩ | ⟨h,_⟩⟩
 ·refine ⟨by simp at h1 ⊢;omega,.inl ⟨rfl,?_⟩⟩
  rw [h2,List.drop_eq_getElem_cons hk];simp
 ·cases h
theorem ins_lt (h : InsI l s k out false) (hb : Op.bytesLess s l[k] = true) : InsI l s (k + 1) (out ++ [s] ++ [l[k]]) true:=by
 rcases h with ⟨h1,⟨h,_⟩ | ⟨_,h2⟩⟩
 ·cases h
 ·refine ⟨by simp at h1 ⊢;omega,.inl ⟨rfl,?_⟩⟩
  rw [less_lt] at hb
  rw [h2,List.drop_eq_getElem_cons hk]
  show out ++ (if s < l[k] then s :: l[k] :: l.drop (k + 1) else l[k] :: insB (l.drop (k + 1)) s) = _
  rw [if_pos (of_decide_eq_true hb)];simp
theorem ins_ge (h : InsI l s k out false) (hb : Op.bytesLess s l[k] = false) : InsI l s (k + 1) (out ++ [l[k]]) false:=by
 rcases h with ⟨h1,⟨h,_⟩ | ⟨_,h2⟩⟩
 ·cases h
 ·refine ⟨by simp at h1 ⊢;omega,.inr ⟨rfl,?_⟩⟩
  rw [less_lt] at hb
  rw [h2,List.drop_eq_getElem_cons hk]
  show out ++ (if s < l[k] then s :: l[k] :: l.drop (k + 1) else l[k] :: insB (l.drop (k + 1)) s) = _
  rw [if_neg (of_decide_eq_false hb)];simp
end
theorem ins_e1 {l : List Bs} {s : Bs} {k : Nat} {out : List Bs} (hk : ¬ k < l.length) (h : InsI l s k out true) : out = insB l s:=by
 rcases h with ⟨h1,⟨_,h2⟩ | ⟨h,_⟩⟩
 ·rw [h2,List.drop_eq_nil_of_le (by omega),List.append_nil]
 ·cases h
theorem ins_e0 {l : List Bs} {s : Bs} {k : Nat} {out : List Bs} (hk : ¬ k < l.length) (h : InsI l s k out false) : out ++ [s] = insB l s:=by
 rcases h with ⟨h1,⟨h,_⟩ | ⟨_,h2⟩⟩
 ·cases h
 ·rw [h2,List.drop_eq_nil_of_le (by omega)];rfl
theorem ins_bd {l : List Bs} {s : Bs} {k : Nat} {out : List Bs} {dn : Bool} (h : InsI l s k out dn) : out.length ≤ k + 1:=by have:=h.1;split at this<;>omega
theorem str_app2 {μ : List Mu} {l : List Bs} {x y : Bs} : wks μ (((l.map D.str).map .d ++ [.d (.str x)]) ++ [.d (.str y)]) (((l ++ [x] ++ [y]).map D.str).map .d):=by
 have e : (((l.map D.str).map AV.d ++ [.d (.str x)]) ++ [.d (.str y)]) = ((l ++ [x] ++ [y]).map D.str).map .d:=by simp
 rw [e];exact wksd _ _
theorem vw_app {l : List Bs} {x : Bs} {H : Heap} {id n : Nat} (h : H[id]? = some ⟨(l.map D.str).map .d ++ [.d (.str x)],1,0⟩) (hn : n = l.length + 1) : view 8 H (.sl id 0 n 1 none) = some (.fs ((l ++ [x]).map .str)):=by
 have e : (l.map D.str).map AV.d ++ [.d (.str x)] = ((l ++ [x]).map D.str).map .d:=by simp
 rw [e] at h
 exact view_mapL (f:=D.str) (l:=l ++ [x]) (by simp [hn]) h (by decide)
theorem c82 (l : List Bs) (s : Bs) (hl : l.length < 100000) : Fn 82 [.fs (l.map .str),.str s] (.fs ((insB l s).map .str)):=by
 refine run_walkF eok Tryz.func82 rfl (by kernel_rfl) ?_
 conv=>whnf
 repeat' (first
 | ((with_reducible refine on_dec_f ?_ ?_);(focus ((try simp only [List.length_map,List.length_cons,List.length_nil,List.length_append]);omega));conv=>whnf)
 | ((with_reducible refine on_dec (fun h=>?_) (fun h=>?_))<;>(try simp only [List.length_map] at h)<;>conv=>whnf)
 | ((with_reducible refine onBool_split (fun h=>?_) (fun h=>?_))<;>conv=>whnf)
 | ((with_reducible refine loop_go ?_);first | (refine loop3 (fun (k : Nat) (out : List Bs) (dn : Bool)=>l.length - k) (fun (k : Nat) (out : List Bs) (dn : Bool)=>k ≤ l.length ∧ InsI l s k out dn) (fun (k : Nat) (out : List Bs) (dn : Bool)=>[(0,.d (.fs (l.map .str))),(1,.d (.str s)),(5,.sl 0 0 out.length 1 none),(6,.d (.bool dn)),(7,.d (i k))]) (fun (k : Nat) (out : List Bs) (dn : Bool)=>[⟨(out.map D.str).map .d,1,0⟩]) (0) ([]) (false) (by exact ⟨Nat.zero_le _,ins_0⟩) ?_ (fun k out dn C hI hC=>?_);(exact ⟨[.void 1],rfl,rfl,⟨(by first | (show (_ : D) = _;with_reducible rfl) ),(by first | (show (_ : D) = _;with_reducible rfl) ),⟨rfl,rfl,rfl,rfl⟩,(by first | (show (_ : D) = _;with_reducible rfl) ),(by first | exact congrArg (D.int .i64) (by omega) ),trivial⟩,⟨⟨rfl,rfl,Nat.zero_lt_succ _,rfl⟩,trivial⟩⟩);have hbd:=ins_bd hI.2;cases dn;all_goals (conv=>whnf)))
 | ((with_reducible show C _ _);first | (refine hC (k + 1) (out ++ [l[k]'(by omega)]) (true) _ _ ?_ (by omega) ?_;clear hC;rotate_left;(exact ⟨[.old 2],rfl,rfl,⟨(by first | (show (_ : D) = _;with_reducible rfl) ),(by first | (show (_ : D) = _;with_reducible rfl) ),⟨rfl,rfl,(by simp),rfl,rfl⟩,(by first | (show (_ : D) = _;with_reducible rfl) | (refine congrArg D.bool ?_;simp_all)),(by first | exact congrArg (D.int .i64) (by omega) ),trivial⟩,⟨⟨rfl,rfl,.inr (hps_app)⟩,trivial⟩⟩);(exact ⟨by omega,ins_d (by omega) hI.2⟩)) | (refine hC (k + 1) (out ++ [s] ++ [l[k]'(by omega)]) (true) _ _ ?_ (by omega) ?_;clear hC;rotate_left;(exact ⟨[.old 4],rfl,rfl,⟨(by first | (show (_ : D) = _;with_reducible rfl) ),(by first | (show (_ : D) = _;with_reducible rfl) ),⟨rfl,rfl,(by simp),rfl,rfl⟩,(by first | (show (_ : D) = _;with_reducible rfl) ),(by first | exact congrArg (D.int .i64) (by omega) ),trivial⟩,⟨⟨rfl,rfl,.inr (str_app2)⟩,trivial⟩⟩);(exact ⟨by omega,ins_lt (by omega) hI.2 (by assumption)⟩)) | (refine hC (k + 1) (out ++ [l[k]'(by omega)]) (false) _ _ ?_ (by omega) ?_;clear hC;rotate_left;(exact ⟨[.old 2],rfl,rfl,⟨(by first | (show (_ : D) = _;with_reducible rfl) ),(by first | (show (_ : D) = _;with_reducible rfl) ),⟨rfl,rfl,(by simp),rfl,rfl⟩,(by first | (show (_ : D) = _;with_reducible rfl) ),(by first | exact congrArg (D.int .i64) (by omega) ),trivial⟩,⟨⟨rfl,rfl,.inr (hps_app)⟩,trivial⟩⟩);(exact ⟨by omega,ins_ge (by omega) hI.2 (by assumption)⟩)))
 | (refine ⟨⟨(by first | (simp;done)),cap_ok (by simp only [List.length_map,List.length_cons,List.length_nil,List.length_append];omega) rfl⟩,?_⟩;conv=>whnf)
 | (refine ix_map (by omega) ?_;conv=>whnf)
 | (refine wrap64 (by omega) ?_;conv=>whnf)
 | (refine ⟨Nat.le_refl _,?_⟩;conv=>whnf)
 | ((with_reducible refine endx_go ?_);first | (exact endxv (view_mapL (f:=D.str) (l:=out) rfl rfl (by decide)) (congrArg (fun z=>D.fs (z.map .str)) (ins_e1 (by omega) hI.2));done) | (exact endxv (vw_app (l:=out) (x:=s) rfl (by simp)) (congrArg (fun z=>D.fs (z.map .str)) (ins_e0 (by omega) hI.2));done))
  | fail
  )
end Go.Proofs.YtpfokhdelnlciaaGreatDoor
namespace Go.Proofs.YtpfokhdelnlciaaGreatDoor
open Go Dw
set_option maxRecDepth 10000
attribute [local irreducible] Run
set_option maxHeartbeats 1000000
open Paths
attribute [local irreducible] nameErr cut normal dots partErr text parse glue fold within
noncomputable def remR (t : List Nod) (n : Int) (l : List (Nat × Ent)) : List Bs:=(l.filter fun p=>decide (p.2.node = n)).map fun p=>pw t p.1 ++ [47] ++ p.2.name
def posF (t : List Nod) (a b : Nat) : List (Nat × Ent):=match t[a]? with
 | some x=>(x.ents.drop b).map (fun e=>(a,e)) ++ posG (t.drop (a + 1)) (a + 1)
 | none=>[]
def PutI (t : List Nod) (n : Int) (l : List (Nat × Ent)) (out : List Bs) : Prop:=insS (plR t n) = (remR t n l).foldl insB out
theorem put_0 {t : List Nod} {n : Int} : PutI t n (posG (t.drop 0) 0) []:=rfl
theorem put_in {t : List Nod} {n : Int} {a : Nat} {out : List Bs} (ha : a < t.length) (h : PutI t n (posG (t.drop a) a) out) : PutI t n (posF t a 0) out:=by
 unfold posF
 rw [List.getElem?_eq_getElem ha]
 rw [List.drop_eq_getElem_cons ha] at h
 exact h
theorem put_out {t : List Nod} {n : Int} {a b : Nat} {out : List Bs} (ha : a < t.length) (hb : t[a].ents.length ≤ b) (h : PutI t n (posF t a b) out) : PutI t n (posG (t.drop (a + 1)) (a + 1)) out:=by
 unfold posF at h
 rw [List.getElem?_eq_getElem ha] at h
 simp only [List.drop_eq_nil_of_le hb,List.map_nil,List.nil_append] at h
 exact h
theorem posF_at {t : List Nod} {a b : Nat} (ha : a < t.length) (hb : b < t[a].ents.length) : posF t a b = (a,t[a].ents[b]) :: posF t a (b + 1):=by
 unfold posF
 rw [List.getElem?_eq_getElem ha]
 simp only
 rw [List.drop_eq_getElem_cons hb];rfl
theorem put_no {t : List Nod} {n : Int} {a b : Nat} {out : List Bs} (ha : a < t.length) (hb : b < t[a].ents.length) (h : PutI t n (posF t a b) out) (hn : ¬ t[a].ents[b].node = n) : PutI t n (posF t a (b + 1)) out:=by
 rw [posF_at ha hb] at h
 unfold PutI remR at *
 rwa [List.filter_cons_of_neg (by simpa using hn)] at h
theorem put_yes {t : List Nod} {n : Int} {a b : Nat} {out : List Bs} (ha : a < t.length) (hb : b < t[a].ents.length) (h : PutI t n (posF t a b) out) (hn : t[a].ents[b].node = n) : PutI t n (posF t a (b + 1)) (insB out (pw t (a : Int) ++ [47] ++ t[a].ents[b].name)):=by
 rw [posF_at ha hb] at h
 unfold PutI remR at *
 rwa [List.filter_cons_of_pos (by simpa using hn),List.map_cons,List.foldl_cons] at h
theorem put_e {t : List Nod} {n : Int} {a : Nat} {out : List Bs} (h0 : ¬ n = 0) (ha : t.length ≤ a) (h : PutI t n (posG (t.drop a) a) out) : out = pathsR t n:=by
 rw [List.drop_eq_nil_of_le ha] at h
 unfold pathsR
 rw [if_neg h0]
 exact h.symm
theorem put_len {t : List Nod} {n : Int} {l : List (Nat × Ent)} {out : List Bs} (h : PutI t n l out) : out.length ≤ (posG t 0).length:=by
 have h1:=congrArg List.length h
 rw [(insS_perm _).length_eq,(insS_perm_go _ _).length_eq,List.length_append] at h1
 unfold plR at h1
 rw [List.length_map] at h1
 have:=List.length_filter_le (fun p : Nat × Ent=>decide (p.2.node = n)) (posG t 0)
 omega
theorem posG_len : ∀ (t : List Nod) (k : Nat),(∀ x ∈ t,x.ents.length ≤ 1000) → (posG t k).length ≤ 1000 * t.length
 | [],_,_=>Nat.le_refl _
 | x :: t,k,h=>by
  have:=posG_len t (k + 1) fun y hy=>h y (by simp [hy])
  have:=h x (by simp)
  simp only [posG,List.length_append,List.length_map,List.length_cons]
  omega
def P46 (t : List Nod) (d : Nat) : Prop:=∀ k a s,k < d → Wyt t k a s → (nodAt t a).kind = 0 → Fn 46 [treeD t,i a] (strL [abv t a (pw t a)])
theorem nod_kat {t : List Nod} {a : Nat} (h : a < t.length) : nodAt t (a : Int) = t[a]:=by
 unfold nodAt;rw [Int.toNat_natCast,List.getElem?_eq_getElem h];rfl
theorem c46a {t : List Nod} {n : Int} {d : Nat} (IH : P46 t d) (hn : ∀ a e,(a,e) ∈ posG t 0 → e.node = n → ∃ k s,k < d ∧ Wyt t k (a : Int) s) (V : Vt t) {a b : Nat} (ha : a < t.length) (hb : b < t[a].ents.length) (h : t[a].ents[b].node = n) : Fn 46 [treeD t,i a] (strL [abv t a (pw t (a : Int))]):=by
 have hm : (a,t[a].ents[b]) ∈ posG t 0:=(mem_posG t 0).2 ⟨t[a],Nat.zero_le _,by rw [Nat.sub_zero];exact List.getElem?_eq_getElem ha,List.getElem_mem hb⟩
 obtain ⟨k,s,hk,hw⟩:=hn a _ hm h
 exact IH k a s hk hw (V.pos hm).2.2.2.2
theorem abv_0 {t : List Nod} (V : Vt t) {a : Int} (h : a = 0) : abv t a (pw t a) = [47] ∧ pw t a = []:=by subst h;exact ⟨rfl,pw_root V⟩
section
variable {t : List Nod} (V : Vt t) {a b : Nat} (ha : a < t.length) (hb : b < t[a].ents.length)
include V ha hb
theorem abv_dir : OkI t (a : Int) ∧ (nodAt t (a : Int)).kind = 0:=by
 have hi : OkI t (a : Int):=⟨by omega,by simpa using ha⟩
 exact ⟨hi,V.dir hi (e:=t[a].ents[b]) (by rw [nod_kat ha];exact List.getElem_mem hb)⟩
theorem abv_len : (abv t (a : Int) (pw t (a : Int))).length ≤ 1400 ∧ t[a].ents[b].name.length ≤ 32:=by
 obtain ⟨hi,hk⟩:=abv_dir V ha hb
 have h1:=pw_len V hi (by rw [hk];decide)
 have h2:=(legal_no (V.names hi t[a].ents[b] (by rw [nod_kat ha];exact List.getElem_mem hb))).2.2.2
 refine ⟨?_,h2⟩
 unfold abv
 split
 ·show 1 ≤ 1400;omega
 ·exact h1
omit V ha hb in
theorem abe_n (h : ¬ abv t (a : Int) (pw t (a : Int)) = [47]) (x : Bs) : abv t (a : Int) (pw t (a : Int)) ++ [47] ++ x = pw t (a : Int) ++ [47] ++ x:=by
 unfold abv at h ⊢
 split at h
 ·exact absurd rfl h
 ·rename_i h0;rw [if_neg h0]
theorem abe_0 (h : abv t (a : Int) (pw t (a : Int)) = [47]) (x : Bs) : abv t (a : Int) (pw t (a : Int)) ++ x = pw t (a : Int) ++ [47] ++ x:=by
 obtain ⟨hi,hk⟩:=abv_dir V ha hb
 unfold abv at h ⊢
 split at h
 ·rename_i h0
  rw [if_pos h0,h0,pw_root V];rfl
 ·rename_i h0
  exact absurd h (pw_ne V hi h0 (by rw [hk];decide))
end
theorem c82e {o : List Bs} {s s' : Bs} (h : s' = s) (hl : o.length < 100000) : Fn 82 [.fs (o.map .str),.str s'] (.fs ((insB o s).map .str)):=by subst h;exact c82 o s' hl
attribute [local irreducible] abv insB insS posG posF PutI pathsR pw
theorem c46z (t : List Nod) (V : Vt t) (hf : ∀ x ∈ t,x.ents.length ≤ 1000) : Fn 46 [treeD t,i 0] (.fs [.str [47]]):=by
 refine run_walkF eok Tryz.func46 rfl (by kernel_rfl) ?_
 conv=>whnf
 repeat' (first
 | ((with_reducible refine endx_go ?_);first | (exact endxv (view_map (f:=D.str) (l:=[[47]]) rfl Nat.two_pos) rfl;done) )
  | fail
  )
theorem c46g (t : List Nod) (V : Vt t) (hf : ∀ x ∈ t,x.ents.length ≤ 1000) (n : Int) (h0 : ¬ n = 0) (d : Nat) (IH : P46 t d) (hn : ∀ a e,(a,e) ∈ posG t 0 → e.node = n → ∃ k s,k < d ∧ Wyt t k (a : Int) s) : Fn 46 [treeD t,i n] (.fs ((pathsR t n).map .str)):=by
 have B:=V.b;have hbt:=B.tl;have hpl:=posG_len t 0 hf;have htl:=V.len.2
 refine run_walkF eok Tryz.func46 rfl (by kernel_rfl) ?_
 conv=>whnf
 repeat' (first
 | ((with_reducible refine on_dec_f (by assumption) ?_);conv=>whnf)
 | ((with_reducible refine on_dec (fun h=>?_) (fun h=>?_))<;>(try simp only [List.length_map] at h)<;>conv=>whnf)
 | ((with_reducible refine on_ndec (fun h=>?_) (fun h=>?_))<;>(try simp only [List.length_map] at h)<;>conv=>whnf)
 | ((with_reducible refine call_go ?_);(first | refine call_step (run_data (xs:=[_,_]) (c46a (a:=a) (b:=b) IH hn V (by omega) (by omega) (by assumption)) _) ?_ | refine call_step (run_data (xs:=[_,_]) (c82e (o:=o2) (abe_n (a:=a) (by assumption) ((t[a]'(by omega)).ents[b]'(by omega)).name) (by omega)) _) ?_ | refine call_step (run_data (xs:=[_,_]) (c82e (o:=o2) (abe_0 V (a:=a) (b:=b) (by omega) (by omega) (by assumption) ((t[a]'(by omega)).ents[b]'(by omega)).name) (by omega)) _) ?_);conv=>whnf)
 | ((with_reducible refine loop_go ?_);first | (refine loop2 (fun (b : Nat) (o2 : List Bs)=>(t[a]'(by omega)).ents.length - b) (fun (b : Nat) (o2 : List Bs)=>b ≤ (t[a]'(by omega)).ents.length ∧ PutI t n (posF t a b) o2) (fun (b : Nat) (o2 : List Bs)=>[(0,.d (treeD t)),(1,.d (i n)),(5,.d (.fs (o2.map .str))),(6,.d (i a)),(7,.d (i b))]) (fun (b : Nat) (o2 : List Bs)=>[]) (0) (out) (by exact ⟨Nat.zero_le _,put_in (by omega) hI.2⟩) ?_ (fun b o2 Ci hIi hCi=>?_);(exact ⟨[],rfl,rfl,⟨(by first | (show (_ : D) = _;with_reducible rfl) ),(by first | (show (_ : D) = _;with_reducible rfl) ),(by first | (show (_ : D) = _;with_reducible rfl) ),(by first | (show (_ : D) = _;with_reducible rfl) ),(by first | exact congrArg (D.int .i64) (by omega) ),trivial⟩,trivial⟩);have hob:=put_len hIi.2;all_goals (conv=>whnf)) | (refine loop2 (fun (a : Nat) (out : List Bs)=>t.length - a) (fun (a : Nat) (out : List Bs)=>a ≤ t.length ∧ PutI t n (posG (t.drop a) a) out) (fun (a : Nat) (out : List Bs)=>[(0,.d (treeD t)),(1,.d (i n)),(5,.d (.fs (out.map .str))),(6,.d (i a))]) (fun (a : Nat) (out : List Bs)=>[]) (0) ([]) (by exact ⟨Nat.zero_le _,put_0⟩) ?_ (fun a out C hI hC=>?_);(exact ⟨[],rfl,rfl,⟨(by first | (show (_ : D) = _;with_reducible rfl) ),(by first | (show (_ : D) = _;with_reducible rfl) ),(by first | exact rfl),(by first | exact congrArg (D.int .i64) (by omega) ),trivial⟩,trivial⟩);all_goals (conv=>whnf)))
 | ((with_reducible show C _ _);first | (refine hC (a + 1) (o2) _ _ ?_ (by omega) ?_;clear hC;rotate_left;(exact ⟨[],rfl,rfl,⟨(by first | (show (_ : D) = _;with_reducible rfl) ),(by first | (show (_ : D) = _;with_reducible rfl) ),(by first | (show (_ : D) = _;with_reducible rfl) ),(by first | exact congrArg (D.int .i64) (by omega) ),trivial⟩,trivial⟩);(exact ⟨by omega,put_out (by omega) (by omega) hIi.2⟩)))
 | ((with_reducible show Ci _ _);first | (refine hCi (b + 1) (o2) _ _ ?_ (by omega) ?_;clear hCi;rotate_left;(exact ⟨[],rfl,rfl,⟨(by first | (show (_ : D) = _;with_reducible rfl) ),(by first | (show (_ : D) = _;with_reducible rfl) ),(by first | (show (_ : D) = _;with_reducible rfl) ),(by first | (show (_ : D) = _;with_reducible rfl) ),(by first | exact congrArg (D.int .i64) (by omega) ),trivial⟩,trivial⟩);(exact ⟨by omega,put_no (by omega) (by omega) hIi.2 (by assumption)⟩)) | (refine hCi (b + 1) (insB o2 (pw t (a : Int) ++ [47] ++ ((t[a]'(by omega)).ents[b]'(by omega)).name)) _ _ ?_ (by omega) ?_;clear hCi;rotate_left;(exact ⟨[],rfl,rfl,⟨(by first | (show (_ : D) = _;with_reducible rfl) ),(by first | (show (_ : D) = _;with_reducible rfl) ),(by first | (show (_ : D) = _;with_reducible rfl) ),(by first | (show (_ : D) = _;with_reducible rfl) ),(by first | exact congrArg (D.int .i64) (by omega) ),trivial⟩,trivial⟩);(exact ⟨by omega,put_yes (by omega) (by omega) hIi.2 (by assumption)⟩)))
 | (refine ix_map (by omega) ?_;conv=>whnf)
 | (refine wrap64 (by omega) ?_;conv=>whnf)
 | (refine wrap64 (by have:=B.tl;have:=B.el _ (List.getElem_mem (by omega : a < t.length));omega) ?_;conv=>whnf)
 | (refine ix_hd ?_;conv=>whnf)
 | (refine s47 (by have:=abv_len V (a:=a) (b:=b) (by omega) (by omega);omega) ?_;conv=>whnf)
 | (refine s47b (by have:=abv_len V (a:=a) (b:=b) (by omega) (by omega);simp only [List.length_append,List.length_cons,List.length_nil];omega) ?_;conv=>whnf)
 | (refine ⟨by have:=abv_len V (a:=a) (b:=b) (by omega) (by omega);omega,?_⟩;conv=>whnf)
 | ((with_reducible refine endx_go ?_);first | (exact endx (congrArg (fun z=>D.fs (z.map .str)) (put_e h0 (by omega) hI.2));done))
  | fail
  )
theorem par_way {t : List Nod} (V : Vt t) {n : Int} {a : Nat} {e : Ent} (h : (a,e) ∈ posG t 0) (hn : e.node = n) : ∃ k s,Wyt t k (a : Int) s ∧ Wyt t (k + 1) n (s ++ [47] ++ e.name):=by
 obtain ⟨ha,he,_⟩:=V.pos h
 obtain ⟨k,s,hw⟩:=V.way ha
 exact ⟨k,s,hw,by have:=hw.step ha he;rwa [hn] at this⟩
theorem p46 {t : List Nod} (V : Vt t) (hf : ∀ x ∈ t,x.ents.length ≤ 1000) : ∀ d,P46 t d
 | 0=>fun k a s hk=>by omega
 | d + 1=>fun k a s hk hw hd=>by
  by_cases hkd : k < d
  ·exact p46 V hf d k a s hkd hw hd
  ·have hkd : k = d:=by omega
   subst hkd
   have hn1 : ¬ (nodAt t a).kind = 1:=by rw [hd];decide
   by_cases h0 : a = 0
   ·subst h0
    rw [(abv_0 V rfl).1]
    exact c46z t V hf
   ·have:=c46g t V hf a h0 k (p46 V hf k) fun b e hm he=>by
     obtain ⟨k', s', h1, h2⟩ := par_way V hm he
     have:=(h2.uniq V hw hn1).1
     exact ⟨k', s', by omega, h1⟩
    rwa [paths_dir V (hw.okI V) hn1] at this
theorem c46 {t : List Nod} (V : Vt t) (hf : ∀ x ∈ t,x.ents.length ≤ 1000) (n : Int) : Fn 46 [treeD t,i n] (strL (pathsR t n)):=by
 by_cases h0 : n = 0
 ·subst h0
  have : pathsR t 0 = [[47]]:=by unfold pathsR;rw [if_pos rfl]
  rw [this];exact c46z t V hf
 ·exact c46g t V hf n h0 (t.length + 1) (p46 V hf _) fun b e hm he=>by
   obtain ⟨k', s', h1, _⟩ := par_way V hm he
   have:=h1.le V
   exact ⟨k', s', by omega, h1⟩
def P48 (t : List Nod) (d : Nat) : Prop:=∀ k a s n,t.length - k < d → Wyt t k a s → (nodAt t a).kind = 0 → OkI t n → Fn 48 [treeD t,i a,i n] (.bool (belR t a n))
section
variable {t : List Nod} (V : Vt t) {a n : Int} (ha : OkI t a) (hn : OkI t n) {b : Nat} (hb : b < (nodAt t a).ents.length)
include V ha
theorem blt_s (h : n = a) : true = belR t a n:=by subst h;exact (bel_self V ha).symm
omit V in
theorem nents_ix {K : D → Prop} (k : K (nodAt t a).enc) : 0 ≤ a ∧ nthK (t.map Nod.enc) a.toNat K:=ix_nd ha.nn ha.get k
include hb
theorem blt_e (h : ((nodAt t a).ents[b]).node = n) : true = belR t a n:=by
 have he:=V.ent ha (List.getElem_mem hb)
 exact (bel_ent V ha (List.getElem_mem hb) (by rw [h] at he ⊢;exact bel_self V he)).symm
theorem blt_b (h : belR t ((nodAt t a).ents[b]).node n = true) : true = belR t a n:=(bel_ent V ha (List.getElem_mem hb) h).symm
include hn
theorem c48i {k : Nat} {s : Bs} (IH : P48 t (t.length - k)) (hw : Wyt t k a s) (hk : (nodAt t ((nodAt t a).ents[b]).node).kind = 0) : Fn 48 [treeD t,i ((nodAt t a).ents[b]).node,i n] (.bool (belR t ((nodAt t a).ents[b]).node n)):=by
 have h2:=hw.step ha (List.getElem_mem hb)
 have:=h2.le V
 exact IH (k + 1) _ _ n (by omega) h2 hk hn
end
theorem blt_n {t : List Nod} (V : Vt t) {a n : Int} (ha : OkI t a) (hn : OkI t n) {b : Nat} (hb : ¬ b < (nodAt t a).ents.length) (hne : ¬ n = a) (h : ∀ j (hj : j < (nodAt t a).ents.length),j < b → ¬ ((nodAt t a).ents[j]).node = n ∧ ((nodAt t ((nodAt t a).ents[j]).node).kind = 0 → belR t ((nodAt t a).ents[j]).node n = false)) : false = belR t a n:=by
 refine (bel_no V ha hn hne fun e he=>?_).symm
 obtain ⟨j,hj,rfl⟩:=List.getElem_of_mem he
 exact h j hj (by omega)
theorem blt_x {t : List Nod} {a n : Int} {b : Nat} (hb : b < (nodAt t a).ents.length) (h : ∀ j (hj : j < (nodAt t a).ents.length),j < b → ¬ ((nodAt t a).ents[j]).node = n ∧ ((nodAt t ((nodAt t a).ents[j]).node).kind = 0 → belR t ((nodAt t a).ents[j]).node n = false)) (h1 : ¬ ((nodAt t a).ents[b]).node = n) (h2 : (nodAt t ((nodAt t a).ents[b]).node).kind = 0 → belR t ((nodAt t a).ents[b]).node n = false) : ∀ j (hj : j < (nodAt t a).ents.length),j < b + 1 → ¬ ((nodAt t a).ents[j]).node = n ∧ ((nodAt t ((nodAt t a).ents[j]).node).kind = 0 → belR t ((nodAt t a).ents[j]).node n = false):=by
 intro j hj hjb
 by_cases e : j = b
 ·subst e;exact ⟨h1,h2⟩
 ·exact h j hj (by omega)
attribute [local irreducible] belR OkI
theorem c48 (t : List Nod) (V : Vt t) (k : Nat) (a : Int) (s : Bs) (n : Int) (IH : P48 t (t.length - k)) (hw : Wyt t k a s) (ha : OkI t a) (hn : OkI t n) : Fn 48 [treeD t,i a,i n] (.bool (belR t a n)):=by
 have hbe:=V.b.el _ ha.mem
 refine run_walkF eok Tryz.func48 rfl (by kernel_rfl) ?_
 conv=>whnf
 repeat' (first
 | ((with_reducible refine on_dec (fun h=>?_) (fun h=>?_))<;>(try simp only [List.length_map] at h)<;>conv=>whnf)
 | ((with_reducible refine onBool_split (fun h=>?_) (fun h=>?_))<;>conv=>whnf)
 | ((with_reducible refine call_go ?_);(first | refine call_step (run_data (xs:=[_,_,_]) (c48i V ha hn (b:=b) (by omega) IH hw (by assumption)) _) ?_);conv=>whnf)
 | ((with_reducible refine loop_go ?_);first | (refine loop1 (fun (b : Nat)=>(nodAt t a).ents.length - b) (fun (b : Nat)=>b ≤ (nodAt t a).ents.length ∧ ∀ j (hj : j < (nodAt t a).ents.length),j < b → ¬ ((nodAt t a).ents[j]).node = n ∧ ((nodAt t ((nodAt t a).ents[j]).node).kind = 0 → belR t ((nodAt t a).ents[j]).node n = false)) (fun (b : Nat)=>[(0,.d (treeD t)),(1,.d (i a)),(2,.d (i n)),(7,.d (i b))]) (fun (b : Nat)=>[]) (0) (by exact ⟨Nat.zero_le _,fun j hj h=>absurd h (by omega)⟩) ?_ (fun b C hI hC=>?_);(exact ⟨[],rfl,rfl,⟨(by first | (show (_ : D) = _;with_reducible rfl) ),(by first | (show (_ : D) = _;with_reducible rfl) ),(by first | (show (_ : D) = _;with_reducible rfl) ),(by first | exact congrArg (D.int .i64) (by omega) ),trivial⟩,trivial⟩);all_goals (conv=>whnf)))
 | ((with_reducible show C _ _);first | (refine hC (b + 1) _ _ ?_ (by omega) ?_;clear hC;rotate_left;(exact ⟨[],rfl,rfl,⟨(by first | (show (_ : D) = _;with_reducible rfl) ),(by first | (show (_ : D) = _;with_reducible rfl) ),(by first | (show (_ : D) = _;with_reducible rfl) ),(by first | exact congrArg (D.int .i64) (by omega) ),trivial⟩,trivial⟩);(exact ⟨by omega,blt_x (by omega) hI.2 (by assumption) (fun _=>by assumption)⟩)) | (refine hC (b + 1) _ _ ?_ (by omega) ?_;clear hC;rotate_left;(exact ⟨[],rfl,rfl,⟨(by first | (show (_ : D) = _;with_reducible rfl) ),(by first | (show (_ : D) = _;with_reducible rfl) ),(by first | (show (_ : D) = _;with_reducible rfl) ),(by first | exact congrArg (D.int .i64) (by omega) ),trivial⟩,trivial⟩);(exact ⟨by omega,blt_x (by omega) hI.2 (by assumption) (fun hc=>absurd hc (by assumption))⟩)))
 | (refine ix_map (by omega) ?_;conv=>whnf)
 | (refine wrap64 (by omega) ?_;conv=>whnf)
 | (refine nents_ix ha ?_;conv=>whnf)
 | (refine nents_ix (V.ent ha (List.getElem_mem (by omega : b < (nodAt t a).ents.length))) ?_;conv=>whnf)
 | ((with_reducible refine endx_go ?_);first | (exact endx (congrArg D.bool (blt_s V ha (by assumption)));done) | (exact endx (congrArg D.bool (blt_e V ha (b:=b) (by omega) (by assumption)));done) | (exact endx (congrArg D.bool (blt_b V ha (b:=b) (by omega) (by assumption)));done) | (exact endx (congrArg D.bool (blt_n V ha hn (by omega) (by assumption) hI.2));done))
  | fail
  )
theorem p48 {t : List Nod} (V : Vt t) : ∀ d,P48 t d
 | 0=>fun k a s n h=>by omega
 | d + 1=>fun k a s n h hw hk hn=>by
  by_cases hd : t.length - k < d
  ·exact p48 V d k a s n hd hw hk hn
  ·have hd : t.length - k = d:=by omega
   exact c48 t V k a s n (by rw [hd];exact p48 V d) hw (hw.okI V) hn
theorem c48d {t : List Nod} (V : Vt t) {a n : Int} (ha : OkI t a) (hn : OkI t n) (hk : (nodAt t a).kind = 0) : Fn 48 [treeD t,i a,i n] (.bool (belR t a n)):=by
 obtain ⟨k,s,hw⟩:=V.way ha
 exact p48 V _ k a s n (Nat.lt_succ_self _) hw hk hn
end Go.Proofs.YtpfokhdelnlciaaGreatDoor
namespace Go.Proofs.YtpfokhdelnlciaaGreatDoor
open Go Dw
set_option maxRecDepth 10000
attribute [local irreducible] Run
set_option maxHeartbeats 1000000
open Paths
attribute [local irreducible] nameErr cut normal dots partErr text parse glue fold within
theorem posG_all {t : List Nod} (V : Vt t) (hf : ∀ x ∈ t,x.ents.length ≤ 1000) : (posG t 0).length ≤ 40000:=by
 have:=posG_len t 0 hf
 have:=V.len.2
 omega
theorem c81v {t : List Nod} (V : Vt t) (hf : ∀ x ∈ t,x.ents.length ≤ 1000) (n : Int) : Fn 81 [treeD t,i n] (strL (pathsR t n)):=by
 obtain ⟨N,ys,hy⟩:=V.ways
 have hl : ys.length < 100000:=by
  have h1:=(ways_perm V hy).length_eq
  have h2:=posG_all V hf
  rw [List.length_map] at h1
  omega
 have:=c81 t n N ys hy hl fun w hw=>by
  obtain ⟨k,h⟩:=bfs_wyt V _ _ _ hy (fun v hv=>by rw [List.mem_singleton] at hv;subst hv;exact ⟨0,.root⟩) w hw
  have h1:=h.name V
  have h2:=h.le V
  have h3:=V.len.2
  omega
 rwa [sort_paths V hy n] at this
theorem okI_w {t : List Nod} {n : Int} : within n 0 ((t.length : Int) - 1) = true ↔ OkI t n:=by
 unfold within OkI
 simp only [Bool.and_eq_true,decide_eq_true_eq]
 omega
noncomputable def brk (t : List Nod) (a : Nat) : Bool:=(decide ((nodAt t (a : Int)).kind = 2) || decide ((nodAt t (a : Int)).kind = 3)) && (!decide ((resP t (pw t (a : Int)) true).e = 0) || decide ((resP t (pw t (a : Int)) true).x.node = -1))
noncomputable def brU (t : List Nod) (k : Nat) : List Int:=((List.range k).filter fun a=>brk t a).map fun (a : Nat)=>((a : Nat) : Int)
theorem br_add (t : List Nod) (k : Nat) : brU t (k + 1) = if brk t k = true then brU t k ++ [(k : Int)] else brU t k:=by
 unfold brU
 rw [List.range_succ,List.filter_append,List.map_append]
 split
 ·rename_i h;rw [List.filter_cons_of_pos h];rfl
 ·rename_i h;rw [List.filter_cons_of_neg h];simp
theorem br_z (t : List Nod) : brU t 0 = []:=by unfold brU;rfl
theorem br_len (t : List Nod) (k : Nat) : (brU t k).length ≤ k:=by
 unfold brU
 rw [List.length_map]
 have:=List.length_filter_le (fun a=>brk t a) (List.range k)
 rwa [List.length_range] at this
section
variable {t : List Nod} {k : Nat}
theorem br_k (h2 : ¬ (nodAt t (k : Int)).kind = 2) (h3 : ¬ (nodAt t (k : Int)).kind = 3) : brU t (k + 1) = brU t k:=by
 rw [br_add,if_neg];unfold brk;rw [decide_eq_false h2,decide_eq_false h3];simp
theorem br_o (h : (resP t (pw t (k : Int)) true).e = 0) (h2 : ¬ (resP t (pw t (k : Int)) true).x.node = -1) : brU t (k + 1) = brU t k:=by
 rw [br_add,if_neg];unfold brk;rw [decide_eq_true h,decide_eq_false h2];simp
theorem br_e (hk : (nodAt t (k : Int)).kind = 2 ∨ (nodAt t (k : Int)).kind = 3) (h : ¬ (resP t (pw t (k : Int)) true).e = 0) : brU t (k + 1) = brU t k ++ [(k : Int)]:=by
 rw [br_add,if_pos];unfold brk;rw [decide_eq_false h]
 rcases hk with hk | hk<;>rw [decide_eq_true hk]<;>simp
theorem br_n (hk : (nodAt t (k : Int)).kind = 2 ∨ (nodAt t (k : Int)).kind = 3) (h : (resP t (pw t (k : Int)) true).e = 0) (h2 : (resP t (pw t (k : Int)) true).x.node = -1) : brU t (k + 1) = brU t k ++ [(k : Int)]:=by
 rw [br_add,if_pos];unfold brk;rw [decide_eq_true h,decide_eq_true h2]
 rcases hk with hk | hk<;>rw [decide_eq_true hk]<;>simp
end
theorem br_0 {t : List Nod} (V : Vt t) : brU t 1 = []:=by
 have h0 : (nodAt t 0).kind = 0:=by
  have:=V.nod (n:=0) ⟨by omega,V.len.1⟩
  unfold nodE at this
  split at this
  ·cases this
  split at this
  ·cases this
  ·rename_i h2
   apply Classical.byContradiction
   intro hc
   exact h2 ⟨rfl,hc⟩
 rw [br_k (k:=0) (by show ¬ (nodAt t 0).kind = 2;rw [h0];decide) (by show ¬ (nodAt t 0).kind = 3;rw [h0];decide)]
 unfold brU;rfl
section
variable {t : List Nod} (V : Vt t) (hf : ∀ x ∈ t,x.ents.length ≤ 1000) {k : Nat} (hk : k < t.length) (hd : (nodAt t (k : Int)).kind = 2 ∨ (nodAt t (k : Int)).kind = 3)
include V hf hk hd
omit hf in
theorem br_path : pathsR t (k : Int) = [pw t (k : Int)]:=by
 have hi : OkI t (k : Int):=⟨by omega,by simpa using hk⟩
 refine paths_one V hi (fun h0=>?_) (by omega)
 have hr : (nodAt t 0).kind = 0:=by
  have:=V.nod (n:=0) ⟨by omega,V.len.1⟩
  unfold nodE at this
  split at this
  ·cases this
  split at this
  ·cases this
  ·rename_i h2
   apply Classical.byContradiction
   intro hc
   exact h2 ⟨rfl,hc⟩
 rw [h0,hr] at hd
 omega
theorem c81b : Fn 81 [treeD t,i k] (strL [pw t (k : Int)]):=by have:=c81v V hf (k : Int);rwa [br_path V hk hd] at this
theorem c46b : Fn 46 [treeD t,i k] (strL [pw t (k : Int)]):=by have:=c46 V hf (k : Int);rwa [br_path V hk hd] at this
end
theorem nod_at2 {t : List Nod} {k : Nat} (h : k < t.length) {K : D → Prop} (hk : K (nodAt t (k : Int)).enc) : 0 ≤ ((k : Nat) : Int) ∧ nthK (t.map Nod.enc) ((k : Nat) : Int).toNat K:=by
 have hi : OkI t (k : Int):=⟨by omega,by simpa using h⟩
 exact ix_nd hi.nn hi.get hk
theorem c15v {t : List Nod} (V : Vt t) (s : Bs) : Fn 15 [treeD t,.str s,.bool true] (.tup [(resP t s true).enc,i (resP t s true).e]):=by
 have:=c15 t V.b s true
 rwa [rr_b V.ok] at this
theorem int_app {μ : List Mu} {l m : List Int} {x : Int} (h : m = l ++ [x]) : wks μ ((rowI l) ++ [.d (i x)]) (rowI m):=by subst h;exact wks_add (f:=i) (wksd _ _) rfl
theorem nodErr2 {t : List Nod} (B : Tb t) {d n : Int} {a b : Bool} (h1 : within d 0 ((t.length : Int) - 1) = a) (h2 : within n 0 ((t.length : Int) - 1) = b) : Fn 57 [treeD t,.fs [i d,i n]] (i (if a = true then (if b = true then 0 else 6) else 6)):=by
 have:=c57 t B [d,n] (by simp)
 have e : (if (![d,n].any (noN t)) = true then (0 : Int) else 6) = (if a = true then (if b = true then 0 else 6) else 6):=by
  unfold noN
  simp only [List.any_cons,List.any_nil,h1,h2]
  cases a<;>cases b<;>rfl
 rwa [e] at this
attribute [local irreducible] checkT pathsR brU brk pw resP nodAt belR
theorem c40a (t : List Nod) (B : Tb t) (n : Int) (hc : ¬ (checkT t).2 = 0) : Fn 40 [treeD t,i n] (.tup [.fs [],i (checkT t).2]):=by
 refine run_walkF eok Tryz.func40 rfl (by kernel_rfl) ?_
 conv=>whnf
 repeat' (first
 | ((with_reducible refine on_ndec_f (by assumption) ?_);conv=>whnf)
 | ((with_reducible refine call_go ?_);(first | refine call_step (run_data (xs:=[_]) (c50 t B) _) ?_ | refine call_step (run_view (c57x B n) rfl (vlc rfl (vlc rfl vln))) ?_ | refine call_step (run_view (c52e (a:=(checkT t).2) (b:=nsE t n) hc) rfl (vlc rfl vln)) ?_ );conv=>whnf)
 | ((with_reducible refine endx_go ?_);first | (exact endxv (view_tup (vlc rfl (vlc rfl vln))) rfl;done) )
  | fail
  )
theorem c40b (t : List Nod) (B : Tb t) (n : Int) (hc : (checkT t).2 = 0) (hw : within n 0 ((t.length : Int) - 1) = false) : Fn 40 [treeD t,i n] (.tup [.fs [],i 6]):=by
 refine run_walkF eok Tryz.func40 rfl (by kernel_rfl) ?_
 conv=>whnf
 repeat' (first
 | ((with_reducible refine call_go ?_);(first | refine call_step (run_data (xs:=[_]) (c50e B hc) _) ?_ | refine call_step (run_view (c57f B hw) rfl (vlc rfl (vlc rfl vln))) ?_ | refine call_step (run_view (c52z (b:=6)) rfl (vlc rfl vln)) ?_ );conv=>whnf)
 | ((with_reducible refine endx_go ?_);first | (exact endxv (view_tup (vlc rfl (vlc rfl vln))) rfl;done) )
  | fail
  )
theorem c40c (t : List Nod) (B : Tb t) (n : Int) (hf : ∀ x ∈ t,x.ents.length ≤ 1000) (hc : (checkT t).2 = 0) (hw : within n 0 ((t.length : Int) - 1) = true) : Fn 40 [treeD t,i n] (.tup [strL (pathsR t n),i 0]):=by
 refine run_walkF eok Tryz.func40 rfl (by kernel_rfl) ?_
 conv=>whnf
 repeat' (first
 | ((with_reducible refine call_go ?_);(first | refine call_step (run_data (xs:=[_]) (c50e B hc) _) ?_ | refine call_step (run_view (c57t B hw) rfl (vlc rfl (vlc rfl vln))) ?_ | refine call_step (run_view (c52z (b:=0)) rfl (vlc rfl vln)) ?_ | refine call_step (run_data (xs:=[_,_]) (c81v ⟨B,hc⟩ hf n) _) ?_);conv=>whnf)
 | ((with_reducible refine endx_go ?_);first | (exact endxv (view_tup (vlc rfl (vlc rfl vln))) rfl;done) )
  | fail
  )
theorem c20a (t : List Nod) (B : Tb t) (d n : Int) (hc : ¬ (checkT t).2 = 0) : Fn 20 [treeD t,i d,i n] (.tup [.bool false,i (checkT t).2]):=by
 refine run_walkF eok Tryz.func20 rfl (by kernel_rfl) ?_
 conv=>whnf
 repeat' (first
 | ((with_reducible refine on_ndec_f (by assumption) ?_);conv=>whnf)
 | ((with_reducible refine call_go ?_);(first | refine call_step (run_data (xs:=[_]) (c50 t B) _) ?_ | refine call_step (run_view (nodErr2 B (d:=d) (n:=n) rfl rfl) rfl (vlc rfl (vlc rfl vln))) ?_ | refine call_step (run_view (c52e (a:=(checkT t).2) (b:=_) hc) rfl (vlc rfl vln)) ?_ );conv=>whnf)
 | ((with_reducible refine endx_go ?_);first | (exact endxv (view_tup (vlc rfl (vlc rfl vln))) rfl;done) )
  | fail
  )
theorem c20b (t : List Nod) (B : Tb t) (d n : Int) (hc : (checkT t).2 = 0) (hd : within d 0 ((t.length : Int) - 1) = false) (b : Bool) (hn : within n 0 ((t.length : Int) - 1) = b) : Fn 20 [treeD t,i d,i n] (.tup [.bool false,i 6]):=by
 refine run_walkF eok Tryz.func20 rfl (by kernel_rfl) ?_
 conv=>whnf
 repeat' (first
 | ((with_reducible refine call_go ?_);(first | refine call_step (run_data (xs:=[_]) (c50e B hc) _) ?_ | refine call_step (run_view (nodErr2 B hd hn) rfl (vlc rfl (vlc rfl vln))) ?_ | refine call_step (run_view (c52z (b:=6)) rfl (vlc rfl vln)) ?_ );conv=>whnf)
 | ((with_reducible refine endx_go ?_);first | (exact endxv (view_tup (vlc rfl (vlc rfl vln))) rfl;done) )
  | fail
  )
theorem c20c (t : List Nod) (B : Tb t) (d n : Int) (hc : (checkT t).2 = 0) (hd : within d 0 ((t.length : Int) - 1) = true) (hn : within n 0 ((t.length : Int) - 1) = false) : Fn 20 [treeD t,i d,i n] (.tup [.bool false,i 6]):=by
 refine run_walkF eok Tryz.func20 rfl (by kernel_rfl) ?_
 conv=>whnf
 repeat' (first
 | ((with_reducible refine call_go ?_);(first | refine call_step (run_data (xs:=[_]) (c50e B hc) _) ?_ | refine call_step (run_view (nodErr2 B hd hn) rfl (vlc rfl (vlc rfl vln))) ?_ | refine call_step (run_view (c52z (b:=6)) rfl (vlc rfl vln)) ?_ );conv=>whnf)
 | ((with_reducible refine endx_go ?_);first | (exact endxv (view_tup (vlc rfl (vlc rfl vln))) rfl;done) )
  | fail
  )
theorem c20d (t : List Nod) (B : Tb t) (d n : Int) (hc : (checkT t).2 = 0) (hd : within d 0 ((t.length : Int) - 1) = true) (hn : within n 0 ((t.length : Int) - 1) = true) (hk : ¬ (nodAt t d).kind = 0) : Fn 20 [treeD t,i d,i n] (.tup [.bool false,i 35]):=by
 refine run_walkF eok Tryz.func20 rfl (by kernel_rfl) ?_
 conv=>whnf
 repeat' (first
 | ((with_reducible refine on_ndec_f (by assumption) ?_);conv=>whnf)
 | ((with_reducible refine call_go ?_);(first | refine call_step (run_data (xs:=[_]) (c50e B hc) _) ?_ | refine call_step (run_view (nodErr2 B hd hn) rfl (vlc rfl (vlc rfl vln))) ?_ | refine call_step (run_view (c52z (b:=0)) rfl (vlc rfl vln)) ?_ );conv=>whnf)
 | (refine ix_nd (okI_w.1 hd).nn (okI_w.1 hd).get ?_;conv=>whnf)
 | ((with_reducible refine endx_go ?_);first | (exact endxv (view_tup (vlc rfl (vlc rfl vln))) rfl;done) )
  | fail
  )
theorem bel_ix {t : List Nod} {d n : Int} (hd : OkI t d) (hn : OkI t n) {K : D → Prop} (k : K (.bool (belR t d n))) : 0 ≤ n ∧ nthK ((rchF t d.toNat).map D.bool) n.toNat K:=by
 refine ⟨hn.nn,nthK_of (x:=.bool (belR t d n)) ?_ k⟩
 have hl : n.toNat < (rchF t d.toNat).length:=by rw [rch_len];exact hn.2
 unfold belR
 rw [List.getElem?_map,List.getElem?_eq_getElem hl];rfl
theorem c58v {t : List Nod} (B : Tb t) (hc : (checkT t).2 = 0) {d : Int} (hd : OkI t d) : Fn 58 [treeD t,i d] (.fs ((rchF t d.toNat).map D.bool)):=by
 have V : Vt t:=⟨B,hc⟩
 have:=c58 t d.toNat V.good hd.2 (by have:=V.len.2;omega) B.el
 rwa [Int.toNat_of_nonneg hd.1] at this
theorem c20e (t : List Nod) (B : Tb t) (d n : Int) (hc : (checkT t).2 = 0) (hd : within d 0 ((t.length : Int) - 1) = true) (hn : within n 0 ((t.length : Int) - 1) = true) (hk : (nodAt t d).kind = 0) : Fn 20 [treeD t,i d,i n] (.tup [.bool (belR t d n),i 0]):=by
 refine run_walkF eok Tryz.func20 rfl (by kernel_rfl) ?_
 conv=>whnf
 repeat' (first
 | ((with_reducible refine on_ndec_t (by first | assumption ) ?_);conv=>whnf)
 | ((with_reducible refine call_go ?_);(first | refine call_step (run_data (xs:=[_]) (c50e B hc) _) ?_ | refine call_step (run_view (nodErr2 B hd hn) rfl (vlc rfl (vlc rfl vln))) ?_ | refine call_step (run_view (c52z (b:=0)) rfl (vlc rfl vln)) ?_ | refine call_step (run_data (xs:=[_,_]) (c58v B hc (okI_w.1 hd)) _) ?_);conv=>whnf)
 | (refine ix_nd (okI_w.1 hd).nn (okI_w.1 hd).get ?_;conv=>whnf)
 | (refine bel_ix (okI_w.1 hd) (okI_w.1 hn) ?_;conv=>whnf)
 | ((with_reducible refine endx_go ?_);first | (exact endxv (view_tup (vlc rfl (vlc rfl vln))) rfl;done) )
  | fail
  )
theorem c41 (t : List Nod) (V : Vt t) (hf : ∀ x ∈ t,x.ents.length ≤ 1000) : Fn 41 [treeD t] (.tup [.fs ((brU t t.length).map i),i 0]):=by
 have htl:=V.len.2
 refine run_walkF eok Tryz.func41 rfl (by kernel_rfl) ?_
 conv=>whnf
 repeat' (first
 | ((with_reducible refine on_dec_f ?_ ?_);(focus ((try simp only [List.length_map,List.length_cons,List.length_nil,List.length_append]);omega));conv=>whnf)
 | ((with_reducible refine on_dec (fun h=>?_) (fun h=>?_))<;>(try simp only [List.length_map] at h)<;>conv=>whnf)
 | ((with_reducible refine on_ndec (fun h=>?_) (fun h=>?_))<;>(try simp only [List.length_map] at h)<;>conv=>whnf)
 | ((with_reducible refine call_go ?_);(first | refine call_step (run_data (xs:=[_]) (c50e V.b V.ok) _) ?_ | refine call_step (run_data (xs:=[_,_]) (c81b V hf (k:=k) (by omega) (by first | exact .inl (by assumption) | exact .inr (by assumption))) _) ?_ | refine call_step (run_data (xs:=[_,_,_]) (c51 t V (pw t (k : Int)) true) _) ?_);conv=>whnf)
 | ((with_reducible refine loop_go ?_);first | (refine loop1 (fun (k : Nat)=>t.length - k) (fun (k : Nat)=>k ≤ t.length) (fun (k : Nat)=>[(0,.d (treeD t)),(5,.sl 0 0 (brU t k).length 1 none),(15,.d (treeD t)),(16,.d (i t.length)),(17,.d (i k))]) (fun (k : Nat)=>[⟨rowI (brU t k),1,0⟩]) (0) (by exact Nat.zero_le _) ?_ (fun k C hI hC=>?_);(exact ⟨[.void 1],rfl,rfl,⟨(by first | (show (_ : D) = _;with_reducible rfl) ),(by rw [br_z];exact ⟨rfl,rfl,rfl,rfl⟩),(by first | (show (_ : D) = _;with_reducible rfl) ),(congrArg (D.int .i64) (by simp only [List.length_map])),(by first | exact congrArg (D.int .i64) (by omega) ),trivial⟩,⟨(by rw [br_z];exact ⟨rfl,rfl,Nat.zero_lt_succ _,rfl⟩),trivial⟩⟩);have hbl:=br_len t k;all_goals (conv=>whnf)))
 | ((with_reducible show C _ _);first | (refine hC (k + 1) _ _ ?_ (by omega) ?_;clear hC;rotate_left;(exact ⟨[.old 0],rfl,rfl,⟨(by first | (show (_ : D) = _;with_reducible rfl) ),⟨rfl,rfl,(by rw [br_k (by assumption) (by assumption)]),rfl,rfl⟩,(by first | (show (_ : D) = _;with_reducible rfl) ),(by first | (show (_ : D) = _;with_reducible rfl) ),(by first | exact congrArg (D.int .i64) (by omega) ),trivial⟩,⟨⟨rfl,rfl,.inr (by rw [br_k (by assumption) (by assumption)];exact wksd _ _)⟩,trivial⟩⟩);(exact by omega)) | (refine hC (k + 1) _ _ ?_ (by omega) ?_;clear hC;rotate_left;(exact ⟨[.old 0],rfl,rfl,⟨(by first | (show (_ : D) = _;with_reducible rfl) ),⟨rfl,rfl,(by rw [br_o (by assumption) (by assumption)]),rfl,rfl⟩,(by first | (show (_ : D) = _;with_reducible rfl) ),(by first | (show (_ : D) = _;with_reducible rfl) ),(by first | exact congrArg (D.int .i64) (by omega) ),trivial⟩,⟨⟨rfl,rfl,.inr (by rw [br_o (by assumption) (by assumption)];exact wksd _ _)⟩,trivial⟩⟩);(exact by omega)) | (refine hC (k + 1) _ _ ?_ (by omega) ?_;clear hC;rotate_left;(exact ⟨[.old 4],rfl,rfl,⟨(by first | (show (_ : D) = _;with_reducible rfl) ),⟨rfl,rfl,(by rw [br_e (by first | exact .inl (by assumption) | exact .inr (by assumption)) (by assumption)];simp),rfl,rfl⟩,(by first | (show (_ : D) = _;with_reducible rfl) ),(by first | (show (_ : D) = _;with_reducible rfl) ),(by first | exact congrArg (D.int .i64) (by omega) ),trivial⟩,⟨⟨rfl,rfl,.inr (int_app (br_e (by first | exact .inl (by assumption) | exact .inr (by assumption)) (by assumption)))⟩,trivial⟩⟩);(exact by omega)) | (refine hC (k + 1) _ _ ?_ (by omega) ?_;clear hC;rotate_left;(exact ⟨[.old 4],rfl,rfl,⟨(by first | (show (_ : D) = _;with_reducible rfl) ),⟨rfl,rfl,(by rw [br_n (by first | exact .inl (by assumption) | exact .inr (by assumption)) (by assumption) (by assumption)];simp),rfl,rfl⟩,(by first | (show (_ : D) = _;with_reducible rfl) ),(by first | (show (_ : D) = _;with_reducible rfl) ),(by first | exact congrArg (D.int .i64) (by omega) ),trivial⟩,⟨⟨rfl,rfl,.inr (int_app (br_n (by first | exact .inl (by assumption) | exact .inr (by assumption)) (by assumption) (by assumption)))⟩,trivial⟩⟩);(exact by omega)))
 | (refine nod_at2 (by omega) ?_;conv=>whnf)
 | (refine ⟨⟨(by first | (simp;done)),cap_ok (by simp only [List.length_map,List.length_cons,List.length_nil,List.length_append];omega) rfl⟩,?_⟩;conv=>whnf)
 | (refine wrap64 (by omega) ?_;conv=>whnf)
 | (refine ix_hd ?_;conv=>whnf)
 | (refine ⟨Nat.le_refl _,?_⟩;conv=>whnf)
 | ((with_reducible refine endx_go ?_);first | (have hk : k = t.length:=(by omega);subst hk;exact endxv (view_tup (vlc (view_mapL (f:=i) (l:=brU t t.length) rfl rfl (by decide)) (vlc rfl vln))) rfl;done))
  | fail
  )
theorem c41a (t : List Nod) (B : Tb t) (hc : ¬ (checkT t).2 = 0) : Fn 41 [treeD t] (.tup [.fs [],i (checkT t).2]):=by
 refine run_walkF eok Tryz.func41 rfl (by kernel_rfl) ?_
 conv=>whnf
 repeat' (first
 | ((with_reducible refine on_ndec_f (by assumption) ?_);conv=>whnf)
 | ((with_reducible refine call_go ?_);(first | refine call_step (run_data (xs:=[_]) (c50 t B) _) ?_ );conv=>whnf)
 | ((with_reducible refine endx_go ?_);first | (exact endxv (view_tup (vlc rfl (vlc rfl vln))) rfl;done) )
  | fail
  )
theorem c43 (t : List Nod) (V : Vt t) (hf : ∀ x ∈ t,x.ents.length ≤ 1000) : Fn 43 [treeD t] (.fs ((brU t t.length).map i)):=by
 have htl:=V.len.2
 refine run_walkF eok Tryz.func43 rfl (by kernel_rfl) ?_
 conv=>whnf
 repeat' (first
 | ((with_reducible refine on_dec_f ?_ ?_);(focus ((try simp only [List.length_map,List.length_cons,List.length_nil,List.length_append]);omega));conv=>whnf)
 | ((with_reducible refine on_dec (fun h=>?_) (fun h=>?_))<;>(try simp only [List.length_map] at h)<;>conv=>whnf)
 | ((with_reducible refine on_ndec (fun h=>?_) (fun h=>?_))<;>(try simp only [List.length_map] at h)<;>conv=>whnf)
 | ((with_reducible refine call_go ?_);(first | refine call_step (run_data (xs:=[_,_]) (c46b V hf (k:=k) (by omega) (by first | exact .inl (by assumption) | exact .inr (by assumption))) _) ?_ | refine call_step (run_data (xs:=[_,_,_]) (c15v V (pw t (k : Int))) _) ?_);conv=>whnf)
 | ((with_reducible refine loop_go ?_);first | (refine loop1 (fun (k : Nat)=>t.length - k) (fun (k : Nat)=>k ≤ t.length) (fun (k : Nat)=>[(0,.d (treeD t)),(3,.sl 0 0 (brU t k).length 1 none),(4,.d (i k))]) (fun (k : Nat)=>[⟨rowI (brU t k),1,0⟩]) (1) (by exact V.len.1) ?_ (fun k C hI hC=>?_);(exact ⟨[.void 1],rfl,rfl,⟨(by first | (show (_ : D) = _;with_reducible rfl) ),(by rw [br_0 V];exact ⟨rfl,rfl,rfl,rfl⟩),(by first | exact congrArg (D.int .i64) (by omega) ),trivial⟩,⟨(by rw [br_0 V];exact ⟨rfl,rfl,Nat.zero_lt_succ _,rfl⟩),trivial⟩⟩);have hbl:=br_len t k;all_goals (conv=>whnf)))
 | ((with_reducible show C _ _);first | (refine hC (k + 1) _ _ ?_ (by omega) ?_;clear hC;rotate_left;(exact ⟨[.old 0],rfl,rfl,⟨(by first | (show (_ : D) = _;with_reducible rfl) ),⟨rfl,rfl,(by rw [br_k (by assumption) (by assumption)]),rfl,rfl⟩,(by first | exact congrArg (D.int .i64) (by omega) ),trivial⟩,⟨⟨rfl,rfl,.inr (by rw [br_k (by assumption) (by assumption)];exact wksd _ _)⟩,trivial⟩⟩);(exact by omega)) | (refine hC (k + 1) _ _ ?_ (by omega) ?_;clear hC;rotate_left;(exact ⟨[.old 0],rfl,rfl,⟨(by first | (show (_ : D) = _;with_reducible rfl) ),⟨rfl,rfl,(by rw [br_o (by assumption) (by assumption)]),rfl,rfl⟩,(by first | exact congrArg (D.int .i64) (by omega) ),trivial⟩,⟨⟨rfl,rfl,.inr (by rw [br_o (by assumption) (by assumption)];exact wksd _ _)⟩,trivial⟩⟩);(exact by omega)) | (refine hC (k + 1) _ _ ?_ (by omega) ?_;clear hC;rotate_left;(exact ⟨[.old 3],rfl,rfl,⟨(by first | (show (_ : D) = _;with_reducible rfl) ),⟨rfl,rfl,(by rw [br_e (by first | exact .inl (by assumption) | exact .inr (by assumption)) (by assumption)];simp),rfl,rfl⟩,(by first | exact congrArg (D.int .i64) (by omega) ),trivial⟩,⟨⟨rfl,rfl,.inr (int_app (br_e (by first | exact .inl (by assumption) | exact .inr (by assumption)) (by assumption)))⟩,trivial⟩⟩);(exact by omega)) | (refine hC (k + 1) _ _ ?_ (by omega) ?_;clear hC;rotate_left;(exact ⟨[.old 3],rfl,rfl,⟨(by first | (show (_ : D) = _;with_reducible rfl) ),⟨rfl,rfl,(by rw [br_n (by first | exact .inl (by assumption) | exact .inr (by assumption)) (by assumption) (by assumption)];simp),rfl,rfl⟩,(by first | exact congrArg (D.int .i64) (by omega) ),trivial⟩,⟨⟨rfl,rfl,.inr (int_app (br_n (by first | exact .inl (by assumption) | exact .inr (by assumption)) (by assumption) (by assumption)))⟩,trivial⟩⟩);(exact by omega)))
 | (refine nod_at2 (by omega) ?_;conv=>whnf)
 | (refine ⟨⟨(by first | (simp;done)),cap_ok (by simp only [List.length_map,List.length_cons,List.length_nil,List.length_append];omega) rfl⟩,?_⟩;conv=>whnf)
 | (refine wrap64 (by omega) ?_;conv=>whnf)
 | (refine ix_hd ?_;conv=>whnf)
 | (refine ⟨Nat.le_refl _,?_⟩;conv=>whnf)
 | ((with_reducible refine endx_go ?_);first | (have hk : k = t.length:=(by omega);subst hk;exact endxv (view_mapL (f:=i) (l:=brU t t.length) rfl rfl (by decide)) rfl;done))
  | fail
  )
end Go.Proofs.YtpfokhdelnlciaaGreatDoor
namespace Go.Proofs.YtpfokhdelnlciaaGreatDoor
open Go Dw
set_option maxRecDepth 10000
attribute [local irreducible] Run
set_option maxHeartbeats 1000000
open Paths
theorem bit_c {op : BinOp} {k : IntKind} {a b : Int} {K : Int → Prop} (v : Int) (e : bitsOf op k a b = v) (h : K v) : bitK op k a b K:=by rw [bitK_eq,e];exact h
theorem wrap_v {k : IntKind} {x : Int} {K : Int → Prop} (v : Int) (e : k.wrap x = v) (h : K v) : wrapK k x K:=by rw [wrapK_eq,e];exact h
theorem shr_v {k : IntKind} {a b : Int} {K : Int → Prop} (v : Int) (hb : 0 ≤ b) (e : a.fdiv (2 ^ (min b.toNat k.bits)) = v) (h : K v) : shrK k a b K:=by rw [shrK_eq,e];exact onOk_of (decide_eq_true hb) h
abbrev u6 (n : Int) : D:=.int .u64 n
theorem c132k : Fn 132 [u6 1,u6 1] (.tup [u6 0,u6 1]):=by
 refine run_walkF eok Tryz.func132 rfl (by kernel_rfl) ?_
 conv=>whnf
 repeat' (first
 | (refine shr_v 0 (by decide) (by decide +kernel) ?_;conv=>whnf)
 | (refine bit_c 1 (by decide +kernel) ?_;conv=>whnf)
 | (refine wrap_v 1 (by decide +kernel) ?_;conv=>whnf)
 | (refine bit_c 0 (by decide +kernel) ?_;conv=>whnf)
 | (refine wrap_v 0 (by decide +kernel) ?_;conv=>whnf)
 | ((with_reducible refine endx_go ?_);first | (exact endx2 rfl;done))
  | fail
  )
theorem c106k : Fn 106 [u6 1,u6 1] (.tup [u6 0,u6 1]):=by
 refine run_walkF eok Tryz.func106 rfl (by kernel_rfl) ?_
 conv=>whnf
 repeat' (first
 | ((with_reducible refine call_go ?_);(first | refine call_step (run_data (xs:=[_,_]) c132k _) ?_);conv=>whnf)
 | ((with_reducible refine endx_go ?_);first | (exact endx2 rfl;done))
  | fail
  )
theorem c72w : Run Tryz.prog 72 [.d (.fs [.str up]),.d (i 1)] [] (.sl 0 0 1 1 (some 1)) [⟨[.d (.str up)],1,0⟩]:=by
 refine run_walkF eok Tryz.func72 rfl (by kernel_rfl) ?_
 conv=>whnf
 repeat' (first
 | ((with_reducible refine call_go ?_);(first | refine call_step (run_data (xs:=[_,_]) c106k _) ?_);conv=>whnf)
 | ((with_reducible refine loop_go ?_);first | (refine loop1 (fun (k : Nat)=>k) (fun (k : Nat)=>True) (fun (k : Nat)=>[(7,.sl 0 0 1 1 (some 1)),(8,.d (i 1))]) (fun (k : Nat)=>[⟨[.d (.str up)],1,0⟩]) (0) (by trivial) ?_ (fun k C hI hC=>?_);(exact ⟨[.old 0],rfl,rfl,⟨(by first | exact ⟨rfl,rfl,rfl,rfl,rfl⟩ ),(congrArg (D.int .i64) (by decide)),trivial⟩,⟨⟨rfl,rfl,.inl ⟨[_],rfl,rfl⟩⟩,trivial⟩⟩);all_goals (conv=>whnf)))
 | (refine ⟨mem_one ⟨rfl,rfl⟩,?_⟩;conv=>whnf)
 | (refine wrap64 (by omega) ?_;conv=>whnf)
 | (refine wrap_v 1 (by decide +kernel) ?_;conv=>whnf)
 | (refine ⟨⟨by decide,by decide,by decide,by decide⟩,?_⟩;conv=>whnf)
 | (refine ⟨(by decide : _ ≤ _),?_⟩;conv=>whnf)
 | ((with_reducible refine endx_go ?_);first | (exact endx_same rfl rfl;done))
  | fail
  )
theorem c49 : Fn 49 [] (treeD tree0):=by
 refine run_walkF eok Tryz.func49 rfl (by kernel_rfl) ?_
 conv=>whnf
 repeat' (first
 | ((with_reducible refine endx_go ?_);first | (exact endxv rfl rfl;done))
  | fail
  )
theorem a1 : frst (errN tree0) 6 0 = (0,0):=by decide +kernel
theorem a2 : roundP tree0 (startR tree0 0) 6 = [true,true,true,true,true,true]:=by decide +kernel
theorem a3 : roundP tree0 [true,true,true,true,true,true] 6 = [true,true,true,true,true,true]:=by decide +kernel
theorem a4 : rchF tree0 0 = [true,true,true,true,true,true]:=by
 have h : ∀ n,roundsR tree0 (startR tree0 0) (n + 1) = [true,true,true,true,true,true]:=by
  intro n
  induction n with
  | zero=>exact a2
  | succ n ih=>show roundP tree0 (roundsR tree0 (startR tree0 0) (n + 1)) 6 = _;rw [ih];exact a3
 exact h 5
theorem a5 : frst (errC tree0 [true,true,true,true,true,true]) 6 0 = (0,0):=by decide +kernel
theorem ck0 : (checkT tree0).2 = 0:=by
 unfold checkT
 rw [if_neg (by decide),if_neg (by decide),a4]
 show (if (frst (errN tree0) 6 0).2 = 0 then frst (errC tree0 [true,true,true,true,true,true]) 6 0 else frst (errN tree0) 6 0).2 = _
 rw [a1,a5];rfl
theorem w40 : within 4 0 ((tree0.length : Int) - 1) = true:=by decide +kernel
theorem tb0 : Tb tree0:=⟨by decide,by decide,by decide⟩
theorem ra0 : (resR tree0 [47,97,47,117,112] true).e = 0 ∧ (resR tree0 [47,97,47,117,112] true).x.node = 4 ∧ (resR tree0 [47,97,47,117,112] true).st = 2:=by rw [rr_b ck0];decide +kernel
theorem rm0 : (resR tree0 [47,109,47,102] true).e = 0 ∧ (resR tree0 [47,109,47,102] true).x.node = 4 ∧ (resR tree0 [47,109,47,102] true).x.trail = [0,1]:=by rw [rr_b ck0];decide +kernel
theorem c19k : Fn 19 [.str [47,97,47,46,47,98,47,46,46,47,99]] (.tup [.str [47,97,47,99],i 0]):=by
 have e : (parse [47,97,47,46,47,98,47,46,46,47,99]).2 = 0 ∧ text (normal (parse [47,97,47,46,47,98,47,46,46,47,99]).1) = [47,97,47,99]:=by decide +kernel
 have:=c19t [47,97,47,46,47,98,47,46,46,47,99] e.1
 rwa [e.2] at this
theorem c27k : Fn 27 [.str [47,97,47,98],.str [47,97,47,99,47,100]] (.tup [.str [46,46,47,99,47,100],i 0]):=by
 have e : (parse [47,97,47,98]).1.parts.length - pre (parse [47,97,47,98]).1.parts (parse [47,97,47,99,47,100]).1.parts = 1:=by decide +kernel
 have e2 : relR [47,97,47,98] [47,97,47,99,47,100] = ([46,46,47,99,47,100],0):=by decide +kernel
 have h:=c27h [47,97,47,98] [47,97,47,99,47,100] (by rw [e];exact run_uncap c72w rfl (by decide))
 rwa [e2] at h
theorem c40k : Fn 40 [treeD tree0,i 4] (.tup [.fs [.str [47,97,47,102]],i 0]):=by
 have B:=tb0
 have h:=c40c tree0 B 4 (by decide) ck0 w40
 have e : pathsR tree0 4 = [[47,97,47,102]]:=by
  rw [← sort_paths ⟨B,ck0⟩ ys0_bfs 4,ys0_toN,sortB_one]
 rwa [e] at h
theorem c42k {l : List Int} (h : l = [0,1]) : Fn 42 [.fs (l.map i),.fs [i 0,i 1]] (.bool true):=by
 subst h
 exact c42 [0,1] [0,1] (by decide) (by decide)
theorem c45k : Fn 45 [.fs [.str [47,97,47,102]],.fs [.str [47,97,47,102]]] (.bool true):=c45 [[47,97,47,102]] [[47,97,47,102]] (by decide) (by decide)
attribute [local irreducible] resR tree0
theorem c10g (T : D) (X Y : Rs) (h49 : Fn 49 [] T) (h12 : Fn 12 [T,.str [47,97,47,117,112],.bool true] (.tup [X.enc,i 0])) (h13 : Fn 12 [T,.str [47,109,47,102],.bool true] (.tup [Y.enc,i 0])) (h40 : Fn 40 [T,i 4] (.tup [.fs [.str [47,97,47,102]],i 0])) (n1 : X.x.node = 4) (n2 : X.st = 2) (m2 : Y.x.node = 4) (m3 : Y.x.trail = [0,1]) : Fn 10 [] (.bool true):=by
 refine run_walkF eok Tryz.func10 rfl (by kernel_rfl) ?_
 conv=>whnf
 repeat' (first
 | ((with_reducible refine on_dec_t (by assumption) ?_);conv=>whnf)
 | ((with_reducible refine call_go ?_);(first | refine call_step (run_data (xs:=[]) h49 _) ?_ | refine call_step (run_data (xs:=[_,_,_]) h12 _) ?_ | refine call_step (run_data (xs:=[_,_,_]) h13 _) ?_ | refine call_step (run_data (xs:=[_]) c19k _) ?_ | refine call_step (run_data (xs:=[_,_]) c27k _) ?_ | refine call_step (run_data (xs:=[_,_]) h40 _) ?_ | refine call_step (run_view (c42k m3) rfl (vlc rfl (vlc rfl vln))) ?_ | refine call_step (run_view c45k rfl (vlc rfl (vlc rfl vln))) ?_);conv=>whnf)
 | ((with_reducible refine endx_go ?_);first | (exact endx rfl;done))
  | fail
  )
theorem c10w : Fn 10 [] (.bool true):=
 c10g (treeD tree0) (resR tree0 [47,97,47,117,112] true) (resR tree0 [47,109,47,102] true) c49 (c12e tb0 ra0.1) (c12e tb0 rm0.1) c40k ra0.2.1 ra0.2.2 rm0.2.1 rm0.2.2
end Go.Proofs.YtpfokhdelnlciaaGreatDoor
