/-
  Own lemmas, no conditions: Po, Xi, Xj, Xk, Xl, Xm.
-/
import Derived.Test.YtpfokhdelnlciaaGreatDoorGrpJ
set_option linter.unusedVariables false
set_option linter.unusedSimpArgs false
namespace Go.Proofs.YtpfokhdelnlciaaGreatDoor
open Go Dw Paths
structure Fd where
 node : Int
 parent : Int
 name : Bs
 trail : List Int
def noFd : Fd:=⟨0,0,[],[]⟩
def Fd.enc (x : Fd) (stream : Bs) (st : Int) : D:=.agg [i x.node,i x.parent,.str x.name,.str stream,i st,.fs (x.trail.map i)]
structure Fo where
 x : Fd
 e : Int
 st : Int
def hereOf (tr : List Int) : Int:=tr.getLastD 0
def nodAt (t : List Nod) (n : Int) : Nod:=(t[n.toNat]?).getD ⟨0,[],[]⟩
def entTo : List Ent → Int → Option Bs
 | [],_=>none
 | e :: l,n=>if e.node = n then some e.name else entTo l n
def parG : List Nod → Int → Nat → Int × Bs
 | [],_,_=>(-1,[])
 | x :: l,n,k=>match entTo x.ents n with
  | some s=>((k : Int),s)
  | none=>parG l n (k + 1)
def parOf (t : List Nod) (n : Int) : Int × Bs:=parG t n 0
def entOf (t : List Nod) (tr : List Int) (p : Bs) : Ent:=entR (nodAt t (hereOf tr)).ents p
def tgtOf (t : List Nod) (tr : List Int) (p : Bs) : PP:=(parse (nodAt t (entOf t tr p).node).target).1
def folS (t : List Nod) (F : List Int → List Bs → Bool → Int → Option Fo) (tr : List Int) (p : Bs) (r : List Bs) (last : Bool) (st : Int) : Option Fo:=
 if 64 < r.length + 1 then some ⟨noFd,25,st⟩
 else if p = [46] then F tr r last st
 else if p = [46,46] then F (if 1 < tr.length then tr.dropLast else tr) r last st
 else if look (nodAt t (hereOf tr)).ents p < 0 then some ⟨⟨-1,hereOf tr,p,tr⟩,if r = [] then 0 else 6,st⟩
 else if (nodAt t (entOf t tr p).node).kind = 0 then F (tr ++ [(entOf t tr p).node]) r last st
 else if (nodAt t (entOf t tr p).node).kind = 1 then some ⟨⟨(entOf t tr p).node,hereOf tr,(entOf t tr p).name,tr⟩,if r = [] then 0 else 35,st⟩
 else if r = [] ∧ last = false then some ⟨⟨(entOf t tr p).node,hereOf tr,(entOf t tr p).name,tr⟩,0,st⟩
 else if 8 < st + 1 then some ⟨noFd,25,st + 1⟩
 else if (nodAt t (entOf t tr p).node).kind = 2 then F (if (tgtOf t tr p).abs = true then [0] else tr) ((tgtOf t tr p).parts ++ r) last (st + 1)
 else match F [0] (tgtOf t tr p).parts true (st + 1) with
  | none=>none
  | some o=>if o.e ≠ 0 then some ⟨noFd,o.e,o.st⟩ else if o.x.node = -1 then some ⟨noFd,6,o.st⟩ else if (nodAt t o.x.node).kind ≠ 0 then some ⟨noFd,35,o.st⟩ else F (tr ++ [o.x.node]) r last o.st
def fol (t : List Nod) : Nat → List Int → List Bs → Bool → Int → Option Fo
 | 0,_,_,_,_=>none
 | n + 1,tr,ps,last,st=>match ps with
  | []=>some ⟨⟨hereOf tr,(parOf t (hereOf tr)).1,(parOf t (hereOf tr)).2,tr⟩,0,st⟩
  | p :: r=>folS t (fun a b c d=>fol t n a b c d) tr p r last st
theorem fol_0 (t : List Nod) (n : Nat) (tr : List Int) (last : Bool) (st : Int) : fol t (n + 1) tr [] last st = some ⟨⟨hereOf tr,(parOf t (hereOf tr)).1,(parOf t (hereOf tr)).2,tr⟩,0,st⟩:=rfl
theorem fol_1 (t : List Nod) (n : Nat) (tr : List Int) (p : Bs) (r : List Bs) (last : Bool) (st : Int) : fol t (n + 1) tr (p :: r) last st = folS t (fun a b c d=>fol t n a b c d) tr p r last st:=rfl
theorem fol_nil {t : List Nod} {n : Nat} {tr : List Int} {last : Bool} {st : Int} {o : Fo} (h : fol t n tr [] last st = some o) : o = ⟨⟨hereOf tr,(parOf t (hereOf tr)).1,(parOf t (hereOf tr)).2,tr⟩,0,st⟩:=by
 cases n with
 | zero=>cases h
 | succ n=>rw [fol_0] at h;exact (Option.some.inj h).symm
inductive FolC (t : List Nod) (m : Nat) (tr : List Int) (p : Bs) (r : List Bs) (last : Bool) (st : Int) (o : Fo) : Prop
 | big (h : 64 < r.length + 1) (e : o = ⟨noFd,25,st⟩)
 | dot (h : p = [46]) (f : fol t m tr r last st = some o)
 | up (h0 : ¬ p = [46]) (h : p = [46,46]) (h1 : 1 < tr.length) (f : fol t m tr.dropLast r last st = some o)
 | top (h0 : ¬ p = [46]) (h : p = [46,46]) (h1 : ¬ 1 < tr.length) (f : fol t m tr r last st = some o)
 | no (h0 : ¬ p = [46]) (h : ¬ p = [46,46]) (hl : look (nodAt t (hereOf tr)).ents p < 0) (hr : r = []) (e : o = ⟨⟨-1,hereOf tr,p,tr⟩,0,st⟩)
 | miss (h0 : ¬ p = [46]) (h : ¬ p = [46,46]) (hl : look (nodAt t (hereOf tr)).ents p < 0) (hr : r ≠ []) (e : o = ⟨⟨-1,hereOf tr,p,tr⟩,6,st⟩)
 | dir (h0 : ¬ p = [46]) (h : ¬ p = [46,46]) (hl : ¬ look (nodAt t (hereOf tr)).ents p < 0) (k : (nodAt t (entOf t tr p).node).kind = 0) (f : fol t m (tr ++ [(entOf t tr p).node]) r last st = some o)
 | file (h0 : ¬ p = [46]) (h : ¬ p = [46,46]) (hl : ¬ look (nodAt t (hereOf tr)).ents p < 0) (k : (nodAt t (entOf t tr p).node).kind = 1) (hr : r = []) (e : o = ⟨⟨(entOf t tr p).node,hereOf tr,(entOf t tr p).name,tr⟩,0,st⟩)
 | nodir (h0 : ¬ p = [46]) (h : ¬ p = [46,46]) (hl : ¬ look (nodAt t (hereOf tr)).ents p < 0) (k : (nodAt t (entOf t tr p).node).kind = 1) (hr : r ≠ []) (e : o = ⟨⟨(entOf t tr p).node,hereOf tr,(entOf t tr p).name,tr⟩,35,st⟩)
 | stop (h0 : ¬ p = [46]) (h : ¬ p = [46,46]) (hl : ¬ look (nodAt t (hereOf tr)).ents p < 0) (k0 : ¬ (nodAt t (entOf t tr p).node).kind = 0) (k1 : ¬ (nodAt t (entOf t tr p).node).kind = 1) (hr : r = []) (hf : last = false) (e : o = ⟨⟨(entOf t tr p).node,hereOf tr,(entOf t tr p).name,tr⟩,0,st⟩)
 | loop (h0 : ¬ p = [46]) (h : ¬ p = [46,46]) (hl : ¬ look (nodAt t (hereOf tr)).ents p < 0) (k0 : ¬ (nodAt t (entOf t tr p).node).kind = 0) (k1 : ¬ (nodAt t (entOf t tr p).node).kind = 1) (hr : r ≠ [] ∨ last = true) (h8 : 8 < st + 1) (e : o = ⟨noFd,25,st + 1⟩)
 | linkA (h0 : ¬ p = [46]) (h : ¬ p = [46,46]) (hl : ¬ look (nodAt t (hereOf tr)).ents p < 0) (k : (nodAt t (entOf t tr p).node).kind = 2) (hr : r ≠ [] ∨ last = true) (h8 : st + 1 ≤ 8) (ab : (tgtOf t tr p).abs = true) (f : fol t m [0] ((tgtOf t tr p).parts ++ r) last (st + 1) = some o)
 | linkR (h0 : ¬ p = [46]) (h : ¬ p = [46,46]) (hl : ¬ look (nodAt t (hereOf tr)).ents p < 0) (k : (nodAt t (entOf t tr p).node).kind = 2) (hr : r ≠ [] ∨ last = true) (h8 : st + 1 ≤ 8) (ab : (tgtOf t tr p).abs = false) (f : fol t m tr ((tgtOf t tr p).parts ++ r) last (st + 1) = some o)
 | mount (h0 : ¬ p = [46]) (h : ¬ p = [46,46]) (hl : ¬ look (nodAt t (hereOf tr)).ents p < 0) (k0 : ¬ (nodAt t (entOf t tr p).node).kind = 0) (k1 : ¬ (nodAt t (entOf t tr p).node).kind = 1) (k2 : ¬ (nodAt t (entOf t tr p).node).kind = 2) (hr : r ≠ [] ∨ last = true) (h8 : st + 1 ≤ 8) (q : Fo) (g : fol t m [0] (tgtOf t tr p).parts true (st + 1) = some q)
   (c : (q.e ≠ 0 ∧ o = ⟨noFd,q.e,q.st⟩) ∨ (q.e = 0 ∧ q.x.node = -1 ∧ o = ⟨noFd,6,q.st⟩) ∨ (q.e = 0 ∧ ¬ q.x.node = -1 ∧ ¬ (nodAt t q.x.node).kind = 0 ∧ o = ⟨noFd,35,q.st⟩) ∨ (q.e = 0 ∧ ¬ q.x.node = -1 ∧ (nodAt t q.x.node).kind = 0 ∧ fol t m (tr ++ [q.x.node]) r last q.st = some o))
theorem fol_cons {t : List Nod} {n : Nat} {tr : List Int} {p : Bs} {r : List Bs} {last : Bool} {st : Int} {o : Fo} (hf : fol t n tr (p :: r) last st = some o) : ∃ m,n = m + 1 ∧ FolC t m tr p r last st o:=by
 cases n with
 | zero=>cases hf
 | succ m=>
  refine ⟨m,rfl,?_⟩
  rw [fol_1] at hf
  unfold folS at hf
  by_cases hb : 64 < r.length + 1
  ·rw [if_pos hb] at hf;exact .big hb (by cases hf;rfl)
  rw [if_neg hb] at hf
  by_cases h0 : p = [46]
  ·rw [if_pos h0] at hf;exact .dot h0 hf
  rw [if_neg h0] at hf
  by_cases h : p = [46,46]
  ·rw [if_pos h] at hf
   by_cases h1 : 1 < tr.length
   ·rw [if_pos h1] at hf;exact .up h0 h h1 hf
   ·rw [if_neg h1] at hf;exact .top h0 h h1 hf
  rw [if_neg h] at hf
  by_cases hl : look (nodAt t (hereOf tr)).ents p < 0
  ·rw [if_pos hl] at hf
   by_cases hr : r = []
   ·rw [if_pos hr] at hf;exact .no h0 h hl hr (by cases hf;rfl)
   ·rw [if_neg hr] at hf;exact .miss h0 h hl hr (by cases hf;rfl)
  rw [if_neg hl] at hf
  by_cases k0 : (nodAt t (entOf t tr p).node).kind = 0
  ·rw [if_pos k0] at hf;exact .dir h0 h hl k0 hf
  rw [if_neg k0] at hf
  by_cases k1 : (nodAt t (entOf t tr p).node).kind = 1
  ·rw [if_pos k1] at hf
   by_cases hr : r = []
   ·rw [if_pos hr] at hf;exact .file h0 h hl k1 hr (by cases hf;rfl)
   ·rw [if_neg hr] at hf;exact .nodir h0 h hl k1 hr (by cases hf;rfl)
  rw [if_neg k1] at hf
  by_cases hr : r = [] ∧ last = false
  ·rw [if_pos hr] at hf;exact .stop h0 h hl k0 k1 hr.1 hr.2 (by cases hf;rfl)
  rw [if_neg hr] at hf
  have hr2 : r ≠ [] ∨ last = true:=by
   by_cases e : r = []
   ·right
    cases last
    ·exact absurd ⟨e,rfl⟩ hr
    ·rfl
   ·exact .inl e
  by_cases h8 : 8 < st + 1
  ·rw [if_pos h8] at hf;exact .loop h0 h hl k0 k1 hr2 h8 (by cases hf;rfl)
  rw [if_neg h8] at hf
  by_cases k2 : (nodAt t (entOf t tr p).node).kind = 2
  ·rw [if_pos k2] at hf
   cases hab : (tgtOf t tr p).abs with
   | true=>rw [if_pos hab] at hf;exact .linkA h0 h hl k2 hr2 (by omega) hab hf
   | false=>rw [if_neg (by rw [hab];decide)] at hf;exact .linkR h0 h hl k2 hr2 (by omega) hab hf
  rw [if_neg k2] at hf
  cases hq : fol t m [0] (tgtOf t tr p).parts true (st + 1) with
  | none=>simp only [hq] at hf;cases hf
  | some q=>
   simp only [hq] at hf
   refine .mount h0 h hl k0 k1 k2 hr2 (by omega) q hq ?_
   by_cases he : q.e = 0
   ·rw [if_neg (by simpa using he)] at hf
    by_cases hn : q.x.node = -1
    ·rw [if_pos hn] at hf;exact .inr (.inl ⟨he,hn,by cases hf;rfl⟩)
    rw [if_neg hn] at hf
    by_cases hk : (nodAt t q.x.node).kind = 0
    ·rw [if_neg (by simpa using hk)] at hf;exact .inr (.inr (.inr ⟨he,hn,hk,hf⟩))
    ·rw [if_pos hk] at hf;exact .inr (.inr (.inl ⟨he,hn,hk,by cases hf;rfl⟩))
   ·rw [if_pos he] at hf;exact .inl ⟨he,by cases hf;rfl⟩
structure Vt (t : List Nod) : Prop where
 b : Tb t
 ok : (checkT t).2 = 0
def OkI (t : List Nod) (n : Int) : Prop:=0 ≤ n ∧ n.toNat < t.length
def OkT (t : List Nod) (tr : List Int) : Prop:=tr[0]? = some 0 ∧ ∀ n ∈ tr,OkI t n
theorem OkI.get {t : List Nod} {n : Int} (h : OkI t n) : t[n.toNat]? = some (nodAt t n):=by
 unfold nodAt;rw [List.getElem?_eq_getElem h.2];rfl
theorem OkI.mem {t : List Nod} {n : Int} (h : OkI t n) : nodAt t n ∈ t:=List.mem_of_getElem? h.get
theorem OkT.ne {t : List Nod} {tr : List Int} (h : OkT t tr) : 0 < tr.length:=(List.getElem?_eq_some_iff.1 h.1).1
theorem hereOf_mem {tr : List Int} (h : 0 < tr.length) : hereOf tr ∈ tr:=by
 unfold hereOf
 rw [List.getLastD_eq_getLast?,List.getLast?_eq_getElem?,List.getElem?_eq_getElem (by omega)]
 exact List.getElem_mem _
theorem hereOf_at {tr : List Int} (h : 0 < tr.length) : tr[tr.length - 1]? = some (hereOf tr):=by
 unfold hereOf
 rw [List.getLastD_eq_getLast?,List.getLast?_eq_getElem?,List.getElem?_eq_getElem (by omega)];rfl
theorem hereOf_snoc (tr : List Int) (x : Int) : hereOf (tr ++ [x]) = x:=by simp [hereOf]
theorem OkT.here {t : List Nod} {tr : List Int} (h : OkT t tr) : OkI t (hereOf tr):=h.2 _ (hereOf_mem h.ne)
theorem OkT.snoc {t : List Nod} {tr : List Int} {n : Int} (h : OkT t tr) (hn : OkI t n) : OkT t (tr ++ [n]):=by
 refine ⟨by rw [List.getElem?_append_left h.ne];exact h.1,fun m hm=>?_⟩
 rcases List.mem_append.1 hm with hm | hm
 ·exact h.2 m hm
 ·rw [List.mem_singleton] at hm;subst hm;exact hn
theorem OkT.drop {t : List Nod} {tr : List Int} (h : OkT t tr) (h1 : 1 < tr.length) : OkT t tr.dropLast:=by
 refine ⟨?_,fun m hm=>h.2 m (List.dropLast_sublist _ |>.mem hm)⟩
 rw [List.getElem?_dropLast,if_pos (by omega)];exact h.1
section
variable {t : List Nod} (V : Vt t)
include V
theorem Vt.good : Good t:=good_of (chk_err V.ok).2.2
theorem Vt.len : 0 < t.length ∧ t.length ≤ 40:=⟨(chk_err V.ok).1,(chk_err V.ok).2.1⟩
theorem Vt.root : OkT t [0]:=⟨rfl,fun n hn=>by rw [List.mem_singleton] at hn;subst hn;exact ⟨by omega,V.len.1⟩⟩
theorem Vt.nod {n : Int} (h : OkI t n) : nodE t n (nodAt t n) = 0:=by
 have h1:=(chk_err V.ok).2.2 _ h.2
 rw [errN_at h.2] at h1
 have h2:=h.get
 rw [List.getElem?_eq_getElem h.2] at h2
 rw [Option.some.inj h2] at h1
 have : ((n.toNat : Nat) : Int) = n:=Int.toNat_of_nonneg h.1
 rwa [this] at h1
theorem Vt.names {n : Int} (h : OkI t n) : ∀ e ∈ (nodAt t n).ents,nameErr e.name = 0:=chk_nm V.ok h.get
theorem Vt.ent {n : Int} (h : OkI t n) {e : Ent} (he : e ∈ (nodAt t n).ents) : OkI t e.node:=by
 have:=V.good _ h.mem e he
 exact ⟨by omega,by omega⟩
theorem Vt.kind {n : Int} (h : OkI t n) : 0 ≤ (nodAt t n).kind ∧ (nodAt t n).kind ≤ 3:=by
 have:=V.nod h
 unfold nodE at this
 split at this
 ·cases this
 ·rename_i h1
  simp only [within,Bool.and_eq_false_iff,decide_eq_false_iff_not] at h1
  omega
theorem Vt.noents {n : Int} (h : OkI t n) (hk : ¬ (nodAt t n).kind = 0) : (nodAt t n).ents = []:=by
 have:=V.nod h
 unfold nodE at this
 split at this
 ·cases this
 split at this
 ·cases this
 split at this
 ·cases this
 ·rename_i h3
  apply Classical.byContradiction
  intro hc
  exact h3 (.inl ⟨hk,hc⟩)
theorem Vt.targ {n : Int} (h : OkI t n) (h0 : ¬ (nodAt t n).kind = 0) (h1 : ¬ (nodAt t n).kind = 1) : (parse (nodAt t n).target).2 = 0:=by
 have hn:=V.nod h
 have hk:=V.kind h
 unfold nodE at hn
 split at hn
 ·cases hn
 split at hn
 ·cases hn
 split at hn
 ·cases hn
 split at hn
 ·rename_i h4;exact absurd hn h4
 split at hn
 ·rename_i h5
  unfold leads at h5
  simp only [Bool.or_eq_false_iff,decide_eq_false_iff_not] at h5
  omega
 ·unfold targE at hn
  split at hn
  ·rename_i h6;exact absurd hn h6
  ·rename_i h6;exact Classical.not_not.1 h6
end
theorem look_in1 {l : List Ent} {p : Bs} (h : ¬ look l p < 0) : entR l p ∈ l:=by
 obtain ⟨h0,h1⟩:=look_in h
 rw [entR_at h1];exact List.getElem_mem _
theorem Vt.next {t : List Nod} (V : Vt t) {tr : List Int} (hT : OkT t tr) {p : Bs} (hl : ¬ look (nodAt t (hereOf tr)).ents p < 0) : OkI t (entOf t tr p).node:=V.ent hT.here (look_in1 hl)
def OkP (ps : List Bs) : Prop:=∀ p ∈ ps,partErr p = 0
theorem Vt.tgt {t : List Nod} (V : Vt t) {tr : List Int} (hT : OkT t tr) {p : Bs} (hl : ¬ look (nodAt t (hereOf tr)).ents p < 0) (k0 : ¬ (nodAt t (entOf t tr p).node).kind = 0) (k1 : ¬ (nodAt t (entOf t tr p).node).kind = 1) : OkP (tgtOf t tr p).parts ∧ (tgtOf t tr p).parts.length ≤ 16:=by
 have h:=V.targ (V.next hT hl) k0 k1
 have:=parse_good h
 exact ⟨fun x hx=>(this.1 x hx).2,this.2⟩
theorem OkP.app {a b : List Bs} (ha : OkP a) (hb : OkP b) : OkP (a ++ b):=fun p hp=>(List.mem_append.1 hp).elim (ha p) (hb p)
theorem fol_some {t : List Nod} (V : Vt t) : ∀ (n : Nat) (tr : List Int) (ps : List Bs) (last : Bool) (st : Int),OkT t tr → 0 ≤ st → (100 * (9 - st)).toNat + ps.length < n → (∃ o,fol t n tr ps last st = some o) ∧ ∀ o,fol t n tr ps last st = some o → st ≤ o.st ∧ (o.e = 0 → (st ≤ 8 → o.st ≤ 8) ∧ (o.x.node = -1 ∨ OkI t o.x.node) ∧ OkT t o.x.trail)
 | 0,_,_,_,_,_,_,h=>by omega
 | n + 1,tr,[],last,st,hT,h0,h=>by
  refine ⟨⟨_,rfl⟩,fun o ho=>?_⟩
  have:=fol_nil ho
  subst this
  exact ⟨Int.le_refl _,fun _=>⟨fun h=>h,.inr hT.here,hT⟩⟩
 | n + 1,tr,p :: r,last,st,hT,h0,h=>by
  rw [List.length_cons] at h
  have IH:=fol_some V n
  have bad : ∀ (e : Int) (s : Int) (x : Fd),e ≠ 0 → st ≤ s → (∃ o,some (⟨x,e,s⟩ : Fo) = some o) ∧ ∀ o : Fo,some (⟨x,e,s⟩ : Fo) = some o → st ≤ o.st ∧ (o.e = 0 → (st ≤ 8 → o.st ≤ 8) ∧ (o.x.node = -1 ∨ OkI t o.x.node) ∧ OkT t o.x.trail):=
   fun e s x he hs=>⟨⟨_,rfl⟩,fun o ho=>by cases ho;exact ⟨hs,fun hz=>absurd hz he⟩⟩
  rw [fol_1]
  unfold folS
  by_cases hb : 64 < r.length + 1
  ·rw [if_pos hb];exact bad 25 st _ (by decide) (Int.le_refl _)
  rw [if_neg hb]
  by_cases h0' : p = [46]
  ·rw [if_pos h0'];exact IH tr r last st hT h0 (by omega)
  rw [if_neg h0']
  by_cases h' : p = [46,46]
  ·rw [if_pos h']
   by_cases h1 : 1 < tr.length
   ·rw [if_pos h1];exact IH _ r last st (hT.drop h1) h0 (by omega)
   ·rw [if_neg h1];exact IH tr r last st hT h0 (by omega)
  rw [if_neg h']
  by_cases hl : look (nodAt t (hereOf tr)).ents p < 0
  ·rw [if_pos hl]
   by_cases hr : r = []
   ·rw [if_pos hr];exact ⟨⟨_,rfl⟩,fun o ho=>by cases ho;exact ⟨Int.le_refl _,fun _=>⟨fun h=>h,.inl rfl,hT⟩⟩⟩
   ·rw [if_neg hr];exact bad 6 st _ (by decide) (Int.le_refl _)
  rw [if_neg hl]
  have hN:=V.next hT hl
  by_cases k0 : (nodAt t (entOf t tr p).node).kind = 0
  ·rw [if_pos k0];exact IH _ r last st (hT.snoc hN) h0 (by omega)
  rw [if_neg k0]
  by_cases k1 : (nodAt t (entOf t tr p).node).kind = 1
  ·rw [if_pos k1]
   by_cases hr : r = []
   ·rw [if_pos hr];exact ⟨⟨_,rfl⟩,fun o ho=>by cases ho;exact ⟨Int.le_refl _,fun _=>⟨fun h=>h,.inr hN,hT⟩⟩⟩
   ·rw [if_neg hr];exact bad 35 st _ (by decide) (Int.le_refl _)
  rw [if_neg k1]
  by_cases hr : r = [] ∧ last = false
  ·rw [if_pos hr];exact ⟨⟨_,rfl⟩,fun o ho=>by cases ho;exact ⟨Int.le_refl _,fun _=>⟨fun h=>h,.inr hN,hT⟩⟩⟩
  rw [if_neg hr]
  by_cases h8 : 8 < st + 1
  ·rw [if_pos h8];exact bad 25 (st + 1) _ (by decide) (by omega)
  rw [if_neg h8]
  have hg:=V.tgt hT hl k0 k1
  by_cases k2 : (nodAt t (entOf t tr p).node).kind = 2
  ·rw [if_pos k2]
   have hz : OkT t (if (tgtOf t tr p).abs = true then [0] else tr):=by
    cases (tgtOf t tr p).abs
    ·exact hT
    ·exact V.root
   have:=IH _ ((tgtOf t tr p).parts ++ r) last (st + 1) hz (by omega) (by rw [List.length_append];omega)
   exact ⟨this.1,fun o ho=>⟨by have:=(this.2 o ho).1;omega,fun he=>by have:=(this.2 o ho).2 he;exact ⟨fun _=>this.1 (by omega),this.2⟩⟩⟩
  ·rw [if_neg k2]
   have hq:=IH [0] (tgtOf t tr p).parts true (st + 1) V.root (by omega) (by omega)
   obtain ⟨⟨q,e⟩,hq2⟩:=hq
   have hq3:=hq2 q e
   simp only [e]
   by_cases he : q.e = 0
   ·rw [if_neg (by simpa using he)]
    by_cases hn1 : q.x.node = -1
    ·rw [if_pos hn1];exact bad 6 q.st _ (by decide) (by omega)
    rw [if_neg hn1]
    by_cases hk : (nodAt t q.x.node).kind = 0
    ·rw [if_neg (by simpa using hk)]
     have h4:=hq3.2 he
     have h5 : OkI t q.x.node:=h4.2.1.resolve_left hn1
     have:=IH _ r last q.st (hT.snoc h5) (by omega) (by omega)
     exact ⟨this.1,fun o ho=>⟨by have:=(this.2 o ho).1;omega,fun he=>by have:=(this.2 o ho).2 he;exact ⟨fun _=>this.1 (h4.1 (by omega)),this.2⟩⟩⟩
    ·rw [if_pos hk];exact bad 35 q.st _ (by decide) (by omega)
   ·rw [if_pos he];exact bad q.e q.st _ he (by omega)
theorem fol_ok {t : List Nod} (V : Vt t) : ∀ (n : Nat) {tr : List Int} {ps : List Bs} {last : Bool} {st : Int} {o : Fo},OkT t tr → fol t n tr ps last st = some o → st ≤ o.st ∧ (o.e = 0 → (st ≤ 8 → o.st ≤ 8) ∧ (o.x.node = -1 ∨ OkI t o.x.node) ∧ OkT t o.x.trail)
 | 0,_,_,_,_,_,_,h=>by cases h
 | n + 1,tr,[],last,st,o,hT,h=>by
  have:=fol_nil h
  subst this
  exact ⟨Int.le_refl _,fun _=>⟨fun h=>h,.inr hT.here,hT⟩⟩
 | n + 1,tr,p :: r,last,st,o,hT,h=>by
  have IH : ∀ {tr : List Int} {ps : List Bs} {last : Bool} {st : Int} {o : Fo},OkT t tr → fol t n tr ps last st = some o → st ≤ o.st ∧ (o.e = 0 → (st ≤ 8 → o.st ≤ 8) ∧ (o.x.node = -1 ∨ OkI t o.x.node) ∧ OkT t o.x.trail):=fol_ok V n
  obtain ⟨m,e,hc⟩:=fol_cons h
  cases e
  rcases hc with ⟨hb,he⟩ | ⟨hz,hf⟩ | ⟨hz0,hz,h1,hf⟩ | ⟨hz0,hz,h1,hf⟩ | ⟨hz0,hz,hl,hr,he⟩ | ⟨hz0,hz,hl,hr,he⟩ | ⟨hz0,hz,hl,hk,hf⟩ | ⟨hz0,hz,hl,hk,hr,he⟩ | ⟨hz0,hz,hl,hk,hr,he⟩ | ⟨hz0,hz,hl,k0,k1,hr,hfl,he⟩ | ⟨hz0,hz,hl,k0,k1,hr,h8,he⟩ | ⟨hz0,hz,hl,hk,hr,h8,hab,hf⟩ | ⟨hz0,hz,hl,hk,hr,h8,hab,hf⟩ | ⟨hz0,hz,hl,k0,k1,k2,hr,h8,q,hg,hc⟩
  ·subst he;exact ⟨Int.le_refl _,fun h=>absurd (show (25 : Int) = 0 from h) (by decide)⟩
  ·exact IH hT hf
  ·exact IH (hT.drop h1) hf
  ·exact IH hT hf
  ·subst he;exact ⟨Int.le_refl _,fun _=>⟨fun h=>h,.inl rfl,hT⟩⟩
  ·subst he;exact ⟨Int.le_refl _,fun h=>absurd (show (6 : Int) = 0 from h) (by decide)⟩
  ·exact IH (hT.snoc (V.next hT hl)) hf
  ·subst he;exact ⟨Int.le_refl _,fun _=>⟨fun h=>h,.inr (V.next hT hl),hT⟩⟩
  ·subst he;exact ⟨Int.le_refl _,fun h=>absurd (show (35 : Int) = 0 from h) (by decide)⟩
  ·subst he;exact ⟨Int.le_refl _,fun _=>⟨fun h=>h,.inr (V.next hT hl),hT⟩⟩
  ·subst he;exact ⟨by show st ≤ st + 1;omega,fun h=>absurd (show (25 : Int) = 0 from h) (by decide)⟩
  ·have:=IH V.root hf
   exact ⟨by omega,fun e=>⟨fun _=>(this.2 e).1 h8,(this.2 e).2⟩⟩
  ·have:=IH hT hf
   exact ⟨by omega,fun e=>⟨fun _=>(this.2 e).1 h8,(this.2 e).2⟩⟩
  ·have hq:=IH V.root hg
   rcases hc with ⟨he,ho⟩ | ⟨he,hn,ho⟩ | ⟨he,hn,hk,ho⟩ | ⟨he,hn,hk,hf⟩
   ·subst ho;exact ⟨by show st ≤ q.st;omega,fun h=>absurd h he⟩
   ·subst ho;exact ⟨by show st ≤ q.st;omega,fun h=>absurd (show (6 : Int) = 0 from h) (by decide)⟩
   ·subst ho;exact ⟨by show st ≤ q.st;omega,fun h=>absurd (show (35 : Int) = 0 from h) (by decide)⟩
   ·have h4:=hq.2 he
    have:=IH (hT.snoc (h4.2.1.resolve_left hn)) hf
    exact ⟨by omega,fun e=>⟨fun _=>(this.2 e).1 (h4.1 h8),(this.2 e).2⟩⟩
end Go.Proofs.YtpfokhdelnlciaaGreatDoor
namespace Go.Proofs.YtpfokhdelnlciaaGreatDoor
open Go Dw
set_option maxRecDepth 10000
attribute [local irreducible] Run
set_option maxHeartbeats 1000000
open Paths
attribute [local irreducible] nameErr cut normal dots partErr text parse glue fold within
def foO (t : List Nod) (st : Int) : AO:=⟨[.d (.agg [treeD t,i st])],2,0⟩
def woO (t : List Nod) (st e : Int) : AO:=⟨[.d (.agg [treeD t,i st,i e])],3,0⟩
theorem run_rcv {P : Program} {f : Nat} {xs : List D} {r : AV} {o o' oc : AO} {l' : List D} (hf : Run P f (.ptr 0 0 0 :: xs.map .d) [o] r [o']) (hr : ∀ τ,ren τ r = r) (ho' : o'.elems = l'.map .d) {H : Heap} {id : Nat} (h : H[id]? = some oc) {args : List AV} (ho : embO [id] (args.flatMap (reach 8 H)) H o oc) (hv : vl (view 8 H) args = some xs)
  (hd : ∀ j ∈ args.flatMap (reach 8 H),j ≠ id) : Run P f (.ptr id 0 0 :: args) H r ((Dw.freeze H (args.flatMap (reach 8 H))).set id o'):=by
 refine run_at (σ:=[id]) (F:=args.flatMap (reach 8 H)) (fl:=false) hf (by simp) (fun j hj=>by simpa using hd j hj) ⟨⟨rfl,rfl,rfl⟩,embs_views1 H args xs _ (fun _ h=>h) hv⟩ ⟨(nthK_iff _ _).2 ⟨_,h,ho⟩,trivial⟩ (fun h=>by cases h) (hr _) ?_
 show setAll _ [id] _ ++ _ = _
 have : renO (tau [id] H.length) o' = o':=by
  obtain ⟨e,k,s⟩:=o'
  simp only at ho'
  subst ho'
  simp only [renO,rens_D]
 simp only [setAll,List.map_cons,List.map_nil,List.length_cons,List.length_nil,List.drop_succ_cons,List.drop_zero,this,List.append_nil]
 rfl
theorem entTo_at {l : List Ent} {n : Int} {m : Nat} (hm : m < l.length) : entTo (l.drop m) n = if l[m].node = n then some l[m].name else entTo (l.drop (m + 1)) n:=by
 rw [List.drop_eq_getElem_cons hm];rfl
theorem parG_at {t : List Nod} {n : Int} {k : Nat} (hk : k < t.length) : parG (t.drop k) n k = match entTo t[k].ents n with | some s=>((k : Int),s) | none=>parG (t.drop (k + 1)) n (k + 1):=by
 rw [List.drop_eq_getElem_cons hk];rfl
theorem par_f {t : List Nod} {n : Int} {k m : Nat} (hk : k < t.length) (hm : m < t[k].ents.length) (h1 : parOf t n = parG (t.drop k) n k) (h2 : entTo t[k].ents n = entTo (t[k].ents.drop m) n) (h : t[k].ents[m].node = n) : D.tup [i k,.str t[k].ents[m].name] = .tup [i (parOf t n).1,.str (parOf t n).2]:=by
 rw [h1,parG_at hk,h2,entTo_at hm,if_pos h]
theorem par_m {t : List Nod} {n : Int} {k m : Nat} (hk : k < t.length) (hm : m < t[k].ents.length) (h2 : entTo t[k].ents n = entTo (t[k].ents.drop m) n) (h : ¬ t[k].ents[m].node = n) : entTo t[k].ents n = entTo (t[k].ents.drop (m + 1)) n:=by
 rw [h2,entTo_at hm,if_neg h]
theorem par_k {t : List Nod} {n : Int} {k m : Nat} (hk : k < t.length) (hm : t[k].ents.length ≤ m) (h1 : parOf t n = parG (t.drop k) n k) (h2 : entTo t[k].ents n = entTo (t[k].ents.drop m) n) : parOf t n = parG (t.drop (k + 1)) n (k + 1):=by
 rw [h1,parG_at hk,h2,List.drop_eq_nil_of_le hm];rfl
theorem par_e {t : List Nod} {n : Int} {k : Nat} (hk : t.length ≤ k) (h1 : parOf t n = parG (t.drop k) n k) : D.tup [i (-1),.str []] = .tup [i (parOf t n).1,.str (parOf t n).2]:=by
 rw [h1,List.drop_eq_nil_of_le hk];rfl
attribute [local irreducible] entTo parG
theorem c118 (tr : List Int) (c : Option Nat) (h1 : 0 < tr.length) : Run Tryz.prog 118 [.sl 0 0 tr.length 1 c] [⟨rowI tr,1,0⟩] (.sl 0 0 tr.length 1 (some tr.length)) [⟨rowI tr,1,0⟩]:=by
 refine run_walkF eok Tryz.func118 rfl (by kernel_rfl) ?_
 conv=>whnf
 repeat' (first
 | ((with_reducible refine on_dec_f ?_ ?_);(focus ((try simp only [List.length_map,List.length_cons,List.length_nil,List.length_append]);omega));conv=>whnf)
 | (refine ⟨⟨by omega,by omega,by omega,by omega⟩,?_⟩;conv=>whnf)
 | ((with_reducible refine endx_go ?_);first | (exact endx_same rfl rfl;done))
  | fail
  )
theorem c119a (t : List Nod) (st : Int) (h0 : 0 ≤ st) (h1 : st ≤ 100) (h8 : st + 1 ≤ 8) : Run Tryz.prog 119 (.ptr 0 0 0 :: ([] : List D).map .d) [foO t st] (.d (i 0)) [foO t (st + 1)]:=by
 refine run_walkF eok Tryz.func119 rfl (by kernel_rfl) ?_
 conv=>whnf
 repeat' (first
 | ((with_reducible refine call_go ?_);(first | refine call_step (run_data (xs:=[_,_]) (c53y (p:=st + 1 ≤ 8) 25 (by assumption)) _) ?_ );conv=>whnf)
 | (refine wrap64 (by omega) ?_;conv=>whnf)
 | ((with_reducible refine endx_go ?_);first | (exact endX_of (.inl ⟨[.old 0],rfl,rfl,⟨rfl,trivial⟩,⟨⟨rfl,rfl,.inr ⟨⟨rfl,rfl,rfl,trivial⟩,trivial⟩⟩,trivial⟩⟩);done))
  | fail
  )
theorem c119b (t : List Nod) (st : Int) (h0 : 0 ≤ st) (h1 : st ≤ 100) (h8 : ¬ st + 1 ≤ 8) : Run Tryz.prog 119 (.ptr 0 0 0 :: ([] : List D).map .d) [foO t st] (.d (i 25)) [foO t (st + 1)]:=by
 refine run_walkF eok Tryz.func119 rfl (by kernel_rfl) ?_
 conv=>whnf
 repeat' (first
 | ((with_reducible refine call_go ?_);(first | refine call_step (run_data (xs:=[_,_]) (c53d (p:=st + 1 ≤ 8) 25 (by assumption)) _) ?_);conv=>whnf)
 | (refine wrap64 (by omega) ?_;conv=>whnf)
 | ((with_reducible refine endx_go ?_);first | (exact endX_of (.inl ⟨[.old 0],rfl,rfl,⟨rfl,trivial⟩,⟨⟨rfl,rfl,.inr ⟨⟨rfl,rfl,rfl,trivial⟩,trivial⟩⟩,trivial⟩⟩);done))
  | fail
  )
theorem c117 (a b : Int) (s : Bs) (tr : List Int) : Fn 117 [i a,i b,.str s,.fs (tr.map i)] (Fd.enc ⟨a,b,s,tr⟩ [] 0):=by
 refine run_walkF eok Tryz.func117 rfl (by kernel_rfl) ?_
 conv=>whnf
 repeat' (first
 | ((with_reducible refine endx_go ?_);first | (exact endxv (view_agg (vlc rfl (vlc rfl (vlc rfl (vlc rfl (vlc rfl (vlc rfl vln))))))) rfl;done))
  | fail
  )
theorem c121 (t : List Nod) (B : Tb t) (d : Int) : Fn 121 [treeD t,i d] (.tup [i (parOf t d).1,.str (parOf t d).2]):=by
 have hbt:=B.tl
 refine run_walkF eok Tryz.func121 rfl (by kernel_rfl) ?_
 conv=>whnf
 repeat' (first
 | ((with_reducible refine on_dec (fun h=>?_) (fun h=>?_))<;>(try simp only [List.length_map] at h)<;>conv=>whnf)
 | (refine ⟨[],[],(by decide +kernel),?_⟩;conv=>whnf)
 | ((with_reducible refine loop_go ?_);first | (refine loop1 (fun (m : Nat)=>(t[k]'(by omega)).ents.length - m) (fun (m : Nat)=>m ≤ (t[k]'(by omega)).ents.length ∧ entTo (t[k]'(by omega)).ents d = entTo ((t[k]'(by omega)).ents.drop m) d) (fun (m : Nat)=>[(1,.d (i d)),(6,.d (i k)),(10,.d (treeD t)),(11,.d (i t.length)),(12,.d (i k)),(18,.d (.fs ((t[k]'(by omega)).ents.map Ent.enc))),(19,.d (i (t[k]'(by omega)).ents.length)),(20,.d (i m))]) (fun (m : Nat)=>[]) (0) (by exact ⟨Nat.zero_le _,rfl⟩) ?_ (fun m Ci hIi hCi=>?_);(exact ⟨[],rfl,rfl,⟨(by first | (show (_ : D) = _;with_reducible rfl) ),(by first | (show (_ : D) = _;with_reducible rfl) ),(by first | (show (_ : D) = _;with_reducible rfl) ),(by first | (show (_ : D) = _;with_reducible rfl) ),(by first | (show (_ : D) = _;with_reducible rfl) ),(by first | (show (_ : D) = _;with_reducible rfl) ),(congrArg (D.int .i64) (by simp only [List.length_map])),(by first | exact congrArg (D.int .i64) (by omega) ),trivial⟩,trivial⟩);all_goals (conv=>whnf)) | (refine loop1 (fun (k : Nat)=>t.length - k) (fun (k : Nat)=>k ≤ t.length ∧ parOf t d = parG (t.drop k) d k) (fun (k : Nat)=>[(1,.d (i d)),(10,.d (treeD t)),(11,.d (i t.length)),(12,.d (i k))]) (fun (k : Nat)=>[]) (0) (by exact ⟨Nat.zero_le _,rfl⟩) ?_ (fun k C hI hC=>?_);(exact ⟨[],rfl,rfl,⟨(by first | (show (_ : D) = _;with_reducible rfl) ),(by first | (show (_ : D) = _;with_reducible rfl) ),(by first | exact congrArg (D.int .i64) (by simp only [List.length_map]) ),(by first | exact congrArg (D.int .i64) (by omega) ),trivial⟩,trivial⟩);all_goals (conv=>whnf)))
 | ((with_reducible show C _ _);first | (refine hC (k + 1) _ _ ?_ (by omega) ?_;clear hC;rotate_left;(exact ⟨[],rfl,rfl,⟨(by first | (show (_ : D) = _;with_reducible rfl) ),(by first | (show (_ : D) = _;with_reducible rfl) ),(by first | (show (_ : D) = _;with_reducible rfl) ),(by first | exact congrArg (D.int .i64) (by omega) ),trivial⟩,trivial⟩);(exact ⟨by omega,par_k (by omega) (by omega) hI.2 hIi.2⟩)))
 | ((with_reducible show Ci _ _);first | (refine hCi (m + 1) _ _ ?_ (by omega) ?_;clear hCi;rotate_left;(exact ⟨[],rfl,rfl,⟨(by first | (show (_ : D) = _;with_reducible rfl) ),(by first | (show (_ : D) = _;with_reducible rfl) ),(by first | (show (_ : D) = _;with_reducible rfl) ),(by first | (show (_ : D) = _;with_reducible rfl) ),(by first | (show (_ : D) = _;with_reducible rfl) ),(by first | (show (_ : D) = _;with_reducible rfl) ),(by first | (show (_ : D) = _;with_reducible rfl) ),(by first | exact congrArg (D.int .i64) (by omega) ),trivial⟩,trivial⟩);(exact ⟨by omega,par_m (by omega) (by omega) hIi.2 (by assumption)⟩)))
 | (refine ix_map (by omega) ?_;conv=>whnf)
 | (refine wrap64 (by omega) ?_;conv=>whnf)
 | (refine wrap64 (by have:=B.tl;have:=B.el _ (List.getElem_mem (by omega : k < t.length));omega) ?_;conv=>whnf)
 | ((with_reducible refine endx_go ?_);first | (exact endx2 (par_f (by omega) (by omega) hI.2 hIi.2 (by assumption));done) | (exact endx2 (par_e (by omega) hI.2);done))
  | fail
  )
theorem c87 (t : List Nod) (B : Tb t) (d : Int) : Fn 87 [treeD t,i d] (.tup [i (parOf t d).1,.str (parOf t d).2]):=by
 have hbt:=B.tl
 refine run_walkF eok Tryz.func87 rfl (by kernel_rfl) ?_
 conv=>whnf
 repeat' (first
 | ((with_reducible refine on_dec (fun h=>?_) (fun h=>?_))<;>(try simp only [List.length_map] at h)<;>conv=>whnf)
 | (refine ⟨[],[],(by decide +kernel),?_⟩;conv=>whnf)
 | ((with_reducible refine loop_go ?_);first | (refine loop1 (fun (m : Nat)=>(t[k]'(by omega)).ents.length - m) (fun (m : Nat)=>m ≤ (t[k]'(by omega)).ents.length ∧ entTo (t[k]'(by omega)).ents d = entTo ((t[k]'(by omega)).ents.drop m) d) (fun (m : Nat)=>[(0,.d (treeD t)),(1,.d (i d)),(6,.d (i k)),(7,.d (i m))]) (fun (m : Nat)=>[]) (0) (by exact ⟨Nat.zero_le _,rfl⟩) ?_ (fun m Ci hIi hCi=>?_);(exact ⟨[],rfl,rfl,⟨(by first | (show (_ : D) = _;with_reducible rfl) ),(by first | (show (_ : D) = _;with_reducible rfl) ),(by first | (show (_ : D) = _;with_reducible rfl) ),(by first | exact congrArg (D.int .i64) (by omega) ),trivial⟩,trivial⟩);all_goals (conv=>whnf)) | (refine loop1 (fun (k : Nat)=>t.length - k) (fun (k : Nat)=>k ≤ t.length ∧ parOf t d = parG (t.drop k) d k) (fun (k : Nat)=>[(0,.d (treeD t)),(1,.d (i d)),(6,.d (i k))]) (fun (k : Nat)=>[]) (0) (by exact ⟨Nat.zero_le _,rfl⟩) ?_ (fun k C hI hC=>?_);(exact ⟨[],rfl,rfl,⟨(by first | (show (_ : D) = _;with_reducible rfl) ),(by first | (show (_ : D) = _;with_reducible rfl) ),(by first | exact congrArg (D.int .i64) (by omega) ),trivial⟩,trivial⟩);all_goals (conv=>whnf)))
 | ((with_reducible show C _ _);first | (refine hC (k + 1) _ _ ?_ (by omega) ?_;clear hC;rotate_left;(exact ⟨[],rfl,rfl,⟨(by first | (show (_ : D) = _;with_reducible rfl) ),(by first | (show (_ : D) = _;with_reducible rfl) ),(by first | exact congrArg (D.int .i64) (by omega) ),trivial⟩,trivial⟩);(exact ⟨by omega,par_k (by omega) (by omega) hI.2 hIi.2⟩)))
 | ((with_reducible show Ci _ _);first | (refine hCi (m + 1) _ _ ?_ (by omega) ?_;clear hCi;rotate_left;(exact ⟨[],rfl,rfl,⟨(by first | (show (_ : D) = _;with_reducible rfl) ),(by first | (show (_ : D) = _;with_reducible rfl) ),(by first | (show (_ : D) = _;with_reducible rfl) ),(by first | exact congrArg (D.int .i64) (by omega) ),trivial⟩,trivial⟩);(exact ⟨by omega,par_m (by omega) (by omega) hIi.2 (by assumption)⟩)))
 | (refine ix_map (by omega) ?_;conv=>whnf)
 | (refine wrap64 (by omega) ?_;conv=>whnf)
 | (refine wrap64 (by have:=B.tl;have:=B.el _ (List.getElem_mem (by omega : k < t.length));omega) ?_;conv=>whnf)
 | ((with_reducible refine endx_go ?_);first | (exact endx2 (par_f (by omega) (by omega) hI.2 hIi.2 (by assumption));done) | (exact endx2 (par_e (by omega) hI.2);done))
  | fail
  )
theorem c84 (l : List Int) (hl : l.length < 1000000) : Run Tryz.prog 84 (([.fs (l.map i)] : List D).map .d) [] (.sl 0 0 l.length 1 none) [⟨(l.map i).map .d,1,0⟩]:=by
 refine run_walkF eok Tryz.func84 rfl (by kernel_rfl) ?_
 conv=>whnf
 repeat' (first
 | (refine ⟨(by intro y hy;obtain ⟨x,_,rfl⟩:=List.mem_map.1 hy;first | exact ⟨rfl,rfl⟩),?_⟩;conv=>whnf)
 | (refine ⟨cap_ok (by first | (simp only [List.length_map];omega)) rfl,?_⟩;conv=>whnf)
 | ((with_reducible refine endx_go ?_);first | (exact endX_of (.inl ⟨[.old 0],rfl,rfl,⟨⟨rfl,rfl,(by simp only [List.length_map]),rfl,rfl⟩,trivial⟩,⟨rfl,rfl,.inl ⟨_,rfl,rfl⟩⟩,trivial⟩);done))
  | fail
  )
theorem c85a (t : List Nod) (st e : Int) (h0 : 0 ≤ st) (h1 : st ≤ 100) (h8 : st + 1 ≤ 8) : Run Tryz.prog 85 (.ptr 0 0 0 :: ([] : List D).map .d) [woO t st e] (.tup []) [woO t (st + 1) e]:=by
 refine run_walkF eok Tryz.func85 rfl (by kernel_rfl) ?_
 conv=>whnf
 repeat' (first
 | ((with_reducible refine on_dec_f ?_ ?_);(focus ((try simp only [List.length_map,List.length_cons,List.length_nil,List.length_append]);omega));conv=>whnf)
 | (refine wrap64 (by omega) ?_;conv=>whnf)
 | ((with_reducible refine endx_go ?_);first | (exact endX_of (.inl ⟨[.old 0],rfl,rfl,⟨trivial,trivial⟩,⟨⟨rfl,rfl,.inr ⟨⟨rfl,rfl,rfl,rfl,trivial⟩,trivial⟩⟩,trivial⟩⟩);done))
  | fail
  )
theorem c85b (t : List Nod) (st e : Int) (h0 : 0 ≤ st) (h1 : st ≤ 100) (h8 : 8 < st + 1) : Run Tryz.prog 85 (.ptr 0 0 0 :: ([] : List D).map .d) [woO t st e] (.tup []) [woO t (st + 1) 25]:=by
 refine run_walkF eok Tryz.func85 rfl (by kernel_rfl) ?_
 conv=>whnf
 repeat' (first
 | ((with_reducible refine on_dec_t (by assumption) ?_);conv=>whnf)
 | (refine wrap64 (by omega) ?_;conv=>whnf)
 | ((with_reducible refine endx_go ?_);first | (exact endX_of (.inl ⟨[.old 0],rfl,rfl,⟨trivial,trivial⟩,⟨⟨rfl,rfl,.inr ⟨⟨rfl,rfl,rfl,rfl,trivial⟩,trivial⟩⟩,trivial⟩⟩);done))
  | fail
  )
end Go.Proofs.YtpfokhdelnlciaaGreatDoor
namespace Go.Proofs.YtpfokhdelnlciaaGreatDoor
open Go Dw
set_option maxRecDepth 10000
attribute [local irreducible] Run
set_option maxHeartbeats 1000000
open Paths
attribute [local irreducible] nameErr cut normal dots partErr text parse glue fold within
abbrev strL (l : List Bs) : D:=.fs (l.map .str)
theorem rs_tl {p : Bs} {r : List Bs} {hi : Int} {K : List D → Prop} (h : hi = ((r.length + 1 : Nat) : Int)) (k : K (r.map .str)) : rowSl ((p :: r).map .str) 1 hi 1 K:=by
 subst h
 refine ⟨.mk,⟨by decide,by omega,by simp,fun y hy=>?_⟩,?_⟩
 ·obtain ⟨x,_,rfl⟩:=List.mem_map.1 hy;rfl
 ·have : (((p :: r).map D.str).take ((r.length + 1 : Nat) : Int).toNat).drop (1 : Int).toNat = r.map D.str:=by
   show ((D.str p :: r.map D.str).take (r.length + 1)).drop 1 = _
   rw [List.take_of_length_le (by simp)];rfl
  rw [this];exact k
theorem ix_hd {p : Bs} {r : List Bs} {K : D → Prop} (k : K (.str p)) : 0 ≤ (0 : Int) ∧ nthK (List.map D.str (p :: r)) (Int.toNat 0) K:=⟨by decide,k⟩
theorem fol_big {t : List Nod} {n : Nat} {tr : List Int} {ps : List Bs} {last : Bool} {st : Int} {o : Fo} (h : fol t n tr ps last st = some o) (hb : 64 < ps.length) : o = ⟨noFd,25,st⟩:=by
 cases ps with
 | nil=>simp at hb
 | cons p r=>
  obtain ⟨m,rfl,hc⟩:=fol_cons h
  rw [fol_1] at h
  unfold folS at h
  rw [if_pos (by simpa using hb)] at h
  cases h;rfl
theorem OkI.nn {t : List Nod} {n : Int} (h : OkI t n) : 0 ≤ n:=h.1
theorem OkP.tl {p : Bs} {r : List Bs} (h : OkP (p :: r)) : OkP r:=fun x hx=>h x (by simp [hx])
theorem tr_cut {t : List Nod} {tr : List Int} (h : OkT t tr) : ∃ r,tr = 0 :: r:=by
 have h1:=h.1
 cases tr with
 | nil=>cases h1
 | cons a r=>simp at h1;exact ⟨r,by rw [h1]⟩
theorem rowI_cut {μ : List Mu} {tr : List Int} (h : 0 < tr.length) : ∃ l0 rest : List AV,rowI tr = l0 ++ rest ∧ tr.length - 1 = l0.length ∧ ((∃ l : List D,l0 = l.map .d ∧ rowI tr.dropLast = l.map .d) ∨ wks μ l0 (rowI tr.dropLast)):=
 ⟨rowI tr.dropLast,rowI [tr.getLast (by intro e;subst e;simp at h)],by show _ = List.map AV.d (List.map i _) ++ List.map AV.d (List.map i _);rw [← List.map_append,← List.map_append,List.dropLast_concat_getLast],by simp,.inl ⟨_,rfl,rfl⟩⟩
theorem rowI_cutA {t : List Nod} {μ : List Mu} {tr : List Int} (h : OkT t tr) : ∃ l0 rest : List AV,rowI tr = l0 ++ rest ∧ 1 = l0.length ∧ ((∃ l : List D,l0 = l.map .d ∧ rowI [0] = l.map .d) ∨ wks μ l0 (rowI [0])):=by
 obtain ⟨r,rfl⟩:=tr_cut h
 exact ⟨rowI [0],rowI r,rfl,rfl,.inl ⟨_,rfl,rfl⟩⟩
theorem rowI_app {μ : List Mu} {tr : List Int} {x : Int} : wks μ (((rowI tr).drop 0).take tr.length ++ [.d (i x)]) (rowI (tr ++ [x])):=by
 rw [List.drop_zero,List.take_of_length_le (by simp [rowI])]
 have : rowI tr ++ [.d (i x)] = rowI (tr ++ [x]):=by simp [rowI]
 rw [this];exact wksd _ _
theorem run_clip {tr : List Int} (h1 : 0 < tr.length) {H : Heap} {id : Nat} (h : H[id]? = some ⟨rowI tr,1,0⟩) {n : Nat} {c : Option Nat} (hn : n = tr.length) : Run Tryz.prog 118 [.sl id 0 n 1 c] H (.sl id 0 n 1 (some n)) H:=by
 subst hn
 refine run_at (σ:=[id]) (F:=[]) (fl:=false) (c118 tr c h1) (by simp) (fun _ h=>by cases h) ⟨⟨rfl,rfl,rfl,rfl,rfl⟩,trivial⟩ ⟨(nthK_iff _ _).2 ⟨_,h,rfl,rfl,.inl ⟨_,rfl,rfl⟩⟩,trivial⟩ (fun h=>by cases h) rfl ?_
 show setAll (Dw.freeze H []) [id] _ ++ _ = _
 have e : renO (tau [id] H.length) ⟨rowI tr,1,0⟩ = ⟨rowI tr,1,0⟩:=by simp only [renO,rowI,rens_D]
 simp only [setAll,List.map_cons,List.map_nil,List.length_cons,List.length_nil,List.drop_succ_cons,List.drop_zero,e,List.append_nil]
 show H.set id _ = H
 obtain ⟨hl,rfl'⟩:=List.getElem?_eq_some_iff.1 h
 rw [← rfl'];exact List.set_getElem_self hl
theorem reach_d (n : Nat) (H : Heap) : ∀ l : List D,(l.map AV.d).flatMap (reach n H) = []
 | []=>rfl
 | x :: l=>by
  rw [List.map_cons,List.flatMap_cons,reach_d n H l,List.append_nil]
  cases n<;>rfl
theorem run_fnd {a b : Int} {s : Bs} {tr : List Int} {H : Heap} {id : Nat} (h : H[id]? = some ⟨rowI tr,1,0⟩) {n : Nat} {c : Option Nat} (hn : n = tr.length) : Run Tryz.prog 117 [.d (i a),.d (i b),.d (.str s),.sl id 0 n 1 c] H (.d (Fd.enc ⟨a,b,s,tr⟩ [] 0)) (Dw.freeze H [id]):=by
 have hr : reach 8 H (.sl id 0 n 1 c) = [id]:=by
  show id :: (match H[id]? with | some o=>o.elems.flatMap (reach 7 H) | none=>[]) = _
  rw [h]
  simp only [rowI,reach_d]
 refine run_at (σ:=[]) (F:=[id]) (fl:=false) (c117 a b s tr) (by simp) (fun _ _ h=>by cases h) ⟨⟨rfl,fun _ h=>by cases h⟩,⟨rfl,fun _ h=>by cases h⟩,⟨rfl,fun _ h=>by cases h⟩,⟨view_mapL (f:=i) (l:=tr) hn h (by decide),fun j hj=>by rw [hr] at hj;exact hj⟩,trivial⟩ trivial (fun h=>by cases h) rfl ?_
 simp [outH,setAll]
theorem len0 {r : List Bs} (h : r = []) : ((r.map D.str).length : Int) = 0:=by subst h;rfl
theorem lenN {r : List Bs} (h : r ≠ []) : ¬ ((r.map D.str).length : Int) = 0:=by
 rw [List.length_map];intro e;exact h (List.length_eq_zero_iff.1 (by omega))
theorem gm_a {n : Nat} (h : 1 < n) : goMax 1 ((n : Int) - 1) = ((n - 1 : Nat) : Int):=by unfold goMax;split<;>omega
theorem gm_b {n : Nat} (h : ¬ 1 < n) : goMax 1 ((n : Int) - 1) = ((1 : Nat) : Int):=by unfold goMax;split<;>omega
theorem last_at {tr : List Int} {n : Nat} {K : AV → Prop} (hn : 0 < tr.length) (e : n = tr.length - 1) (k : K (.d (i (hereOf tr)))) : nthK (rowI tr) n K:=by
 subst e
 refine nthK_of (x:=.d (i (hereOf tr))) ?_ k
 rw [List.getElem?_map,List.getElem?_map,hereOf_at hn];rfl
section
variable {t : List Nod} (V : Vt t) {tr : List Int} (hT : OkT t tr) {p : Bs} (hp : partErr p = 0) (h0 : ¬ p = [46]) (h : ¬ p = [46,46])
include hp h0 h in
theorem nm_ok : nameErr p = 0:=by
 have : dots p = false:=by unfold dots;rw [decide_eq_false h0,decide_eq_false h];rfl
 unfold partErr at hp
 rwa [this,if_neg (by decide)] at hp
include hp in
theorem prt_len : p.length < 1000000:=by have:=(part_no hp).2.2.2;omega
include V hT hp h0 h
theorem c64N (hl : look (nodAt t (hereOf tr)).ents p < 0) : Fn 64 [treeD t,i (hereOf tr),.str p] (.tup [Ent.enc ⟨[],0⟩,.bool false]):=
 c64n t V.b _ p (prt_len hp) _ hT.here.get hT.here.1 (V.names hT.here) (nm_ok hp h0 h) hl
theorem c64F (hl : ¬ look (nodAt t (hereOf tr)).ents p < 0) : Fn 64 [treeD t,i (hereOf tr),.str p] (.tup [(entOf t tr p).enc,.bool true]):=
 c64f t V.b _ p (prt_len hp) _ hT.here.get hT.here.1 (V.names hT.here) (nm_ok hp h0 h) hl
end
theorem c35T {t : List Nod} (V : Vt t) {tr : List Int} (hT : OkT t tr) {p : Bs} (hl : ¬ look (nodAt t (hereOf tr)).ents p < 0) (k0 : ¬ (nodAt t (entOf t tr p).node).kind = 0) (k1 : ¬ (nodAt t (entOf t tr p).node).kind = 1) : Fn 35 [.str (nodAt t (entOf t tr p).node).target] (.tup [PPe (tgtOf t tr p),i 0]):=by
 have:=c35 (nodAt t (entOf t tr p).node).target
 rwa [V.targ (V.next hT hl) k0 k1] at this
theorem c30T {t : List Nod} (V : Vt t) {tr : List Int} (hT : OkT t tr) {p : Bs} (hl : ¬ look (nodAt t (hereOf tr)).ents p < 0) (k0 : ¬ (nodAt t (entOf t tr p).node).kind = 0) (k1 : ¬ (nodAt t (entOf t tr p).node).kind = 1) : Fn 30 [.str (nodAt t (entOf t tr p).node).target] (.tup [PPe (tgtOf t tr p),i 0]):=by
 have:=c30 (nodAt t (entOf t tr p).node).target
 rwa [V.targ (V.next hT hl) k0 k1] at this
theorem c53nt {p : Prop} {_ : Decidable p} (e : Int) (h : ¬ p) : Fn 53 [.bool (!decide p),i e] (i 0):=by rw [decide_eq_false h];exact c53t e
theorem c53nf {p : Prop} {_ : Decidable p} (e : Int) (h : p) : Fn 53 [.bool (!decide p),i e] (i e):=by rw [decide_eq_true h];exact c53f e
theorem c52y {a b : Int} (h : a = 0) : Fn 52 [.fs [i a,i b]] (i b):=by subst h;exact c52z
theorem capS {fr : Bool} {a b : Nat} (h : fr = true → a = b) : (match capO fr a with | some c=>some (c - 0) | none=>none) = capO fr b:=by
 cases fr
 ·rfl
 ·rw [h rfl];rfl
def P83 (t : List Nod) (n : Nat) : Prop:=∀ m < n,∀ (ps : List Bs) (last : Bool) (st : Int) (o : Fo),OkP ps → ps.length ≤ 64 → 0 ≤ st → st ≤ 8 → fol t m [0] ps last st = some o → Run Tryz.prog 83 (.ptr 0 0 0 :: ([strL ps,.bool last] : List D).map .d) [foO t st] (.d (.tup [o.x.enc [] 0,i o.e])) [foO t o.st]
def zeroF : AV:=.agg [.d (i 0),.d (i 0),.d (.str []),.d (.str []),.d (i 0),.nilS]
attribute [local irreducible] entTo parG parOf fol look entR entOf tgtOf nodAt hereOf OkT OkI zeroF
theorem c120a (t : List Nod) (V : Vt t) (q : Fo) (ps : List Bs) (st : Int) (hr : Run Tryz.prog 83 (.ptr 0 0 0 :: ([strL ps,.bool true] : List D).map .d) [foO t st] (.d (.tup [q.x.enc [] 0,i q.e])) [foO t q.st]) (he : ¬ q.e = 0) (hn : ¬ q.x.node = -1) : Run Tryz.prog 120 (.ptr 0 0 0 :: ([strL ps] : List D).map .d) [foO t st] (.d (.tup [i (0),i (q.e)])) [foO t q.st]:=by
 refine run_walkF eok Tryz.func120 rfl (by kernel_rfl) ?_
 conv=>whnf
 repeat' (first
 | ((with_reducible refine on_ndec_f (by assumption) ?_);conv=>whnf)
 | ((with_reducible refine call_go ?_);(first | refine call_step (run_rcv (hr) (fun _=>rfl) (l':=[_]) rfl rfl ⟨rfl,rfl,.inl ⟨[_],rfl,rfl⟩⟩ (vl_data _ [_,_]) (fun j hj=>absurd hj (List.not_mem_nil))) ?_ | refine call_step (run_data (xs:=[_,_]) (c53nt (p:=q.x.node = -1) 6 hn) _) ?_ | refine call_step (run_view (c52e (a:=q.e) (b:=0) he) rfl (vlc rfl vln)) ?_);conv=>whnf)
 | ((with_reducible refine endx_go ?_);first | (exact endx_tup2_old1 (l:=[_]) (rfl) rfl rfl rfl rfl;done) )
  | fail
  )
theorem c120b (t : List Nod) (V : Vt t) (q : Fo) (ps : List Bs) (st : Int) (hr : Run Tryz.prog 83 (.ptr 0 0 0 :: ([strL ps,.bool true] : List D).map .d) [foO t st] (.d (.tup [q.x.enc [] 0,i q.e])) [foO t q.st]) (he : ¬ q.e = 0) (hn : q.x.node = -1) : Run Tryz.prog 120 (.ptr 0 0 0 :: ([strL ps] : List D).map .d) [foO t st] (.d (.tup [i (0),i (q.e)])) [foO t q.st]:=by
 refine run_walkF eok Tryz.func120 rfl (by kernel_rfl) ?_
 conv=>whnf
 repeat' (first
 | ((with_reducible refine on_ndec_f (by assumption) ?_);conv=>whnf)
 | ((with_reducible refine call_go ?_);(first | refine call_step (run_rcv (hr) (fun _=>rfl) (l':=[_]) rfl rfl ⟨rfl,rfl,.inl ⟨[_],rfl,rfl⟩⟩ (vl_data _ [_,_]) (fun j hj=>absurd hj (List.not_mem_nil))) ?_ | refine call_step (run_data (xs:=[_,_]) (c53nf (p:=q.x.node = -1) 6 hn) _) ?_ | refine call_step (run_view (c52e (a:=q.e) (b:=6) he) rfl (vlc rfl vln)) ?_);conv=>whnf)
 | ((with_reducible refine endx_go ?_);first | (exact endx_tup2_old1 (l:=[_]) (rfl) rfl rfl rfl rfl;done) )
  | fail
  )
theorem c120c (t : List Nod) (V : Vt t) (q : Fo) (ps : List Bs) (st : Int) (hr : Run Tryz.prog 83 (.ptr 0 0 0 :: ([strL ps,.bool true] : List D).map .d) [foO t st] (.d (.tup [q.x.enc [] 0,i q.e])) [foO t q.st]) (he : q.e = 0) (hn : q.x.node = -1) : Run Tryz.prog 120 (.ptr 0 0 0 :: ([strL ps] : List D).map .d) [foO t st] (.d (.tup [i (0),i (6)])) [foO t q.st]:=by
 refine run_walkF eok Tryz.func120 rfl (by kernel_rfl) ?_
 conv=>whnf
 repeat' (first
 | ((with_reducible refine call_go ?_);(first | refine call_step (run_rcv (hr) (fun _=>rfl) (l':=[_]) rfl rfl ⟨rfl,rfl,.inl ⟨[_],rfl,rfl⟩⟩ (vl_data _ [_,_]) (fun j hj=>absurd hj (List.not_mem_nil))) ?_ | refine call_step (run_data (xs:=[_,_]) (c53nf (p:=q.x.node = -1) 6 hn) _) ?_ | refine call_step (run_view (c52y (a:=q.e) (b:=6) he) rfl (vlc rfl vln)) ?_);conv=>whnf)
 | ((with_reducible refine endx_go ?_);first | (exact endx_tup2_old1 (l:=[_]) (rfl) rfl rfl rfl rfl;done) )
  | fail
  )
theorem c120d (t : List Nod) (V : Vt t) (q : Fo) (ps : List Bs) (st : Int) (hr : Run Tryz.prog 83 (.ptr 0 0 0 :: ([strL ps,.bool true] : List D).map .d) [foO t st] (.d (.tup [q.x.enc [] 0,i q.e])) [foO t q.st]) (he : q.e = 0) (hn : ¬ q.x.node = -1) (hN : OkI t q.x.node) (hk : (nodAt t q.x.node).kind = 0) : Run Tryz.prog 120 (.ptr 0 0 0 :: ([strL ps] : List D).map .d) [foO t st] (.d (.tup [i (q.x.node),i (0)])) [foO t q.st]:=by
 refine run_walkF eok Tryz.func120 rfl (by kernel_rfl) ?_
 conv=>whnf
 repeat' (first
 | ((with_reducible refine call_go ?_);(first | refine call_step (run_rcv (hr) (fun _=>rfl) (l':=[_]) rfl rfl ⟨rfl,rfl,.inl ⟨[_],rfl,rfl⟩⟩ (vl_data _ [_,_]) (fun j hj=>absurd hj (List.not_mem_nil))) ?_ | refine call_step (run_data (xs:=[_,_]) (c53nt (p:=q.x.node = -1) 6 hn) _) ?_ | refine call_step (run_data (xs:=[_,_]) (c53y (p:=(nodAt t q.x.node).kind = 0) 35 hk) _) ?_ | refine call_step (run_view (c52y (a:=q.e) (b:=0) he) rfl (vlc rfl vln)) ?_);conv=>whnf)
 | (refine ⟨[],[(1,12)],(by decide +kernel),?_⟩;conv=>whnf)
 | (refine ix_nd hN.nn hN.get ?_;conv=>whnf)
 | ((with_reducible refine endx_go ?_);first | (exact endx_tup2_old1 (l:=[_]) (rfl) rfl rfl rfl rfl;done))
 | (refine ⟨rfl,?_⟩;conv=>whnf)
  | fail
  )
theorem c120e (t : List Nod) (V : Vt t) (q : Fo) (ps : List Bs) (st : Int) (hr : Run Tryz.prog 83 (.ptr 0 0 0 :: ([strL ps,.bool true] : List D).map .d) [foO t st] (.d (.tup [q.x.enc [] 0,i q.e])) [foO t q.st]) (he : q.e = 0) (hn : ¬ q.x.node = -1) (hN : OkI t q.x.node) (hk : ¬ (nodAt t q.x.node).kind = 0) : Run Tryz.prog 120 (.ptr 0 0 0 :: ([strL ps] : List D).map .d) [foO t st] (.d (.tup [i (q.x.node),i (35)])) [foO t q.st]:=by
 refine run_walkF eok Tryz.func120 rfl (by kernel_rfl) ?_
 conv=>whnf
 repeat' (first
 | ((with_reducible refine call_go ?_);(first | refine call_step (run_rcv (hr) (fun _=>rfl) (l':=[_]) rfl rfl ⟨rfl,rfl,.inl ⟨[_],rfl,rfl⟩⟩ (vl_data _ [_,_]) (fun j hj=>absurd hj (List.not_mem_nil))) ?_ | refine call_step (run_data (xs:=[_,_]) (c53nt (p:=q.x.node = -1) 6 hn) _) ?_ | refine call_step (run_data (xs:=[_,_]) (c53d (p:=(nodAt t q.x.node).kind = 0) 35 hk) _) ?_ | refine call_step (run_view (c52y (a:=q.e) (b:=0) he) rfl (vlc rfl vln)) ?_);conv=>whnf)
 | (refine ⟨[],[(1,12)],(by decide +kernel),?_⟩;conv=>whnf)
 | (refine ix_nd hN.nn hN.get ?_;conv=>whnf)
 | ((with_reducible refine endx_go ?_);first | (exact endx_tup2_old1 (l:=[_]) (rfl) rfl rfl rfl rfl;done))
 | (refine ⟨rfl,?_⟩;conv=>whnf)
  | fail
  )
theorem c120x (t : List Nod) (V : Vt t) (q : Fo) (ps : List Bs) (st : Int) (hr : Run Tryz.prog 83 (.ptr 0 0 0 :: ([strL ps,.bool true] : List D).map .d) [foO t st] (.d (.tup [q.x.enc [] 0,i q.e])) [foO t q.st]) (he : ¬ q.e = 0) : Run Tryz.prog 120 (.ptr 0 0 0 :: ([strL ps] : List D).map .d) [foO t st] (.d (.tup [i 0,i q.e])) [foO t q.st]:=by
 by_cases hn : q.x.node = -1
 ·exact c120b t V q ps st hr he hn
 ·exact c120a t V q ps st hr he hn
theorem c83 (t : List Nod) (V : Vt t) (n : Nat) (IH : P83 t n) (ps0 : List Bs) (last : Bool) (st0 : Int) (o : Fo) (hP0 : OkP ps0) (hl0 : ps0.length ≤ 64) (hs0 : 0 ≤ st0) (hs8 : st0 ≤ 8) (hn : n ≤ 2000) (hF0 : fol t n [0] ps0 last st0 = some o) : Run Tryz.prog 83 (.ptr 0 0 0 :: ([strL ps0,.bool last] : List D).map .d) [foO t st0] (.d (.tup [o.x.enc [] 0,i o.e])) [foO t o.st]:=by
 refine run_walkF eok Tryz.func83 rfl (by kernel_rfl) ?_
 conv=>whnf
 repeat' (first
 | ((with_reducible refine on_dec_t (by assumption) ?_);conv=>whnf)
 | ((with_reducible refine on_dec_f (by assumption) ?_);conv=>whnf)
 | ((with_reducible refine onBool_t (by assumption) ?_);conv=>whnf)
 | ((with_reducible refine onBool_f (by assumption) ?_);conv=>whnf)
 | ((with_reducible refine on_nt (by assumption) ?_);conv=>whnf)
 | ((with_reducible refine on_ndec_f (by assumption) ?_);conv=>whnf)
 | ((with_reducible refine on_ndec_t (by omega) ?_);conv=>whnf)
 | ((with_reducible refine on_ndec_f (by omega) ?_);conv=>whnf)
 | ((with_reducible refine on_dec_f ?_ ?_);(focus ((try simp only [List.length_map,List.length_cons,List.length_nil,List.length_append]);omega));conv=>whnf)
 | ((with_reducible refine on_dec_t ?_ ?_);(focus ((try simp only [List.length_map,List.length_cons,List.length_nil,List.length_append]);omega));conv=>whnf)
 | ((with_reducible refine on_dec (fun h=>?_) (fun h=>?_))<;>(try simp only [List.length_map] at h)<;>conv=>whnf)
 | ((with_reducible refine call_go ?_);(first | refine call_step (run_data (xs:=[_,_,_]) (c64N V hT hp hz0 hz hl) _) ?_ | refine call_step (run_data (xs:=[_,_,_]) (c64F V hT hp hz0 hz hl) _) ?_ | refine call_step (run_fnd (tr:=tr) rfl rfl) ?_ | refine call_step (run_data (xs:=[_,_]) (c53y (p:=((r.map D.str).length : Int) = 0) 6 hr0) _) ?_ | refine call_step (run_data (xs:=[_,_]) (c53y (p:=((r.map D.str).length : Int) = 0) 35 hr0) _) ?_ | refine call_step (run_data (xs:=[_,_]) (c53d (p:=((r.map D.str).length : Int) = 0) 6 hr0) _) ?_ | refine call_step (run_data (xs:=[_,_]) (c53d (p:=((r.map D.str).length : Int) = 0) 35 hr0) _) ?_ | refine call_step (run_data (xs:=[_,_]) (c53t 35) _) ?_ | refine call_step (run_clip hT.ne rfl rfl) ?_ | refine call_step (run_rcv (c119a t st h0 (by omega) h8) (fun _=>rfl) (l':=[_]) rfl rfl ⟨rfl,rfl,.inl ⟨[_],rfl,rfl⟩⟩ (vl_data _ []) (fun j hj=>absurd hj (List.not_mem_nil))) ?_ | refine call_step (run_rcv (c119b t st h0 (by omega) (by omega)) (fun _=>rfl) (l':=[_]) rfl rfl ⟨rfl,rfl,.inl ⟨[_],rfl,rfl⟩⟩ (vl_data _ []) (fun j hj=>absurd hj (List.not_mem_nil))) ?_ | refine call_step (run_data (xs:=[_]) (c35T V hT hl (by omega) (by omega)) _) ?_ | refine call_step (run_rcv (c120x t V q (tgtOf t tr p).parts (st + 1) (IH m (by omega) (tgtOf t tr p).parts true (st + 1) q (V.tgt hT hl (by omega) (by omega)).1 (by omega) (by omega) (by omega) hg) he) (fun _=>rfl) (l':=[_]) rfl rfl ⟨rfl,rfl,.inl ⟨[_],rfl,rfl⟩⟩ (vl_data _ [_]) (fun j hj=>absurd hj (List.not_mem_nil))) ?_ | refine call_step (run_rcv (c120c t V q (tgtOf t tr p).parts (st + 1) (IH m (by omega) (tgtOf t tr p).parts true (st + 1) q (V.tgt hT hl (by omega) (by omega)).1 (by omega) (by omega) (by omega) hg) he hn) (fun _=>rfl) (l':=[_]) rfl rfl ⟨rfl,rfl,.inl ⟨[_],rfl,rfl⟩⟩ (vl_data _ [_]) (fun j hj=>absurd hj (List.not_mem_nil))) ?_ | refine call_step (run_rcv (c120e t V q (tgtOf t tr p).parts (st + 1) (IH m (by omega) (tgtOf t tr p).parts true (st + 1) q (V.tgt hT hl (by omega) (by omega)).1 (by omega) (by omega) (by omega) hg) he hn hN hk) (fun _=>rfl) (l':=[_]) rfl rfl ⟨rfl,rfl,.inl ⟨[_],rfl,rfl⟩⟩ (vl_data _ [_]) (fun j hj=>absurd hj (List.not_mem_nil))) ?_ | refine call_step (run_rcv (c120d t V q (tgtOf t tr p).parts (st + 1) (IH m (by omega) (tgtOf t tr p).parts true (st + 1) q (V.tgt hT hl (by omega) (by omega)).1 (by omega) (by omega) (by omega) hg) he hn hN hk) (fun _=>rfl) (l':=[_]) rfl rfl ⟨rfl,rfl,.inl ⟨[_],rfl,rfl⟩⟩ (vl_data _ [_]) (fun j hj=>absurd hj (List.not_mem_nil))) ?_ | refine call_step (run_viewF (c68ab (tgtOf t tr p).parts r (by omega) (by omega)) rfl) ?_ | refine call_step (run_data (xs:=[_,_]) (c121 t V.b _) _) ?_);conv=>whnf)
 | (refine ⟨[],[],(by decide +kernel),?_⟩;conv=>whnf)
 | (refine ⟨[25],[(3,1)],(by decide +kernel),?_⟩;conv=>whnf)
 | ((with_reducible refine loop_go ?_);first | (refine loop5 (fun (tr : List Int) (ps : List Bs) (st : Int) (m : Nat) (fr : Bool)=>m) (fun (tr : List Int) (ps : List Bs) (st : Int) (m : Nat) (fr : Bool)=>OkT t tr ∧ OkP ps ∧ ps.length ≤ 64 ∧ 0 ≤ st ∧ st ≤ 8 ∧ tr.length + m ≤ 5000 ∧ m ≤ n ∧ (fr = true → tr.length = 1) ∧ fol t m tr ps last st = some o) (fun (tr : List Int) (ps : List Bs) (st : Int) (m : Nat) (fr : Bool)=>[(0,.ptr 0 0 0),(1,.d (strL ps)),(2,.d (.bool last)),(6,.ptr 1 0 0),(8,.sl 2 0 tr.length 1 (capO fr tr.length))]) (fun (tr : List Int) (ps : List Bs) (st : Int) (m : Nat) (fr : Bool)=>[foO t st,⟨[(E 27).zero],6,0⟩,⟨rowI tr,1,0⟩]) ([0]) (ps0) (st0) (n) (true) (by exact ⟨V.root,hP0,hl0,hs0,hs8,(by simp only [List.length_cons,List.length_nil];omega),Nat.le_refl _,fun _=>rfl,hF0⟩) ?_ (fun tr ps st m fr C hI hC=>?_);(exact ⟨[.old 0,.old 1,.old 2],rfl,rfl,⟨⟨rfl,rfl,rfl⟩,(by first | (show (_ : D) = _;with_reducible rfl) ),(by first | (show (_ : D) = _;with_reducible rfl) ),⟨rfl,rfl,rfl⟩,(by first | exact ⟨rfl,rfl,rfl,rfl,rfl⟩ ),trivial⟩,⟨⟨rfl,rfl,.inl ⟨[_],rfl,rfl⟩⟩,⟨rfl,rfl,.inr ⟨⟨rfl,rfl,rfl,rfl,rfl,trivial,trivial⟩,trivial⟩⟩,⟨rfl,rfl,.inl ⟨_,rfl,rfl⟩⟩,trivial⟩⟩);obtain ⟨hT,hP,hps,h0,h8x,hbd,hmn,hfr,hF⟩:=hI;have hTn:=hT.ne;rcases ps with (_ | ⟨p,r⟩);(rotate_left;obtain ⟨m,rfl,hc⟩:=fol_cons hF;have hp:=hP p (by simp);have hr64 : r.length + 1 ≤ 64:=hps;rcases hc with ⟨hb,he⟩ | ⟨hz,hf⟩ | ⟨hz0,hz,h1,hf⟩ | ⟨hz0,hz,h1,hf⟩ | ⟨hz0,hz,hl,hr,he⟩ | ⟨hz0,hz,hl,hr,he⟩ | ⟨hz0,hz,hl,hk,hf⟩ | ⟨hz0,hz,hl,hk,hr,he⟩ | ⟨hz0,hz,hl,hk,hr,he⟩ | ⟨hz0,hz,hl,k0,k1,hr,hfl,he⟩ | ⟨hz0,hz,hl,k0,k1,(hr | hr),h8,he⟩ | ⟨hz0,hz,hl,hk,(hr | hr),h8,hab,hf⟩ | ⟨hz0,hz,hl,hk,(hr | hr),h8,hab,hf⟩ | ⟨hz0,hz,hl,k0,k1,k2,(hr | hr),h8,q,hg,(⟨he,ho⟩ | ⟨he,hn,ho⟩ | ⟨he,hn,hk,ho⟩ | ⟨he,hn,hk,hf⟩)⟩;(exfalso;simp only [List.length_cons] at hps;omega);all_goals (try have hr0:=len0 hr);all_goals (try have hr0:=lenN hr);all_goals (try subst he);all_goals (try subst hfl);all_goals (try have hkk:=V.kind (V.next hT hl));all_goals (try have h16:=(V.tgt hT hl (by first | assumption | omega) (by first | assumption | omega)).2);all_goals (try subst ho);all_goals (try have hq:=fol_ok V m V.root hg);all_goals (try have hqs:=hq.1);all_goals (try have hqe:=hq.2 he);all_goals (try have hq8:=hqe.1 h8);all_goals (try have hN:=hqe.2.1.resolve_left hn));all_goals (try (have ho:=fol_nil hF;subst ho));all_goals (conv=>whnf)))
 | ((with_reducible show C _ _);first | (refine hC (tr) (r) (st) (m) (fr) _ _ ?_ (by omega) ?_;clear hC;rotate_left;(exact ⟨[.old 0,.old 1,.old 2],rfl,rfl,⟨⟨rfl,rfl,rfl⟩,(by first | (show (_ : D) = _;with_reducible rfl) ),(by first | (show (_ : D) = _;with_reducible rfl) ),⟨rfl,rfl,rfl⟩,(by first | exact ⟨rfl,rfl,rfl,rfl,rfl⟩ ),trivial⟩,⟨⟨rfl,rfl,.inl ⟨[_],rfl,rfl⟩⟩,⟨rfl,rfl,.inr ⟨⟨rfl,rfl,rfl,rfl,rfl,trivial,trivial⟩,trivial⟩⟩,⟨rfl,rfl,.inl ⟨_,rfl,rfl⟩⟩,trivial⟩⟩);(exact ⟨hT,hP.tl,(by omega),h0,h8x,by ((try simp only [List.length_append,List.length_cons,List.length_nil,List.length_dropLast]);omega),by omega,hfr,hf⟩)) | (refine hC (tr.dropLast) (r) (st) (m) (fr) _ _ ?_ (by omega) ?_;clear hC;rotate_left;(exact ⟨[.old 0,.old 1,.cut 2 (tr.length - 1)],rfl,rfl,⟨⟨rfl,rfl,rfl⟩,(by first | (show (_ : D) = _;with_reducible rfl) ),(by first | (show (_ : D) = _;with_reducible rfl) ),⟨rfl,rfl,rfl⟩,⟨⟨rfl,fun _=>(by omega)⟩,rfl,(by simp only [List.length_dropLast];omega),rfl,capS (fun e=>by have:=hfr e;omega)⟩,trivial⟩,⟨⟨rfl,rfl,.inl ⟨[_],rfl,rfl⟩⟩,⟨rfl,rfl,.inr ⟨⟨rfl,rfl,rfl,rfl,rfl,trivial,trivial⟩,trivial⟩⟩,⟨rfl,⟨rfl,rowI_cut hT.ne⟩⟩,trivial⟩⟩);(exact ⟨hT.drop h1,hP.tl,(by omega),h0,h8x,by ((try simp only [List.length_append,List.length_cons,List.length_nil,List.length_dropLast]);omega),by omega,(fun e=>by have:=hfr e;omega),hf⟩)) | (refine hC (tr) (r) (st) (m) (fr) _ _ ?_ (by omega) ?_;clear hC;rotate_left;(exact ⟨[.old 0,.old 1,.old 2],rfl,rfl,⟨⟨rfl,rfl,rfl⟩,(by first | (show (_ : D) = _;with_reducible rfl) ),(by first | (show (_ : D) = _;with_reducible rfl) ),⟨rfl,rfl,rfl⟩,⟨rfl,rfl,(by have:=hT.ne;omega),rfl,capS (fun e=>rfl)⟩,trivial⟩,⟨⟨rfl,rfl,.inl ⟨[_],rfl,rfl⟩⟩,⟨rfl,rfl,.inr ⟨⟨rfl,rfl,rfl,rfl,rfl,trivial,trivial⟩,trivial⟩⟩,⟨rfl,rfl,.inl ⟨_,rfl,rfl⟩⟩,trivial⟩⟩);(exact ⟨hT,hP.tl,(by omega),h0,h8x,by ((try simp only [List.length_append,List.length_cons,List.length_nil,List.length_dropLast]);omega),by omega,hfr,hf⟩)) | (refine hC (tr ++ [(entOf t tr p).node]) (r) (st) (m) (false) _ _ ?_ (by omega) ?_;clear hC;rotate_left;(exact ⟨[.old 0,.old 1,.old 5],rfl,rfl,⟨⟨rfl,rfl,rfl⟩,(by first | (show (_ : D) = _;with_reducible rfl) ),(by first | (show (_ : D) = _;with_reducible rfl) ),⟨rfl,rfl,rfl⟩,⟨rfl,rfl,(by simp),rfl,rfl⟩,trivial⟩,⟨⟨rfl,rfl,.inl ⟨[_],rfl,rfl⟩⟩,⟨rfl,rfl,.inr ⟨⟨rfl,rfl,rfl,rfl,rfl,trivial,trivial⟩,trivial⟩⟩,⟨rfl,rfl,.inr rowI_app⟩,trivial⟩⟩);(exact ⟨hT.snoc (V.next hT hl),hP.tl,(by omega),h0,h8x,by ((try simp only [List.length_append,List.length_cons,List.length_nil,List.length_dropLast]);omega),by omega,(fun e=>by cases e),hf⟩)) | (refine hC ([0]) ((tgtOf t tr p).parts ++ r) (st + 1) (m) (fr) _ _ ?_ (by omega) ?_;clear hC;rotate_left;(exact ⟨[.old 0,.old 1,.cut 2 1],rfl,rfl,⟨⟨rfl,rfl,rfl⟩,(by first | (show (_ : D) = _;with_reducible rfl) ),(by first | (show (_ : D) = _;with_reducible rfl) ),⟨rfl,rfl,rfl⟩,⟨⟨rfl,fun _=>Nat.le_refl _⟩,rfl,rfl,rfl,capS (fun e=>hfr e)⟩,trivial⟩,⟨⟨rfl,rfl,.inl ⟨[_],rfl,rfl⟩⟩,⟨rfl,rfl,.inr ⟨⟨rfl,rfl,rfl,rfl,rfl,trivial,trivial⟩,trivial⟩⟩,⟨rfl,⟨rfl,rowI_cutA hT⟩⟩,trivial⟩⟩);(exact ⟨V.root,((V.tgt hT hl (by omega) (by omega)).1.app hP.tl),(by first | omega | ((try simp only [List.length_append,List.length_cons,List.length_nil,List.length_dropLast]);omega)),(by omega),(by omega),by ((try simp only [List.length_append,List.length_cons,List.length_nil,List.length_dropLast]);omega),by omega,(fun _=>rfl),hf⟩)) | (refine hC (tr) ((tgtOf t tr p).parts ++ r) (st + 1) (m) (fr) _ _ ?_ (by omega) ?_;clear hC;rotate_left;(exact ⟨[.old 0,.old 1,.old 2],rfl,rfl,⟨⟨rfl,rfl,rfl⟩,(by first | (show (_ : D) = _;with_reducible rfl) ),(by first | (show (_ : D) = _;with_reducible rfl) ),⟨rfl,rfl,rfl⟩,(by first | exact ⟨rfl,rfl,rfl,rfl,rfl⟩ ),trivial⟩,⟨⟨rfl,rfl,.inl ⟨[_],rfl,rfl⟩⟩,⟨rfl,rfl,.inr ⟨⟨rfl,rfl,rfl,rfl,rfl,trivial,trivial⟩,trivial⟩⟩,⟨rfl,rfl,.inl ⟨_,rfl,rfl⟩⟩,trivial⟩⟩);(exact ⟨hT,((V.tgt hT hl (by omega) (by omega)).1.app hP.tl),(by first | omega | ((try simp only [List.length_append,List.length_cons,List.length_nil,List.length_dropLast]);omega)),(by omega),(by omega),by ((try simp only [List.length_append,List.length_cons,List.length_nil,List.length_dropLast]);omega),by omega,hfr,hf⟩)) | (refine hC (tr ++ [q.x.node]) (r) (q.st) (m) (false) _ _ ?_ (by omega) ?_;clear hC;rotate_left;(exact ⟨[.old 0,.old 1,.old 7],rfl,rfl,⟨⟨rfl,rfl,rfl⟩,(by first | (show (_ : D) = _;with_reducible rfl) ),(by first | (show (_ : D) = _;with_reducible rfl) ),⟨rfl,rfl,rfl⟩,⟨rfl,rfl,(by simp),rfl,rfl⟩,trivial⟩,⟨⟨rfl,rfl,.inl ⟨[_],rfl,rfl⟩⟩,⟨rfl,rfl,.inr ⟨⟨rfl,rfl,rfl,rfl,rfl,trivial,trivial⟩,trivial⟩⟩,⟨rfl,rfl,.inr rowI_app⟩,trivial⟩⟩);(exact ⟨hT.snoc hN,hP.tl,(by omega),(by omega),(by omega),by ((try simp only [List.length_append,List.length_cons,List.length_nil,List.length_dropLast]);omega),by omega,(fun e=>by cases e),hf⟩)))
 | (refine ⟨⟨(by first | (simp;done)),cap_ok (by simp only [List.length_map,List.length_cons,List.length_nil,List.length_append];omega) rfl⟩,?_⟩;conv=>whnf)
 | (refine ⟨mem_one ⟨rfl,rfl⟩,?_⟩;conv=>whnf)
 | (refine wrap64 (by omega) ?_;conv=>whnf)
 | (refine ⟨Nat.le_refl _,?_⟩;conv=>whnf)
 | (refine own_sl 0 (tr.length - 1) rfl (gm_a (by assumption)) ⟨Nat.zero_le _,by omega⟩ ?_;conv=>whnf)
 | (refine own_sl 0 1 rfl (gm_b (by assumption)) ⟨Nat.zero_le _,by omega⟩ ?_;conv=>whnf)
 | (refine own_sl 0 1 rfl rfl ⟨Nat.zero_le _,by omega⟩ ?_;conv=>whnf)
 | (refine ix_hd ?_;conv=>whnf)
 | (refine ix_nd (V.next hT hl).nn (V.next hT hl).get ?_;conv=>whnf)
 | (refine last_at hT.ne (by omega) ?_;conv=>whnf)
 | (refine rs_tl (by simp only [List.length_map,List.length_cons]) ?_;conv=>whnf)
 | (refine ⟨⟨by omega,by omega⟩,?_⟩;conv=>whnf)
 | ((with_reducible refine endx_go ?_);first | (have ho:=fol_big hf (by omega);subst ho;exact endX_of (.inl ⟨[.old 0],rfl,rfl,⟨⟨rfl,⟨rfl,rfl,rfl,rfl,rfl,rfl,rfl,trivial⟩,rfl,trivial⟩,trivial⟩,⟨⟨rfl,rfl,.inl ⟨[_],rfl,rfl⟩⟩,trivial⟩⟩);done) | (exact endx_tup2_old1 (l:=[_]) rfl rfl rfl rfl rfl;done) | (exact endX_of (.inl ⟨[.old 0],rfl,rfl,⟨⟨rfl,⟨rfl,rfl,rfl,rfl,rfl,rfl,rfl,trivial⟩,rfl,trivial⟩,trivial⟩,⟨⟨rfl,rfl,.inl ⟨[_],rfl,rfl⟩⟩,trivial⟩⟩);done))
 | (refine ⟨rfl,?_⟩;conv=>whnf)
  | fail
  )
theorem p83 {t : List Nod} (V : Vt t) : ∀ n ≤ 2001,P83 t n
 | 0,_=>fun m hm=>by omega
 | n + 1,hn=>fun m hm ps last st o h1 h2 h3 h4 h5=>by
  have IH : P83 t m:=fun k hk=>p83 V n (by omega) k (by omega)
  exact c83 t V m IH ps last st o h1 h2 h3 h4 (by omega) h5
end Go.Proofs.YtpfokhdelnlciaaGreatDoor
namespace Go.Proofs.YtpfokhdelnlciaaGreatDoor
open Go Dw
set_option maxRecDepth 10000
attribute [local irreducible] Run
set_option maxHeartbeats 1000000
open Paths
attribute [local irreducible] nameErr cut normal dots partErr text parse glue fold within
structure Rs where
 x : Fd
 s : Bs
 st : Int
 e : Int
def Rs.enc (r : Rs) : D:=r.x.enc r.s r.st
def folR (t : List Nod) (ps : List Bs) (last : Bool) : Fo:=(fol t 2000 [0] ps last 0).getD ⟨noFd,25,0⟩
def resP (t : List Nod) (s : Bs) (last : Bool) : Rs:=
 if (parse s).2 ≠ 0 then ⟨noFd,[],0,(parse s).2⟩ else if (parse s).1.abs = false then ⟨noFd,[],0,3⟩
 else if (folR t (parse s).1.parts last).e ≠ 0 then ⟨noFd,[],0,(folR t (parse s).1.parts last).e⟩ else ⟨(folR t (parse s).1.parts last).x,(parse s).1.stream,(folR t (parse s).1.parts last).st,0⟩
def resR (t : List Nod) (s : Bs) (last : Bool) : Rs:=if (checkT t).2 ≠ 0 then ⟨noFd,[],0,(checkT t).2⟩ else resP t s last
theorem folR_some {t : List Nod} (V : Vt t) {ps : List Bs} {last : Bool} (hl : ps.length ≤ 64) : fol t 2000 [0] ps last 0 = some (folR t ps last):=by
 obtain ⟨⟨o,ho⟩,_⟩:=fol_some V 2000 [0] ps last 0 V.root (by omega) (by omega)
 unfold folR;rw [ho];rfl
theorem parse_ok {s : Bs} (h : (parse s).2 = 0) : OkP (parse s).1.parts ∧ (parse s).1.parts.length ≤ 16:=by
 have:=parse_good h
 exact ⟨fun x hx=>(this.1 x hx).2,this.2⟩
section
variable {t : List Nod} {s : Bs} {last : Bool}
theorem rp_a (h : ¬ (parse s).2 = 0) : resP t s last = ⟨noFd,[],0,(parse s).2⟩:=if_pos h
theorem rp_b (h : (parse s).2 = 0) (h2 : (parse s).1.abs = false) : resP t s last = ⟨noFd,[],0,3⟩:=by unfold resP;rw [if_neg (by simpa using h),if_pos h2]
theorem rp_c (h : (parse s).2 = 0) (h2 : (parse s).1.abs = true) (h3 : ¬ (folR t (parse s).1.parts last).e = 0) : resP t s last = ⟨noFd,[],0,(folR t (parse s).1.parts last).e⟩:=by unfold resP;rw [if_neg (by simpa using h),if_neg (by rw [h2];decide),if_pos h3]
theorem rp_d (h : (parse s).2 = 0) (h2 : (parse s).1.abs = true) (h3 : (folR t (parse s).1.parts last).e = 0) : resP t s last = ⟨(folR t (parse s).1.parts last).x,(parse s).1.stream,(folR t (parse s).1.parts last).st,0⟩:=by unfold resP;rw [if_neg (by simpa using h),if_neg (by rw [h2];decide),if_neg (by simpa using h3)]
theorem c83r (V : Vt t) (h : (parse s).2 = 0) : Run Tryz.prog 83 (.ptr 0 0 0 :: ([strL (parse s).1.parts,.bool last] : List D).map .d) [foO t 0] (.d (.tup [(folR t (parse s).1.parts last).x.enc [] 0,i (folR t (parse s).1.parts last).e])) [foO t (folR t (parse s).1.parts last).st]:=
 p83 V 2001 (by omega) 2000 (by omega) _ last 0 _ (parse_ok h).1 (by have:=(parse_ok h).2;omega) (by omega) (by omega) (folR_some V (by have:=(parse_ok h).2;omega))
end
theorem c53b {b : Bool} (e : Int) (h : b = true) : Fn 53 [.bool b,i e] (i 0):=by subst h;exact c53t e
theorem c53n {b : Bool} (e : Int) (h : b = false) : Fn 53 [.bool b,i e] (i e):=by subst h;exact c53f e
theorem c35e {s : Bs} {e : Int} (h : (parse s).2 = e) : Fn 35 [.str s] (.tup [PPe (parse s).1,i e]):=by subst h;exact c35 s
theorem c30e {s : Bs} {e : Int} (h : (parse s).2 = e) : Fn 30 [.str s] (.tup [PPe (parse s).1,i e]):=by subst h;exact c30 s
theorem rs_end {r r' : Rs} (h : r' = r) : D.tup [r.enc,i r.e] = .tup [r'.enc,i r'.e]:=by rw [h]
attribute [local irreducible] resP folR fol checkT
theorem c51a (t : List Nod) (V : Vt t) (s : Bs) (last : Bool) (hp : ¬ (parse s).2 = 0) : Fn 51 [treeD t,.str s,.bool last] (.tup [(resP t s last).enc,i (resP t s last).e]):=by
 refine run_walkF eok Tryz.func51 rfl (by kernel_rfl) ?_
 conv=>whnf
 repeat' (first
 | ((with_reducible refine on_ndec_f (by assumption) ?_);conv=>whnf)
 | ((with_reducible refine call_go ?_);(first | refine call_step (run_data (xs:=[_]) (c35 s) _) ?_ | refine call_step (run_data (xs:=[_,_]) (c53 (parse s).1.abs 3) _) ?_ | refine call_step (run_view (c52e (a:=(parse s).2) (b:=if (parse s).1.abs = true then 0 else 3) hp) rfl (vlc rfl vln)) ?_);conv=>whnf)
 | ((with_reducible refine endx_go ?_);first | (exact endxv (view_tup (vlc (view_agg (vlc rfl (vlc rfl (vlc rfl (vlc rfl (vlc rfl (vlc rfl vln))))))) (vlc rfl vln))) (rs_end (rp_a hp));done))
  | fail
  )
theorem c51b (t : List Nod) (V : Vt t) (s : Bs) (last : Bool) (hp : (parse s).2 = 0) (ha : (parse s).1.abs = false) : Fn 51 [treeD t,.str s,.bool last] (.tup [(resP t s last).enc,i (resP t s last).e]):=by
 refine run_walkF eok Tryz.func51 rfl (by kernel_rfl) ?_
 conv=>whnf
 repeat' (first
 | ((with_reducible refine call_go ?_);(first | refine call_step (run_data (xs:=[_]) (c35e hp) _) ?_ | refine call_step (run_data (xs:=[_,_]) (c53n (b:=(parse s).1.abs) 3 ha) _) ?_ | refine call_step (run_view (c52z (b:=3)) rfl (vlc rfl vln)) ?_);conv=>whnf)
 | ((with_reducible refine endx_go ?_);first | (exact endxv (view_tup (vlc (view_agg (vlc rfl (vlc rfl (vlc rfl (vlc rfl (vlc rfl (vlc rfl vln))))))) (vlc rfl vln))) (rs_end (rp_b hp ha));done))
  | fail
  )
theorem c51c (t : List Nod) (V : Vt t) (s : Bs) (last : Bool) (hp : (parse s).2 = 0) (ha : (parse s).1.abs = true) (he : ¬ (folR t (parse s).1.parts last).e = 0) : Fn 51 [treeD t,.str s,.bool last] (.tup [(resP t s last).enc,i (resP t s last).e]):=by
 refine run_walkF eok Tryz.func51 rfl (by kernel_rfl) ?_
 conv=>whnf
 repeat' (first
 | ((with_reducible refine on_ndec_f (by assumption) ?_);conv=>whnf)
 | ((with_reducible refine call_go ?_);(first | refine call_step (run_data (xs:=[_]) (c35e hp) _) ?_ | refine call_step (run_data (xs:=[_,_]) (c53b (b:=(parse s).1.abs) 3 ha) _) ?_ | refine call_step (run_view (c52z (b:=0)) rfl (vlc rfl vln)) ?_ | refine call_step (run_rcv (c83r (t:=t) (last:=last) V hp) (fun _=>rfl) (l':=[_]) (oc:=⟨[.agg [.d (treeD t),.d (i 0)]],2,0⟩) rfl rfl ⟨rfl,rfl,.inr ⟨⟨view_agg (vlc rfl (vlc rfl vln)),fun j hj=>absurd hj (List.not_mem_nil)⟩,trivial⟩⟩ (vl_data _ [_,_]) (fun j hj=>absurd hj (List.not_mem_nil))) ?_);conv=>whnf)
 | ((with_reducible refine endx_go ?_);first | (exact endxv (view_tup (vlc (view_agg (vlc rfl (vlc rfl (vlc rfl (vlc rfl (vlc rfl (vlc rfl vln))))))) (vlc rfl vln))) (rs_end (rp_c hp ha he));done))
  | fail
  )
theorem c51d (t : List Nod) (V : Vt t) (s : Bs) (last : Bool) (hp : (parse s).2 = 0) (ha : (parse s).1.abs = true) (he : (folR t (parse s).1.parts last).e = 0) : Fn 51 [treeD t,.str s,.bool last] (.tup [(resP t s last).enc,i (resP t s last).e]):=by
 refine run_walkF eok Tryz.func51 rfl (by kernel_rfl) ?_
 conv=>whnf
 repeat' (first
 | ((with_reducible refine on_ndec_t (by first | assumption ) ?_);conv=>whnf)
 | ((with_reducible refine call_go ?_);(first | refine call_step (run_data (xs:=[_]) (c35e hp) _) ?_ | refine call_step (run_data (xs:=[_,_]) (c53b (b:=(parse s).1.abs) 3 ha) _) ?_ | refine call_step (run_view (c52z (b:=0)) rfl (vlc rfl vln)) ?_ | refine call_step (run_rcv (c83r (t:=t) (last:=last) V hp) (fun _=>rfl) (l':=[_]) (oc:=⟨[.agg [.d (treeD t),.d (i 0)]],2,0⟩) rfl rfl ⟨rfl,rfl,.inr ⟨⟨view_agg (vlc rfl (vlc rfl vln)),fun j hj=>absurd hj (List.not_mem_nil)⟩,trivial⟩⟩ (vl_data _ [_,_]) (fun j hj=>absurd hj (List.not_mem_nil))) ?_);conv=>whnf)
 | (refine ⟨[],[(5,7)],(by decide +kernel),?_⟩;conv=>whnf)
 | ((with_reducible refine endx_go ?_);first | (exact endxv (view_tup (vlc (view_agg (vlc rfl (vlc rfl (vlc rfl (vlc rfl (vlc rfl (vlc rfl vln))))))) (vlc rfl vln))) (rs_end (rp_d hp ha he));done))
 | (refine ⟨rfl,?_⟩;conv=>whnf)
  | fail
  )
theorem c51 (t : List Nod) (V : Vt t) (s : Bs) (last : Bool)  : Fn 51 [treeD t,.str s,.bool last] (.tup [(resP t s last).enc,i (resP t s last).e]):=by
 by_cases hp : (parse s).2 = 0
 ·cases ha : (parse s).1.abs with
  | false=>exact c51b t V s last hp ha
  | true=>
   by_cases he : (folR t (parse s).1.parts last).e = 0
   ·exact c51d t V s last hp ha he
   ·exact c51c t V s last hp ha he
 ·exact c51a t V s last hp
theorem rr_a {t : List Nod} {s : Bs} {last : Bool} (h : ¬ (checkT t).2 = 0) : resR t s last = ⟨noFd,[],0,(checkT t).2⟩:=if_pos h
theorem rr_b {t : List Nod} {s : Bs} {last : Bool} (h : (checkT t).2 = 0) : resR t s last = resP t s last:=if_neg (by simpa using h)
attribute [local irreducible] resR
theorem c12a (t : List Nod) (B : Tb t) (s : Bs) (last : Bool) (hc : ¬ (checkT t).2 = 0) : Fn 12 [treeD t,.str s,.bool last] (.tup [(resR t s last).enc,i (resR t s last).e]):=by
 refine run_walkF eok Tryz.func12 rfl (by kernel_rfl) ?_
 conv=>whnf
 repeat' (first
 | ((with_reducible refine on_ndec_f (by assumption) ?_);conv=>whnf)
 | ((with_reducible refine call_go ?_);(first | refine call_step (run_data (xs:=[_]) (c50 t B) _) ?_);conv=>whnf)
 | ((with_reducible refine endx_go ?_);first | (exact endxv (view_tup (vlc (view_agg (vlc rfl (vlc rfl (vlc rfl (vlc rfl (vlc rfl (vlc rfl vln))))))) (vlc rfl vln))) (rs_end (rr_a hc));done))
  | fail
  )
theorem c12b (t : List Nod) (B : Tb t) (s : Bs) (last : Bool) (hc : (checkT t).2 = 0) : Fn 12 [treeD t,.str s,.bool last] (.tup [(resR t s last).enc,i (resR t s last).e]):=by
 refine run_walkF eok Tryz.func12 rfl (by kernel_rfl) ?_
 conv=>whnf
 repeat' (first
 | ((with_reducible refine call_go ?_);(first | refine call_step (run_data (xs:=[_]) (c50e B hc) _) ?_ | refine call_step (run_data (xs:=[_,_,_]) (c51 t ⟨B,hc⟩ s last) _) ?_);conv=>whnf)
 | ((with_reducible refine endx_go ?_);first | (exact endxv (view_tup (vlc rfl (vlc rfl vln))) (rs_end (rr_b hc));done) )
  | fail
  )
theorem c12 (t : List Nod) (B : Tb t) (s : Bs) (last : Bool)  : Fn 12 [treeD t,.str s,.bool last] (.tup [(resR t s last).enc,i (resR t s last).e]):=by
 by_cases hc : (checkT t).2 = 0
 ·exact c12b t B s last hc
 ·exact c12a t B s last hc
def stR (t : List Nod) (s : Bs) : Int × Int:=if (resR t s true).e ≠ 0 then (0,(resR t s true).e) else if (resR t s true).x.node = -1 then (0,6) else ((resR t s true).st,0)
theorem c12e {t : List Nod} (B : Tb t) {s : Bs} {last : Bool} {e : Int} (h : (resR t s last).e = e) : Fn 12 [treeD t,.str s,.bool last] (.tup [(resR t s last).enc,i e]):=by subst h;exact c12 t B s last
attribute [local irreducible] stR
theorem sameI_take {a b : List Int} {k : Nat} (h : a.take k = b.take k) (ha : k < a.length) (hb : k < b.length) (e : a[k] = b[k]) : a.take (k + 1) = b.take (k + 1):=by
 rw [List.take_succ_eq_append_getElem ha,List.take_succ_eq_append_getElem hb,h,e]
theorem c42 (a b : List Int) (ha : a.length < 1000000) (hb : b.length < 1000000) : Fn 42 [.fs (a.map i),.fs (b.map i)] (.bool (decide (a = b))):=by
 refine run_walkF eok Tryz.func42 rfl (by kernel_rfl) ?_
 conv=>whnf
 repeat' (first
 | ((with_reducible refine on_dec (fun h=>?_) (fun h=>?_))<;>(try simp only [List.length_map] at h)<;>conv=>whnf)
 | ((with_reducible refine on_ndec (fun h=>?_) (fun h=>?_))<;>(try simp only [List.length_map] at h)<;>conv=>whnf)
 | (refine ⟨[],[],(by decide +kernel),?_⟩;conv=>whnf)
 | ((with_reducible refine loop_go ?_);first | (refine loop1 (fun (k : Nat)=>a.length - k) (fun (k : Nat)=>k ≤ a.length ∧ a.take k = b.take k) (fun (k : Nat)=>[(0,.d (.fs (a.map i))),(1,.d (.fs (b.map i))),(5,.d (i k))]) (fun (k : Nat)=>[]) (0) (by first | (simp;done) ) ?_ (fun k C hI hC=>?_);(exact ⟨[],rfl,rfl,⟨(by first | (show (_ : D) = _;with_reducible rfl) ),(by first | (show (_ : D) = _;with_reducible rfl) ),(by first | exact congrArg (D.int .i64) (by omega) ),trivial⟩,trivial⟩);all_goals (conv=>whnf)))
 | ((with_reducible show C _ _);first | (refine hC (k + 1) _ _ ?_ (by omega) ?_;clear hC;rotate_left;(exact ⟨[],rfl,rfl,⟨(by first | (show (_ : D) = _;with_reducible rfl) ),(by first | (show (_ : D) = _;with_reducible rfl) ),(by first | exact congrArg (D.int .i64) (by omega) ),trivial⟩,trivial⟩);(exact ⟨by omega,sameI_take hI.2 (by omega) (by omega) (by simpa using h)⟩)))
 | (refine ix_map (by omega) ?_;conv=>whnf)
 | (refine wrap64 (by omega) ?_;conv=>whnf)
 | ((with_reducible refine endx_go ?_);first | (refine endx (congrArg D.bool ?_);(symm;rw [decide_eq_false_iff_not];intro e;subst e;simp_all;done);done) | (refine endx (congrArg D.bool ?_);(have:=hI.2;rw [List.take_of_length_le (by omega),List.take_of_length_le (by omega)] at this;symm;rw [decide_eq_true_eq];exact this);done))
  | fail
  )
end Go.Proofs.YtpfokhdelnlciaaGreatDoor
namespace Go.Proofs.YtpfokhdelnlciaaGreatDoor
open Go Dw
set_option maxRecDepth 10000
attribute [local irreducible] Run
set_option maxHeartbeats 16000000
open Paths
attribute [local irreducible] nameErr cut normal dots partErr text parse glue fold within
def fdR (o : Fo) : Fd:=if o.e = 0 then o.x else noFd
theorem fdR_0 {o : Fo} (h : o.e = 0) : fdR o = o.x:=if_pos h
theorem fdR_n {o : Fo} (h : ¬ o.e = 0) : fdR o = noFd:=if_neg h
def R54 (t : List Nod) (ps : List Bs) (last : Bool) (st : Int) (o : Fo) : Prop:=Run Tryz.prog 54 (.ptr 0 0 0 :: ([.fs [i 0],strL ps,.bool last] : List D).map .d) [woO t st 0] (.d ((fdR o).enc [] 0)) [woO t o.st o.e]
def P54 (t : List Nod) (n : Nat) : Prop:=∀ m < n,∀ (ps : List Bs) (last : Bool) (st : Int) (o : Fo),OkP ps → ps.length ≤ 64 → 0 ≤ st → st ≤ 8 → fol t m [0] ps last st = some o → R54 t ps last st o
theorem run_fol {t : List Nod} {ps : List Bs} {last : Bool} {st : Int} {o : Fo} (hf : R54 t ps last st o) {H : Heap} {id k : Nat} {oc : AO} (h : H[id]? = some oc) (hk : H[k]? = some ⟨[.d (i 0)],1,0⟩) (ho : embO [id] [k] H (woO t st 0) oc) (hne : k ≠ id) (c : Option Nat) :
  Run Tryz.prog 54 [.ptr id 0 0,.sl k 0 1 1 c,.d (strL ps),.d (.bool last)] H (.d ((fdR o).enc [] 0)) ((Dw.freeze H [k]).set id (woO t o.st o.e)):=by
 have hr : reach 8 H (.sl k 0 1 1 c) = [k]:=by
  show k :: (match H[k]? with | some o=>o.elems.flatMap (reach 7 H) | none=>[]) = _
  rw [hk];rfl
 refine run_at (σ:=[id]) (F:=[k]) (fl:=false) hf (by simp) (fun j hj=>by simp at hj ⊢;omega) ⟨⟨rfl,rfl,rfl⟩,⟨view_mapL (f:=i) (l:=[0]) rfl hk (by decide),fun j hj=>by rw [hr] at hj;exact hj⟩,⟨rfl,fun _ h=>by cases h⟩,⟨rfl,fun _ h=>by cases h⟩,trivial⟩ ⟨(nthK_iff _ _).2 ⟨_,h,ho⟩,trivial⟩ (fun h=>by cases h) rfl ?_
 show setAll _ [id] _ ++ _ = _
 have : renO (tau [id] H.length) (woO t o.st o.e) = woO t o.st o.e:=by simp only [renO,woO,rens,ren]
 simp only [setAll,List.map_cons,List.map_nil,List.length_cons,List.length_nil,List.drop_succ_cons,List.drop_zero,this,List.append_nil]
 rfl
theorem rl0 {r : List Bs} (h : r = []) : r.length = 0:=by rw [h];rfl
theorem rlN {r : List Bs} (h : r ≠ []) : 0 < r.length:=List.length_pos_iff.2 h
theorem R54_tgt {t : List Nod} {tr : List Int} {p : Bs} {l : Bool} {st : Int} {q : Fo} (h : R54 t (tgtOf t tr p).parts l st q) : R54 t (parse (nodAt t (entOf t tr p).node).target).1.parts l st q:=h
theorem fdR_err {x : Fd} {e st : Int} (h : ¬ e = 0) : fdR ⟨x,e,st⟩ = noFd:=if_neg h
theorem fdR_ok {x : Fd} {st : Int} : fdR ⟨x,0,st⟩ = x:=rfl
theorem look_ixE {t : List Nod} {tr : List Int} {p : Bs} {K : D → Prop} (h : ¬ look (nodAt t (hereOf tr)).ents p < 0) (k : K (entOf t tr p).enc) : 0 ≤ look (nodAt t (hereOf tr)).ents p ∧ nthK ((nodAt t (hereOf tr)).ents.map Ent.enc) (look (nodAt t (hereOf tr)).ents p).toNat K:=look_ix1 h k
theorem endx_fnd {o0 o' : AO} {z : AO} {rest : Heap} {a b : Int} {s : Bs} {tr : List Int} {n : Nat} {c : Option Nat} (hn : n = tr.length) (h0 : o0.st = 0) (hw : wkO [.old 0] (o0 :: z :: ⟨rowI tr,1,1⟩ :: rest) (.old 0) o') {x : D} (hx : Fd.enc ⟨a,b,s,tr⟩ [] 0 = x) : EndX [] 1 (o0 :: z :: ⟨rowI tr,1,0⟩ :: rest) (.agg [.d (i a),.d (i b),.d (.str s),.d (.str []),.d (i 0),.sl 2 0 n 1 c]) (.d x) [o']:=by
 subst hx
 have hr : reach 8 (o0 :: z :: ⟨rowI tr,1,0⟩ :: rest) (.agg [.d (i a),.d (i b),.d (.str s),.d (.str []),.d (i 0),.sl 2 0 n 1 c]) = [2]:=by
  show [] ++ ([] ++ ([] ++ ([] ++ ([] ++ ((2 :: (rowI tr).flatMap (reach 6 _)) ++ []))))) = _
  simp only [rowI,reach_d,List.nil_append,List.append_nil]
 refine endX_of (.inr ⟨_,view_agg (vlc rfl (vlc rfl (vlc rfl (vlc rfl (vlc rfl (vlc (view_mapL (f:=i) (l:=tr) (n:=5) hn rfl (by decide)) vln)))))),rfl,?_⟩)
 rw [hr]
 exact ⟨[.old 0],rfl,rfl,trivial,⟨hw,trivial⟩⟩
attribute [local irreducible] entTo parG parOf fol look entR entOf tgtOf nodAt hereOf OkT OkI
theorem c86e (t : List Nod) (tg : Bs) (st e : Int) (he : ¬ e = 0) : Run Tryz.prog 86 (.ptr 0 0 0 :: ([.str tg] : List D).map .d) [woO t st e] (.d (i 0)) [woO t st e]:=by
 refine run_walkF eok Tryz.func86 rfl (by kernel_rfl) ?_
 conv=>whnf
 repeat' (first
 | ((with_reducible refine on_ndec_f (by assumption) ?_);conv=>whnf)
 | ((with_reducible refine endx_go ?_);first | (exact endX_of (.inl ⟨[.old 0],rfl,rfl,⟨congrArg (fun z=>D.int .i64 z) (rfl),trivial⟩,⟨⟨rfl,rfl,.inl ⟨[_],rfl,rfl⟩⟩,trivial⟩⟩);done) )
  | fail
  )
theorem c86a (t : List Nod) (V : Vt t) (tg : Bs) (st : Int) (q : Fo) (hp : (parse tg).2 = 0) (hr : R54 t (parse tg).1.parts true st q) (he : ¬ q.e = 0) : Run Tryz.prog 86 (.ptr 0 0 0 :: ([.str tg] : List D).map .d) [woO t st 0] (.d (i 0)) [woO t q.st q.e]:=by
 have hfd : fdR q = noFd:=fdR_n he;have hx : (fdR q).node = 0:=(by rw [hfd];rfl)
 refine run_walkF eok Tryz.func86 rfl (by kernel_rfl) ?_
 conv=>whnf
 repeat' (first
 | ((with_reducible refine on_ndec_f (by assumption) ?_);conv=>whnf)
 | ((with_reducible refine call_go ?_);(first | refine call_step (run_data (xs:=[_]) (c30e hp) _) ?_ | refine call_step (run_fol hr rfl rfl ⟨rfl,rfl,.inl ⟨[_],rfl,rfl⟩⟩ (by decide) _) ?_);conv=>whnf)
 | ((with_reducible refine endx_go ?_);first | (exact endX_of (.inl ⟨[.old 0],rfl,rfl,⟨congrArg (fun z=>D.int .i64 z) (hx),trivial⟩,⟨⟨rfl,rfl,.inl ⟨[_],rfl,rfl⟩⟩,trivial⟩⟩);done) )
  | fail
  )
theorem c86b (t : List Nod) (V : Vt t) (tg : Bs) (st : Int) (q : Fo) (hp : (parse tg).2 = 0) (hr : R54 t (parse tg).1.parts true st q) (he : q.e = 0) (hn : q.x.node = -1) : Run Tryz.prog 86 (.ptr 0 0 0 :: ([.str tg] : List D).map .d) [woO t st 0] (.d (i (-1))) [woO t q.st 6]:=by
 have hfd : (fdR q).node = q.x.node:=(by rw [fdR_0 he]);have hn1 : (fdR q).node = -1:=hfd.trans hn
 refine run_walkF eok Tryz.func86 rfl (by kernel_rfl) ?_
 conv=>whnf
 repeat' (first
 | ((with_reducible refine on_dec_t (by assumption) ?_);conv=>whnf)
 | ((with_reducible refine on_ndec_t (by first | assumption ) ?_);conv=>whnf)
 | ((with_reducible refine call_go ?_);(first | refine call_step (run_data (xs:=[_]) (c30e hp) _) ?_ | refine call_step (run_fol hr rfl rfl ⟨rfl,rfl,.inl ⟨[_],rfl,rfl⟩⟩ (by decide) _) ?_);conv=>whnf)
 | ((with_reducible refine endx_go ?_);first | (exact endX_of (.inl ⟨[.old 0],rfl,rfl,⟨congrArg (fun z=>D.int .i64 z) (hn1),trivial⟩,⟨⟨rfl,rfl,.inr ⟨⟨rfl,rfl,rfl,rfl,trivial⟩,trivial⟩⟩,trivial⟩⟩);done))
  | fail
  )
theorem c86c (t : List Nod) (V : Vt t) (tg : Bs) (st : Int) (q : Fo) (hp : (parse tg).2 = 0) (hr : R54 t (parse tg).1.parts true st q) (he : q.e = 0) (hn : ¬ q.x.node = -1) (hN : OkI t q.x.node) (hk : ¬ (nodAt t q.x.node).kind = 0) : Run Tryz.prog 86 (.ptr 0 0 0 :: ([.str tg] : List D).map .d) [woO t st 0] (.d (i q.x.node)) [woO t q.st 35]:=by
 have hfd : (fdR q).node = q.x.node:=(by rw [fdR_0 he]);have hn1 : ¬ (fdR q).node = -1:=(by rw [hfd];exact hn);have hN1 : OkI t (fdR q).node:=(by rw [hfd];exact hN);have hk1 : ¬ (nodAt t (fdR q).node).kind = 0:=(by rw [hfd];exact hk)
 refine run_walkF eok Tryz.func86 rfl (by kernel_rfl) ?_
 conv=>whnf
 repeat' (first
 | ((with_reducible refine on_dec_f (by assumption) ?_);conv=>whnf)
 | ((with_reducible refine on_ndec_t (by first | assumption ) ?_);conv=>whnf)
 | ((with_reducible refine on_ndec_f (by assumption) ?_);conv=>whnf)
 | ((with_reducible refine call_go ?_);(first | refine call_step (run_data (xs:=[_]) (c30e hp) _) ?_ | refine call_step (run_fol hr rfl rfl ⟨rfl,rfl,.inl ⟨[_],rfl,rfl⟩⟩ (by decide) _) ?_);conv=>whnf)
 | (refine ⟨[],[],(by decide +kernel),?_⟩;conv=>whnf)
 | (refine ix_nd hN1.nn hN1.get ?_;conv=>whnf)
 | ((with_reducible refine endx_go ?_);first | (exact endX_of (.inl ⟨[.old 0],rfl,rfl,⟨congrArg (fun z=>D.int .i64 z) (hfd),trivial⟩,⟨⟨rfl,rfl,.inr ⟨⟨rfl,rfl,rfl,rfl,trivial⟩,trivial⟩⟩,trivial⟩⟩);done))
  | fail
  )
theorem c86d (t : List Nod) (V : Vt t) (tg : Bs) (st : Int) (q : Fo) (hp : (parse tg).2 = 0) (hr : R54 t (parse tg).1.parts true st q) (he : q.e = 0) (hn : ¬ q.x.node = -1) (hN : OkI t q.x.node) (hk : (nodAt t q.x.node).kind = 0) : Run Tryz.prog 86 (.ptr 0 0 0 :: ([.str tg] : List D).map .d) [woO t st 0] (.d (i q.x.node)) [woO t q.st q.e]:=by
 have hfd : (fdR q).node = q.x.node:=(by rw [fdR_0 he]);have hn1 : ¬ (fdR q).node = -1:=(by rw [hfd];exact hn);have hN1 : OkI t (fdR q).node:=(by rw [hfd];exact hN);have hk1 :  (nodAt t (fdR q).node).kind = 0:=(by rw [hfd];exact hk)
 refine run_walkF eok Tryz.func86 rfl (by kernel_rfl) ?_
 conv=>whnf
 repeat' (first
 | ((with_reducible refine on_dec_f (by assumption) ?_);conv=>whnf)
 | ((with_reducible refine on_ndec_t (by first | assumption ) ?_);conv=>whnf)
 | ((with_reducible refine call_go ?_);(first | refine call_step (run_data (xs:=[_]) (c30e hp) _) ?_ | refine call_step (run_fol hr rfl rfl ⟨rfl,rfl,.inl ⟨[_],rfl,rfl⟩⟩ (by decide) _) ?_);conv=>whnf)
 | (refine ⟨[],[],(by decide +kernel),?_⟩;conv=>whnf)
 | (refine ix_nd hN1.nn hN1.get ?_;conv=>whnf)
 | ((with_reducible refine endx_go ?_);first | (exact endX_of (.inl ⟨[.old 0],rfl,rfl,⟨congrArg (fun z=>D.int .i64 z) (hfd),trivial⟩,⟨⟨rfl,rfl,.inl ⟨[_],rfl,rfl⟩⟩,trivial⟩⟩);done) )
  | fail
  )
theorem loop8 {α β γ δ ε ζ η θ : Type} {n0 : Nat} {V : List Nat} {W : Env → Heap → (Ex → Env → Heap → Prop) → Prop} {K : Ex → Env → Heap → Prop} {A : Env} {h : Heap} (m : α → β → γ → δ → ε → ζ → η → θ → Nat) (I : α → β → γ → δ → ε → ζ → η → θ → Prop) (As : α → β → γ → δ → ε → ζ → η → θ → Env) (hs : α → β → γ → δ → ε → ζ → η → θ → Heap) (a0 : α) (b0 : β) (c0 : γ) (d0 : δ) (e0 : ε) (g0 : ζ) (k0 : η) (l0 : θ)
  (h0 : I a0 b0 c0 d0 e0 g0 k0 l0) (hw : WkF V n0 A h (As a0 b0 c0 d0 e0 g0 k0 l0) (hs a0 b0 c0 d0 e0 g0 k0 l0))
  (step : ∀ (a : α) (b : β) (c : γ) (d : δ) (e : ε) (g : ζ) (k : η) (l : θ) (C : Env → Heap → Prop), I a b c d e g k l → (∀ (a' : α) (b' : β) (c' : γ) (d' : δ) (e' : ε) (g' : ζ) (k' : η) (l' : θ) A' h', I a' b' c' d' e' g' k' l' → m a' b' c' d' e' g' k' l' < m a b c d e g k l → WkF V n0 A' h' (As a' b' c' d' e' g' k' l') (hs a' b' c' d' e' g' k' l') → C A' h') →
   W (As a b c d e g k l) (hs a b c d e g k l) (fun ex A' h'=>match ex with
    | .normal=>C A' h'
    | .exit id=>K (.exit id) A' h'
    | .ret=>K .ret A' h')) : ∃ n,iterF V n0 W K n A h:=
 loopF (σ := α × β × γ × δ × ε × ζ × η × θ) (fun s => m s.1 s.2.1 s.2.2.1 s.2.2.2.1 s.2.2.2.2.1 s.2.2.2.2.2.1 s.2.2.2.2.2.2.1 s.2.2.2.2.2.2.2) (fun s => I s.1 s.2.1 s.2.2.1 s.2.2.2.1 s.2.2.2.2.1 s.2.2.2.2.2.1 s.2.2.2.2.2.2.1 s.2.2.2.2.2.2.2) (fun s => As s.1 s.2.1 s.2.2.1 s.2.2.2.1 s.2.2.2.2.1 s.2.2.2.2.2.1 s.2.2.2.2.2.2.1 s.2.2.2.2.2.2.2) (fun s => hs s.1 s.2.1 s.2.2.1 s.2.2.2.1 s.2.2.2.2.1 s.2.2.2.2.2.1 s.2.2.2.2.2.2.1 s.2.2.2.2.2.2.2) (a0, b0, c0, d0, e0, g0, k0, l0) h0 hw (fun s C hI hC => step s.1 s.2.1 s.2.2.1 s.2.2.2.1 s.2.2.2.2.1 s.2.2.2.2.2.1 s.2.2.2.2.2.2.1 s.2.2.2.2.2.2.2 C hI (fun a' b' c' d' e' g' k' l' A' h' h1 h2 h3 => hC (a', b', c', d', e', g', k', l') A' h' h1 h2 h3))
def pvA : Bool → Nat → List Bs → AV
 | true,s,ps=>.sl 3 s ps.length 1 none
 | false,_,ps=>.d (strL ps)
def rowT : Bool → List Bs → List Bs → List AV
 | true,pr,ps=>((pr ++ ps).map D.str).map .d
 | false,_,_=>[]
theorem rowT_hd {pr r : List Bs} {p : Bs} {n : Nat} {K : AV → Prop} (hn : n = pr.length) (k : K (.d (.str p))) : nthK (rowT true pr (p :: r)) n K:=by
 subst hn
 exact nthK_of (x:=.d (.str p)) (by simp [rowT]) k
theorem rowT_next {pr r : List Bs} {p : Bs} : ∃ l : List D,rowT true pr (p :: r) = l.map .d ∧ rowT true (pr ++ [p]) r = l.map .d:=⟨(pr ++ p :: r).map D.str,rfl,by simp [rowT]⟩
theorem rowT_src {pr r : List Bs} {p : Bs} {s len : Nat} {K : List AV → Prop} {B : List AV → Prop} (hs : s = pr.length + 1) (hl : len = (p :: r).length - 1) (k : K ((r.map D.str).map .d)) : s + len ≤ (rowT true pr (p :: r)).length ∧ dropK (rowT true pr (p :: r)) s (fun l=>onBool (l.length == len) (onOk (l.all AV.known) (K l)) (B l)):=by
 subst hs;subst hl
 have e : (rowT true pr (p :: r)).drop (pr.length + 1) = (r.map D.str).map .d:=by
  simp only [rowT]
  rw [← List.map_drop,← List.map_drop]
  simp
 refine ⟨by simp [rowT];omega,?_⟩
 rw [dropK_eq,e]
 have e1 : ((((r.map D.str).map AV.d).length == (p :: r).length - 1) = true):=by simp
 have e2 : (((r.map D.str).map AV.d).all AV.known) = true:=by
  rw [List.all_eq_true]
  intro x hx
  simp only [List.map_map,List.mem_map] at hx
  obtain ⟨y,_,rfl⟩:=hx
  rfl
 exact onBool_t e1 (onOk_of e2 k)
theorem rowI_ap2 {μ : List Mu} {tr : List Int} {x : Int} : wks μ ((rowI tr).drop 0 ++ [.d (i x)]) (rowI (tr ++ [x])):=by
 rw [List.drop_zero]
 have : rowI tr ++ [.d (i x)] = rowI (tr ++ [x]):=by simp [rowI]
 rw [this];exact wksd _ _
theorem wks_cat {μ : List Mu} {a b : List Bs} : wks μ (((a.map D.str).map AV.d).drop 0 ++ (b.map D.str).map AV.d) (rowT true [] (a ++ b)):=by
 rw [List.drop_zero]
 have : (a.map D.str).map AV.d ++ (b.map D.str).map AV.d = rowT true [] (a ++ b):=by simp [rowT]
 rw [this];exact wksd _ _
theorem wks_over {μ : List Mu} {q r : List Bs} {n : Nat} (h : r.length = 0) : wks μ (over ((q.map D.str).map AV.d) n ((r.map D.str).map AV.d)) (rowT true [] (q ++ r)):=by
 have : r = []:=List.length_eq_zero_iff.1 h
 subst this
 rw [List.map_nil,List.map_nil,over_nil]
 have : (q.map D.str).map AV.d = rowT true [] (q ++ []):=by simp [rowT]
 rw [this];exact wksd _ _
attribute [local irreducible] fdR
theorem c86o (t : List Nod) (V : Vt t) (tg : Bs) (st : Int) (q : Fo) (hp : (parse tg).2 = 0) (hr : R54 t (parse tg).1.parts true st q) (he : q.e = 0) (hn : ¬ q.x.node = -1) (hN : OkI t q.x.node) (hk : (nodAt t q.x.node).kind = 0) : Run Tryz.prog 86 (.ptr 0 0 0 :: ([.str tg] : List D).map .d) [woO t st 0] (.d (i q.x.node)) [woO t q.st 0]:=by
 have:=c86d t V tg st q hp hr he hn hN hk
 rwa [he] at this
theorem c54 (t : List Nod) (V : Vt t) (n : Nat) (IH : P54 t n) (ps0 : List Bs) (last : Bool) (st0 : Int) (o : Fo) (hP0 : OkP ps0) (hl0 : ps0.length ≤ 64) (hs0 : 0 ≤ st0) (hs8 : st0 ≤ 8) (hn : n ≤ 2000) (hF0 : fol t n [0] ps0 last st0 = some o) : R54 t ps0 last st0 o:=by
 refine run_walkF eok Tryz.func54 rfl (by kernel_rfl) ?_
 conv=>whnf
 repeat' (first
 | ((with_reducible refine on_dec_t (by assumption) ?_);conv=>whnf)
 | ((with_reducible refine on_dec_f (by assumption) ?_);conv=>whnf)
 | ((with_reducible refine onBool_t (by assumption) ?_);conv=>whnf)
 | ((with_reducible refine onBool_f (by assumption) ?_);conv=>whnf)
 | ((with_reducible refine on_nt (by assumption) ?_);conv=>whnf)
 | ((with_reducible refine on_ndec_f (by assumption) ?_);conv=>whnf)
 | ((with_reducible refine on_dec_f ?_ ?_);(focus ((try simp only [List.length_map,List.length_cons,List.length_nil,List.length_append]);omega));conv=>whnf)
 | ((with_reducible refine on_dec_t ?_ ?_);(focus ((try simp only [List.length_map,List.length_cons,List.length_nil,List.length_append]);omega));conv=>whnf)
 | ((with_reducible refine on_dec (fun h=>?_) (fun h=>?_))<;>(try simp only [List.length_map] at h)<;>conv=>whnf)
 | ((with_reducible refine onBool_split (fun h=>?_) (fun h=>?_))<;>conv=>whnf)
 | ((with_reducible refine call_go ?_);have _q:=hlo;refine call_step (run_rcv (c86e t _ (st + 1) 25 (by decide)) (fun _=>rfl) (l':=[_]) rfl rfl ⟨rfl,rfl,.inl ⟨[_],rfl,rfl⟩⟩ (vl_data _ [_]) (fun j hj=>absurd hj (List.not_mem_nil))) ?_;conv=>whnf)
 | ((with_reducible refine call_go ?_);have _q:=hma;refine call_step (run_rcv (c86a t V _ (st + 1) q (V.targ hN1 k0 k1) (R54_tgt (IH m (by omega) (tgtOf t tr p).parts true (st + 1) q (V.tgt hT hl (by omega) (by omega)).1 (by omega) (by omega) (by omega) hg)) hma) (fun _=>rfl) (l':=[_]) rfl rfl ⟨rfl,rfl,.inl ⟨[_],rfl,rfl⟩⟩ (vl_data _ [_]) (fun j hj=>absurd hj (List.not_mem_nil))) ?_;conv=>whnf)
 | ((with_reducible refine call_go ?_);have _q:=hmb;refine call_step (run_rcv (c86b t V _ (st + 1) q (V.targ hN1 k0 k1) (R54_tgt (IH m (by omega) (tgtOf t tr p).parts true (st + 1) q (V.tgt hT hl (by omega) (by omega)).1 (by omega) (by omega) (by omega) hg)) he hmb) (fun _=>rfl) (l':=[_]) rfl rfl ⟨rfl,rfl,.inl ⟨[_],rfl,rfl⟩⟩ (vl_data _ [_]) (fun j hj=>absurd hj (List.not_mem_nil))) ?_;conv=>whnf)
 | ((with_reducible refine call_go ?_);have _q:=hmc;refine call_step (run_rcv (c86c t V _ (st + 1) q (V.targ hN1 k0 k1) (R54_tgt (IH m (by omega) (tgtOf t tr p).parts true (st + 1) q (V.tgt hT hl (by omega) (by omega)).1 (by omega) (by omega) (by omega) hg)) he hn hN hmc) (fun _=>rfl) (l':=[_]) rfl rfl ⟨rfl,rfl,.inl ⟨[_],rfl,rfl⟩⟩ (vl_data _ [_]) (fun j hj=>absurd hj (List.not_mem_nil))) ?_;conv=>whnf)
 | ((with_reducible refine call_go ?_);have _q:=hmok;refine call_step (run_rcv (c86o t V _ (st + 1) q (V.targ hN1 k0 k1) (R54_tgt (IH m (by omega) (tgtOf t tr p).parts true (st + 1) q (V.tgt hT hl (by omega) (by omega)).1 (by omega) (by omega) (by omega) hg)) he hn hN hmok) (fun _=>rfl) (l':=[_]) rfl rfl ⟨rfl,rfl,.inl ⟨[_],rfl,rfl⟩⟩ (vl_data _ [_]) (fun j hj=>absurd hj (List.not_mem_nil))) ?_;conv=>whnf)
 | ((with_reducible refine call_go ?_);(first | refine call_step (run_new (c84 [0] (by decide)) (fun _=>rfl) rfl) ?_ | refine call_step (run_data (xs:=[_,_,_]) (c25 t (hereOf tr) (nodAt t (hereOf tr)) p hT.here.nn hT.here.get (V.b.el _ hT.here.mem) (V.b.nl _ hT.here.mem) (prt_len hp)) _) ?_ | refine call_step (run_rcv (c85a t st 0 h0 (by omega) h8) (fun _=>rfl) (l':=[_]) rfl rfl ⟨rfl,rfl,.inl ⟨[_],rfl,rfl⟩⟩ (vl_data _ []) (fun j hj=>absurd hj (List.not_mem_nil))) ?_ | refine call_step (run_rcv (c85b t st 0 h0 (by omega) h8) (fun _=>rfl) (l':=[_]) rfl rfl ⟨rfl,rfl,.inl ⟨[_],rfl,rfl⟩⟩ (vl_data _ []) (fun j hj=>absurd hj (List.not_mem_nil))) ?_ | refine call_step (run_data (xs:=[_]) (c30T V hT hl (by omega) (by omega)) _) ?_ | refine call_step (run_new (c36n (tgtOf t tr p).parts (by omega)) (fun _=>rfl) rfl) ?_ | refine call_step (run_data (xs:=[_,_]) (c87 t V.b _) _) ?_);conv=>whnf)
 | (refine ⟨[],[],(by decide +kernel),?_⟩;conv=>whnf)
 | ((with_reducible refine loop_go ?_);first | (refine loop8 (fun (tr : List Int) (ps : List Bs) (st : Int) (e : Int) (m : Nat) (fr : Bool) (ow : Bool) (pr : List Bs)=>m) (fun (tr : List Int) (ps : List Bs) (st : Int) (e : Int) (m : Nat) (fr : Bool) (ow : Bool) (pr : List Bs)=>tr.length + m ≤ 5000 ∧ m ≤ n ∧ ((e = 0 ∧ OkT t tr ∧ OkP ps ∧ ps.length ≤ 100 ∧ 0 ≤ st ∧ st ≤ 8 ∧ (fr = true → tr.length = 1) ∧ fol t m tr ps last st = some o) ∨ (e ≠ 0 ∧ o.e = e ∧ o.st = st))) (fun (tr : List Int) (ps : List Bs) (st : Int) (e : Int) (m : Nat) (fr : Bool) (ow : Bool) (pr : List Bs)=>[(0,.ptr 0 0 0),(1,.sl 2 0 tr.length 1 (capO fr tr.length)),(2,pvA ow pr.length ps),(3,.d (.bool last)),(8,.ptr 1 0 0)]) (fun (tr : List Int) (ps : List Bs) (st : Int) (e : Int) (m : Nat) (fr : Bool) (ow : Bool) (pr : List Bs)=>[woO t st e,⟨[(E 27).zero],6,0⟩,⟨rowI tr,1,0⟩,⟨rowT ow pr ps,1,0⟩]) ([0]) (ps0) (st0) (0) (n) (false) (false) ([]) (by exact ⟨(by simp only [List.length_cons,List.length_nil];omega),Nat.le_refl _,.inl ⟨rfl,V.root,hP0,by omega,hs0,hs8,(fun e=>by cases e),hF0⟩⟩) ?_ (fun tr ps st e m fr ow pr C hI hC=>?_);(exact ⟨[.old 0,.old 1,.old 2,.void 1],rfl,rfl,⟨⟨rfl,rfl,rfl⟩,(by first | exact ⟨rfl,rfl,rfl,rfl,rfl⟩ ),(by first | (show (_ : D) = _;with_reducible rfl)),(by first | (show (_ : D) = _;with_reducible rfl) ),⟨rfl,rfl,rfl⟩,trivial⟩,⟨⟨rfl,rfl,.inl ⟨[_],rfl,rfl⟩⟩,⟨rfl,rfl,.inr ⟨⟨rfl,rfl,rfl,rfl,rfl,trivial,trivial⟩,trivial⟩⟩,⟨rfl,rfl,.inl ⟨_,rfl,rfl⟩⟩,⟨rfl,rfl,Nat.zero_lt_succ _,rfl⟩,trivial⟩⟩);obtain ⟨hbd,hmn,⟨he0,hT,hP,hps,h0,h8x,hfr,hF⟩ | ⟨he0,heo,hso⟩⟩:=hI;subst he0;have hTn:=hT.ne;rcases ps with (_ | ⟨p,r⟩);rotate_left;obtain ⟨m,rfl,hc⟩:=fol_cons hF;have hp:=hP p (by simp);have hr64 : r.length + 1 ≤ 100:=hps;by_cases hbg : 64 < r.length + 1;(have ho:=fol_big hF (by simp only [List.length_cons];omega));rotate_left;rcases hc with ⟨hb,he⟩ | ⟨hdot,hf⟩ | ⟨hz0,hz,hup,hf⟩ | ⟨hz0,hz,htop,hf⟩ | ⟨hz0,hz,hno,hr,he⟩ | ⟨hz0,hz,hms,hr,he⟩ | ⟨hz0,hz,hl,hdir,hf⟩ | ⟨hz0,hz,hl,hfi,hr,he⟩ | ⟨hz0,hz,hl,hnd,hr,he⟩ | ⟨hz0,hz,hl,k0,hst,hr,hfl,he⟩ | ⟨hz0,hz,hl,k0,hlo,(hr | hr),h8,he⟩ | ⟨hz0,hz,hl,hk,(hr | hr),h8,hab,hf⟩ | ⟨hz0,hz,hl,hk,(hr | hr),h8,hab,hf⟩ | ⟨hz0,hz,hl,k0,k1,k2,(hr | hr),h8,q,hg,(⟨hma,ho⟩ | ⟨he,hmb,ho⟩ | ⟨he,hn,hmc,ho⟩ | ⟨he,hn,hmok,hf⟩)⟩;(exact absurd hb hbg);all_goals (try have hr0:=len0 hr);all_goals (try have hr0:=lenN hr);all_goals (try have hrl:=rl0 hr);all_goals (try have hrl:=rlN hr);all_goals (try subst he);all_goals (try subst hfl);all_goals (try have hN1:=V.next hT hl);all_goals (try have hkk:=V.kind hN1);all_goals (try have h16:=(V.tgt hT hl (by first | assumption | omega) (by first | assumption | omega)).2);all_goals (try subst ho);all_goals (try have hq:=fol_ok V m V.root hg);all_goals (try have hqs:=hq.1);all_goals (try have hqe:=hq.2 he);all_goals (try have hq8:=hqe.1 h8);all_goals (try have hN:=hqe.2.1.resolve_left hn);all_goals (try (have ho:=fol_nil hF;subst ho));all_goals (try subst heo);all_goals (try subst hso);all_goals (try (have hq0:=hdir;cases fr));all_goals (try (have hq0:=hmok;cases fr));all_goals (try cases ow);all_goals (conv=>whnf)))
 | ((with_reducible show C _ _);first | (have _q:=hdot;refine hC (tr) (r) (st) (0) (m) (fr) (true) (pr ++ [p]) _ _ ?_ (by omega) ?_;clear hC;rotate_left;(exact ⟨[.old 0,.old 1,.old 2,.old 3],rfl,rfl,⟨⟨rfl,rfl,rfl⟩,⟨rfl,rfl,rfl,rfl,rfl⟩,⟨rfl,(by simp only [List.length_append,List.length_cons,List.length_nil]),(by simp only [List.length_cons];omega),rfl,rfl⟩,(by first | (show (_ : D) = _;with_reducible rfl) ),⟨rfl,rfl,rfl⟩,trivial⟩,⟨⟨rfl,rfl,.inl ⟨[_],rfl,rfl⟩⟩,⟨rfl,rfl,.inr ⟨⟨rfl,rfl,rfl,rfl,rfl,trivial,trivial⟩,trivial⟩⟩,⟨rfl,rfl,.inl ⟨_,rfl,rfl⟩⟩,⟨rfl,rfl,.inl rowT_next⟩,trivial⟩⟩);(exact ⟨by ((try simp only [List.length_append,List.length_cons,List.length_nil,List.length_dropLast]);omega),by omega,.inl ⟨rfl,hT,hP.tl,(by omega),h0,h8x,hfr,hf⟩⟩)) | (have _q:=htop;refine hC (tr) (r) (st) (0) (m) (fr) (true) (pr ++ [p]) _ _ ?_ (by omega) ?_;clear hC;rotate_left;(exact ⟨[.old 0,.old 1,.old 2,.old 3],rfl,rfl,⟨⟨rfl,rfl,rfl⟩,⟨rfl,rfl,rfl,rfl,rfl⟩,⟨rfl,(by simp only [List.length_append,List.length_cons,List.length_nil]),(by simp only [List.length_cons];omega),rfl,rfl⟩,(by first | (show (_ : D) = _;with_reducible rfl) ),⟨rfl,rfl,rfl⟩,trivial⟩,⟨⟨rfl,rfl,.inl ⟨[_],rfl,rfl⟩⟩,⟨rfl,rfl,.inr ⟨⟨rfl,rfl,rfl,rfl,rfl,trivial,trivial⟩,trivial⟩⟩,⟨rfl,rfl,.inl ⟨_,rfl,rfl⟩⟩,⟨rfl,rfl,.inl rowT_next⟩,trivial⟩⟩);(exact ⟨by ((try simp only [List.length_append,List.length_cons,List.length_nil,List.length_dropLast]);omega),by omega,.inl ⟨rfl,hT,hP.tl,(by omega),h0,h8x,hfr,hf⟩⟩)) | (have _q:=hup;refine hC (tr.dropLast) (r) (st) (0) (m) (fr) (true) (pr ++ [p]) _ _ ?_ (by omega) ?_;clear hC;rotate_left;(exact ⟨[.old 0,.old 1,.cut 2 (tr.length - 1),.old 3],rfl,rfl,⟨⟨rfl,rfl,rfl⟩,⟨⟨rfl,fun _=>(by omega)⟩,rfl,(by simp only [List.length_dropLast];omega),rfl,capS (fun e=>by have:=hfr e;omega)⟩,⟨rfl,(by simp only [List.length_append,List.length_cons,List.length_nil]),(by simp only [List.length_cons];omega),rfl,rfl⟩,(by first | (show (_ : D) = _;with_reducible rfl) ),⟨rfl,rfl,rfl⟩,trivial⟩,⟨⟨rfl,rfl,.inl ⟨[_],rfl,rfl⟩⟩,⟨rfl,rfl,.inr ⟨⟨rfl,rfl,rfl,rfl,rfl,trivial,trivial⟩,trivial⟩⟩,⟨rfl,⟨rfl,rowI_cut hT.ne⟩⟩,⟨rfl,rfl,.inl rowT_next⟩,trivial⟩⟩);(exact ⟨by ((try simp only [List.length_append,List.length_cons,List.length_nil,List.length_dropLast]);omega),by omega,.inl ⟨rfl,hT.drop hup,hP.tl,(by omega),h0,h8x,(fun e=>by have:=hfr e;omega),hf⟩⟩)) | (have _q:=hdir;refine hC (tr ++ [(entOf t tr p).node]) (r) (st) (0) (m) (false) (true) (pr ++ [p]) _ _ ?_ (by omega) ?_;clear hC;rotate_left;(exact ⟨[.old 0,.old 1,.old 7,.old 3],rfl,rfl,⟨⟨rfl,rfl,rfl⟩,⟨rfl,rfl,(by simp),rfl,rfl⟩,⟨rfl,(by simp only [List.length_append,List.length_cons,List.length_nil]),(by simp only [List.length_cons];omega),rfl,rfl⟩,(by first | (show (_ : D) = _;with_reducible rfl) ),⟨rfl,rfl,rfl⟩,trivial⟩,⟨⟨rfl,rfl,.inl ⟨[_],rfl,rfl⟩⟩,⟨rfl,rfl,.inr ⟨⟨rfl,rfl,rfl,rfl,rfl,trivial,trivial⟩,trivial⟩⟩,⟨rfl,rfl,.inr rowI_ap2⟩,⟨rfl,rfl,.inl rowT_next⟩,trivial⟩⟩);(exact ⟨by ((try simp only [List.length_append,List.length_cons,List.length_nil,List.length_dropLast]);omega),by omega,.inl ⟨rfl,hT.snoc (V.next hT hl),hP.tl,(by omega),h0,h8x,(fun e=>by cases e),hf⟩⟩)) | (have _q:=hmok;refine hC (tr ++ [q.x.node]) (r) (q.st) (0) (m) (false) (true) (pr ++ [p]) _ _ ?_ (by omega) ?_;clear hC;rotate_left;(exact ⟨[.old 0,.old 1,.old 7,.old 3],rfl,rfl,⟨⟨rfl,rfl,rfl⟩,⟨rfl,rfl,(by simp),rfl,rfl⟩,⟨rfl,(by simp only [List.length_append,List.length_cons,List.length_nil]),(by simp only [List.length_cons];omega),rfl,rfl⟩,(by first | (show (_ : D) = _;with_reducible rfl) ),⟨rfl,rfl,rfl⟩,trivial⟩,⟨⟨rfl,rfl,.inl ⟨[_],rfl,rfl⟩⟩,⟨rfl,rfl,.inr ⟨⟨rfl,rfl,rfl,rfl,rfl,trivial,trivial⟩,trivial⟩⟩,⟨rfl,rfl,.inr rowI_ap2⟩,⟨rfl,rfl,.inl rowT_next⟩,trivial⟩⟩);(exact ⟨by ((try simp only [List.length_append,List.length_cons,List.length_nil,List.length_dropLast]);omega),by omega,.inl ⟨rfl,hT.snoc hN,hP.tl,(by omega),(by omega),(by omega),(fun e=>by cases e),hf⟩⟩)) | (have _q:=hdir;refine hC (tr ++ [(entOf t tr p).node]) (r) (st) (0) (m) (false) (true) (pr ++ [p]) _ _ ?_ (by omega) ?_;clear hC;rotate_left;(exact ⟨[.old 0,.old 1,.old 7,.old 3],rfl,rfl,⟨⟨rfl,rfl,rfl⟩,⟨rfl,rfl,(by simp),rfl,rfl⟩,⟨rfl,(by simp only [List.length_append,List.length_cons,List.length_nil]),(by simp only [List.length_cons];omega),rfl,rfl⟩,(by first | (show (_ : D) = _;with_reducible rfl) ),⟨rfl,rfl,rfl⟩,trivial⟩,⟨⟨rfl,rfl,.inl ⟨[_],rfl,rfl⟩⟩,⟨rfl,rfl,.inr ⟨⟨rfl,rfl,rfl,rfl,rfl,trivial,trivial⟩,trivial⟩⟩,⟨rfl,rfl,.inr rowI_app⟩,⟨rfl,rfl,.inl rowT_next⟩,trivial⟩⟩);(exact ⟨by ((try simp only [List.length_append,List.length_cons,List.length_nil,List.length_dropLast]);omega),by omega,.inl ⟨rfl,hT.snoc (V.next hT hl),hP.tl,(by omega),h0,h8x,(fun e=>by cases e),hf⟩⟩)) | (have _q:=hmok;refine hC (tr ++ [q.x.node]) (r) (q.st) (0) (m) (false) (true) (pr ++ [p]) _ _ ?_ (by omega) ?_;clear hC;rotate_left;(exact ⟨[.old 0,.old 1,.old 7,.old 3],rfl,rfl,⟨⟨rfl,rfl,rfl⟩,⟨rfl,rfl,(by simp),rfl,rfl⟩,⟨rfl,(by simp only [List.length_append,List.length_cons,List.length_nil]),(by simp only [List.length_cons];omega),rfl,rfl⟩,(by first | (show (_ : D) = _;with_reducible rfl) ),⟨rfl,rfl,rfl⟩,trivial⟩,⟨⟨rfl,rfl,.inl ⟨[_],rfl,rfl⟩⟩,⟨rfl,rfl,.inr ⟨⟨rfl,rfl,rfl,rfl,rfl,trivial,trivial⟩,trivial⟩⟩,⟨rfl,rfl,.inr rowI_app⟩,⟨rfl,rfl,.inl rowT_next⟩,trivial⟩⟩);(exact ⟨by ((try simp only [List.length_append,List.length_cons,List.length_nil,List.length_dropLast]);omega),by omega,.inl ⟨rfl,hT.snoc hN,hP.tl,(by omega),(by omega),(by omega),(fun e=>by cases e),hf⟩⟩)) | (have _q:=hnd;refine hC (tr) (r) (st) (35) (m) (fr) (true) (pr ++ [p]) _ _ ?_ (by omega) ?_;clear hC;rotate_left;(exact ⟨[.old 0,.old 1,.old 2,.old 3],rfl,rfl,⟨⟨rfl,rfl,rfl⟩,⟨rfl,rfl,rfl,rfl,rfl⟩,⟨rfl,(by simp only [List.length_append,List.length_cons,List.length_nil]),(by simp only [List.length_cons];omega),rfl,rfl⟩,(by first | (show (_ : D) = _;with_reducible rfl) ),⟨rfl,rfl,rfl⟩,trivial⟩,⟨⟨rfl,rfl,.inr ⟨⟨rfl,rfl,rfl,rfl,trivial⟩,trivial⟩⟩,⟨rfl,rfl,.inr ⟨⟨rfl,rfl,rfl,rfl,rfl,trivial,trivial⟩,trivial⟩⟩,⟨rfl,rfl,.inl ⟨_,rfl,rfl⟩⟩,⟨rfl,rfl,.inl rowT_next⟩,trivial⟩⟩);(exact ⟨by ((try simp only [List.length_append,List.length_cons,List.length_nil,List.length_dropLast]);omega),by omega,.inr ⟨(by omega),rfl,rfl⟩⟩)) | (have _q:=hlo;refine hC (tr) (r) (st + 1) (25) (m) (fr) (true) (pr ++ [p]) _ _ ?_ (by omega) ?_;clear hC;rotate_left;(exact ⟨[.old 0,.old 1,.old 2,.old 3],rfl,rfl,⟨⟨rfl,rfl,rfl⟩,⟨rfl,rfl,rfl,rfl,rfl⟩,⟨rfl,(by simp only [List.length_append,List.length_cons,List.length_nil]),(by simp only [List.length_cons];omega),rfl,rfl⟩,(by first | (show (_ : D) = _;with_reducible rfl) ),⟨rfl,rfl,rfl⟩,trivial⟩,⟨⟨rfl,rfl,.inl ⟨[_],rfl,rfl⟩⟩,⟨rfl,rfl,.inr ⟨⟨rfl,rfl,rfl,rfl,rfl,trivial,trivial⟩,trivial⟩⟩,⟨rfl,rfl,.inl ⟨_,rfl,rfl⟩⟩,⟨rfl,rfl,.inl rowT_next⟩,trivial⟩⟩);(exact ⟨by ((try simp only [List.length_append,List.length_cons,List.length_nil,List.length_dropLast]);omega),by omega,.inr ⟨(by omega),rfl,rfl⟩⟩)) | (have _q:=hma;refine hC (tr) (r) (q.st) (q.e) (m) (fr) (true) (pr ++ [p]) _ _ ?_ (by omega) ?_;clear hC;rotate_left;(exact ⟨[.old 0,.old 1,.old 2,.old 3],rfl,rfl,⟨⟨rfl,rfl,rfl⟩,⟨rfl,rfl,rfl,rfl,rfl⟩,⟨rfl,(by simp only [List.length_append,List.length_cons,List.length_nil]),(by simp only [List.length_cons];omega),rfl,rfl⟩,(by first | (show (_ : D) = _;with_reducible rfl) ),⟨rfl,rfl,rfl⟩,trivial⟩,⟨⟨rfl,rfl,.inl ⟨[_],rfl,rfl⟩⟩,⟨rfl,rfl,.inr ⟨⟨rfl,rfl,rfl,rfl,rfl,trivial,trivial⟩,trivial⟩⟩,⟨rfl,rfl,.inl ⟨_,rfl,rfl⟩⟩,⟨rfl,rfl,.inl rowT_next⟩,trivial⟩⟩);(exact ⟨by ((try simp only [List.length_append,List.length_cons,List.length_nil,List.length_dropLast]);omega),by omega,.inr ⟨hma,rfl,rfl⟩⟩)) | (have _q:=hmb;refine hC (tr) (r) (q.st) (6) (m) (fr) (true) (pr ++ [p]) _ _ ?_ (by omega) ?_;clear hC;rotate_left;(exact ⟨[.old 0,.old 1,.old 2,.old 3],rfl,rfl,⟨⟨rfl,rfl,rfl⟩,⟨rfl,rfl,rfl,rfl,rfl⟩,⟨rfl,(by simp only [List.length_append,List.length_cons,List.length_nil]),(by simp only [List.length_cons];omega),rfl,rfl⟩,(by first | (show (_ : D) = _;with_reducible rfl) ),⟨rfl,rfl,rfl⟩,trivial⟩,⟨⟨rfl,rfl,.inl ⟨[_],rfl,rfl⟩⟩,⟨rfl,rfl,.inr ⟨⟨rfl,rfl,rfl,rfl,rfl,trivial,trivial⟩,trivial⟩⟩,⟨rfl,rfl,.inl ⟨_,rfl,rfl⟩⟩,⟨rfl,rfl,.inl rowT_next⟩,trivial⟩⟩);(exact ⟨by ((try simp only [List.length_append,List.length_cons,List.length_nil,List.length_dropLast]);omega),by omega,.inr ⟨(by omega),rfl,rfl⟩⟩)) | (have _q:=hmc;refine hC (tr) (r) (q.st) (35) (m) (fr) (true) (pr ++ [p]) _ _ ?_ (by omega) ?_;clear hC;rotate_left;(exact ⟨[.old 0,.old 1,.old 2,.old 3],rfl,rfl,⟨⟨rfl,rfl,rfl⟩,⟨rfl,rfl,rfl,rfl,rfl⟩,⟨rfl,(by simp only [List.length_append,List.length_cons,List.length_nil]),(by simp only [List.length_cons];omega),rfl,rfl⟩,(by first | (show (_ : D) = _;with_reducible rfl) ),⟨rfl,rfl,rfl⟩,trivial⟩,⟨⟨rfl,rfl,.inl ⟨[_],rfl,rfl⟩⟩,⟨rfl,rfl,.inr ⟨⟨rfl,rfl,rfl,rfl,rfl,trivial,trivial⟩,trivial⟩⟩,⟨rfl,rfl,.inl ⟨_,rfl,rfl⟩⟩,⟨rfl,rfl,.inl rowT_next⟩,trivial⟩⟩);(exact ⟨by ((try simp only [List.length_append,List.length_cons,List.length_nil,List.length_dropLast]);omega),by omega,.inr ⟨(by omega),rfl,rfl⟩⟩)) | (have _q:=hdot;refine hC (tr) (r) (st) (0) (m) (fr) (false) (pr ++ [p]) _ _ ?_ (by omega) ?_;clear hC;rotate_left;(exact ⟨[.old 0,.old 1,.old 2,.old 3],rfl,rfl,⟨⟨rfl,rfl,rfl⟩,⟨rfl,rfl,rfl,rfl,rfl⟩,(by exact rfl),(by first | (show (_ : D) = _;with_reducible rfl) ),⟨rfl,rfl,rfl⟩,trivial⟩,⟨⟨rfl,rfl,.inl ⟨[_],rfl,rfl⟩⟩,⟨rfl,rfl,.inr ⟨⟨rfl,rfl,rfl,rfl,rfl,trivial,trivial⟩,trivial⟩⟩,⟨rfl,rfl,.inl ⟨_,rfl,rfl⟩⟩,⟨rfl,rfl,.inl ⟨[],rfl,rfl⟩⟩,trivial⟩⟩);(exact ⟨by ((try simp only [List.length_append,List.length_cons,List.length_nil,List.length_dropLast]);omega),by omega,.inl ⟨rfl,hT,hP.tl,(by omega),h0,h8x,hfr,hf⟩⟩)) | (have _q:=htop;refine hC (tr) (r) (st) (0) (m) (fr) (false) (pr ++ [p]) _ _ ?_ (by omega) ?_;clear hC;rotate_left;(exact ⟨[.old 0,.old 1,.old 2,.old 3],rfl,rfl,⟨⟨rfl,rfl,rfl⟩,⟨rfl,rfl,rfl,rfl,rfl⟩,(by exact rfl),(by first | (show (_ : D) = _;with_reducible rfl) ),⟨rfl,rfl,rfl⟩,trivial⟩,⟨⟨rfl,rfl,.inl ⟨[_],rfl,rfl⟩⟩,⟨rfl,rfl,.inr ⟨⟨rfl,rfl,rfl,rfl,rfl,trivial,trivial⟩,trivial⟩⟩,⟨rfl,rfl,.inl ⟨_,rfl,rfl⟩⟩,⟨rfl,rfl,.inl ⟨[],rfl,rfl⟩⟩,trivial⟩⟩);(exact ⟨by ((try simp only [List.length_append,List.length_cons,List.length_nil,List.length_dropLast]);omega),by omega,.inl ⟨rfl,hT,hP.tl,(by omega),h0,h8x,hfr,hf⟩⟩)) | (have _q:=hup;refine hC (tr.dropLast) (r) (st) (0) (m) (fr) (false) (pr ++ [p]) _ _ ?_ (by omega) ?_;clear hC;rotate_left;(exact ⟨[.old 0,.old 1,.cut 2 (tr.length - 1),.old 3],rfl,rfl,⟨⟨rfl,rfl,rfl⟩,⟨⟨rfl,fun _=>(by omega)⟩,rfl,(by simp only [List.length_dropLast];omega),rfl,capS (fun e=>by have:=hfr e;omega)⟩,(by exact rfl),(by first | (show (_ : D) = _;with_reducible rfl) ),⟨rfl,rfl,rfl⟩,trivial⟩,⟨⟨rfl,rfl,.inl ⟨[_],rfl,rfl⟩⟩,⟨rfl,rfl,.inr ⟨⟨rfl,rfl,rfl,rfl,rfl,trivial,trivial⟩,trivial⟩⟩,⟨rfl,⟨rfl,rowI_cut hT.ne⟩⟩,⟨rfl,rfl,.inl ⟨[],rfl,rfl⟩⟩,trivial⟩⟩);(exact ⟨by ((try simp only [List.length_append,List.length_cons,List.length_nil,List.length_dropLast]);omega),by omega,.inl ⟨rfl,hT.drop hup,hP.tl,(by omega),h0,h8x,(fun e=>by have:=hfr e;omega),hf⟩⟩)) | (have _q:=hdir;refine hC (tr ++ [(entOf t tr p).node]) (r) (st) (0) (m) (false) (false) (pr ++ [p]) _ _ ?_ (by omega) ?_;clear hC;rotate_left;(exact ⟨[.old 0,.old 1,.old 7,.old 3],rfl,rfl,⟨⟨rfl,rfl,rfl⟩,⟨rfl,rfl,(by simp),rfl,rfl⟩,(by exact rfl),(by first | (show (_ : D) = _;with_reducible rfl) ),⟨rfl,rfl,rfl⟩,trivial⟩,⟨⟨rfl,rfl,.inl ⟨[_],rfl,rfl⟩⟩,⟨rfl,rfl,.inr ⟨⟨rfl,rfl,rfl,rfl,rfl,trivial,trivial⟩,trivial⟩⟩,⟨rfl,rfl,.inr rowI_ap2⟩,⟨rfl,rfl,.inl ⟨[],rfl,rfl⟩⟩,trivial⟩⟩);(exact ⟨by ((try simp only [List.length_append,List.length_cons,List.length_nil,List.length_dropLast]);omega),by omega,.inl ⟨rfl,hT.snoc (V.next hT hl),hP.tl,(by omega),h0,h8x,(fun e=>by cases e),hf⟩⟩)) | (have _q:=hmok;refine hC (tr ++ [q.x.node]) (r) (q.st) (0) (m) (false) (false) (pr ++ [p]) _ _ ?_ (by omega) ?_;clear hC;rotate_left;(exact ⟨[.old 0,.old 1,.old 7,.old 3],rfl,rfl,⟨⟨rfl,rfl,rfl⟩,⟨rfl,rfl,(by simp),rfl,rfl⟩,(by exact rfl),(by first | (show (_ : D) = _;with_reducible rfl) ),⟨rfl,rfl,rfl⟩,trivial⟩,⟨⟨rfl,rfl,.inl ⟨[_],rfl,rfl⟩⟩,⟨rfl,rfl,.inr ⟨⟨rfl,rfl,rfl,rfl,rfl,trivial,trivial⟩,trivial⟩⟩,⟨rfl,rfl,.inr rowI_ap2⟩,⟨rfl,rfl,.inl ⟨[],rfl,rfl⟩⟩,trivial⟩⟩);(exact ⟨by ((try simp only [List.length_append,List.length_cons,List.length_nil,List.length_dropLast]);omega),by omega,.inl ⟨rfl,hT.snoc hN,hP.tl,(by omega),(by omega),(by omega),(fun e=>by cases e),hf⟩⟩)) | (have _q:=hdir;refine hC (tr ++ [(entOf t tr p).node]) (r) (st) (0) (m) (false) (false) (pr ++ [p]) _ _ ?_ (by omega) ?_;clear hC;rotate_left;(exact ⟨[.old 0,.old 1,.old 7,.old 3],rfl,rfl,⟨⟨rfl,rfl,rfl⟩,⟨rfl,rfl,(by simp),rfl,rfl⟩,(by exact rfl),(by first | (show (_ : D) = _;with_reducible rfl) ),⟨rfl,rfl,rfl⟩,trivial⟩,⟨⟨rfl,rfl,.inl ⟨[_],rfl,rfl⟩⟩,⟨rfl,rfl,.inr ⟨⟨rfl,rfl,rfl,rfl,rfl,trivial,trivial⟩,trivial⟩⟩,⟨rfl,rfl,.inr rowI_app⟩,⟨rfl,rfl,.inl ⟨[],rfl,rfl⟩⟩,trivial⟩⟩);(exact ⟨by ((try simp only [List.length_append,List.length_cons,List.length_nil,List.length_dropLast]);omega),by omega,.inl ⟨rfl,hT.snoc (V.next hT hl),hP.tl,(by omega),h0,h8x,(fun e=>by cases e),hf⟩⟩)) | (have _q:=hmok;refine hC (tr ++ [q.x.node]) (r) (q.st) (0) (m) (false) (false) (pr ++ [p]) _ _ ?_ (by omega) ?_;clear hC;rotate_left;(exact ⟨[.old 0,.old 1,.old 7,.old 3],rfl,rfl,⟨⟨rfl,rfl,rfl⟩,⟨rfl,rfl,(by simp),rfl,rfl⟩,(by exact rfl),(by first | (show (_ : D) = _;with_reducible rfl) ),⟨rfl,rfl,rfl⟩,trivial⟩,⟨⟨rfl,rfl,.inl ⟨[_],rfl,rfl⟩⟩,⟨rfl,rfl,.inr ⟨⟨rfl,rfl,rfl,rfl,rfl,trivial,trivial⟩,trivial⟩⟩,⟨rfl,rfl,.inr rowI_app⟩,⟨rfl,rfl,.inl ⟨[],rfl,rfl⟩⟩,trivial⟩⟩);(exact ⟨by ((try simp only [List.length_append,List.length_cons,List.length_nil,List.length_dropLast]);omega),by omega,.inl ⟨rfl,hT.snoc hN,hP.tl,(by omega),(by omega),(by omega),(fun e=>by cases e),hf⟩⟩)) | (have _q:=hnd;refine hC (tr) (r) (st) (35) (m) (fr) (false) (pr ++ [p]) _ _ ?_ (by omega) ?_;clear hC;rotate_left;(exact ⟨[.old 0,.old 1,.old 2,.old 3],rfl,rfl,⟨⟨rfl,rfl,rfl⟩,⟨rfl,rfl,rfl,rfl,rfl⟩,(by exact rfl),(by first | (show (_ : D) = _;with_reducible rfl) ),⟨rfl,rfl,rfl⟩,trivial⟩,⟨⟨rfl,rfl,.inr ⟨⟨rfl,rfl,rfl,rfl,trivial⟩,trivial⟩⟩,⟨rfl,rfl,.inr ⟨⟨rfl,rfl,rfl,rfl,rfl,trivial,trivial⟩,trivial⟩⟩,⟨rfl,rfl,.inl ⟨_,rfl,rfl⟩⟩,⟨rfl,rfl,.inl ⟨[],rfl,rfl⟩⟩,trivial⟩⟩);(exact ⟨by ((try simp only [List.length_append,List.length_cons,List.length_nil,List.length_dropLast]);omega),by omega,.inr ⟨(by omega),rfl,rfl⟩⟩)) | (have _q:=hlo;refine hC (tr) (r) (st + 1) (25) (m) (fr) (false) (pr ++ [p]) _ _ ?_ (by omega) ?_;clear hC;rotate_left;(exact ⟨[.old 0,.old 1,.old 2,.old 3],rfl,rfl,⟨⟨rfl,rfl,rfl⟩,⟨rfl,rfl,rfl,rfl,rfl⟩,(by exact rfl),(by first | (show (_ : D) = _;with_reducible rfl) ),⟨rfl,rfl,rfl⟩,trivial⟩,⟨⟨rfl,rfl,.inl ⟨[_],rfl,rfl⟩⟩,⟨rfl,rfl,.inr ⟨⟨rfl,rfl,rfl,rfl,rfl,trivial,trivial⟩,trivial⟩⟩,⟨rfl,rfl,.inl ⟨_,rfl,rfl⟩⟩,⟨rfl,rfl,.inl ⟨[],rfl,rfl⟩⟩,trivial⟩⟩);(exact ⟨by ((try simp only [List.length_append,List.length_cons,List.length_nil,List.length_dropLast]);omega),by omega,.inr ⟨(by omega),rfl,rfl⟩⟩)) | (have _q:=hma;refine hC (tr) (r) (q.st) (q.e) (m) (fr) (false) (pr ++ [p]) _ _ ?_ (by omega) ?_;clear hC;rotate_left;(exact ⟨[.old 0,.old 1,.old 2,.old 3],rfl,rfl,⟨⟨rfl,rfl,rfl⟩,⟨rfl,rfl,rfl,rfl,rfl⟩,(by exact rfl),(by first | (show (_ : D) = _;with_reducible rfl) ),⟨rfl,rfl,rfl⟩,trivial⟩,⟨⟨rfl,rfl,.inl ⟨[_],rfl,rfl⟩⟩,⟨rfl,rfl,.inr ⟨⟨rfl,rfl,rfl,rfl,rfl,trivial,trivial⟩,trivial⟩⟩,⟨rfl,rfl,.inl ⟨_,rfl,rfl⟩⟩,⟨rfl,rfl,.inl ⟨[],rfl,rfl⟩⟩,trivial⟩⟩);(exact ⟨by ((try simp only [List.length_append,List.length_cons,List.length_nil,List.length_dropLast]);omega),by omega,.inr ⟨hma,rfl,rfl⟩⟩)) | (have _q:=hmb;refine hC (tr) (r) (q.st) (6) (m) (fr) (false) (pr ++ [p]) _ _ ?_ (by omega) ?_;clear hC;rotate_left;(exact ⟨[.old 0,.old 1,.old 2,.old 3],rfl,rfl,⟨⟨rfl,rfl,rfl⟩,⟨rfl,rfl,rfl,rfl,rfl⟩,(by exact rfl),(by first | (show (_ : D) = _;with_reducible rfl) ),⟨rfl,rfl,rfl⟩,trivial⟩,⟨⟨rfl,rfl,.inl ⟨[_],rfl,rfl⟩⟩,⟨rfl,rfl,.inr ⟨⟨rfl,rfl,rfl,rfl,rfl,trivial,trivial⟩,trivial⟩⟩,⟨rfl,rfl,.inl ⟨_,rfl,rfl⟩⟩,⟨rfl,rfl,.inl ⟨[],rfl,rfl⟩⟩,trivial⟩⟩);(exact ⟨by ((try simp only [List.length_append,List.length_cons,List.length_nil,List.length_dropLast]);omega),by omega,.inr ⟨(by omega),rfl,rfl⟩⟩)) | (have _q:=hmc;refine hC (tr) (r) (q.st) (35) (m) (fr) (false) (pr ++ [p]) _ _ ?_ (by omega) ?_;clear hC;rotate_left;(exact ⟨[.old 0,.old 1,.old 2,.old 3],rfl,rfl,⟨⟨rfl,rfl,rfl⟩,⟨rfl,rfl,rfl,rfl,rfl⟩,(by exact rfl),(by first | (show (_ : D) = _;with_reducible rfl) ),⟨rfl,rfl,rfl⟩,trivial⟩,⟨⟨rfl,rfl,.inl ⟨[_],rfl,rfl⟩⟩,⟨rfl,rfl,.inr ⟨⟨rfl,rfl,rfl,rfl,rfl,trivial,trivial⟩,trivial⟩⟩,⟨rfl,rfl,.inl ⟨_,rfl,rfl⟩⟩,⟨rfl,rfl,.inl ⟨[],rfl,rfl⟩⟩,trivial⟩⟩);(exact ⟨by ((try simp only [List.length_append,List.length_cons,List.length_nil,List.length_dropLast]);omega),by omega,.inr ⟨(by omega),rfl,rfl⟩⟩)) | (have _q:=hab;refine hC (tr) ((tgtOf t tr p).parts ++ r) (st + 1) (0) (m) (fr) (true) ([]) _ _ ?_ (by omega) ?_;clear hC;rotate_left;(exact ⟨[.old 0,.old 1,.old 2,.old 7],rfl,rfl,⟨⟨rfl,rfl,rfl⟩,⟨rfl,rfl,rfl,rfl,rfl⟩,⟨rfl,rfl,(by simp),rfl,rfl⟩,(by first | (show (_ : D) = _;with_reducible rfl) ),⟨rfl,rfl,rfl⟩,trivial⟩,⟨⟨rfl,rfl,.inl ⟨[_],rfl,rfl⟩⟩,⟨rfl,rfl,.inr ⟨⟨rfl,rfl,rfl,rfl,rfl,trivial,trivial⟩,trivial⟩⟩,⟨rfl,rfl,.inl ⟨_,rfl,rfl⟩⟩,⟨rfl,rfl,.inr (wks_over (by omega))⟩,trivial⟩⟩);(exact ⟨by ((try simp only [List.length_append,List.length_cons,List.length_nil,List.length_dropLast]);omega),by omega,.inl ⟨rfl,hT,((V.tgt hT hl (by omega) (by omega)).1.app hP.tl),(by ((try simp only [List.length_append,List.length_cons,List.length_nil,List.length_dropLast]);omega)),(by omega),(by omega),hfr,hf⟩⟩)) | (have _q:=hab;refine hC ([0]) ((tgtOf t tr p).parts ++ r) (st + 1) (0) (m) (true) (true) ([]) _ _ ?_ (by omega) ?_;clear hC;rotate_left;(exact ⟨[.old 0,.old 1,.old 8,.old 7],rfl,rfl,⟨⟨rfl,rfl,rfl⟩,⟨rfl,rfl,rfl,rfl,rfl⟩,⟨rfl,rfl,(by simp),rfl,rfl⟩,(by first | (show (_ : D) = _;with_reducible rfl) ),⟨rfl,rfl,rfl⟩,trivial⟩,⟨⟨rfl,rfl,.inl ⟨[_],rfl,rfl⟩⟩,⟨rfl,rfl,.inr ⟨⟨rfl,rfl,rfl,rfl,rfl,trivial,trivial⟩,trivial⟩⟩,⟨rfl,rfl,.inl ⟨_,rfl,rfl⟩⟩,⟨rfl,rfl,.inr (wks_over (by omega))⟩,trivial⟩⟩);(exact ⟨by ((try simp only [List.length_append,List.length_cons,List.length_nil,List.length_dropLast]);omega),by omega,.inl ⟨rfl,V.root,((V.tgt hT hl (by omega) (by omega)).1.app hP.tl),(by ((try simp only [List.length_append,List.length_cons,List.length_nil,List.length_dropLast]);omega)),(by omega),(by omega),(fun _=>rfl),hf⟩⟩)) | (have _q:=hlo;refine hC (tr) ((tgtOf t tr p).parts ++ r) (st + 1) (25) (m) (fr) (true) ([]) _ _ ?_ (by omega) ?_;clear hC;rotate_left;(exact ⟨[.old 0,.old 1,.old 2,.old 7],rfl,rfl,⟨⟨rfl,rfl,rfl⟩,⟨rfl,rfl,rfl,rfl,rfl⟩,⟨rfl,rfl,(by simp),rfl,rfl⟩,(by first | (show (_ : D) = _;with_reducible rfl) ),⟨rfl,rfl,rfl⟩,trivial⟩,⟨⟨rfl,rfl,.inl ⟨[_],rfl,rfl⟩⟩,⟨rfl,rfl,.inr ⟨⟨rfl,rfl,rfl,rfl,rfl,trivial,trivial⟩,trivial⟩⟩,⟨rfl,rfl,.inl ⟨_,rfl,rfl⟩⟩,⟨rfl,rfl,.inr (wks_over (by omega))⟩,trivial⟩⟩);(exact ⟨by ((try simp only [List.length_append,List.length_cons,List.length_nil,List.length_dropLast]);omega),by omega,.inr ⟨(by omega),rfl,rfl⟩⟩)) | (have _q:=hlo;refine hC ([0]) ((tgtOf t tr p).parts ++ r) (st + 1) (25) (m) (true) (true) ([]) _ _ ?_ (by omega) ?_;clear hC;rotate_left;(exact ⟨[.old 0,.old 1,.old 8,.old 7],rfl,rfl,⟨⟨rfl,rfl,rfl⟩,⟨rfl,rfl,rfl,rfl,rfl⟩,⟨rfl,rfl,(by simp),rfl,rfl⟩,(by first | (show (_ : D) = _;with_reducible rfl) ),⟨rfl,rfl,rfl⟩,trivial⟩,⟨⟨rfl,rfl,.inl ⟨[_],rfl,rfl⟩⟩,⟨rfl,rfl,.inr ⟨⟨rfl,rfl,rfl,rfl,rfl,trivial,trivial⟩,trivial⟩⟩,⟨rfl,rfl,.inl ⟨_,rfl,rfl⟩⟩,⟨rfl,rfl,.inr (wks_over (by omega))⟩,trivial⟩⟩);(exact ⟨by ((try simp only [List.length_append,List.length_cons,List.length_nil,List.length_dropLast]);omega),by omega,.inr ⟨(by omega),rfl,rfl⟩⟩)) | (have _q:=hab;refine hC (tr) ((tgtOf t tr p).parts ++ r) (st + 1) (0) (m) (fr) (true) ([]) _ _ ?_ (by omega) ?_;clear hC;rotate_left;(exact ⟨[.old 0,.old 1,.old 2,.old 8],rfl,rfl,⟨⟨rfl,rfl,rfl⟩,⟨rfl,rfl,rfl,rfl,rfl⟩,⟨rfl,rfl,(by simp),rfl,rfl⟩,(by first | (show (_ : D) = _;with_reducible rfl) ),⟨rfl,rfl,rfl⟩,trivial⟩,⟨⟨rfl,rfl,.inl ⟨[_],rfl,rfl⟩⟩,⟨rfl,rfl,.inr ⟨⟨rfl,rfl,rfl,rfl,rfl,trivial,trivial⟩,trivial⟩⟩,⟨rfl,rfl,.inl ⟨_,rfl,rfl⟩⟩,⟨rfl,rfl,.inr wks_cat⟩,trivial⟩⟩);(exact ⟨by ((try simp only [List.length_append,List.length_cons,List.length_nil,List.length_dropLast]);omega),by omega,.inl ⟨rfl,hT,((V.tgt hT hl (by omega) (by omega)).1.app hP.tl),(by ((try simp only [List.length_append,List.length_cons,List.length_nil,List.length_dropLast]);omega)),(by omega),(by omega),hfr,hf⟩⟩)) | (have _q:=hab;refine hC ([0]) ((tgtOf t tr p).parts ++ r) (st + 1) (0) (m) (true) (true) ([]) _ _ ?_ (by omega) ?_;clear hC;rotate_left;(exact ⟨[.old 0,.old 1,.old 9,.old 8],rfl,rfl,⟨⟨rfl,rfl,rfl⟩,⟨rfl,rfl,rfl,rfl,rfl⟩,⟨rfl,rfl,(by simp),rfl,rfl⟩,(by first | (show (_ : D) = _;with_reducible rfl) ),⟨rfl,rfl,rfl⟩,trivial⟩,⟨⟨rfl,rfl,.inl ⟨[_],rfl,rfl⟩⟩,⟨rfl,rfl,.inr ⟨⟨rfl,rfl,rfl,rfl,rfl,trivial,trivial⟩,trivial⟩⟩,⟨rfl,rfl,.inl ⟨_,rfl,rfl⟩⟩,⟨rfl,rfl,.inr wks_cat⟩,trivial⟩⟩);(exact ⟨by ((try simp only [List.length_append,List.length_cons,List.length_nil,List.length_dropLast]);omega),by omega,.inl ⟨rfl,V.root,((V.tgt hT hl (by omega) (by omega)).1.app hP.tl),(by ((try simp only [List.length_append,List.length_cons,List.length_nil,List.length_dropLast]);omega)),(by omega),(by omega),(fun _=>rfl),hf⟩⟩)) | (have _q:=hlo;refine hC (tr) ((tgtOf t tr p).parts ++ r) (st + 1) (25) (m) (fr) (true) ([]) _ _ ?_ (by omega) ?_;clear hC;rotate_left;(exact ⟨[.old 0,.old 1,.old 2,.old 8],rfl,rfl,⟨⟨rfl,rfl,rfl⟩,⟨rfl,rfl,rfl,rfl,rfl⟩,⟨rfl,rfl,(by simp),rfl,rfl⟩,(by first | (show (_ : D) = _;with_reducible rfl) ),⟨rfl,rfl,rfl⟩,trivial⟩,⟨⟨rfl,rfl,.inl ⟨[_],rfl,rfl⟩⟩,⟨rfl,rfl,.inr ⟨⟨rfl,rfl,rfl,rfl,rfl,trivial,trivial⟩,trivial⟩⟩,⟨rfl,rfl,.inl ⟨_,rfl,rfl⟩⟩,⟨rfl,rfl,.inr wks_cat⟩,trivial⟩⟩);(exact ⟨by ((try simp only [List.length_append,List.length_cons,List.length_nil,List.length_dropLast]);omega),by omega,.inr ⟨(by omega),rfl,rfl⟩⟩)) | (have _q:=hlo;refine hC ([0]) ((tgtOf t tr p).parts ++ r) (st + 1) (25) (m) (true) (true) ([]) _ _ ?_ (by omega) ?_;clear hC;rotate_left;(exact ⟨[.old 0,.old 1,.old 9,.old 8],rfl,rfl,⟨⟨rfl,rfl,rfl⟩,⟨rfl,rfl,rfl,rfl,rfl⟩,⟨rfl,rfl,(by simp),rfl,rfl⟩,(by first | (show (_ : D) = _;with_reducible rfl) ),⟨rfl,rfl,rfl⟩,trivial⟩,⟨⟨rfl,rfl,.inl ⟨[_],rfl,rfl⟩⟩,⟨rfl,rfl,.inr ⟨⟨rfl,rfl,rfl,rfl,rfl,trivial,trivial⟩,trivial⟩⟩,⟨rfl,rfl,.inl ⟨_,rfl,rfl⟩⟩,⟨rfl,rfl,.inr wks_cat⟩,trivial⟩⟩);(exact ⟨by ((try simp only [List.length_append,List.length_cons,List.length_nil,List.length_dropLast]);omega),by omega,.inr ⟨(by omega),rfl,rfl⟩⟩)))
 | (refine ⟨⟨(by first | (simp;done)),cap_ok (by simp only [List.length_map,List.length_cons,List.length_nil,List.length_append];omega) rfl⟩,?_⟩;conv=>whnf)
 | (refine ⟨(by intro y hy;obtain ⟨x,_,rfl⟩:=List.mem_map.1 hy;first | exact ⟨rfl,rfl⟩),?_⟩;conv=>whnf)
 | (refine wrap64 (by omega) ?_;conv=>whnf)
 | (refine ix_hd ?_;conv=>whnf)
 | (refine rowT_hd rfl ?_;conv=>whnf)
 | (refine rowT_src rfl rfl ?_;conv=>whnf)
 | (refine ⟨Nat.le_refl _,?_⟩;conv=>whnf)
 | (refine own_sl 0 (tr.length - 1) rfl (by omega) ⟨Nat.zero_le _,by omega⟩ ?_;conv=>whnf)
 | (refine own_sl 1 ((p :: r).length) rfl rfl ⟨by simp only [List.length_cons];omega,Nat.le_refl _⟩ ?_;conv=>whnf)
 | (refine ix_nd hN1.nn hN1.get ?_;conv=>whnf)
 | (refine ix_nd hT.here.nn hT.here.get ?_;conv=>whnf)
 | (refine look_ixE hl ?_;conv=>whnf)
 | (refine ⟨⟨Int.le_refl _,by simp only [List.length_cons];omega⟩,?_⟩;conv=>whnf)
 | (refine last_at hT.ne (by omega) ?_;conv=>whnf)
 | (refine rs_tl (by simp only [List.length_map,List.length_cons]) ?_;conv=>whnf)
 | (refine ⟨⟨by omega,by omega⟩,?_⟩;conv=>whnf)
 | ((with_reducible refine endx_go ?_);first | (rw [fdR_err (by decide)];exact endX_of (.inl ⟨[.old 0],rfl,rfl,⟨⟨rfl,⟨rfl,rfl,rfl,rfl,rfl,rfl,trivial⟩⟩,trivial⟩,⟨⟨rfl,rfl,.inr ⟨⟨rfl,rfl,rfl,rfl,trivial⟩,trivial⟩⟩,trivial⟩⟩);done) | (rw [fdR_n he0];exact endX_of (.inl ⟨[.old 0],rfl,rfl,⟨⟨rfl,⟨rfl,rfl,rfl,rfl,rfl,rfl,trivial⟩⟩,trivial⟩,⟨⟨rfl,rfl,.inl ⟨[_],rfl,rfl⟩⟩,trivial⟩⟩);done) | (rw [fdR_ok];exact endx_fnd rfl rfl ⟨rfl,rfl,.inl ⟨[_],rfl,rfl⟩⟩ rfl;done) )
  | fail
  )
theorem p54 {t : List Nod} (V : Vt t) : ∀ n ≤ 2001,P54 t n
 | 0,_=>fun m hm=>by omega
 | n + 1,hn=>fun m hm ps last st o h1 h2 h3 h4 h5=>by
  have IH : P54 t m:=fun k hk=>p54 V n (by omega) k (by omega)
  exact c54 t V m IH ps last st o h1 h2 h3 h4 (by omega) h5
end Go.Proofs.YtpfokhdelnlciaaGreatDoor
namespace Go.Proofs.YtpfokhdelnlciaaGreatDoor
open Go Dw
set_option maxRecDepth 10000
attribute [local irreducible] Run
set_option maxHeartbeats 1000000
open Paths
attribute [local irreducible] nameErr cut normal dots partErr text parse glue fold within
theorem c54r {t : List Nod} {s : Bs} {last : Bool} (V : Vt t) (h : (parse s).2 = 0) : R54 t (parse s).1.parts last 0 (folR t (parse s).1.parts last):=
 p54 V 2001 (by omega) 2000 (by omega) _ last 0 _ (parse_ok h).1 (by have:=(parse_ok h).2;omega) (by omega) (by omega) (folR_some V (by have:=(parse_ok h).2;omega))
theorem rs_fd {o : Fo} {s : Bs} {st : Int} (h : o.e = 0) : (⟨o.x,s,st,0⟩ : Rs) = ⟨fdR o,s,st,0⟩:=by rw [fdR_0 h]
theorem c17e {t : List Nod} (B : Tb t) {c : Int} (h : (checkT t).2 = c) : Fn 17 [treeD t] (i c):=by subst h;exact c17 t B
attribute [local irreducible] resP resR folR fol checkT fdR
theorem c15a (t : List Nod) (B : Tb t) (s : Bs) (last : Bool) (hc : ¬ (checkT t).2 = 0) : Fn 15 [treeD t,.str s,.bool last] (.tup [(resR t s last).enc,i (resR t s last).e]):=by
 refine run_walkF eok Tryz.func15 rfl (by kernel_rfl) ?_
 conv=>whnf
 repeat' (first
 | ((with_reducible refine on_ndec_f (by assumption) ?_);conv=>whnf)
 | ((with_reducible refine call_go ?_);(first | refine call_step (run_data (xs:=[_]) (c17 t B) _) ?_ );conv=>whnf)
 | ((with_reducible refine endx_go ?_);first | (exact endxv (view_tup (vlc (view_agg (vlc rfl (vlc rfl (vlc rfl (vlc rfl (vlc rfl (vlc rfl vln))))))) (vlc rfl vln))) (rs_end (rr_a hc));done))
  | fail
  )
theorem c15b (t : List Nod) (B : Tb t) (s : Bs) (last : Bool) (hc : (checkT t).2 = 0) (hp : ¬ (parse s).2 = 0) : Fn 15 [treeD t,.str s,.bool last] (.tup [(resR t s last).enc,i (resR t s last).e]):=by
 refine run_walkF eok Tryz.func15 rfl (by kernel_rfl) ?_
 conv=>whnf
 repeat' (first
 | ((with_reducible refine on_ndec_f (by assumption) ?_);conv=>whnf)
 | ((with_reducible refine call_go ?_);(first | refine call_step (run_data (xs:=[_]) (c17e B hc) _) ?_ | refine call_step (run_data (xs:=[_]) (c30 s) _) ?_ );conv=>whnf)
 | ((with_reducible refine endx_go ?_);first | (exact endxv (view_tup (vlc (view_agg (vlc rfl (vlc rfl (vlc rfl (vlc rfl (vlc rfl (vlc rfl vln))))))) (vlc rfl vln))) (rs_end ((rr_b hc).trans (rp_a hp)));done))
  | fail
  )
theorem c15c (t : List Nod) (B : Tb t) (s : Bs) (last : Bool) (hc : (checkT t).2 = 0) (hp : (parse s).2 = 0) (ha : (parse s).1.abs = false) : Fn 15 [treeD t,.str s,.bool last] (.tup [(resR t s last).enc,i (resR t s last).e]):=by
 refine run_walkF eok Tryz.func15 rfl (by kernel_rfl) ?_
 conv=>whnf
 repeat' (first
 | ((with_reducible refine on_nf (by assumption) ?_);conv=>whnf)
 | ((with_reducible refine call_go ?_);(first | refine call_step (run_data (xs:=[_]) (c17e B hc) _) ?_ | refine call_step (run_data (xs:=[_]) (c30e hp) _) ?_ );conv=>whnf)
 | ((with_reducible refine endx_go ?_);first | (exact endxv (view_tup (vlc (view_agg (vlc rfl (vlc rfl (vlc rfl (vlc rfl (vlc rfl (vlc rfl vln))))))) (vlc rfl vln))) (rs_end ((rr_b hc).trans (rp_b hp ha)));done))
  | fail
  )
theorem c15d (t : List Nod) (B : Tb t) (s : Bs) (last : Bool) (hc : (checkT t).2 = 0) (hp : (parse s).2 = 0) (ha : (parse s).1.abs = true) (he : ¬ (folR t (parse s).1.parts last).e = 0) : Fn 15 [treeD t,.str s,.bool last] (.tup [(resR t s last).enc,i (resR t s last).e]):=by
 refine run_walkF eok Tryz.func15 rfl (by kernel_rfl) ?_
 conv=>whnf
 repeat' (first
 | ((with_reducible refine on_nt (by assumption) ?_);conv=>whnf)
 | ((with_reducible refine on_ndec_f (by assumption) ?_);conv=>whnf)
 | ((with_reducible refine call_go ?_);(first | refine call_step (run_data (xs:=[_]) (c17e B hc) _) ?_ | refine call_step (run_data (xs:=[_]) (c30e hp) _) ?_ | refine call_step (run_fol (c54r (t:=t) (last:=last) ⟨B,hc⟩ hp) (oc:=⟨[.agg [.d (treeD t),.d (i 0),.d (i 0)]],3,0⟩) rfl rfl ⟨rfl,rfl,.inr ⟨⟨view_agg (vlc rfl (vlc rfl (vlc rfl vln))),fun j hj=>absurd hj (List.not_mem_nil)⟩,trivial⟩⟩ (by decide) _) ?_);conv=>whnf)
 | (refine ⟨[],[(2,3)],(by decide +kernel),?_⟩;conv=>whnf)
 | ((with_reducible refine endx_go ?_);first | (exact endxv (view_tup (vlc (view_agg (vlc rfl (vlc rfl (vlc rfl (vlc rfl (vlc rfl (vlc rfl vln))))))) (vlc rfl vln))) (rs_end ((rr_b hc).trans (rp_c hp ha he)));done))
 | (refine ⟨rfl,?_⟩;conv=>whnf)
  | fail
  )
theorem c15e (t : List Nod) (B : Tb t) (s : Bs) (last : Bool) (hc : (checkT t).2 = 0) (hp : (parse s).2 = 0) (ha : (parse s).1.abs = true) (he : (folR t (parse s).1.parts last).e = 0) : Fn 15 [treeD t,.str s,.bool last] (.tup [(resR t s last).enc,i (resR t s last).e]):=by
 refine run_walkF eok Tryz.func15 rfl (by kernel_rfl) ?_
 conv=>whnf
 repeat' (first
 | ((with_reducible refine on_nt (by assumption) ?_);conv=>whnf)
 | ((with_reducible refine on_ndec_t (by first | assumption ) ?_);conv=>whnf)
 | ((with_reducible refine call_go ?_);(first | refine call_step (run_data (xs:=[_]) (c17e B hc) _) ?_ | refine call_step (run_data (xs:=[_]) (c30e hp) _) ?_ | refine call_step (run_fol (c54r (t:=t) (last:=last) ⟨B,hc⟩ hp) (oc:=⟨[.agg [.d (treeD t),.d (i 0),.d (i 0)]],3,0⟩) rfl rfl ⟨rfl,rfl,.inr ⟨⟨view_agg (vlc rfl (vlc rfl (vlc rfl vln))),fun j hj=>absurd hj (List.not_mem_nil)⟩,trivial⟩⟩ (by decide) _) ?_);conv=>whnf)
 | (refine ⟨[],[(3,5)],(by decide +kernel),?_⟩;conv=>whnf)
 | ((with_reducible refine endx_go ?_);first | (exact endxv (view_tup (vlc (view_agg (vlc rfl (vlc rfl (vlc rfl (vlc rfl (vlc rfl (vlc rfl vln))))))) (vlc rfl vln))) (rs_end ((rr_b hc).trans ((rp_d hp ha he).trans (rs_fd he))));done))
 | (refine ⟨rfl,?_⟩;conv=>whnf)
  | fail
  )
theorem c15 (t : List Nod) (B : Tb t) (s : Bs) (last : Bool)  : Fn 15 [treeD t,.str s,.bool last] (.tup [(resR t s last).enc,i (resR t s last).e]):=by
 by_cases hc : (checkT t).2 = 0
 ·by_cases hp : (parse s).2 = 0
  ·cases ha : (parse s).1.abs with
   | false=>exact c15c t B s last hc hp ha
   | true=>
    by_cases he : (folR t (parse s).1.parts last).e = 0
    ·exact c15e t B s last hc hp ha he
    ·exact c15d t B s last hc hp ha he
  ·exact c15b t B s last hc hp
 ·exact c15a t B s last hc
end Go.Proofs.YtpfokhdelnlciaaGreatDoor
