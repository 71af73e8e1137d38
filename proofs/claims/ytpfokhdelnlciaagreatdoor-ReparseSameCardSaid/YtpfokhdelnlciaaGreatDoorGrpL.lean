/-
  Own lemmas, no conditions: Pp, Pq, Pr, Ps, Xo, Xp, Xq.
-/
import Derived.Test.YtpfokhdelnlciaaGreatDoorGrpK
set_option linter.unusedVariables false
set_option linter.unusedSimpArgs false
namespace Go.Proofs.YtpfokhdelnlciaaGreatDoor
open Go Dw Paths
def posG : List Nod → Nat → List (Nat × Ent)
 | [], _ => []
 | x :: l, k => x.ents.map (fun e => (k, e)) ++ posG l (k + 1)
theorem mem_posG {a : Nat} {e : Ent} : ∀ (t : List Nod) (k : Nat), (a, e) ∈ posG t k ↔ ∃ x, k ≤ a ∧ t[a - k]? = some x ∧ e ∈ x.ents
 | [], k => by simp [posG]
 | x :: l, k => by
  simp only [posG, List.mem_append, List.mem_map, Prod.mk.injEq, mem_posG l (k + 1)]
  constructor
  ·rintro (⟨e', he, rfl, rfl⟩ | ⟨y, h1, h2, h3⟩)
   ·exact ⟨x, Nat.le_refl _, by simp, he⟩
   ·refine ⟨y, by omega, ?_, h3⟩
    rw [show a - k = (a - (k + 1)) + 1 by omega]; exact h2
  ·rintro ⟨y, h1, h2, h3⟩
   by_cases h : a = k
   ·subst h
    simp at h2
    subst h2
    exact .inl ⟨e, h3, rfl, rfl⟩
   ·right
    refine ⟨y, by omega, ?_, h3⟩
    rw [show a - k = (a - (k + 1)) + 1 by omega] at h2; exact h2
theorem cntE_count (n : Int) : ∀ l : List Ent, cntE l n = l.countP (fun e => decide (e.node = n))
 | [] => rfl
 | e :: l => by
  simp only [cntE, List.countP_cons, cntE_count n l, bitN]
  by_cases h : e.node = n <;> simp [h] <;> omega
theorem names_count (n : Int) : ∀ (t : List Nod) (k : Nat), namesR t n = (posG t k).countP (fun p => decide (p.2.node = n))
 | [], _ => rfl
 | x :: t, k => by
  simp only [namesR, posG, List.countP_append, List.countP_map, names_count n t (k + 1), cntE_count]
  rfl
theorem count_uniq {α : Type} {p : α → Bool} : ∀ {l : List α} {x y : α}, l.countP p ≤ 1 → x ∈ l → y ∈ l → p x = true → p y = true → x = y
 | [], x, _, _, h, _, _, _ => by cases h
 | z :: l, x, y, hc, hx, hy, px, py => by
  rw [List.countP_cons] at hc
  have pos : ∀ w, w ∈ l → p w = true → 1 ≤ l.countP p := fun w hw pw => List.countP_pos_iff.2 ⟨w, hw, pw⟩
  rcases List.mem_cons.1 hx with rfl | hx'
  ·rcases List.mem_cons.1 hy with rfl | hy'
   ·rfl
   ·have := pos y hy' py
    rw [if_pos px] at hc; omega
  ·rcases List.mem_cons.1 hy with rfl | hy'
   ·have := pos x hx' px
    rw [if_pos py] at hc; omega
   ·exact count_uniq (by omega) hx' hy' px py
theorem chk_errC {t : List Nod} (h : (checkT t).2 = 0) : ∀ j, j < t.length → errC t (rchF t 0) j = 0 := by
 have h3 : (frst (errN t) t.length 0).2 = 0 := by
  unfold checkT at h
  split at h
  ·cases h
  split at h
  ·cases h
  split at h
  ·assumption
  ·exact h
 have h4 : (frst (errC t (rchF t 0)) t.length 0).2 = 0 := by
  unfold checkT at h
  split at h
  ·cases h
  split at h
  ·cases h
  first | exact h | (rw [if_pos h3] at h; exact h)
 intro j hj
 exact frst_ok t.length 0 rfl h4 j (Nat.zero_le _) hj
section
variable {t : List Nod} (V : Vt t)
include V
theorem Vt.ec {j : Nat} (h0 : 1 ≤ j) (h : j < t.length) : ¬ namesR t j = 0 ∧ (¬ t[j].kind = 1 → namesR t j ≤ 1) ∧ isT (rchF t 0) j := by
 have e := chk_errC V.ok j h
 rw [errC_at h0 h] at e
 by_cases e1 : namesR t j = 0
 ·rw [if_pos e1] at e; cases e
 ·rw [if_neg e1] at e
  by_cases e2 : 1 < namesR t j ∧ t[j].kind ≠ 1
  ·rw [if_pos e2] at e; cases e
  ·rw [if_neg e2] at e
   refine ⟨e1, fun hk => ?_, ?_⟩
   ·apply Classical.byContradiction
    intro hc
    exact e2 ⟨by omega, hk⟩
   ·by_cases e3 : (rchF t 0)[j]? = some true
    ·exact e3
    ·rw [if_neg e3] at e; cases e
theorem Vt.pos {a : Nat} {e : Ent} (h : (a, e) ∈ posG t 0) : OkI t (a : Int) ∧ e ∈ (nodAt t a).ents ∧ OkI t e.node ∧ 1 ≤ e.node ∧ (nodAt t a).kind = 0 := by
 obtain ⟨x, _, h2, h3⟩ := (mem_posG t 0).1 h
 have ha : OkI t (a : Int) := ⟨by omega, by have := (List.getElem?_eq_some_iff.1 h2).1; simpa using this⟩
 have hx : nodAt t a = x := by have := ha.get; simp only [Int.toNat_natCast] at this; rw [Nat.sub_zero] at h2; rw [h2] at this; exact (Option.some.inj this).symm
 subst hx
 have hg := V.good _ ha.mem e h3
 refine ⟨ha, h3, V.ent ha h3, hg.1, ?_⟩
 apply Classical.byContradiction
 intro hk
 rw [V.noents ha hk] at h3
 cases h3
omit V in
theorem Vt.pos_of {a : Int} (ha : OkI t a) {e : Ent} (he : e ∈ (nodAt t a).ents) : (a.toNat, e) ∈ posG t 0 :=
 (mem_posG t 0).2 ⟨nodAt t a, Nat.zero_le _, ha.get, he⟩
theorem Vt.one {n : Int} (hn : OkI t n) (h1 : 1 ≤ n) (hk : ¬ (nodAt t n).kind = 1) {a b : Int} (ha : OkI t a) (hb : OkI t b) {e f : Ent} (he : e ∈ (nodAt t a).ents) (hf : f ∈ (nodAt t b).ents) (e1 : e.node = n) (f1 : f.node = n) : a = b ∧ e = f := by
 have hx := hn.get
 rw [List.getElem?_eq_getElem hn.2] at hx
 have hc := (V.ec (j := n.toNat) (by omega) hn.2).2.1 (by rw [Option.some.inj hx]; exact hk)
 have hN : ((n.toNat : Nat) : Int) = n := Int.toNat_of_nonneg hn.1
 rw [hN, names_count n t 0] at hc
 have := count_uniq hc (Vt.pos_of ha he) (Vt.pos_of hb hf) (decide_eq_true e1) (decide_eq_true f1)
 injection this with h2 h3
 have h4 := ha.1
 have h5 := hb.1
 exact ⟨by omega, h3⟩
end
inductive Wyt (t : List Nod) : Nat → Int → Bs → Prop
 | root : Wyt t 0 0 []
 | step {k : Nat} {a : Int} {s : Bs} {e : Ent} : Wyt t k a s → OkI t a → e ∈ (nodAt t a).ents → Wyt t (k + 1) e.node (s ++ [47] ++ e.name)
section
variable {t : List Nod} (V : Vt t)
include V
theorem Vt.ent1 {a : Int} (ha : OkI t a) {e : Ent} (he : e ∈ (nodAt t a).ents) : 1 ≤ e.node := (V.good _ ha.mem e he).1
theorem Vt.dir {a : Int} (ha : OkI t a) {e : Ent} (he : e ∈ (nodAt t a).ents) : (nodAt t a).kind = 0 := by
 apply Classical.byContradiction
 intro hk
 rw [V.noents ha hk] at he
 cases he
theorem Wyt.uniq : ∀ {k : Nat} {n : Int} {s : Bs}, Wyt t k n s → ∀ {k' : Nat} {s' : Bs}, Wyt t k' n s' → ¬ (nodAt t n).kind = 1 → k = k' ∧ s = s' := by
 intro k n s h
 induction h with
 | root =>
  intro k' s' h' hk
  generalize hn : (0 : Int) = n at h'
  cases h' with
  | root => exact ⟨rfl, rfl⟩
  | step _ ha he => have := V.ent1 ha he; omega
 | @step k a s e hw ha he ih =>
  intro k' s' h' hk
  generalize hn : e.node = n at h'
  cases h' with
  | root => have := V.ent1 ha he; omega
  | @step k2 b s2 f hw2 hb hf =>
   have h1 := V.ent1 ha he
   obtain ⟨h3, h4⟩ := V.one (V.ent ha he) h1 hk ha hb he hf rfl hn.symm
   subst h3; subst h4
   obtain ⟨h5, h6⟩ := ih hw2 (by rw [V.dir ha he]; decide)
   exact ⟨by rw [h5], by rw [h6]⟩
end
theorem pigeon : ∀ (n : Nat) (l : List Nat), l.Nodup → (∀ x ∈ l, x < n) → l.length ≤ n
 | 0, [], _, _ => Nat.le_refl _
 | 0, x :: l, _, h => absurd (h x (by simp)) (by omega)
 | n + 1, l, hd, h => by
  have h1 := pigeon n (l.erase n) (hd.erase n) fun x hx => by
   have h2 := (hd.mem_erase_iff).1 hx
   have := h x h2.2
   omega
  have h2 := List.length_erase (a := n) (l := l)
  split at h2 <;> omega
section
variable {t : List Nod} (V : Vt t)
include V
theorem Wyt.chain {k : Nat} {n : Int} {s : Bs} (h : Wyt t k n s) : ∃ L : List Nat, L.length = k ∧ L.Nodup ∧ ∀ x ∈ L, x < t.length ∧ ∃ j s', j < k ∧ Wyt t j (x : Int) s' ∧ (nodAt t (x : Int)).kind = 0 := by
 induction h with
 | root => exact ⟨[], rfl, List.nodup_nil, fun x hx => by cases hx⟩
 | @step k a s e hw ha he ih =>
  obtain ⟨L, h1, h2, h3⟩ := ih
  have hN : ((a.toNat : Nat) : Int) = a := Int.toNat_of_nonneg ha.1
  have hk := V.dir ha he
  refine ⟨a.toNat :: L, by simp [h1], List.nodup_cons.2 ⟨fun hm => ?_, h2⟩, fun x hx => ?_⟩
  ·obtain ⟨_, j, s', hj, hw2, _⟩ := h3 _ hm
   rw [hN] at hw2
   have := (hw.uniq V hw2 (by rw [hk]; decide)).1
   omega
  ·rcases List.mem_cons.1 hx with rfl | hx
   ·exact ⟨ha.2, k, s, by omega, by rw [hN]; exact hw, by rw [hN]; exact hk⟩
   ·obtain ⟨q1, j, s', hj, q2⟩ := h3 x hx
    exact ⟨q1, j, s', by omega, q2⟩
theorem Wyt.le {k : Nat} {n : Int} {s : Bs} (h : Wyt t k n s) : k ≤ t.length := by
 obtain ⟨L, h1, h2, h3⟩ := h.chain V
 rw [← h1]
 exact pigeon _ _ h2 fun x hx => (h3 x hx).1
theorem Wyt.name {k : Nat} {n : Int} {s : Bs} (h : Wyt t k n s) : s.length ≤ 33 * k := by
 induction h with
 | root => exact Nat.zero_le _
 | @step k a s e hw ha he ih =>
  have := (legal_no (V.names ha e he)).2.2.2
  simp only [List.length_append, List.length_cons, List.length_nil]
  omega
end
end Go.Proofs.YtpfokhdelnlciaaGreatDoor
namespace Go.Proofs.YtpfokhdelnlciaaGreatDoor
open Go Dw Paths
section
variable {t : List Nod} (V : Vt t)
include V
end
end Go.Proofs.YtpfokhdelnlciaaGreatDoor
namespace Go.Proofs.YtpfokhdelnlciaaGreatDoor
open Go Dw Paths
open Classical in
noncomputable def pw (t : List Nod) (a : Int) : Bs := if h : ∃ s, ∃ k, Wyt t k a s then h.choose else []
noncomputable def plR (t : List Nod) (n : Int) : List Bs := ((posG t 0).filter fun p => decide (p.2.node = n)).map fun p => pw t p.1 ++ [47] ++ p.2.name
def insB : List Bs → Bs → List Bs
 | [], s => [s]
 | x :: l, s => if s < x then s :: x :: l else x :: insB l s
def insS (l : List Bs) : List Bs := l.foldl insB []
noncomputable def pathsR (t : List Nod) (n : Int) : List Bs := if n = 0 then [[47]] else insS (plR t n)
section
variable {t : List Nod} (V : Vt t)
include V
def isDr (t : List Nod) (w : Way) : Bool := decide ((nodAt t w.1).kind = 0)
noncomputable def dirW (t : List Nod) : List Way := ((List.range t.length).map fun (a : Nat) => ((a : Int), pw t (a : Int))).filter (isDr t)
end
end Go.Proofs.YtpfokhdelnlciaaGreatDoor
namespace Go.Proofs.YtpfokhdelnlciaaGreatDoor
open Go Dw Paths
def abv (_ : List Nod) (a : Int) (p : Bs) : Bs := if a = 0 then [47] else p
section
variable {t : List Nod} (V : Vt t)
include V
end
def belR (t : List Nod) (d n : Int) : Bool := ((rchF t d.toNat)[n.toNat]?).getD false
theorem bel_iff {t : List Nod} (V : Vt t) {d n : Int} (hd : OkI t d) : belR t d n = true ↔ Reach t d.toNat n.toNat := by
 rw [← rch_iff V.good hd.2]
 unfold belR isT
 cases (rchF t d.toNat)[n.toNat]? with
 | none => simp
 | some b => simp
theorem Reach.trans {t : List Nod} {a b c : Nat} (h : Reach t a b) (h2 : Reach t b c) : Reach t a c := by
 induction h2 with
 | refl => exact h
 | step _ hx he ih => exact .step ih hx he
theorem Reach.head {t : List Nod} {a b : Nat} (h : Reach t a b) : a = b ∨ ∃ x e, t[a]? = some x ∧ e ∈ x.ents ∧ Reach t e.node.toNat b := by
 induction h with
 | refl => exact .inl rfl
 | @step b x e _ hx he ih =>
  right
  rcases ih with rfl | ⟨y, f, h1, h2, h3⟩
  ·exact ⟨x, e, hx, he, .refl⟩
  ·exact ⟨y, f, h1, h2, .step h3 hx he⟩
end Go.Proofs.YtpfokhdelnlciaaGreatDoor
namespace Go.Proofs.YtpfokhdelnlciaaGreatDoor
open Go Dw
set_option maxRecDepth 10000
attribute [local irreducible] Run
set_option maxHeartbeats 1000000
open Paths
attribute [local irreducible] nameErr cut normal dots partErr text parse glue fold within
section
variable {l : List Bs} {s : Bs} {k : Nat} {out : List Bs} (hk : k < l.length)
include hk
end
end Go.Proofs.YtpfokhdelnlciaaGreatDoor
namespace Go.Proofs.YtpfokhdelnlciaaGreatDoor
open Go Dw
set_option maxRecDepth 10000
attribute [local irreducible] Run
set_option maxHeartbeats 1000000
open Paths
attribute [local irreducible] nameErr cut normal dots partErr text parse glue fold within
noncomputable def remR (t : List Nod) (n : Int) (l : List (Nat × Ent)) : List Bs := (l.filter fun p => decide (p.2.node = n)).map fun p => pw t p.1 ++ [47] ++ p.2.name
def posF (t : List Nod) (a b : Nat) : List (Nat × Ent) := match t[a]? with
 | some x => (x.ents.drop b).map (fun e => (a, e)) ++ posG (t.drop (a + 1)) (a + 1)
 | none => []
def PutI (t : List Nod) (n : Int) (l : List (Nat × Ent)) (out : List Bs) : Prop := insS (plR t n) = (remR t n l).foldl insB out
section
variable {t : List Nod} (V : Vt t) {a b : Nat} (ha : a < t.length) (hb : b < t[a].ents.length)
include V ha hb
end
attribute [local irreducible] abv insB insS posG posF PutI pathsR pw
section
variable {t : List Nod} (V : Vt t) {a n : Int} (ha : OkI t a) (hn : OkI t n) {b : Nat} (hb : b < (nodAt t a).ents.length)
include V ha
include hb
include hn
end
attribute [local irreducible] belR OkI
end Go.Proofs.YtpfokhdelnlciaaGreatDoor
namespace Go.Proofs.YtpfokhdelnlciaaGreatDoor
open Go Dw
set_option maxRecDepth 10000
attribute [local irreducible] Run
set_option maxHeartbeats 1000000
open Paths
attribute [local irreducible] nameErr cut normal dots partErr text parse glue fold within
theorem okI_w {t : List Nod} {n : Int} : within n 0 ((t.length : Int) - 1) = true ↔ OkI t n := by
 unfold within OkI
 simp only [Bool.and_eq_true, decide_eq_true_eq]
 omega
noncomputable def brk (t : List Nod) (a : Nat) : Bool := (decide ((nodAt t (a : Int)).kind = 2) || decide ((nodAt t (a : Int)).kind = 3)) && (!decide ((resP t (pw t (a : Int)) true).e = 0) || decide ((resP t (pw t (a : Int)) true).x.node = -1))
noncomputable def brU (t : List Nod) (k : Nat) : List Int := ((List.range k).filter fun a => brk t a).map fun (a : Nat) => ((a : Nat) : Int)
section
variable {t : List Nod} {k : Nat}
end
section
variable {t : List Nod} (V : Vt t) (hf : ∀ x ∈ t, x.ents.length ≤ 1000) {k : Nat} (hk : k < t.length) (hd : (nodAt t (k : Int)).kind = 2 ∨ (nodAt t (k : Int)).kind = 3)
include V hf hk hd
end
theorem nod_at2 {t : List Nod} {k : Nat} (h : k < t.length) {K : D → Prop} (hk : K (nodAt t (k : Int)).enc) : 0 ≤ ((k : Nat) : Int) ∧ nthK (t.map Nod.enc) ((k : Nat) : Int).toNat K := by
 have hi : OkI t (k : Int) := ⟨by omega, by simpa using h⟩
 exact ix_nd hi.nn hi.get hk
theorem nodErr2 {t : List Nod} (B : Tb t) {d n : Int} {a b : Bool} (h1 : within d 0 ((t.length : Int) - 1) = a) (h2 : within n 0 ((t.length : Int) - 1) = b) : Fn 57 [treeD t, .fs [i d, i n]] (i (if a = true then (if b = true then 0 else 6) else 6)) := by
 have := c57 t B [d, n] (by simp)
 have e : (if (![d, n].any (noN t)) = true then (0 : Int) else 6) = (if a = true then (if b = true then 0 else 6) else 6) := by
  unfold noN
  simp only [List.any_cons, List.any_nil, h1, h2]
  cases a <;> cases b <;> rfl
 rwa [e] at this
attribute [local irreducible] checkT pathsR brU brk pw resP nodAt belR
theorem bel_ix {t : List Nod} {d n : Int} (hd : OkI t d) (hn : OkI t n) {K : D → Prop} (k : K (.bool (belR t d n))) : 0 ≤ n ∧ nthK ((rchF t d.toNat).map D.bool) n.toNat K := by
 refine ⟨hn.nn, nthK_of (x := .bool (belR t d n)) ?_ k⟩
 have hl : n.toNat < (rchF t d.toNat).length := by rw [rch_len]; exact hn.2
 unfold belR
 rw [List.getElem?_map, List.getElem?_eq_getElem hl]; rfl
theorem c58v {t : List Nod} (B : Tb t) (hc : (checkT t).2 = 0) {d : Int} (hd : OkI t d) : Fn 58 [treeD t, i d] (.fs ((rchF t d.toNat).map D.bool)) := by
 have V : Vt t := ⟨B, hc⟩
 have := c58 t d.toNat V.good hd.2 (by have := V.len.2; omega) B.el
 rwa [Int.toNat_of_nonneg hd.1] at this
theorem c20e (t : List Nod) (B : Tb t) (d n : Int) (hc : (checkT t).2 = 0) (hd : within d 0 ((t.length : Int) - 1) = true) (hn : within n 0 ((t.length : Int) - 1) = true) (hk : (nodAt t d).kind = 0) : Fn 20 [treeD t, i d, i n] (.tup [.bool (belR t d n), i 0]) := by
 refine run_walkF eok Tryz.func20 rfl (by kernel_rfl) ?_
 conv => whnf
 repeat' (first
 | ((with_reducible refine on_ndec_t (by first | assumption ) ?_); conv => whnf)
 | ((with_reducible refine call_go ?_); (first | refine call_step (run_data (xs := [_]) (c50e B hc) _) ?_ | refine call_step (run_view (nodErr2 B hd hn) rfl (vlc rfl (vlc rfl vln))) ?_ | refine call_step (run_view (c52z (b := 0)) rfl (vlc rfl vln)) ?_ | refine call_step (run_data (xs := [_, _]) (c58v B hc (okI_w.1 hd)) _) ?_); conv => whnf)
 | (refine ix_nd (okI_w.1 hd).nn (okI_w.1 hd).get ?_; conv => whnf)
 | (refine bel_ix (okI_w.1 hd) (okI_w.1 hn) ?_; conv => whnf)
 | ((with_reducible refine endx_go ?_); first | (exact endxv (view_tup (vlc rfl (vlc rfl vln))) rfl; done) )
  | fail
  )
end Go.Proofs.YtpfokhdelnlciaaGreatDoor
