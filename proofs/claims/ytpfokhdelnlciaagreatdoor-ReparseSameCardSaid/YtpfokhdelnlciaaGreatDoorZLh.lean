/-
  Chapter 27: ReparseSame holds at every input: no condition of ours (its card lists two tables of the library, tied to the text).
-/
import Derived.Test.YtpfokhdelnlciaaGreatDoorGrpL
set_option linter.unusedVariables false
set_option linter.unusedSimpArgs false
namespace Go.Proofs.YtpfokhdelnlciaaGreatDoor
open Go Dw
set_option maxRecDepth 10000
attribute [local irreducible] Run
set_option maxHeartbeats 1000000
open Paths
attribute [local irreducible] nameErr cut normal dots partErr text parse glue fold within
theorem sm_all : ∀ (l : List Nod) (n : Int), smGo l n = true → ∀ x ∈ l, x.ents.length ≤ 24 ∧ ∀ y ∈ x.ents, y.name.length ≤ 60
 | [], _, _, x, hx => by cases hx
 | y :: l, n, h, x, hx => by
  simp only [smGo] at h
  split at h
  ·cases h
  ·rename_i h1
   split at h
   ·cases h
   ·rename_i h2
    rcases List.mem_cons.1 hx with rfl | hx
    ·simp only [Bool.or_eq_true, decide_eq_true_eq] at h1
     refine ⟨by omega, fun y hy => ?_⟩
     refine Nat.le_of_not_lt fun hh => h2 (List.any_eq_true.2 ⟨y, hy, ?_⟩)
     unfold longE
     exact decide_eq_true (by omega)
    ·exact sm_all l _ h x hx
theorem tb_small {t : List Nod} (h : smallT t = true) : Tb t := by
 unfold smallT at h
 split at h
 ·cases h
 ·rename_i h1
  have := sm_all t 0 h
  exact ⟨by omega, fun x hx => by have := (this x hx).1; omega, fun x hx y hy => by have := (this x hx).2 y hy; omega⟩
attribute [local irreducible] checkT lookE look entR noN smallT lookN
end Go.Proofs.YtpfokhdelnlciaaGreatDoor
namespace Go.Proofs.YtpfokhdelnlciaaGreatDoor
open Go Dw
set_option maxRecDepth 10000
attribute [local irreducible] Run
set_option maxHeartbeats 1000000
open Paths
attribute [local irreducible] nameErr cut normal dots partErr text parse glue fold within
theorem fol_tl {t : List Nod} : ∀ (n : Nat) {tr : List Int} {ps : List Bs} {last : Bool} {st : Int} {o : Fo}, fol t n tr ps last st = some o → o.x.trail.length ≤ tr.length + n + 1
 | 0, _, _, _, _, _, h => by cases h
 | n + 1, tr, [], last, st, o, h => by
  have := fol_nil h
  subst this
  show tr.length ≤ _; omega
 | n + 1, tr, p :: r, last, st, o, h => by
  have IH : ∀ {tr : List Int} {ps : List Bs} {last : Bool} {st : Int} {o : Fo}, fol t n tr ps last st = some o → o.x.trail.length ≤ tr.length + n + 1 := fol_tl n
  obtain ⟨m, e, hc⟩ := fol_cons h
  cases e
  have hA : ∀ {x : Int}, (tr ++ [x]).length = tr.length + 1 := by simp
  rcases hc with ⟨hb, he⟩ | ⟨hz, hf⟩ | ⟨hz0, hz, h1, hf⟩ | ⟨hz0, hz, h1, hf⟩ | ⟨hz0, hz, hl, hr, he⟩ | ⟨hz0, hz, hl, hr, he⟩ | ⟨hz0, hz, hl, hk, hf⟩ | ⟨hz0, hz, hl, hk, hr, he⟩ | ⟨hz0, hz, hl, hk, hr, he⟩ | ⟨hz0, hz, hl, k0, k1, hr, hfl, he⟩ | ⟨hz0, hz, hl, k0, k1, hr, h8, he⟩ | ⟨hz0, hz, hl, hk, hr, h8, hab, hf⟩ | ⟨hz0, hz, hl, hk, hr, h8, hab, hf⟩ | ⟨hz0, hz, hl, k0, k1, k2, hr, h8, q, hg, hc⟩
  ·subst he; exact Nat.zero_le _
  ·have := IH hf; omega
  ·have := IH hf; rw [List.length_dropLast] at this; omega
  ·have := IH hf; omega
  ·subst he; show tr.length ≤ _; omega
  ·subst he; show tr.length ≤ _; omega
  ·have := IH hf; rw [hA] at this; omega
  ·subst he; show tr.length ≤ _; omega
  ·subst he; show tr.length ≤ _; omega
  ·subst he; show tr.length ≤ _; omega
  ·subst he; exact Nat.zero_le _
  ·have := IH hf; simp only [List.length_cons, List.length_nil] at this; omega
  ·have := IH hf; omega
  ·rcases hc with ⟨he, ho⟩ | ⟨he, hn, ho⟩ | ⟨he, hn, hk, ho⟩ | ⟨he, hn, hk, hf⟩
   ·subst ho; exact Nat.zero_le _
   ·subst ho; exact Nat.zero_le _
   ·subst ho; exact Nat.zero_le _
   ·have := IH hf; rw [hA] at this; omega
theorem resR_cases {P : Rs → Prop} {t : List Nod} (B : Tb t) {s : Bs} {last : Bool} (h0 : ∀ e : Int, ¬ e = 0 → P ⟨noFd, [], 0, e⟩) (h1 : ∀ V : Vt t, (parse s).2 = 0 → (parse s).1.abs = true → (folR t (parse s).1.parts last).e = 0 → P ⟨(folR t (parse s).1.parts last).x, (parse s).1.stream, (folR t (parse s).1.parts last).st, 0⟩) : P (resR t s last) := by
 by_cases hc : (checkT t).2 = 0
 ·rw [rr_b hc]
  by_cases hp : (parse s).2 = 0
  ·cases ha : (parse s).1.abs with
   | false => rw [rp_b hp ha]; exact h0 3 (by decide)
   | true =>
    by_cases he : (folR t (parse s).1.parts last).e = 0
    ·rw [rp_d hp ha he]; exact h1 ⟨B, hc⟩ hp ha he
    ·rw [rp_c hp ha he]; exact h0 _ he
  ·rw [rp_a hp]; exact h0 _ hp
 ·rw [rr_a hc]; exact h0 _ hc
theorem resR_tl {t : List Nod} (B : Tb t) (s : Bs) (last : Bool) : (resR t s last).x.trail.length < 1000000 :=
 resR_cases (P := fun r => r.x.trail.length < 1000000) B (fun e _ => by show 0 < _; omega) fun V hp _ _ => by
  have := fol_tl 2000 (folR_some (last := last) V (ps := (parse s).1.parts) (by have := (parse_ok hp).2; omega))
  simp only [List.length_cons, List.length_nil] at this
  show (folR t (parse s).1.parts last).x.trail.length < _
  omega
attribute [local irreducible] resP resR folR fol checkT fdR stR smallT
end Go.Proofs.YtpfokhdelnlciaaGreatDoor
namespace Go.Proofs.YtpfokhdelnlciaaGreatDoor
open Go Dw Paths
def NoL (t : List Nod) : Prop := ∀ a, OkI t a → ¬ (nodAt t a).kind = 2 ∧ ¬ (nodAt t a).kind = 3
inductive Trl (t : List Nod) : List Int → List Bs → Prop
 | root : Trl t [0] []
 | step {tr : List Int} {out : List Bs} {p : Bs} : Trl t tr out → OkT t tr → (¬ p = [46] ∧ ¬ p = [46, 46]) → ¬ look (nodAt t (hereOf tr)).ents p < 0 → (nodAt t (entOf t tr p).node).kind = 0 → Trl t (tr ++ [(entOf t tr p).node]) (out ++ [p])
theorem Trl.len {t : List Nod} {tr : List Int} {out : List Bs} (h : Trl t tr out) : tr.length = out.length + 1 := by
 induction h with
 | root => rfl
 | step _ _ _ _ _ ih => simp [ih]
theorem Trl.nodots {t : List Nod} {tr : List Int} {out : List Bs} (h : Trl t tr out) : ∀ x ∈ out, ¬ x = [46] ∧ ¬ x = [46, 46] := by
 induction h with
 | root => intro x hx; cases hx
 | step _ _ hp _ _ ih =>
  intro x hx
  rcases List.mem_append.1 hx with hx | hx
  ·exact ih x hx
  ·rw [List.mem_singleton] at hx; subst hx; exact hp
theorem Trl.okT {t : List Nod} (V : Vt t) {tr : List Int} {out : List Bs} (h : Trl t tr out) : OkT t tr := by
 induction h with
 | root => exact V.root
 | step _ hT _ hl _ ih => exact ih.snoc (V.next hT hl)
theorem fol_dirs {t : List Nod} {m : Nat} {tr : List Int} {p : Bs} {r : List Bs} {last : Bool} {st : Int} (hr : r.length + 1 ≤ 64) (hp : ¬ p = [46] ∧ ¬ p = [46, 46]) (hl : ¬ look (nodAt t (hereOf tr)).ents p < 0) (hk : (nodAt t (entOf t tr p).node).kind = 0) : fol t (m + 1) tr (p :: r) last st = fol t m (tr ++ [(entOf t tr p).node]) r last st := by
 rw [fol_1]
 unfold folS
 rw [if_neg (by omega), if_neg hp.1, if_neg hp.2, if_neg hl, if_pos hk]
theorem Trl.fol {t : List Nod} {tr : List Int} {out : List Bs} (h : Trl t tr out) : ∀ (m : Nat) (r : List Bs) (last : Bool) (st : Int), out.length + r.length ≤ 64 → Go.Proofs.YtpfokhdelnlciaaGreatDoor.fol t (m + out.length) [0] (out ++ r) last st = Go.Proofs.YtpfokhdelnlciaaGreatDoor.fol t m tr r last st := by
 induction h with
 | root => intro m r last st _; rfl
 | @step tr out p hh hT hp hl hk ih =>
  intro m r last st hb
  simp only [List.length_append, List.length_cons, List.length_nil] at hb ⊢
  rw [List.append_assoc, show m + (out.length + (0 + 1)) = (m + 1) + out.length by omega, ih (m + 1) ([p] ++ r) last st (by simp only [List.length_append, List.length_cons, List.length_nil]; omega)]
  show Go.Proofs.YtpfokhdelnlciaaGreatDoor.fol t (m + 1) tr (p :: r) last st = _
  exact fol_dirs (by omega) hp hl hk
theorem Trl.up {t : List Nod} {tr : List Int} {out : List Bs} (h : Trl t tr out) (h1 : 1 < tr.length) : Trl t tr.dropLast out.dropLast ∧ out ≠ [] := by
 cases h with
 | root => simp at h1
 | step h _ _ _ _ => simp only [List.dropLast_concat]; exact ⟨h, by simp⟩
def Chn (t : List Nod) (tr : List Int) : Prop := tr.Pairwise (fun a b => Reach t a.toNat b.toNat) ∧ ∀ a ∈ tr, (nodAt t a).kind = 0
theorem chn_here {t : List Nod} : ∀ {tr : List Int}, 0 < tr.length → Chn t tr → ∀ a ∈ tr, Reach t a.toNat (hereOf tr).toNat := by
 intro tr h0 hc a ha
 have hne : tr ≠ [] := by intro e; subst e; simp at h0
 have e : tr.dropLast ++ [tr.getLast hne] = tr := List.dropLast_concat_getLast hne
 have hh : hereOf tr = tr.getLast hne := by unfold hereOf; rw [List.getLastD_eq_getLast?, List.getLast?_eq_some_getLast hne]; rfl
 rw [hh]
 have hp := hc.1
 rw [← e] at hp ha
 rcases List.mem_append.1 ha with ha | ha
 ·exact (List.pairwise_append.1 hp).2.2 a ha _ (by simp)
 ·rw [List.mem_singleton] at ha; rw [ha]; exact .refl
theorem chn_snoc {t : List Nod} {tr : List Int} {x : Int} (h0 : 0 < tr.length) (hc : Chn t tr) (hx : Reach t (hereOf tr).toNat x.toNat) (hk : (nodAt t x).kind = 0) : Chn t (tr ++ [x]) := by
 refine ⟨List.pairwise_append.2 ⟨hc.1, by simp, fun a ha b hb => ?_⟩, fun a ha => ?_⟩
 ·rw [List.mem_singleton] at hb; subst hb
  exact (chn_here h0 hc a ha).trans hx
 ·rcases List.mem_append.1 ha with ha | ha
  ·exact hc.2 a ha
  ·rw [List.mem_singleton] at ha; subst ha; exact hk
theorem chn_drop {t : List Nod} {tr : List Int} (hc : Chn t tr) : Chn t tr.dropLast :=
 ⟨hc.1.sublist (List.dropLast_sublist _), fun a ha => hc.2 a ((List.dropLast_sublist _).mem ha)⟩
theorem next_reach {t : List Nod} {tr : List Int} {p : Bs} (hT : OkT t tr) (hl : ¬ look (nodAt t (hereOf tr)).ents p < 0) : Reach t (hereOf tr).toNat (entOf t tr p).node.toNat := .step .refl hT.here.get (look_in1 hl)
structure SmO (t : List Nod) (n : Nat) (tr : List Int) (out ps : List Bs) (o : Fo) : Prop where
 st : o.st = 0
 ch : Chn t o.x.trail ∧ OkT t o.x.trail ∧ ∀ a ∈ o.x.trail, Reach t a.toNat o.x.node.toNat
 nm : out.length + ps.length ≤ 64 → ∃ L : Nat, L ≤ out.length + ps.length ∧ L = (ps.foldl (normStep true) out).length ∧ ∀ m, ∃ o', fol t (m + 2 + L) [0] (ps.foldl (normStep true) out) true 0 = some o' ∧ o'.e = 0 ∧ o'.x.node = o.x.node ∧ o'.st = 0
 dt : ps.length ≤ 62 → (nodAt t o.x.node).kind = 0 → ∃ o', fol t (n + 1) tr (ps ++ [[46]]) true 0 = some o' ∧ o'.e = 0 ∧ o'.x.node = o.x.node
theorem step_dot {out : List Bs} : normStep true out [46] = out := if_pos rfl
theorem step_name {out : List Bs} {p : Bs} (h : ¬ p = [46] ∧ ¬ p = [46, 46]) : normStep true out p = out ++ [p] := by unfold normStep; rw [if_neg h.1, if_pos h.2]
theorem step_up {out : List Bs} (h : out ≠ []) (hn : ∀ x ∈ out, ¬ x = [46] ∧ ¬ x = [46, 46]) : normStep true out [46, 46] = out.dropLast := by
 unfold normStep
 rw [if_neg (by decide), if_neg (by simp), if_pos]
 refine ⟨h, fun hc => ?_⟩
 exact (hn _ (List.mem_of_getLast? hc)).2 rfl
theorem step_top : normStep true [] [46, 46] = [] := by decide
theorem same_fol {t : List Nod} (V : Vt t) (hN : NoL t) : ∀ (n : Nat) {tr : List Int} {out ps : List Bs} {o : Fo}, Trl t tr out → Chn t tr → fol t n tr ps true 0 = some o → o.e = 0 → ¬ o.x.node = -1 → SmO t n tr out ps o
 | 0, _, _, _, _, _, _, h, _, _ => by cases h
 | n + 1, tr, out, [], o, hR, hC, h, he, hn => by
  have := fol_nil h
  subst this
  have hT := hR.okT V
  refine ⟨rfl, ⟨hC, hT, fun a ha => chn_here hT.ne hC a ha⟩, fun hb => ⟨out.length, by simp, rfl, fun m => ?_⟩, fun _ _ => ?_⟩
  ·have := hR.fol (m + 2) [] true 0 (by simpa using hb)
   rw [List.append_nil] at this
   rw [List.foldl_nil, this]
   exact ⟨_, fol_0 t (m + 1) tr true 0, rfl, rfl, rfl⟩
  ·have : fol t (n + 1 + 1) tr ([] ++ [[46]]) true 0 = fol t (n + 1) tr [] true 0 := by
    show fol t (n + 1 + 1) tr ([46] :: []) true 0 = _
    rw [fol_1]
    unfold folS
    rw [if_neg (by simp), if_pos rfl]
   rw [this]
   exact ⟨_, fol_0 t n tr true 0, rfl, rfl⟩
 | n + 1, tr, out, p :: r, o, hR, hC, h, he, hn => by
  have hT := hR.okT V
  have IH := fun {tr : List Int} {out ps : List Bs} {o : Fo} (a : Trl t tr out) (b : Chn t tr) (c : fol t n tr ps true 0 = some o) (d : o.e = 0) (e : ¬ o.x.node = -1) => same_fol V hN n a b c d e
  obtain ⟨m, e, hc⟩ := fol_cons h
  cases e
  have dts : ∀ {tr' : List Int} {o : Fo}, (r.length ≤ 62 → (nodAt t o.x.node).kind = 0 → ∃ o', fol t (n + 1) tr' (r ++ [[46]]) true 0 = some o' ∧ o'.e = 0 ∧ o'.x.node = o.x.node) → (∀ s : List Bs, s.length + 1 ≤ 64 → fol t (n + 1 + 1) tr (p :: s) true 0 = fol t (n + 1) tr' s true 0) → ((p :: r).length ≤ 62 → (nodAt t o.x.node).kind = 0 → ∃ o', fol t (n + 1 + 1) tr ((p :: r) ++ [[46]]) true 0 = some o' ∧ o'.e = 0 ∧ o'.x.node = o.x.node) := by
   intro tr' o h1 h2 h3 h4
   rw [List.length_cons] at h3
   obtain ⟨o', q1, q2⟩ := h1 (by omega) h4
   refine ⟨o', ?_, q2⟩
   rw [← q1]
   exact h2 (r ++ [[46]]) (by simp only [List.length_append, List.length_cons, List.length_nil]; omega)
  have nms : ∀ {out' : List Bs} {o : Fo}, normStep true out p = out' → out'.length ≤ out.length + 1 → (out'.length + r.length ≤ 64 → ∃ L : Nat, L ≤ out'.length + r.length ∧ L = (r.foldl (normStep true) out').length ∧ ∀ m, ∃ o', fol t (m + 2 + L) [0] (r.foldl (normStep true) out') true 0 = some o' ∧ o'.e = 0 ∧ o'.x.node = o.x.node ∧ o'.st = 0) → (out.length + (p :: r).length ≤ 64 → ∃ L : Nat, L ≤ out.length + (p :: r).length ∧ L = ((p :: r).foldl (normStep true) out).length ∧ ∀ m, ∃ o', fol t (m + 2 + L) [0] ((p :: r).foldl (normStep true) out) true 0 = some o' ∧ o'.e = 0 ∧ o'.x.node = o.x.node ∧ o'.st = 0) := by
   intro out' o h1 h2 h3 h4
   rw [List.length_cons] at h4 ⊢
   rw [List.foldl_cons, h1]
   obtain ⟨L, q1, q2⟩ := h3 (by omega)
   exact ⟨L, by omega, q2⟩
  rcases hc with ⟨hb, he'⟩ | ⟨hz, hf⟩ | ⟨hz0, hz, h1, hf⟩ | ⟨hz0, hz, h1, hf⟩ | ⟨hz0, hz, hl, hr, he'⟩ | ⟨hz0, hz, hl, hr, he'⟩ | ⟨hz0, hz, hl, hk, hf⟩ | ⟨hz0, hz, hl, hk, hr, he'⟩ | ⟨hz0, hz, hl, hk, hr, he'⟩ | ⟨hz0, hz, hl, k0, k1, hr, hfl, he'⟩ | ⟨hz0, hz, hl, k0, k1, hr, h8, he'⟩ | ⟨hz0, hz, hl, hk, hr, h8, hab, hf⟩ | ⟨hz0, hz, hl, hk, hr, h8, hab, hf⟩ | ⟨hz0, hz, hl, k0, k1, k2, hr, h8, q, hg, hc⟩
  ·subst he'; exact absurd (show (25 : Int) = 0 from he) (by decide)
  ·have ih := IH hR hC hf he hn
   refine ⟨ih.st, ih.ch, nms (by rw [hz]; exact step_dot) (by omega) ih.nm, dts ih.dt fun s hs => ?_⟩
   rw [fol_1]; unfold folS; rw [if_neg (by omega), if_pos hz]
  ·obtain ⟨hR2, hne⟩ := hR.up h1
   have ih := IH hR2 (chn_drop hC) hf he hn
   refine ⟨ih.st, ih.ch, nms (by rw [hz]; exact step_up hne hR.nodots) (by rw [List.length_dropLast]; omega) ih.nm, dts ih.dt fun s hs => ?_⟩
   rw [fol_1]; unfold folS; rw [if_neg (by omega), if_neg hz0, if_pos hz, if_pos h1]
  ·have hl1 := hR.len
   have ho : out = [] := List.length_eq_zero_iff.1 (by omega)
   have ih := IH hR hC hf he hn
   refine ⟨ih.st, ih.ch, nms (by rw [hz, ho]; exact step_top) (by omega) ih.nm, dts ih.dt fun s hs => ?_⟩
   rw [fol_1]; unfold folS; rw [if_neg (by omega), if_neg hz0, if_pos hz, if_neg h1]
  ·subst he'; exact absurd rfl hn
  ·subst he'; exact absurd (show (6 : Int) = 0 from he) (by decide)
  ·have hR2 : Trl t (tr ++ [(entOf t tr p).node]) (out ++ [p]) := .step hR hT ⟨hz0, hz⟩ hl hk
   have ih := IH hR2 (chn_snoc hT.ne hC (next_reach hT hl) hk) hf he hn
   refine ⟨ih.st, ih.ch, nms (step_name ⟨hz0, hz⟩) (by simp) ih.nm, dts ih.dt fun s hs => fol_dirs hs ⟨hz0, hz⟩ hl hk⟩
  ·subst he'
   subst hr
   refine ⟨rfl, ⟨hC, hT, fun a ha => (chn_here hT.ne hC a ha).trans (next_reach hT hl)⟩, fun hb => ⟨out.length + 1, by simp, by rw [List.foldl_cons, List.foldl_nil, step_name ⟨hz0, hz⟩]; simp, fun m => ?_⟩, fun _ hk0 => ?_⟩
   ·rw [List.foldl_cons, List.foldl_nil, step_name ⟨hz0, hz⟩]
    have := hR.fol (m + 3) [p] true 0 (by simpa using hb)
    rw [show m + 2 + (out.length + 1) = m + 3 + out.length by omega, this, fol_1]
    unfold folS
    rw [if_neg (by simp), if_neg hz0, if_neg hz, if_neg hl, if_neg (by rw [hk]; decide), if_pos hk]
    exact ⟨_, rfl, rfl, rfl, rfl⟩
   ·rw [hk] at hk0; exact absurd hk0 (by decide)
  ·subst he'; exact absurd (show (35 : Int) = 0 from he) (by decide)
  ·cases hfl
  ·have := V.kind (V.next hT hl); have := hN _ (V.next hT hl); omega
  ·exact absurd hk (hN _ (V.next hT hl)).1
  ·exact absurd hk (hN _ (V.next hT hl)).1
  ·have := V.kind (V.next hT hl); have := hN _ (V.next hT hl); omega
end Go.Proofs.YtpfokhdelnlciaaGreatDoor
namespace Go.Proofs.YtpfokhdelnlciaaGreatDoor
open Go Dw Paths
theorem folS_mono {t : List Nod} {F G : List Int → List Bs → Bool → Int → Option Fo} (hFG : ∀ a b c d o, F a b c d = some o → G a b c d = some o) {tr : List Int} {p : Bs} {r : List Bs} {last : Bool} {st : Int} {o : Fo} (h : folS t F tr p r last st = some o) : folS t G tr p r last st = some o := by
 unfold folS at h ⊢
 by_cases hb : 64 < r.length + 1
 ·rw [if_pos hb] at h ⊢; exact h
 rw [if_neg hb] at h ⊢
 by_cases h0 : p = [46]
 ·rw [if_pos h0] at h ⊢; exact hFG _ _ _ _ _ h
 rw [if_neg h0] at h ⊢
 by_cases h1 : p = [46, 46]
 ·rw [if_pos h1] at h ⊢; exact hFG _ _ _ _ _ h
 rw [if_neg h1] at h ⊢
 by_cases hl : look (nodAt t (hereOf tr)).ents p < 0
 ·rw [if_pos hl] at h ⊢; exact h
 rw [if_neg hl] at h ⊢
 by_cases k0 : (nodAt t (entOf t tr p).node).kind = 0
 ·rw [if_pos k0] at h ⊢; exact hFG _ _ _ _ _ h
 rw [if_neg k0] at h ⊢
 by_cases k1 : (nodAt t (entOf t tr p).node).kind = 1
 ·rw [if_pos k1] at h ⊢; exact h
 rw [if_neg k1] at h ⊢
 by_cases hr : r = [] ∧ last = false
 ·rw [if_pos hr] at h ⊢; exact h
 rw [if_neg hr] at h ⊢
 by_cases h8 : 8 < st + 1
 ·rw [if_pos h8] at h ⊢; exact h
 rw [if_neg h8] at h ⊢
 by_cases k2 : (nodAt t (entOf t tr p).node).kind = 2
 ·rw [if_pos k2] at h ⊢; exact hFG _ _ _ _ _ h
 rw [if_neg k2] at h ⊢
 cases hq : F [0] (tgtOf t tr p).parts true (st + 1) with
 | none => simp only [hq] at h; cases h
 | some q =>
  simp only [hq] at h
  simp only [hFG _ _ _ _ _ hq]
  by_cases he : q.e = 0
  ·rw [if_neg (by simpa using he)] at h ⊢
   by_cases hn : q.x.node = -1
   ·rw [if_pos hn] at h ⊢; exact h
   rw [if_neg hn] at h ⊢
   by_cases hk : (nodAt t q.x.node).kind = 0
   ·rw [if_neg (by simpa using hk)] at h ⊢; exact hFG _ _ _ _ _ h
   ·rw [if_pos hk] at h ⊢; exact h
  ·rw [if_pos he] at h ⊢; exact h
theorem fol_mono {t : List Nod} : ∀ (n : Nat) {tr : List Int} {ps : List Bs} {last : Bool} {st : Int} {o : Fo}, fol t n tr ps last st = some o → fol t (n + 1) tr ps last st = some o
 | 0, _, _, _, _, _, h => by cases h
 | n + 1, tr, [], last, st, o, h => by rw [fol_0] at h ⊢; exact h
 | n + 1, tr, p :: r, last, st, o, h => by
  rw [fol_1] at h ⊢
  exact folS_mono (fun a b c d o hh => fol_mono n hh) h
theorem rr_ok {t : List Nod} (V : Vt t) {s : Bs} {last : Bool} (h : (resR t s last).e = 0) : (parse s).2 = 0 ∧ (parse s).1.abs = true ∧ (folR t (parse s).1.parts last).e = 0 ∧ resR t s last = ⟨(folR t (parse s).1.parts last).x, (parse s).1.stream, (folR t (parse s).1.parts last).st, 0⟩ := by
 rw [rr_b V.ok] at h ⊢
 by_cases hp : (parse s).2 = 0
 ·cases ha : (parse s).1.abs with
  | false => rw [rp_b hp ha] at h; exact absurd (show (3 : Int) = 0 from h) (by decide)
  | true =>
   by_cases he : (folR t (parse s).1.parts last).e = 0
   ·exact ⟨hp, rfl, he, rp_d hp ha he⟩
   ·rw [rp_c hp ha he] at h; exact absurd h he
 ·rw [rp_a hp] at h; exact absurd h hp
theorem root_dir {t : List Nod} (V : Vt t) : (nodAt t 0).kind = 0 := by
 have := V.nod (n := 0) ⟨by omega, V.len.1⟩
 unfold nodE at this
 split at this
 ·cases this
 split at this
 ·cases this
 ·rename_i h2
  apply Classical.byContradiction
  intro hc
  exact h2 ⟨rfl, hc⟩
section
variable {t : List Nod} (V : Vt t) (hN : NoL t) {s : Bs} (he : (resR t s true).e = 0) (hn : OkI t (resR t s true).x.node)
include V hN he hn
theorem sa_of : ∃ o, fol t 2000 [0] (parse s).1.parts true 0 = some o ∧ o.e = 0 ∧ o.x = (resR t s true).x ∧ o.st = (resR t s true).st ∧ SmO t 2000 [0] [] (parse s).1.parts o := by
 obtain ⟨h1, h2, h3, h4⟩ := rr_ok V he
 have hf := folR_some (last := true) V (ps := (parse s).1.parts) (by have := (parse_ok h1).2; omega)
 refine ⟨_, hf, h3, by rw [h4], by rw [h4], ?_⟩
 rw [h4] at hn
 have hC : Chn t [0] := ⟨by simp, fun a ha => by rw [List.mem_singleton] at ha; subst ha; exact root_dir V⟩
 exact same_fol V hN 2000 .root hC hf h3 (fun hc => by
  have : (folR t (parse s).1.parts true).x.node = -1 := hc
  have := hn.1
  have : 0 ≤ (folR t (parse s).1.parts true).x.node := this
  omega)
theorem sa_trail : (resR t s true).st = 0 ∧ 0 < (resR t s true).x.trail.length ∧ (resR t s true).x.trail[0]? = some 0 ∧ ∀ a ∈ (resR t s true).x.trail, OkI t a ∧ (nodAt t a).kind = 0 ∧ belR t a (resR t s true).x.node = true := by
 obtain ⟨o, h1, h2, h3, h4, h5⟩ := sa_of V hN he hn
 rw [← h3, ← h4]
 exact ⟨h5.st, h5.ch.2.1.ne, h5.ch.2.1.1, fun a ha => ⟨h5.ch.2.1.2 a ha, h5.ch.1.2 a ha, (bel_iff V (h5.ch.2.1.2 a ha)).2 (h5.ch.2.2 a ha)⟩⟩
theorem sa_norm : (parse s).2 = 0 ∧ (resR t (text (normal (parse s).1)) true).e = 0 ∧ (resR t (text (normal (parse s).1)) true).x.node = (resR t s true).x.node := by
 obtain ⟨o, h1, h2, h3, h4, h5⟩ := sa_of V hN he hn
 obtain ⟨p1, p2, p3, p4⟩ := rr_ok V he
 have hl := (parse_ok p1).2
 obtain ⟨L, l1, l2, l3⟩ := h5.nm (by simp; omega)
 simp only [List.length_nil, Nat.zero_add] at l1
 obtain ⟨o', q1, q2, q3, q4⟩ := l3 (2000 - 2 - L)
 rw [show 2000 - 2 - L + 2 + L = 2000 by omega] at q1
 have hnp : parse (text (normal (parse s).1)) = (normal (parse s).1, 0) := parse_text (fmt_normal (fmt_parse p1))
 have hparts : (normal (parse s).1).parts = (parse s).1.parts.foldl (normStep true) [] := by
  unfold normal
  simp only [p2]
  rw [if_neg (by simp)]
 have e1 : (parse (text (normal (parse s).1))).2 = 0 := by rw [hnp]
 have e2 : (parse (text (normal (parse s).1))).1.abs = true := by rw [hnp]; exact p2
 have e3 : folR t (parse (text (normal (parse s).1))).1.parts true = o' := by
  rw [hnp]
  show folR t (normal (parse s).1).parts true = o'
  rw [hparts]
  unfold folR
  rw [q1]; rfl
 refine ⟨p1, ?_⟩
 rw [rr_b V.ok (s := text (normal (parse s).1)), rp_d e1 e2 (by rw [e3]; exact q2), e3, ← h3]
 exact ⟨rfl, q3⟩
theorem sa_dot (hk : (nodAt t (resR t s true).x.node).kind = 0) (hs : (resR t s true).s = []) (h47 : ¬ s = [47]) (hl150 : s.length ≤ 150) : (resR t (s ++ [47, 46]) true).e = 8 ∨ ((resR t (s ++ [47, 46]) true).e = 0 ∧ (resR t (s ++ [47, 46]) true).x.node = (resR t s true).x.node) := by
 obtain ⟨o, h1, h2, h3, h4, h5⟩ := sa_of V hN he hn
 obtain ⟨p1, p2, p3, p4⟩ := rr_ok V he
 have hg := parse_ok p1
 have hst : (parse s).1.stream = [] := by rw [p4] at hs; exact hs
 have ht := text_parse p1
 have hpp : (parse s).1 = ⟨true, (parse s).1.parts, []⟩ := by
  generalize (parse s).1 = p at p2 hst
  obtain ⟨a, b, c⟩ := p
  subst p2; subst hst; rfl
 have hne : (parse s).1.parts ≠ [] := by
  intro hc
  rw [hpp, hc] at ht
  exact h47 ht.symm
 have hno : ∀ x ∈ (parse s).1.parts ++ [[46]], (47 : UInt8) ∉ x ∧ (58 : UInt8) ∉ x ∧ x ≠ [] := by
  intro x hx
  rcases List.mem_append.1 hx with hx | hx
  ·have := part_no (hg.1 x hx); exact ⟨this.1, this.2.1, this.2.2.1⟩
  ·rw [List.mem_singleton] at hx; subst hx; decide
 have ht' : text ⟨true, (parse s).1.parts, []⟩ = s := by rw [← hpp]; exact ht
 have htx : text ⟨true, (parse s).1.parts ++ [[46]], []⟩ = s ++ [47, 46] := by
  have e : ∀ l : List Bs, l ≠ [] → glue 47 (l ++ [[46]]) = glue 47 l ++ [47, 46] := by
   intro l
   induction l with
   | nil => intro h; exact absurd rfl h
   | cons y l ih =>
    intro _
    cases l with
    | nil => simp [glue]
    | cons z l =>
     rw [List.cons_append, glue_cons y _ (by simp), glue_cons y _ (by simp), ih (by simp)]
     simp
  have e2 : text ⟨true, (parse s).1.parts ++ [[46]], []⟩ = text ⟨true, (parse s).1.parts, []⟩ ++ [47, 46] := by
   unfold text
   simp [e _ hne]
  rw [e2, ht']
 by_cases h16 : (parse s).1.parts.length ≤ 15
 ·right
  have hf : fmtErr ⟨true, (parse s).1.parts ++ [[46]], []⟩ = 0 := by
   have e1 : firstE (((parse s).1.parts ++ [[46]]).map partErr) = 0 := by
    have : ∀ l : List Bs, (∀ x ∈ l, partErr x = 0) → firstE (l.map partErr) = 0 := by
     intro l
     induction l with
     | nil => exact fun _ => rfl
     | cons x l ih => exact fun h => by rw [List.map_cons, h x (by simp)]; exact ih fun y hy => h y (by simp [hy])
    refine this _ fun x hx => ?_
    rcases List.mem_append.1 hx with hx | hx
    ·exact hg.1 x hx
    ·rw [List.mem_singleton] at hx; subst hx; decide
   unfold fmtErr
   rw [htx]
   simp only [e1]
   simp [firstE, streamErr]
   omega
  have hp2 : parse (s ++ [47, 46]) = (⟨true, (parse s).1.parts ++ [[46]], []⟩, 0) := by rw [← htx]; exact parse_text hf
  obtain ⟨o', q1, q2, q3⟩ := h5.dt (by omega) (by rw [h3]; exact hk)
  have e1 : (parse (s ++ [47, 46])).2 = 0 := by rw [hp2]
  have e2 : (parse (s ++ [47, 46])).1.abs = true := by rw [hp2]
  have e3 : folR t (parse (s ++ [47, 46])).1.parts true = o' := by
   have hs2 := folR_some (last := true) V (ps := (parse (s ++ [47, 46])).1.parts) (by have := (parse_ok e1).2; omega)
   have hm := fol_mono _ hs2
   rw [hp2] at hm ⊢
   have : some o' = some (folR t ((parse s).1.parts ++ [[46]]) true) := q1.symm.trans hm
   exact (Option.some.inj this).symm
  rw [rr_b V.ok (s := s ++ [47, 46]), rp_d e1 e2 (by rw [e3]; exact q2), e3, ← h3]
  exact ⟨rfl, q3⟩
 ·left
  have hl16 : (parse s).1.parts.length = 16 := by have := hg.2; omega
  have hrest : restOf (s ++ [47, 46]) = glue 47 ((parse s).1.parts ++ [[46]]) := by
   rw [← htx]
   unfold text restOf
   simp
  have hcut : cut 47 (restOf (s ++ [47, 46])) = (parse s).1.parts ++ [[46]] := by
   rw [hrest]
   exact cut_glue (by simp) fun x hx => (hno x hx).1
  have hcol : colons ((parse s).1.parts ++ [[46]]) = some ((parse s).1.parts ++ [[46]], []) := by
   unfold colons
   rw [getLastD_snoc]
   rfl
  have hw : wellParts ((parse s).1.parts ++ [[46]]) = true := by
   unfold wellParts
   rw [List.all_eq_true]
   intro x hx
   have := hno x hx
   simp [this.2.2, this.2.1]
  have hpe : partsErr ((parse s).1.parts ++ [[46]]) [] = 8 := by
   have e1 : firstE (((parse s).1.parts ++ [[46]]).map partErr) = 0 := by
    have : ∀ l : List Bs, (∀ x ∈ l, partErr x = 0) → firstE (l.map partErr) = 0 := by
     intro l
     induction l with
     | nil => exact fun _ => rfl
     | cons x l ih => exact fun h => by rw [List.map_cons, h x (by simp)]; exact ih fun y hy => h y (by simp [hy])
    refine this _ fun x hx => ?_
    rcases List.mem_append.1 hx with hx | hx
    ·exact hg.1 x hx
    ·rw [List.mem_singleton] at hx; subst hx; decide
   unfold partsErr
   rw [e1, if_pos rfl, if_pos (by simp [hl16])]; rfl
  have hp8 : (parse (s ++ [47, 46])).2 = 8 := by
   unfold parse
   rw [if_neg (by simp; omega), if_neg (by simp), if_neg (by intro hc; have := congrArg List.length hc; simp at this), hcut, hcol]
   simp only
   rw [if_neg (by rw [hw]; decide), if_pos (by rw [hpe]; decide), hpe]
  rw [rr_b V.ok (s := s ++ [47, 46]), rp_a (by rw [hp8]; decide)]
  exact hp8
end
end Go.Proofs.YtpfokhdelnlciaaGreatDoor
namespace Go.Proofs.YtpfokhdelnlciaaGreatDoor
open Go Dw
set_option maxRecDepth 10000
attribute [local irreducible] Run
set_option maxHeartbeats 1000000
open Paths
attribute [local irreducible] nameErr cut normal dots partErr text parse glue fold within
def noLk (t : List Nod) (k : Nat) : Prop := ∀ j, j < k → ¬ (nodAt t (j : Int)).kind = 2 ∧ ¬ (nodAt t (j : Int)).kind = 3
theorem noL_1 {t : List Nod} {k : Nat} (h : noLk t k) (h2 : ¬ (nodAt t (k : Int)).kind = 2) (h3 : ¬ (nodAt t (k : Int)).kind = 3) : noLk t (k + 1) := fun j hj => by
 by_cases e : j = k
 ·subst e; exact ⟨h2, h3⟩
 ·exact h j (by omega)
theorem noL_e {t : List Nod} {k : Nat} (h : noLk t k) (hk : ¬ k < t.length) : NoL t := fun a ha => by
 have := h a.toNat (by have := ha.2; omega)
 rwa [Int.toNat_of_nonneg ha.1] at this
theorem s4746 {s : Bs} {K : Prop} (h : s.length < 1000000) (k : K) : s.length + ({ data := #[47, 46] } : ByteArray).data.toList.length < 9223372036854775808 ∧ K := ⟨by show s.length + 2 < _; omega, k⟩
theorem within_ok {t : List Nod} {n : Int} {b : Bool} (h : within n 0 ((t.length : Int) - 1) = b) {z : Int} (hz : z = (t.length : Int) - 1) : Fn 18 [i n, i 0, i z] (.bool b) := by
 subst hz; subst h; exact c18 n 0 _
section
variable {t : List Nod} (V : Vt t) {tr : List Int} {n : Int} (hT : ∀ a ∈ tr, OkI t a ∧ (nodAt t a).kind = 0 ∧ belR t a n = true) (hn : OkI t n) {k : Nat} (hk : k < tr.length)
include V hT hn hk
theorem c20t : Fn 20 [treeD t, i tr[k], i n] (.tup [.bool true, i 0]) := by
 obtain ⟨h1, h2, h3⟩ := hT _ (List.getElem_mem hk)
 have := c20e t V.b tr[k] n V.ok (okI_w.2 h1) (okI_w.2 hn) h2
 rwa [h3] at this
end
theorem tr_ix0 {tr : List Int} (h : tr[0]? = some 0) {K : D → Prop} (k : K (i 0)) : 0 ≤ (0 : Int) ∧ nthK (tr.map i) (Int.toNat 0) K :=
 ⟨by decide, nthK_of (x := i 0) (by show (tr.map i)[0]? = _; rw [List.getElem?_map, h]; rfl) k⟩
attribute [local irreducible] checkT pathsR brU brk pw resP resR nodAt belR smallT OkI NoL
theorem c4a (t : List Nod) (s : Bs) (hf : smallT t = false) : Fn 4 [treeD t, .str s] (.bool true) := by
 refine run_walkF eok Tryz.func4 rfl (by kernel_rfl) ?_
 conv => whnf
 repeat' (first
 | ((with_reducible refine on_nf (by assumption) ?_); conv => whnf)
 | ((with_reducible refine call_go ?_); (first | refine call_step (run_data (xs := []) c10 _) ?_ | refine call_step (run_data (xs := [_]) (c11 t) _) ?_ ); conv => whnf)
 | ((with_reducible refine endx_go ?_); first | (exact endx rfl; done) )
  | fail
  )
theorem c4b (t : List Nod) (s : Bs) (hf : smallT t = true) (h1 : (150 : Int) < s.length) : Fn 4 [treeD t, .str s] (.bool true) := by
 refine run_walkF eok Tryz.func4 rfl (by kernel_rfl) ?_
 conv => whnf
 repeat' (first
 | ((with_reducible refine on_dec_t (by assumption) ?_); conv => whnf)
 | ((with_reducible refine on_nt (by assumption) ?_); conv => whnf)
 | ((with_reducible refine call_go ?_); (first | refine call_step (run_data (xs := []) c10 _) ?_ | refine call_step (run_data (xs := [_]) (c11 t) _) ?_ ); conv => whnf)
 | ((with_reducible refine endx_go ?_); first | (exact endx rfl; done) )
  | fail
  )
theorem c4c (t : List Nod) (s : Bs) (hf : smallT t = true) (h1 : ¬ (150 : Int) < s.length) (hc : ¬ (checkT t).2 = 0) : Fn 4 [treeD t, .str s] (.bool true) := by
 have B := tb_small hf
 refine run_walkF eok Tryz.func4 rfl (by kernel_rfl) ?_
 conv => whnf
 repeat' (first
 | ((with_reducible refine on_dec_f (by assumption) ?_); conv => whnf)
 | ((with_reducible refine on_nt (by assumption) ?_); conv => whnf)
 | ((with_reducible refine on_ndec_f (by assumption) ?_); conv => whnf)
 | ((with_reducible refine call_go ?_); (first | refine call_step (run_data (xs := []) c10 _) ?_ | refine call_step (run_data (xs := [_]) (c11 t) _) ?_ | refine call_step (run_data (xs := [_]) (c17 t B) _) ?_ ); conv => whnf)
 | ((with_reducible refine endx_go ?_); first | (exact endx rfl; done) )
  | fail
  )
theorem c4d (t : List Nod) (s : Bs) (hf : smallT t = true) (h1 : ¬ (150 : Int) < s.length) (hc : (checkT t).2 = 0) (hN : ¬ NoL t) : Fn 4 [treeD t, .str s] (.bool true) := by
 have B := tb_small hf; have V : Vt t := ⟨B, hc⟩; have htl := V.len.2
 refine run_walkF eok Tryz.func4 rfl (by kernel_rfl) ?_
 conv => whnf
 repeat' (first
 | ((with_reducible refine on_dec_f (by assumption) ?_); conv => whnf)
 | ((with_reducible refine on_nt (by assumption) ?_); conv => whnf)
 | ((with_reducible refine call_go ?_); exact absurd (noL_e hI.2 (by omega)) hN)
 | ((with_reducible refine on_dec (fun h => ?_) (fun h => ?_)) <;> (try simp only [List.length_map] at h) <;> conv => whnf)
 | ((with_reducible refine call_go ?_); (first | refine call_step (run_data (xs := []) c10 _) ?_ | refine call_step (run_data (xs := [_]) (c11 t) _) ?_ | refine call_step (run_data (xs := [_]) (c17e B hc) _) ?_ ); conv => whnf)
 | ((with_reducible refine loop_go ?_); first | (refine loop1 (fun (k : Nat) => t.length - k) (fun (k : Nat) => k ≤ t.length ∧ noLk t k) (fun (k : Nat) => [(0, .d (treeD t)), (1, .d (.str s)), (5, .d (i k))]) (fun (k : Nat) => []) (0) (by exact ⟨Nat.zero_le _, fun j hj => absurd hj (Nat.not_lt_zero _)⟩) ?_ (fun k C hI hC => ?_); (exact ⟨[], rfl, rfl, ⟨(by first | (show (_ : D) = _; with_reducible rfl) ), (by first | (show (_ : D) = _; with_reducible rfl) ), (by first | exact congrArg (D.int .i64) (by omega) ), trivial⟩, trivial⟩); all_goals (conv => whnf)))
 | ((with_reducible show C _ _); first | (refine hC (k + 1) _ _ ?_ (by omega) ?_; clear hC; rotate_left; (exact ⟨[], rfl, rfl, ⟨(by first | (show (_ : D) = _; with_reducible rfl) ), (by first | (show (_ : D) = _; with_reducible rfl) ), (by first | exact congrArg (D.int .i64) (by omega) ), trivial⟩, trivial⟩); (exact ⟨by omega, noL_1 hI.2 (by assumption) (by assumption)⟩)))
 | (refine nod_at2 (by omega) ?_; conv => whnf)
 | (refine wrap64 (by omega) ?_; conv => whnf)
 | ((with_reducible refine endx_go ?_); first | (exact endx rfl; done) )
  | fail
  )
theorem c4e (t : List Nod) (s : Bs) (hf : smallT t = true) (h1 : ¬ (150 : Int) < s.length) (hc : (checkT t).2 = 0) (hN : NoL t) (he : ¬ (resR t s true).e = 0) : Fn 4 [treeD t, .str s] (.bool true) := by
 have B := tb_small hf; have V : Vt t := ⟨B, hc⟩; have htl := V.len.2
 refine run_walkF eok Tryz.func4 rfl (by kernel_rfl) ?_
 conv => whnf
 repeat' (first
 | ((with_reducible refine on_dec_f (by assumption) ?_); conv => whnf)
 | ((with_reducible refine on_nt (by assumption) ?_); conv => whnf)
 | ((with_reducible refine on_ndec_f (by assumption) ?_); conv => whnf)
 | ((with_reducible refine on_dec (fun h => ?_) (fun h => ?_)) <;> (try simp only [List.length_map] at h) <;> conv => whnf)
 | ((with_reducible refine call_go ?_); (first | refine call_step (run_data (xs := []) c10 _) ?_ | refine call_step (run_data (xs := [_]) (c11 t) _) ?_ | refine call_step (run_data (xs := [_]) (c17e B hc) _) ?_ | refine call_step (run_data (xs := [_]) (c13 t B) _) ?_ | refine call_step (run_data (xs := [_, _, _]) (c12 t B s true) _) ?_ ); conv => whnf)
 | ((with_reducible refine loop_go ?_); first | (refine loop1 (fun (k : Nat) => t.length - k) (fun (k : Nat) => k ≤ t.length ∧ noLk t k) (fun (k : Nat) => [(0, .d (treeD t)), (1, .d (.str s)), (5, .d (i k))]) (fun (k : Nat) => []) (0) (by exact ⟨Nat.zero_le _, fun j hj => absurd hj (Nat.not_lt_zero _)⟩) ?_ (fun k C hI hC => ?_); (exact ⟨[], rfl, rfl, ⟨(by first | (show (_ : D) = _; with_reducible rfl) ), (by first | (show (_ : D) = _; with_reducible rfl) ), (by first | exact congrArg (D.int .i64) (by omega) ), trivial⟩, trivial⟩); all_goals (conv => whnf)))
 | ((with_reducible show C _ _); first | (refine hC (k + 1) _ _ ?_ (by omega) ?_; clear hC; rotate_left; (exact ⟨[], rfl, rfl, ⟨(by first | (show (_ : D) = _; with_reducible rfl) ), (by first | (show (_ : D) = _; with_reducible rfl) ), (by first | exact congrArg (D.int .i64) (by omega) ), trivial⟩, trivial⟩); (exact ⟨by omega, noL_1 hI.2 (by assumption) (by assumption)⟩)))
 | (refine nod_at2 (by omega) ?_; conv => whnf)
 | (refine wrap64 (by omega) ?_; conv => whnf)
 | ((with_reducible refine endx_go ?_); first | (exact endx rfl; done) )
  | fail
  )
theorem c4f (t : List Nod) (s : Bs) (hf : smallT t = true) (h1 : ¬ (150 : Int) < s.length) (hc : (checkT t).2 = 0) (hN : NoL t) (he : (resR t s true).e = 0) (hw : within (resR t s true).x.node 0 ((t.length : Int) - 1) = false) : Fn 4 [treeD t, .str s] (.bool true) := by
 have B := tb_small hf; have V : Vt t := ⟨B, hc⟩; have htl := V.len.2
 refine run_walkF eok Tryz.func4 rfl (by kernel_rfl) ?_
 conv => whnf
 repeat' (first
 | ((with_reducible refine on_dec_f (by assumption) ?_); conv => whnf)
 | ((with_reducible refine on_nt (by assumption) ?_); conv => whnf)
 | ((with_reducible refine on_dec (fun h => ?_) (fun h => ?_)) <;> (try simp only [List.length_map] at h) <;> conv => whnf)
 | ((with_reducible refine call_go ?_); (first | refine call_step (run_data (xs := []) c10 _) ?_ | refine call_step (run_data (xs := [_]) (c11 t) _) ?_ | refine call_step (run_data (xs := [_]) (c17e B hc) _) ?_ | refine call_step (run_data (xs := [_]) (c13 t B) _) ?_ | refine call_step (run_data (xs := [_, _, _]) (c12e B (s := s) (last := true) he) _) ?_ | refine call_step (run_data (xs := [_, _, _]) (within_ok (n := (resR t s true).x.node) hw (by simp only [List.length_map])) _) ?_ ); conv => whnf)
 | ((with_reducible refine loop_go ?_); first | (refine loop1 (fun (k : Nat) => t.length - k) (fun (k : Nat) => k ≤ t.length ∧ noLk t k) (fun (k : Nat) => [(0, .d (treeD t)), (1, .d (.str s)), (5, .d (i k))]) (fun (k : Nat) => []) (0) (by exact ⟨Nat.zero_le _, fun j hj => absurd hj (Nat.not_lt_zero _)⟩) ?_ (fun k C hI hC => ?_); (exact ⟨[], rfl, rfl, ⟨(by first | (show (_ : D) = _; with_reducible rfl) ), (by first | (show (_ : D) = _; with_reducible rfl) ), (by first | exact congrArg (D.int .i64) (by omega) ), trivial⟩, trivial⟩); all_goals (conv => whnf)))
 | ((with_reducible show C _ _); first | (refine hC (k + 1) _ _ ?_ (by omega) ?_; clear hC; rotate_left; (exact ⟨[], rfl, rfl, ⟨(by first | (show (_ : D) = _; with_reducible rfl) ), (by first | (show (_ : D) = _; with_reducible rfl) ), (by first | exact congrArg (D.int .i64) (by omega) ), trivial⟩, trivial⟩); (exact ⟨by omega, noL_1 hI.2 (by assumption) (by assumption)⟩)))
 | (refine nod_at2 (by omega) ?_; conv => whnf)
 | (refine wrap64 (by omega) ?_; conv => whnf)
 | (refine wrap64 (by first | (simp only [List.length_map]; omega)) ?_; conv => whnf)
 | ((with_reducible refine endx_go ?_); first | (exact endx rfl; done) )
  | fail
  )
theorem c4g (t : List Nod) (s : Bs) (hf : smallT t = true) (h1 : ¬ (150 : Int) < s.length) (hc : (checkT t).2 = 0) (hN : NoL t) (he : (resR t s true).e = 0) (hw : within (resR t s true).x.node 0 ((t.length : Int) - 1) = true) (hk : ¬ (nodAt t (resR t s true).x.node).kind = 0) : Fn 4 [treeD t, .str s] (.bool true) := by
 have B := tb_small hf; have V : Vt t := ⟨B, hc⟩; have htl := V.len.2; have hn := okI_w.1 hw; obtain ⟨ts, t0, t1, tT⟩ := sa_trail V hN he hn; obtain ⟨np, ne, nn⟩ := sa_norm V hN he hn; have h10 := resR_tl B s true; have t0n : ¬ (((resR t s true).x.trail.map i).length : Int) = 0 := (by rw [List.length_map]; omega)
 refine run_walkF eok Tryz.func4 rfl (by kernel_rfl) ?_
 conv => whnf
 repeat' (first
 | ((with_reducible refine on_dec_f (by assumption) ?_); conv => whnf)
 | ((with_reducible refine on_nt (by assumption) ?_); conv => whnf)
 | ((with_reducible refine on_ndec_t (by first | assumption ) ?_); conv => whnf)
 | ((with_reducible refine on_ndec_f (by assumption) ?_); conv => whnf)
 | ((with_reducible refine on_dec (fun h => ?_) (fun h => ?_)) <;> (try simp only [List.length_map] at h) <;> conv => whnf)
 | ((with_reducible refine call_go ?_); (first | refine call_step (run_data (xs := []) c10 _) ?_ | refine call_step (run_data (xs := [_]) (c11 t) _) ?_ | refine call_step (run_data (xs := [_]) (c17e B hc) _) ?_ | refine call_step (run_data (xs := [_]) (c13 t B) _) ?_ | refine call_step (run_data (xs := [_, _, _]) (c12e B (s := s) (last := true) he) _) ?_ | refine call_step (run_data (xs := [_, _, _]) (c12e B (s := text (normal (parse s).1)) (last := true) ne) _) ?_ | refine call_step (run_data (xs := [_, _, _]) (within_ok (n := (resR t s true).x.node) hw (by simp only [List.length_map])) _) ?_ | refine call_step (run_data (xs := [_]) (c19t s np) _) ?_ | refine call_step (run_data (xs := [_, _, _]) (c20t V tT hn (k := k) (by omega)) _) ?_); conv => whnf)
 | (refine ⟨[], [(3, 1), (6, 1), (8, 1)], (by decide +kernel), ?_⟩; conv => whnf)
 | ((with_reducible refine loop_go ?_); first | (refine loop1 (fun (k : Nat) => (resR t s true).x.trail.length - k) (fun (k : Nat) => k ≤ (resR t s true).x.trail.length) (fun (k : Nat) => [(0, .d (treeD t)), (1, .d (.str s)), (6, .ptr 0 0 0), (12, .d (i k))]) (fun (k : Nat) => [⟨[.d (resR t s true).enc], 6, 0⟩]) (0) (by exact Nat.zero_le _) ?_ (fun k C hI hC => ?_); (exact ⟨[.old 0], rfl, rfl, ⟨(by first | (show (_ : D) = _; with_reducible rfl) ), (by first | (show (_ : D) = _; with_reducible rfl) ), ⟨rfl, rfl, rfl⟩, (by first | exact congrArg (D.int .i64) (by omega) ), trivial⟩, ⟨⟨rfl, rfl, .inl ⟨[_], rfl, rfl⟩⟩, trivial⟩⟩); all_goals (conv => whnf)) | (refine loop1 (fun (k : Nat) => t.length - k) (fun (k : Nat) => k ≤ t.length ∧ noLk t k) (fun (k : Nat) => [(0, .d (treeD t)), (1, .d (.str s)), (5, .d (i k))]) (fun (k : Nat) => []) (0) (by exact ⟨Nat.zero_le _, fun j hj => absurd hj (Nat.not_lt_zero _)⟩) ?_ (fun k C hI hC => ?_); (exact ⟨[], rfl, rfl, ⟨(by first | (show (_ : D) = _; with_reducible rfl) ), (by first | (show (_ : D) = _; with_reducible rfl) ), (by first | exact congrArg (D.int .i64) (by omega) ), trivial⟩, trivial⟩); all_goals (conv => whnf)))
 | ((with_reducible show C _ _); first | (refine hC (k + 1) _ _ ?_ (by omega) ?_; clear hC; rotate_left; (exact ⟨[], rfl, rfl, ⟨(by first | (show (_ : D) = _; with_reducible rfl) ), (by first | (show (_ : D) = _; with_reducible rfl) ), (by first | exact congrArg (D.int .i64) (by omega) ), trivial⟩, trivial⟩); (exact ⟨by omega, noL_1 hI.2 (by assumption) (by assumption)⟩)) | (refine hC (k + 1) _ _ ?_ (by omega) ?_; clear hC; rotate_left; (exact ⟨[.old 0], rfl, rfl, ⟨(by first | (show (_ : D) = _; with_reducible rfl) ), (by first | (show (_ : D) = _; with_reducible rfl) ), ⟨rfl, rfl, rfl⟩, (by first | exact congrArg (D.int .i64) (by omega) ), trivial⟩, ⟨⟨rfl, rfl, .inl ⟨[_], rfl, rfl⟩⟩, trivial⟩⟩); (exact by omega)))
 | (refine tr_ix0 t1 ?_; conv => whnf)
 | (refine nod_at2 (by omega) ?_; conv => whnf)
 | (refine ix_map (by omega) ?_; conv => whnf)
 | (refine wrap64 (by omega) ?_; conv => whnf)
 | (refine wrap64 (by first | (simp only [List.length_map]; omega)) ?_; conv => whnf)
 | (refine ix_nd hn.nn hn.get ?_; conv => whnf)
 | ((with_reducible refine endx_go ?_); first | (exact endx rfl; done) )
 | (refine ⟨rfl, ?_⟩; conv => whnf)
  | fail
  )
theorem c4h (t : List Nod) (s : Bs) (hf : smallT t = true) (h1 : ¬ (150 : Int) < s.length) (hc : (checkT t).2 = 0) (hN : NoL t) (he : (resR t s true).e = 0) (hw : within (resR t s true).x.node 0 ((t.length : Int) - 1) = true) (hk : (nodAt t (resR t s true).x.node).kind = 0) (hs : ¬ (resR t s true).s = []) : Fn 4 [treeD t, .str s] (.bool true) := by
 have B := tb_small hf; have V : Vt t := ⟨B, hc⟩; have htl := V.len.2; have hn := okI_w.1 hw; obtain ⟨ts, t0, t1, tT⟩ := sa_trail V hN he hn; obtain ⟨np, ne, nn⟩ := sa_norm V hN he hn; have h10 := resR_tl B s true; have t0n : ¬ (((resR t s true).x.trail.map i).length : Int) = 0 := (by rw [List.length_map]; omega)
 refine run_walkF eok Tryz.func4 rfl (by kernel_rfl) ?_
 conv => whnf
 repeat' (first
 | ((with_reducible refine on_dec_f (by assumption) ?_); conv => whnf)
 | ((with_reducible refine on_nt (by assumption) ?_); conv => whnf)
 | ((with_reducible refine on_ndec_t (by first | assumption ) ?_); conv => whnf)
 | (exfalso; exact hs (of_decide_eq_true (by assumption)))
 | ((with_reducible refine on_dec (fun h => ?_) (fun h => ?_)) <;> (try simp only [List.length_map] at h) <;> conv => whnf)
 | ((with_reducible refine on_not (fun h => ?_) (fun h => ?_)) <;> conv => whnf)
 | ((with_reducible refine call_go ?_); (first | refine call_step (run_data (xs := []) c10 _) ?_ | refine call_step (run_data (xs := [_]) (c11 t) _) ?_ | refine call_step (run_data (xs := [_]) (c17e B hc) _) ?_ | refine call_step (run_data (xs := [_]) (c13 t B) _) ?_ | refine call_step (run_data (xs := [_, _, _]) (c12e B (s := s) (last := true) he) _) ?_ | refine call_step (run_data (xs := [_, _, _]) (c12e B (s := text (normal (parse s).1)) (last := true) ne) _) ?_ | refine call_step (run_data (xs := [_, _, _]) (within_ok (n := (resR t s true).x.node) hw (by simp only [List.length_map])) _) ?_ | refine call_step (run_data (xs := [_]) (c19t s np) _) ?_ | refine call_step (run_data (xs := [_, _, _]) (c20t V tT hn (k := k) (by omega)) _) ?_); conv => whnf)
 | (refine ⟨[], [(3, 1), (6, 1), (8, 1)], (by decide +kernel), ?_⟩; conv => whnf)
 | ((with_reducible refine loop_go ?_); first | (refine loop1 (fun (k : Nat) => (resR t s true).x.trail.length - k) (fun (k : Nat) => k ≤ (resR t s true).x.trail.length) (fun (k : Nat) => [(0, .d (treeD t)), (1, .d (.str s)), (6, .ptr 0 0 0), (12, .d (i k))]) (fun (k : Nat) => [⟨[.d (resR t s true).enc], 6, 0⟩]) (0) (by exact Nat.zero_le _) ?_ (fun k C hI hC => ?_); (exact ⟨[.old 0], rfl, rfl, ⟨(by first | (show (_ : D) = _; with_reducible rfl) ), (by first | (show (_ : D) = _; with_reducible rfl) ), ⟨rfl, rfl, rfl⟩, (by first | exact congrArg (D.int .i64) (by omega) ), trivial⟩, ⟨⟨rfl, rfl, .inl ⟨[_], rfl, rfl⟩⟩, trivial⟩⟩); all_goals (conv => whnf)) | (refine loop1 (fun (k : Nat) => t.length - k) (fun (k : Nat) => k ≤ t.length ∧ noLk t k) (fun (k : Nat) => [(0, .d (treeD t)), (1, .d (.str s)), (5, .d (i k))]) (fun (k : Nat) => []) (0) (by exact ⟨Nat.zero_le _, fun j hj => absurd hj (Nat.not_lt_zero _)⟩) ?_ (fun k C hI hC => ?_); (exact ⟨[], rfl, rfl, ⟨(by first | (show (_ : D) = _; with_reducible rfl) ), (by first | (show (_ : D) = _; with_reducible rfl) ), (by first | exact congrArg (D.int .i64) (by omega) ), trivial⟩, trivial⟩); all_goals (conv => whnf)))
 | ((with_reducible show C _ _); first | (refine hC (k + 1) _ _ ?_ (by omega) ?_; clear hC; rotate_left; (exact ⟨[], rfl, rfl, ⟨(by first | (show (_ : D) = _; with_reducible rfl) ), (by first | (show (_ : D) = _; with_reducible rfl) ), (by first | exact congrArg (D.int .i64) (by omega) ), trivial⟩, trivial⟩); (exact ⟨by omega, noL_1 hI.2 (by assumption) (by assumption)⟩)) | (refine hC (k + 1) _ _ ?_ (by omega) ?_; clear hC; rotate_left; (exact ⟨[.old 0], rfl, rfl, ⟨(by first | (show (_ : D) = _; with_reducible rfl) ), (by first | (show (_ : D) = _; with_reducible rfl) ), ⟨rfl, rfl, rfl⟩, (by first | exact congrArg (D.int .i64) (by omega) ), trivial⟩, ⟨⟨rfl, rfl, .inl ⟨[_], rfl, rfl⟩⟩, trivial⟩⟩); (exact by omega)))
 | (refine tr_ix0 t1 ?_; conv => whnf)
 | (refine nod_at2 (by omega) ?_; conv => whnf)
 | (refine ix_map (by omega) ?_; conv => whnf)
 | (refine wrap64 (by omega) ?_; conv => whnf)
 | (refine wrap64 (by first | (simp only [List.length_map]; omega)) ?_; conv => whnf)
 | (refine ix_nd hn.nn hn.get ?_; conv => whnf)
 | ((with_reducible refine endx_go ?_); first | (exact endx rfl; done) )
 | (refine ⟨rfl, ?_⟩; conv => whnf)
  | fail
  )
theorem c4i (t : List Nod) (s : Bs) (hf : smallT t = true) (h1 : ¬ (150 : Int) < s.length) (hc : (checkT t).2 = 0) (hN : NoL t) (he : (resR t s true).e = 0) (hw : within (resR t s true).x.node 0 ((t.length : Int) - 1) = true) (hk : (nodAt t (resR t s true).x.node).kind = 0) (hs : (resR t s true).s = []) (h4 : s = [47]) : Fn 4 [treeD t, .str s] (.bool true) := by
 have B := tb_small hf; have V : Vt t := ⟨B, hc⟩; have htl := V.len.2; have hn := okI_w.1 hw; obtain ⟨ts, t0, t1, tT⟩ := sa_trail V hN he hn; obtain ⟨np, ne, nn⟩ := sa_norm V hN he hn; have h10 := resR_tl B s true; have t0n : ¬ (((resR t s true).x.trail.map i).length : Int) = 0 := (by rw [List.length_map]; omega)
 refine run_walkF eok Tryz.func4 rfl (by kernel_rfl) ?_
 conv => whnf
 repeat' (first
 | ((with_reducible refine on_dec_t (by assumption) ?_); conv => whnf)
 | ((with_reducible refine on_dec_f (by assumption) ?_); conv => whnf)
 | ((with_reducible refine on_nt (by assumption) ?_); conv => whnf)
 | ((with_reducible refine on_ndec_t (by first | assumption ) ?_); conv => whnf)
 | ((with_reducible refine on_dec (fun h => ?_) (fun h => ?_)) <;> (try simp only [List.length_map] at h) <;> conv => whnf)
 | ((with_reducible refine on_not (fun h => ?_) (fun h => ?_)) <;> conv => whnf)
 | ((with_reducible refine call_go ?_); (first | refine call_step (run_data (xs := []) c10 _) ?_ | refine call_step (run_data (xs := [_]) (c11 t) _) ?_ | refine call_step (run_data (xs := [_]) (c17e B hc) _) ?_ | refine call_step (run_data (xs := [_]) (c13 t B) _) ?_ | refine call_step (run_data (xs := [_, _, _]) (c12e B (s := s) (last := true) he) _) ?_ | refine call_step (run_data (xs := [_, _, _]) (c12e B (s := text (normal (parse s).1)) (last := true) ne) _) ?_ | refine call_step (run_data (xs := [_, _, _]) (within_ok (n := (resR t s true).x.node) hw (by simp only [List.length_map])) _) ?_ | refine call_step (run_data (xs := [_]) (c19t s np) _) ?_ | refine call_step (run_data (xs := [_, _, _]) (c20t V tT hn (k := k) (by omega)) _) ?_); conv => whnf)
 | (refine ⟨[], [(3, 1), (6, 1), (8, 1)], (by decide +kernel), ?_⟩; conv => whnf)
 | ((with_reducible refine loop_go ?_); first | (refine loop1 (fun (k : Nat) => (resR t s true).x.trail.length - k) (fun (k : Nat) => k ≤ (resR t s true).x.trail.length) (fun (k : Nat) => [(0, .d (treeD t)), (1, .d (.str s)), (6, .ptr 0 0 0), (12, .d (i k))]) (fun (k : Nat) => [⟨[.d (resR t s true).enc], 6, 0⟩]) (0) (by exact Nat.zero_le _) ?_ (fun k C hI hC => ?_); (exact ⟨[.old 0], rfl, rfl, ⟨(by first | (show (_ : D) = _; with_reducible rfl) ), (by first | (show (_ : D) = _; with_reducible rfl) ), ⟨rfl, rfl, rfl⟩, (by first | exact congrArg (D.int .i64) (by omega) ), trivial⟩, ⟨⟨rfl, rfl, .inl ⟨[_], rfl, rfl⟩⟩, trivial⟩⟩); all_goals (conv => whnf)) | (refine loop1 (fun (k : Nat) => t.length - k) (fun (k : Nat) => k ≤ t.length ∧ noLk t k) (fun (k : Nat) => [(0, .d (treeD t)), (1, .d (.str s)), (5, .d (i k))]) (fun (k : Nat) => []) (0) (by exact ⟨Nat.zero_le _, fun j hj => absurd hj (Nat.not_lt_zero _)⟩) ?_ (fun k C hI hC => ?_); (exact ⟨[], rfl, rfl, ⟨(by first | (show (_ : D) = _; with_reducible rfl) ), (by first | (show (_ : D) = _; with_reducible rfl) ), (by first | exact congrArg (D.int .i64) (by omega) ), trivial⟩, trivial⟩); all_goals (conv => whnf)))
 | ((with_reducible show C _ _); first | (refine hC (k + 1) _ _ ?_ (by omega) ?_; clear hC; rotate_left; (exact ⟨[], rfl, rfl, ⟨(by first | (show (_ : D) = _; with_reducible rfl) ), (by first | (show (_ : D) = _; with_reducible rfl) ), (by first | exact congrArg (D.int .i64) (by omega) ), trivial⟩, trivial⟩); (exact ⟨by omega, noL_1 hI.2 (by assumption) (by assumption)⟩)) | (refine hC (k + 1) _ _ ?_ (by omega) ?_; clear hC; rotate_left; (exact ⟨[.old 0], rfl, rfl, ⟨(by first | (show (_ : D) = _; with_reducible rfl) ), (by first | (show (_ : D) = _; with_reducible rfl) ), ⟨rfl, rfl, rfl⟩, (by first | exact congrArg (D.int .i64) (by omega) ), trivial⟩, ⟨⟨rfl, rfl, .inl ⟨[_], rfl, rfl⟩⟩, trivial⟩⟩); (exact by omega)))
 | (refine tr_ix0 t1 ?_; conv => whnf)
 | (refine nod_at2 (by omega) ?_; conv => whnf)
 | (refine ix_map (by omega) ?_; conv => whnf)
 | (refine wrap64 (by omega) ?_; conv => whnf)
 | (refine wrap64 (by first | (simp only [List.length_map]; omega)) ?_; conv => whnf)
 | (refine ix_nd hn.nn hn.get ?_; conv => whnf)
 | ((with_reducible refine endx_go ?_); first | (exact endx rfl; done) )
 | (refine ⟨rfl, ?_⟩; conv => whnf)
  | fail
  )
theorem c4j (t : List Nod) (s : Bs) (hf : smallT t = true) (h1 : ¬ (150 : Int) < s.length) (hc : (checkT t).2 = 0) (hN : NoL t) (he : (resR t s true).e = 0) (hw : within (resR t s true).x.node 0 ((t.length : Int) - 1) = true) (hk : (nodAt t (resR t s true).x.node).kind = 0) (hs : (resR t s true).s = []) (h4 : ¬ s = [47]) (h8 : (resR t (s ++ [47, 46]) true).e = 8) : Fn 4 [treeD t, .str s] (.bool true) := by
 have B := tb_small hf; have V : Vt t := ⟨B, hc⟩; have htl := V.len.2; have hn := okI_w.1 hw; obtain ⟨ts, t0, t1, tT⟩ := sa_trail V hN he hn; obtain ⟨np, ne, nn⟩ := sa_norm V hN he hn; have h10 := resR_tl B s true; have t0n : ¬ (((resR t s true).x.trail.map i).length : Int) = 0 := (by rw [List.length_map]; omega)
 refine run_walkF eok Tryz.func4 rfl (by kernel_rfl) ?_
 conv => whnf
 repeat' (first
 | ((with_reducible refine on_dec_f (by assumption) ?_); conv => whnf)
 | ((with_reducible refine on_nt (by assumption) ?_); conv => whnf)
 | ((with_reducible refine on_ndec_t (by first | assumption ) ?_); conv => whnf)
 | ((with_reducible refine on_dec (fun h => ?_) (fun h => ?_)) <;> (try simp only [List.length_map] at h) <;> conv => whnf)
 | ((with_reducible refine on_not (fun h => ?_) (fun h => ?_)) <;> conv => whnf)
 | ((with_reducible refine call_go ?_); (first | refine call_step (run_data (xs := []) c10 _) ?_ | refine call_step (run_data (xs := [_]) (c11 t) _) ?_ | refine call_step (run_data (xs := [_]) (c17e B hc) _) ?_ | refine call_step (run_data (xs := [_]) (c13 t B) _) ?_ | refine call_step (run_data (xs := [_, _, _]) (c12e B (s := s) (last := true) he) _) ?_ | refine call_step (run_data (xs := [_, _, _]) (c12e B (s := text (normal (parse s).1)) (last := true) ne) _) ?_ | refine call_step (run_data (xs := [_, _, _]) (c12e B (s := s ++ [47, 46]) (last := true) h8) _) ?_ | refine call_step (run_data (xs := [_, _, _]) (within_ok (n := (resR t s true).x.node) hw (by simp only [List.length_map])) _) ?_ | refine call_step (run_data (xs := [_]) (c19t s np) _) ?_ | refine call_step (run_data (xs := [_, _, _]) (c20t V tT hn (k := k) (by omega)) _) ?_); conv => whnf)
 | (refine ⟨[], [(3, 1), (6, 1), (8, 1)], (by decide +kernel), ?_⟩; conv => whnf)
 | ((with_reducible refine loop_go ?_); first | (refine loop1 (fun (k : Nat) => (resR t s true).x.trail.length - k) (fun (k : Nat) => k ≤ (resR t s true).x.trail.length) (fun (k : Nat) => [(0, .d (treeD t)), (1, .d (.str s)), (6, .ptr 0 0 0), (12, .d (i k))]) (fun (k : Nat) => [⟨[.d (resR t s true).enc], 6, 0⟩]) (0) (by exact Nat.zero_le _) ?_ (fun k C hI hC => ?_); (exact ⟨[.old 0], rfl, rfl, ⟨(by first | (show (_ : D) = _; with_reducible rfl) ), (by first | (show (_ : D) = _; with_reducible rfl) ), ⟨rfl, rfl, rfl⟩, (by first | exact congrArg (D.int .i64) (by omega) ), trivial⟩, ⟨⟨rfl, rfl, .inl ⟨[_], rfl, rfl⟩⟩, trivial⟩⟩); all_goals (conv => whnf)) | (refine loop1 (fun (k : Nat) => t.length - k) (fun (k : Nat) => k ≤ t.length ∧ noLk t k) (fun (k : Nat) => [(0, .d (treeD t)), (1, .d (.str s)), (5, .d (i k))]) (fun (k : Nat) => []) (0) (by exact ⟨Nat.zero_le _, fun j hj => absurd hj (Nat.not_lt_zero _)⟩) ?_ (fun k C hI hC => ?_); (exact ⟨[], rfl, rfl, ⟨(by first | (show (_ : D) = _; with_reducible rfl) ), (by first | (show (_ : D) = _; with_reducible rfl) ), (by first | exact congrArg (D.int .i64) (by omega) ), trivial⟩, trivial⟩); all_goals (conv => whnf)))
 | ((with_reducible show C _ _); first | (refine hC (k + 1) _ _ ?_ (by omega) ?_; clear hC; rotate_left; (exact ⟨[], rfl, rfl, ⟨(by first | (show (_ : D) = _; with_reducible rfl) ), (by first | (show (_ : D) = _; with_reducible rfl) ), (by first | exact congrArg (D.int .i64) (by omega) ), trivial⟩, trivial⟩); (exact ⟨by omega, noL_1 hI.2 (by assumption) (by assumption)⟩)) | (refine hC (k + 1) _ _ ?_ (by omega) ?_; clear hC; rotate_left; (exact ⟨[.old 0], rfl, rfl, ⟨(by first | (show (_ : D) = _; with_reducible rfl) ), (by first | (show (_ : D) = _; with_reducible rfl) ), ⟨rfl, rfl, rfl⟩, (by first | exact congrArg (D.int .i64) (by omega) ), trivial⟩, ⟨⟨rfl, rfl, .inl ⟨[_], rfl, rfl⟩⟩, trivial⟩⟩); (exact by omega)))
 | (refine tr_ix0 t1 ?_; conv => whnf)
 | (refine nod_at2 (by omega) ?_; conv => whnf)
 | (refine ix_map (by omega) ?_; conv => whnf)
 | (refine wrap64 (by omega) ?_; conv => whnf)
 | (refine wrap64 (by first | (simp only [List.length_map]; omega)) ?_; conv => whnf)
 | (refine ix_nd hn.nn hn.get ?_; conv => whnf)
 | (refine s4746 (by omega) ?_; conv => whnf)
 | ((with_reducible refine endx_go ?_); first | (exact endx rfl; done) )
 | (refine ⟨rfl, ?_⟩; conv => whnf)
  | fail
  )
theorem c4k (t : List Nod) (s : Bs) (hf : smallT t = true) (h1 : ¬ (150 : Int) < s.length) (hc : (checkT t).2 = 0) (hN : NoL t) (he : (resR t s true).e = 0) (hw : within (resR t s true).x.node 0 ((t.length : Int) - 1) = true) (hk : (nodAt t (resR t s true).x.node).kind = 0) (hs : (resR t s true).s = []) (h4 : ¬ s = [47]) (h8 : (resR t (s ++ [47, 46]) true).e = 0) (h9 : (resR t (s ++ [47, 46]) true).x.node = (resR t s true).x.node) : Fn 4 [treeD t, .str s] (.bool true) := by
 have B := tb_small hf; have V : Vt t := ⟨B, hc⟩; have htl := V.len.2; have hn := okI_w.1 hw; obtain ⟨ts, t0, t1, tT⟩ := sa_trail V hN he hn; obtain ⟨np, ne, nn⟩ := sa_norm V hN he hn; have h10 := resR_tl B s true; have t0n : ¬ (((resR t s true).x.trail.map i).length : Int) = 0 := (by rw [List.length_map]; omega)
 refine run_walkF eok Tryz.func4 rfl (by kernel_rfl) ?_
 conv => whnf
 repeat' (first
 | ((with_reducible refine on_dec_f (by assumption) ?_); conv => whnf)
 | ((with_reducible refine on_nt (by assumption) ?_); conv => whnf)
 | ((with_reducible refine on_ndec_t (by first | assumption ) ?_); conv => whnf)
 | ((with_reducible refine on_dec (fun h => ?_) (fun h => ?_)) <;> (try simp only [List.length_map] at h) <;> conv => whnf)
 | ((with_reducible refine on_not (fun h => ?_) (fun h => ?_)) <;> conv => whnf)
 | ((with_reducible refine call_go ?_); (first | refine call_step (run_data (xs := []) c10 _) ?_ | refine call_step (run_data (xs := [_]) (c11 t) _) ?_ | refine call_step (run_data (xs := [_]) (c17e B hc) _) ?_ | refine call_step (run_data (xs := [_]) (c13 t B) _) ?_ | refine call_step (run_data (xs := [_, _, _]) (c12e B (s := s) (last := true) he) _) ?_ | refine call_step (run_data (xs := [_, _, _]) (c12e B (s := text (normal (parse s).1)) (last := true) ne) _) ?_ | refine call_step (run_data (xs := [_, _, _]) (c12e B (s := s ++ [47, 46]) (last := true) h8) _) ?_ | refine call_step (run_data (xs := [_, _, _]) (within_ok (n := (resR t s true).x.node) hw (by simp only [List.length_map])) _) ?_ | refine call_step (run_data (xs := [_]) (c19t s np) _) ?_ | refine call_step (run_data (xs := [_, _, _]) (c20t V tT hn (k := k) (by omega)) _) ?_); conv => whnf)
 | (refine ⟨[], [(3, 1), (6, 1), (8, 1)], (by decide +kernel), ?_⟩; conv => whnf)
 | ((with_reducible refine loop_go ?_); first | (refine loop1 (fun (k : Nat) => (resR t s true).x.trail.length - k) (fun (k : Nat) => k ≤ (resR t s true).x.trail.length) (fun (k : Nat) => [(0, .d (treeD t)), (1, .d (.str s)), (6, .ptr 0 0 0), (12, .d (i k))]) (fun (k : Nat) => [⟨[.d (resR t s true).enc], 6, 0⟩]) (0) (by exact Nat.zero_le _) ?_ (fun k C hI hC => ?_); (exact ⟨[.old 0], rfl, rfl, ⟨(by first | (show (_ : D) = _; with_reducible rfl) ), (by first | (show (_ : D) = _; with_reducible rfl) ), ⟨rfl, rfl, rfl⟩, (by first | exact congrArg (D.int .i64) (by omega) ), trivial⟩, ⟨⟨rfl, rfl, .inl ⟨[_], rfl, rfl⟩⟩, trivial⟩⟩); all_goals (conv => whnf)) | (refine loop1 (fun (k : Nat) => t.length - k) (fun (k : Nat) => k ≤ t.length ∧ noLk t k) (fun (k : Nat) => [(0, .d (treeD t)), (1, .d (.str s)), (5, .d (i k))]) (fun (k : Nat) => []) (0) (by exact ⟨Nat.zero_le _, fun j hj => absurd hj (Nat.not_lt_zero _)⟩) ?_ (fun k C hI hC => ?_); (exact ⟨[], rfl, rfl, ⟨(by first | (show (_ : D) = _; with_reducible rfl) ), (by first | (show (_ : D) = _; with_reducible rfl) ), (by first | exact congrArg (D.int .i64) (by omega) ), trivial⟩, trivial⟩); all_goals (conv => whnf)))
 | ((with_reducible show C _ _); first | (refine hC (k + 1) _ _ ?_ (by omega) ?_; clear hC; rotate_left; (exact ⟨[], rfl, rfl, ⟨(by first | (show (_ : D) = _; with_reducible rfl) ), (by first | (show (_ : D) = _; with_reducible rfl) ), (by first | exact congrArg (D.int .i64) (by omega) ), trivial⟩, trivial⟩); (exact ⟨by omega, noL_1 hI.2 (by assumption) (by assumption)⟩)) | (refine hC (k + 1) _ _ ?_ (by omega) ?_; clear hC; rotate_left; (exact ⟨[.old 0], rfl, rfl, ⟨(by first | (show (_ : D) = _; with_reducible rfl) ), (by first | (show (_ : D) = _; with_reducible rfl) ), ⟨rfl, rfl, rfl⟩, (by first | exact congrArg (D.int .i64) (by omega) ), trivial⟩, ⟨⟨rfl, rfl, .inl ⟨[_], rfl, rfl⟩⟩, trivial⟩⟩); (exact by omega)))
 | (refine tr_ix0 t1 ?_; conv => whnf)
 | (refine nod_at2 (by omega) ?_; conv => whnf)
 | (refine ix_map (by omega) ?_; conv => whnf)
 | (refine wrap64 (by omega) ?_; conv => whnf)
 | (refine wrap64 (by first | (simp only [List.length_map]; omega)) ?_; conv => whnf)
 | (refine ix_nd hn.nn hn.get ?_; conv => whnf)
 | (refine s4746 (by omega) ?_; conv => whnf)
 | ((with_reducible refine endx_go ?_); first | (exact endx rfl; done) | (exact endx (congrArg D.bool (decide_eq_true (by assumption))); done))
 | (refine ⟨rfl, ?_⟩; conv => whnf)
  | fail
  )
theorem c4 (t : List Nod) (s : Bs) : Fn 4 [treeD t, .str s] (.bool true) := by
 cases hf : smallT t with
 | false => exact c4a t s hf
 | true =>
  by_cases h1 : (150 : Int) < s.length
  ·exact c4b t s hf h1
  ·by_cases hc : (checkT t).2 = 0
   ·by_cases hN : NoL t
    ·by_cases he : (resR t s true).e = 0
     ·cases hw : within (resR t s true).x.node 0 ((t.length : Int) - 1) with
      | false => exact c4f t s hf h1 hc hN he hw
      | true =>
       by_cases hk : (nodAt t (resR t s true).x.node).kind = 0
       ·by_cases hs : (resR t s true).s = []
        ·by_cases h4 : s = [47]
         ·exact c4i t s hf h1 hc hN he hw hk hs h4
         ·rcases sa_dot ⟨tb_small hf, hc⟩ hN he (okI_w.1 hw) hk hs h4 (by omega) with h8 | ⟨h8, h9⟩
          ·exact c4j t s hf h1 hc hN he hw hk hs h4 h8
          ·exact c4k t s hf h1 hc hN he hw hk hs h4 h8 h9
        ·exact c4h t s hf h1 hc hN he hw hk hs
       ·exact c4g t s hf h1 hc hN he hw hk
     ·exact c4e t s hf h1 hc hN he
    ·exact c4d t s hf h1 hc hN
   ·exact c4c t s hf h1 hc
end Go.Proofs.YtpfokhdelnlciaaGreatDoor
namespace Go.Proofs.YtpfokhdelnlciaaGreatDoor
open Go Dw Go.ChangeShapes Go.WideShapes Go.RowKit
section
attribute [local irreducible] Run
theorem hrun4 : ∀ xs, shps E 6 Tryz.f4.params.toList xs → Run Tryz.prog 4 (xs.map .d) [] (.d (.bool true)) [] := by
 intro xs h
 obtain ⟨x1, r1, rfl, h1, x2, r2, rfl, h2, rfl⟩ := h
 obtain ⟨t, rfl⟩ := shpTree h1
 obtain ⟨s, rfl⟩ := shpStr h2
 exact c4 t s
end
set_option maxRecDepth 100000 in
theorem lifted4 (os : Os) (started : os.Started) (H : Type) (enc : TypeId × Value → H) :
  ReturnsInHanded {} Tryz.checked os 4 .any (fun w args => (Rows.reparseSameSpec.pre enc Tryz.prog Tryz.f4 [] false w args ∧ laidMetH Tryz.prog laid27 w) ∧ sizedMet enc Tryz.prog Tryz.f4 (OpenSpec.ofChange Rows.reparseSameSpec) false w args)
   (Rows.reparseSameSpec.post enc Tryz.prog Tryz.f4 false true false false) := by
 refine returnsInHanded_of_change_and (C := Tryz.checked) (X := fun w _ => laidMetH Tryz.prog laid27 w) (fun _ _ _ hh h => h.of_heap hh) own27 started (by kernel_rfl) Tryz.func4
  (ChangeSpec.witness_shaped (enc := enc) (C := Tryz.checked) (os := os) (X := fun w _ => laidMetH Tryz.prog laid27 w) false (wit27 os) #[.slice none 0 0, .string ⟨#[]⟩] 8 rfl (shaped27 os _) (by kernel_rfl) (by kernel_rfl) (by kernel_rfl) (door_met27 os _)) ?_
 intro W base args ds gs before hval hW _ _ _ _
 refine law_lift (n := 6) (t4 := 4) eok Tryz.func4 (by kernel_rfl) rfl laidOut27 rfl ?_ rfl Tryz.underlying4 (by kernel_rfl) hrun4 W base args ds gs before hval hW
 intro H ds hds
 match ds, hds with
 | [a, b], _ => rfl
theorem over4 : Rows.ReparseSameSaid :=
 OpenClaim.holds_of_wide 4 Tryz.f4 rfl rfl rfl rfl rfl rfl rfl ⟨rfl, rfl, rfl, rfl, rfl⟩ rfl rfl rfl rfl rfl (by kernel_rfl) Tryz.func4 (by kernel_rfl)
  (of_decide_eq_true (by kernel_rfl)) (by unfold Func.isWrapper; first | (rw [if_pos (by decide +kernel)]; kernel_rfl) | (rw [if_neg (by decide +kernel)]; exact ⟨rfl, rfl⟩))
  (fun os started H enc _ => lifted4 os started H enc)
theorem reparseSame_proved : Rows.ReparseSameCardSaid :=
 Claim7.holds_tied_plain_at .later [] [.data, .pinned] true (true, "a16cbc1bcc8e620bf3fa5a01d12ddd2b9540fe44c3b039af40c111ac70deaea2") false
  over4 (fun _ h => by cases h) (by kernel_rfl) (fun _ h => by cases h) reparseSame_row_tie rfl ⟨rfl, rfl⟩ (by kernel_rfl) rfl
  (card_hl (f0 := 4) (fn0 := Tryz.f4) (by kernel_rfl) Tryz.func4 (by kernel_rfl) (by kernel_rfl)) (by kernel_rfl)
end Go.Proofs.YtpfokhdelnlciaaGreatDoor
