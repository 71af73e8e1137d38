/-
  Chapter 24: ChangesErrors holds at every input: no condition of ours.
-/
import Derived.Test.YtjbipdppgoldlaaMLa3
import Derived.Carry
import Derived.OpenShut
import Derived.ChangeArms
import Derived.ProofKit
import Derived.Test.YtjbipdppgoldlaaRows

/-! Wp -/
namespace Go.Proofs.Ytjbipdppgoldlaa
open Go Dw
set_option maxRecDepth 10000
set_option linter.unusedVariables false
set_option linter.unusedSimpArgs false
attribute [local irreducible] Run
set_option maxHeartbeats 2000000

def openGo (f : Ref) (r : Int) : List Opn → Bool → List Opn → List Opn
  | [], d, out => if d then out else out ++ [⟨f, r⟩]
  | o :: l, d, out => openGo f r l (d || less f o.file)
      (if o.file = f then (if !d && less f o.file then out ++ [⟨f, r⟩] else out) else (if !d && less f o.file then out ++ [⟨f, r⟩] else out) ++ [o])
def Jrn.opened (j : Jrn) (f : Ref) (r : Int) : Jrn := { j with opens := openGo f r j.opens (decide (r = 0)) [] }
theorem openGo_drop {f : Ref} {r : Int} {l : List Opn} {k : Nat} {d : Bool} {out : List Opn} (h : k < l.length) : openGo f r (l.drop k) d out = openGo f r (l.drop (k + 1)) (d || less f l[k].file)
      (if l[k].file = f then (if !d && less f l[k].file then out ++ [⟨f, r⟩] else out) else (if !d && less f l[k].file then out ++ [⟨f, r⟩] else out) ++ [l[k]]) := by
  rw [List.drop_eq_getElem_cons h]; rfl
theorem openGo_end {f : Ref} {r : Int} {l : List Opn} {k : Nat} {d : Bool} {out : List Opn} (h : l.length ≤ k) : openGo f r (l.drop k) d out = if d then out else out ++ [⟨f, r⟩] := by
  rw [List.drop_eq_nil_of_le h]; rfl

theorem c98 (j : Jrn) (f : Ref) (r : Int) (ho : j.opens.length < 1000000) : Fn 98 [j.enc, f.enc, i r] (j.opened f r).enc := by
  refine run_walkF eok Try.func98 rfl (by kernel_rfl) ?_
  conv => whnf
  repeat' (first
    | (refine on_ref (fun h => ?_) (fun h => ?_) <;> conv => whnf)
    | (refine on_refn (fun h => ?_) (fun h => ?_) <;> conv => whnf)
    | ((with_reducible refine on_dec_f ?_ ?_); (focus ((try simp only [List.length_map, List.length_cons, List.length_nil, List.length_append]); omega)); conv => whnf)
    | ((with_reducible refine on_dec_t ?_ ?_); (focus ((try simp only [List.length_map, List.length_cons, List.length_nil, List.length_append]); omega)); conv => whnf)
    | ((with_reducible refine on_dec (fun h => ?_) (fun h => ?_)) <;> (try simp only [List.length_map] at h) <;> conv => whnf)
    | ((with_reducible refine on_ndec (fun h => ?_) (fun h => ?_)) <;> (try simp only [List.length_map] at h) <;> conv => whnf)
    | ((with_reducible refine on_not (fun h => ?_) (fun h => ?_)) <;> conv => whnf)
    | ((with_reducible refine onBool_split (fun h => ?_) (fun h => ?_)) <;> conv => whnf)
    | (refine call_step (run_view (c67 _ _) rfl rfl) ?_; conv => whnf)
    | (refine ⟨[], [], (by decide +kernel), ?_⟩; conv => whnf)
    | (refine loop3 (fun (k : Nat) (d : Bool) (out : List Opn) => j.opens.length - k) (fun (k : Nat) (d : Bool) (out : List Opn) => k ≤ j.opens.length ∧ out.length ≤ 2 * k ∧ openGo f r j.opens (decide (r = 0)) [] = openGo f r (j.opens.drop k) d out) (fun (k : Nat) (d : Bool) (out : List Opn) => [(2, .d (i r)), (3, .ptr 0 0 0), (4, .ptr 1 0 0), (6, .ptr 2 0 0), (7, .sl 3 0 out.length 3 none), (8, .d (.bool d)), (9, .d (i k))]) (fun (k : Nat) (d : Bool) (out : List Opn) => [⟨[.d j.enc], 6, 0⟩, ⟨[.d f.enc], 2, 0⟩, ⟨[.junk], 6, 0⟩, ⟨(out.map Opn.enc).map .d, 3, 0⟩]) (0) (decide (r = 0)) ([]) (by exact ⟨by omega, by simp, rfl⟩) ?_ (fun k d out C hI hC => ?_); (exact ⟨[.old 0, .old 1, .old 2, .void 3], rfl, rfl, ⟨rfl, ⟨rfl, rfl, rfl⟩, ⟨rfl, rfl, rfl⟩, ⟨rfl, rfl, rfl⟩, ⟨rfl, rfl, rfl, rfl⟩, rfl, rfl, trivial⟩, ⟨⟨rfl, rfl, .inl ⟨[_], rfl, rfl⟩⟩, ⟨rfl, rfl, .inl ⟨[_], rfl, rfl⟩⟩, ⟨rfl, rfl, .inr ⟨trivial, trivial⟩⟩, ⟨rfl, rfl, (by decide), rfl⟩, trivial⟩⟩); all_goals (conv => whnf))
    | (refine hC (k + 1) (d) (out) _ _ ?_ (by omega) ?_; clear hC; rotate_left; (exact ⟨[.old 0, .old 1, .old 2, .old 3], rfl, rfl, ⟨(by first | exact congrArg (D.int .i64) (by omega) | exact ⟨rfl, rfl, rfl⟩ | exact ⟨rfl, rfl, rfl, rfl, rfl⟩ | (show (_ : D) = _; with_reducible rfl)), (by first | exact congrArg (D.int .i64) (by omega) | exact ⟨rfl, rfl, rfl⟩ | exact ⟨rfl, rfl, rfl, rfl, rfl⟩ | (show (_ : D) = _; with_reducible rfl)), (by first | exact congrArg (D.int .i64) (by omega) | exact ⟨rfl, rfl, rfl⟩ | exact ⟨rfl, rfl, rfl, rfl, rfl⟩ | (show (_ : D) = _; with_reducible rfl)), (by first | exact congrArg (D.int .i64) (by omega) | exact ⟨rfl, rfl, rfl⟩ | exact ⟨rfl, rfl, rfl, rfl, rfl⟩ | (show (_ : D) = _; with_reducible rfl)), ⟨rfl, rfl, (by simp), rfl, rfl⟩, (by first | exact congrArg (D.int .i64) (by omega) | exact ⟨rfl, rfl, rfl⟩ | exact ⟨rfl, rfl, rfl, rfl, rfl⟩ | (show (_ : D) = _; with_reducible rfl)), (by first | exact congrArg (D.int .i64) (by omega) | exact ⟨rfl, rfl, rfl⟩ | exact ⟨rfl, rfl, rfl, rfl, rfl⟩ | (show (_ : D) = _; with_reducible rfl)), trivial⟩, ⟨⟨rfl, rfl, .inl ⟨[_], rfl, rfl⟩⟩, ⟨rfl, rfl, .inl ⟨[_], rfl, rfl⟩⟩, ⟨rfl, rfl, .inr ⟨trivial, trivial⟩⟩, ⟨rfl, rfl, .inr ((wksd _ _))⟩, trivial⟩⟩); (exact ⟨by omega, by (first | omega | (simp; omega)), by rw [hI.2.2, openGo_drop (by omega)]; simp_all⟩))
    | (refine hC (k + 1) (d) (out ++ [j.opens[k]]) _ _ ?_ (by omega) ?_; clear hC; rotate_left; (exact ⟨[.old 0, .old 1, .old 2, .old 5], rfl, rfl, ⟨(by first | exact congrArg (D.int .i64) (by omega) | exact ⟨rfl, rfl, rfl⟩ | exact ⟨rfl, rfl, rfl, rfl, rfl⟩ | (show (_ : D) = _; with_reducible rfl)), (by first | exact congrArg (D.int .i64) (by omega) | exact ⟨rfl, rfl, rfl⟩ | exact ⟨rfl, rfl, rfl, rfl, rfl⟩ | (show (_ : D) = _; with_reducible rfl)), (by first | exact congrArg (D.int .i64) (by omega) | exact ⟨rfl, rfl, rfl⟩ | exact ⟨rfl, rfl, rfl, rfl, rfl⟩ | (show (_ : D) = _; with_reducible rfl)), (by first | exact congrArg (D.int .i64) (by omega) | exact ⟨rfl, rfl, rfl⟩ | exact ⟨rfl, rfl, rfl, rfl, rfl⟩ | (show (_ : D) = _; with_reducible rfl)), ⟨rfl, rfl, (by simp), rfl, rfl⟩, (by first | exact congrArg (D.int .i64) (by omega) | exact ⟨rfl, rfl, rfl⟩ | exact ⟨rfl, rfl, rfl, rfl, rfl⟩ | (show (_ : D) = _; with_reducible rfl)), (by first | exact congrArg (D.int .i64) (by omega) | exact ⟨rfl, rfl, rfl⟩ | exact ⟨rfl, rfl, rfl, rfl, rfl⟩ | (show (_ : D) = _; with_reducible rfl)), trivial⟩, ⟨⟨rfl, rfl, .inl ⟨[_], rfl, rfl⟩⟩, ⟨rfl, rfl, .inl ⟨[_], rfl, rfl⟩⟩, ⟨rfl, rfl, .inr ⟨trivial, trivial⟩⟩, ⟨rfl, rfl, .inr (wks_add (wksd _ _) rfl)⟩, trivial⟩⟩); (exact ⟨by omega, by (first | omega | (simp; omega)), by rw [hI.2.2, openGo_drop (by omega)]; simp_all⟩))
    | (refine hC (k + 1) (true) (out ++ [⟨f, r⟩]) _ _ ?_ (by omega) ?_; clear hC; rotate_left; (exact ⟨[.old 0, .old 1, .old 2, .old 5], rfl, rfl, ⟨(by first | exact congrArg (D.int .i64) (by omega) | exact ⟨rfl, rfl, rfl⟩ | exact ⟨rfl, rfl, rfl, rfl, rfl⟩ | (show (_ : D) = _; with_reducible rfl)), (by first | exact congrArg (D.int .i64) (by omega) | exact ⟨rfl, rfl, rfl⟩ | exact ⟨rfl, rfl, rfl, rfl, rfl⟩ | (show (_ : D) = _; with_reducible rfl)), (by first | exact congrArg (D.int .i64) (by omega) | exact ⟨rfl, rfl, rfl⟩ | exact ⟨rfl, rfl, rfl, rfl, rfl⟩ | (show (_ : D) = _; with_reducible rfl)), (by first | exact congrArg (D.int .i64) (by omega) | exact ⟨rfl, rfl, rfl⟩ | exact ⟨rfl, rfl, rfl, rfl, rfl⟩ | (show (_ : D) = _; with_reducible rfl)), ⟨rfl, rfl, (by simp), rfl, rfl⟩, (by first | exact congrArg (D.int .i64) (by omega) | exact ⟨rfl, rfl, rfl⟩ | exact ⟨rfl, rfl, rfl, rfl, rfl⟩ | (show (_ : D) = _; with_reducible rfl)), (by first | exact congrArg (D.int .i64) (by omega) | exact ⟨rfl, rfl, rfl⟩ | exact ⟨rfl, rfl, rfl, rfl, rfl⟩ | (show (_ : D) = _; with_reducible rfl)), trivial⟩, ⟨⟨rfl, rfl, .inl ⟨[_], rfl, rfl⟩⟩, ⟨rfl, rfl, .inl ⟨[_], rfl, rfl⟩⟩, ⟨rfl, rfl, .inr ⟨trivial, trivial⟩⟩, ⟨rfl, rfl, .inr (wks_add (wksd _ _) ⟨rfl, rfl, rfl, rfl, trivial⟩)⟩, trivial⟩⟩); (exact ⟨by omega, by (first | omega | (simp; omega)), by rw [hI.2.2, openGo_drop (by omega)]; simp_all⟩))
    | (refine hC (k + 1) (true) (out ++ [⟨f, r⟩] ++ [j.opens[k]]) _ _ ?_ (by omega) ?_; clear hC; rotate_left; (exact ⟨[.old 0, .old 1, .old 2, .old 7], rfl, rfl, ⟨(by first | exact congrArg (D.int .i64) (by omega) | exact ⟨rfl, rfl, rfl⟩ | exact ⟨rfl, rfl, rfl, rfl, rfl⟩ | (show (_ : D) = _; with_reducible rfl)), (by first | exact congrArg (D.int .i64) (by omega) | exact ⟨rfl, rfl, rfl⟩ | exact ⟨rfl, rfl, rfl, rfl, rfl⟩ | (show (_ : D) = _; with_reducible rfl)), (by first | exact congrArg (D.int .i64) (by omega) | exact ⟨rfl, rfl, rfl⟩ | exact ⟨rfl, rfl, rfl, rfl, rfl⟩ | (show (_ : D) = _; with_reducible rfl)), (by first | exact congrArg (D.int .i64) (by omega) | exact ⟨rfl, rfl, rfl⟩ | exact ⟨rfl, rfl, rfl, rfl, rfl⟩ | (show (_ : D) = _; with_reducible rfl)), ⟨rfl, rfl, (by simp), rfl, rfl⟩, (by first | exact congrArg (D.int .i64) (by omega) | exact ⟨rfl, rfl, rfl⟩ | exact ⟨rfl, rfl, rfl, rfl, rfl⟩ | (show (_ : D) = _; with_reducible rfl)), (by first | exact congrArg (D.int .i64) (by omega) | exact ⟨rfl, rfl, rfl⟩ | exact ⟨rfl, rfl, rfl, rfl, rfl⟩ | (show (_ : D) = _; with_reducible rfl)), trivial⟩, ⟨⟨rfl, rfl, .inl ⟨[_], rfl, rfl⟩⟩, ⟨rfl, rfl, .inl ⟨[_], rfl, rfl⟩⟩, ⟨rfl, rfl, .inr ⟨trivial, trivial⟩⟩, ⟨rfl, rfl, .inr (wks_add (wks_add (wksd _ _) ⟨rfl, rfl, rfl, rfl, trivial⟩) rfl)⟩, trivial⟩⟩); (exact ⟨by omega, by (first | omega | (simp; omega)), by rw [hI.2.2, openGo_drop (by omega)]; simp_all⟩))
    | (refine ⟨⟨(by first | rfl | (simp; done)), cap_ok (by simp only [List.length_map, List.length_cons, List.length_nil, List.length_append]; omega) rfl⟩, ?_⟩; conv => whnf)
    | (refine ⟨mem_one ⟨rfl, rfl⟩, ?_⟩; conv => whnf)
    | (refine ⟨(by intro y hy; obtain ⟨x, _, rfl⟩ := List.mem_map.1 hy; first | rfl | exact ⟨rfl, rfl⟩), ?_⟩; conv => whnf)
    | (refine ⟨cap_ok (by first | omega | (simp only [List.length_map]; omega)) rfl, ?_⟩; conv => whnf)
    | (refine ix_map (by omega) ?_; conv => whnf)
    | (refine ix_str (by omega) ?_; conv => whnf)
    | (refine wrap64 (by omega) ?_; conv => whnf)
    | (refine ⟨(by simp), ?_⟩; conv => whnf)
    | (exfalso; simp only [List.length_map, List.length_cons, List.length_nil, List.length_append] at h; omega)
    | (refine endxv (view_agg (vlc rfl (vlc rfl (vlc rfl (vlc rfl (vlc rfl (vlc (view_map rfl Nat.two_pos) vln))))))) ?_; subst h; have he := openGo_end (f := f) (r := r) (l := j.opens) (k := k) (d := true) (out := out) (by omega); rw [if_pos rfl] at he; simp only [Jrn.opened, hI.2.2, he]; rfl; done)
    | (refine endxv (view_agg (vlc rfl (vlc rfl (vlc rfl (vlc rfl (vlc rfl (vlc (view_snoc rfl Nat.two_pos rfl) vln))))))) ?_; subst h; have he := openGo_end (f := f) (r := r) (l := j.opens) (k := k) (d := false) (out := out) (by omega); rw [if_neg (by decide)] at he; simp only [Jrn.opened, hI.2.2, he, Jrn.enc, List.map_append, List.map_cons, List.map_nil]; rfl; done)
    | (refine ⟨rfl, ?_⟩; conv => whnf)
    | fail
    )

end Go.Proofs.Ytjbipdppgoldlaa

/-! Wq -/
namespace Go.Proofs.Ytjbipdppgoldlaa
open Go Dw
set_option maxRecDepth 10000
set_option linter.unusedVariables false
set_option linter.unusedSimpArgs false
attribute [local irreducible] Run
set_option maxHeartbeats 4000000

attribute [local irreducible] woI withI hasR
theorem woI_r12 {a b : Int} (ha : 0 ≤ a ∧ a ≤ 4095) : 0 ≤ woI a b ∧ woI a b ≤ 4095 := by
  have := woI_bd (b := b) ha; omega
theorem wr_names {j : Jrn} {x : Chg} (h : ∀ y ∈ j.recs, y.name.length < 1000000) (hx : x.name.length < 1000000) : ∀ y ∈ (j.wr x).recs, y.name.length < 1000000 := by
  intro y hy
  simp only [Jrn.wr, List.mem_append, List.mem_singleton] at hy
  rcases hy with hy | rfl
  · exact h y hy
  · exact hx
theorem opened_names {j : Jrn} {f : Ref} {r : Int} (h : ∀ y ∈ j.recs, y.name.length < 1000000) : ∀ y ∈ (j.opened f r).recs, y.name.length < 1000000 := h
def aft1 (j : Jrn) (e : Evt) : Int × Jrn :=
  if woI (woI e.reasons 3584) (openR j.opens e.file) = 0 then (openR j.opens e.file, j)
  else (withI (openR j.opens e.file) (woI e.reasons 3584), j.wr ⟨0, e.file, e.parent, e.tick, withI (openR j.opens e.file) (woI e.reasons 3584), e.name⟩)
def aft2 (e : Evt) (p : Int × Jrn) : Int × Jrn :=
  if hasR e.reasons 512 then (withI (woI p.1 512) 1024, (p.2.wr ⟨0, e.file, e.parent, e.tick, withI p.1 512, e.name⟩).wr ⟨0, e.file, e.np, e.tick, withI (woI p.1 512) 1024, e.nn⟩) else p
def aft3 (e : Evt) (p : Int × Jrn) : Int × Jrn :=
  if hasR e.reasons 2048 && !decide (p.1 = 0) then (0, p.2.wr (if hasR e.reasons 512 then ⟨0, e.file, e.np, e.tick, withI p.1 2048, e.nn⟩ else ⟨0, e.file, e.parent, e.tick, withI p.1 2048, e.name⟩)) else p
def after (j : Jrn) (e : Evt) : Jrn := ((aft3 e (aft2 e (aft1 j e))).2.opened e.file (aft3 e (aft2 e (aft1 j e))).1).trim

theorem c85 (j : Jrn) (e : Evt) (hr : j.recs.length < 999990) (hn : ∀ x ∈ j.recs, x.name.length < 1000000) (ho : j.opens.length < 999990) (h0 : e.name.length < 1000000) (h1 : e.nn.length < 1000000) (he : 0 ≤ e.reasons ∧ e.reasons ≤ 4095) (hop : 0 ≤ openR j.opens e.file ∧ openR j.opens e.file ≤ 4095) : Fn 85 [j.enc, e.enc] (after j e).enc := by
  refine run_walkF eok Try.func85 rfl (by kernel_rfl) ?_
  conv => whnf
  repeat' (first
    | ((with_reducible refine on_dec_f ?_ ?_); (focus ((try simp only [List.length_map, List.length_cons, List.length_nil, List.length_append]); omega)); conv => whnf)
    | ((with_reducible refine on_dec_t ?_ ?_); (focus ((try simp only [List.length_map, List.length_cons, List.length_nil, List.length_append]); omega)); conv => whnf)
    | ((with_reducible refine on_dec (fun h => ?_) (fun h => ?_)) <;> (try simp only [List.length_map] at h) <;> conv => whnf)
    | ((with_reducible refine on_ndec (fun h => ?_) (fun h => ?_)) <;> (try simp only [List.length_map] at h) <;> conv => whnf)
    | ((with_reducible refine on_not (fun h => ?_) (fun h => ?_)) <;> conv => whnf)
    | ((with_reducible refine onBool_split (fun h => ?_) (fun h => ?_)) <;> conv => whnf)
    | (refine call_step (run_view (c45 _ e.file (by first | assumption | omega)) rfl rfl) ?_; conv => whnf)
    | (refine call_step (run_view (c14 _ _ (by repeat (first | assumption | exact ⟨by decide, by decide⟩ | apply withI_bd | apply woI_r12)) (by repeat (first | assumption | exact ⟨by decide, by decide⟩ | apply withI_bd | apply woI_r12))) rfl rfl) ?_; conv => whnf)
    | (refine call_step (run_view (c30 _ _ (by repeat (first | assumption | exact ⟨by decide, by decide⟩ | apply withI_bd | apply woI_r12)) (by repeat (first | assumption | exact ⟨by decide, by decide⟩ | apply withI_bd | apply woI_r12))) rfl rfl) ?_; conv => whnf)
    | (refine call_step (run_viewF (c97 _ ⟨0, e.file, e.parent, e.tick, _, e.name⟩ (by first | omega | (simp only [Jrn.wr, Jrn.opened, List.length_append, List.length_cons, List.length_nil]; omega)) (by assumption)) rfl) ?_; conv => whnf)
    | (refine call_step (run_viewF (c97 _ ⟨0, e.file, e.np, e.tick, _, e.nn⟩ (by first | omega | (simp only [Jrn.wr, Jrn.opened, List.length_append, List.length_cons, List.length_nil]; omega)) (by assumption)) rfl) ?_; conv => whnf)
    | (refine call_step (run_view (c15 _ _ (by decide)) rfl rfl) ?_; conv => whnf)
    | (refine call_step (run_viewF (c98 _ e.file _ (by first | omega | (simp only [Jrn.wr]; omega))) rfl) ?_; conv => whnf)
    | (refine call_step (run_data (c40 _ (by first | omega | (simp only [Jrn.wr, Jrn.opened, List.length_append, List.length_cons, List.length_nil]; omega)) (by repeat (first | assumption | apply opened_names | apply wr_names))) _) ?_; conv => whnf)
    | (refine ⟨[], [(2, 6), (4, 6), (4, 8)], (by decide +kernel), ?_⟩; conv => whnf)
    | (refine ⟨⟨(by first | rfl | (simp; done)), cap_ok (by simp only [List.length_map, List.length_cons, List.length_nil, List.length_append]; omega) rfl⟩, ?_⟩; conv => whnf)
    | (refine ⟨mem_one ⟨rfl, rfl⟩, ?_⟩; conv => whnf)
    | (refine ⟨(by intro y hy; obtain ⟨x, _, rfl⟩ := List.mem_map.1 hy; first | rfl | exact ⟨rfl, rfl⟩), ?_⟩; conv => whnf)
    | (refine ⟨cap_ok (by first | omega | (simp only [List.length_map]; omega)) rfl, ?_⟩; conv => whnf)
    | (refine ix_map (by omega) ?_; conv => whnf)
    | (refine ix_str (by omega) ?_; conv => whnf)
    | (refine wrap64 (by omega) ?_; conv => whnf)
    | (exfalso; simp only [List.length_map, List.length_cons, List.length_nil, List.length_append] at h; omega)
    | (exact endx (congrArg Jrn.enc (by simp only [after, aft1, aft2, aft3]; simp_all)); done)
    | (refine ⟨rfl, ?_⟩; conv => whnf)
    | fail
    )

end Go.Proofs.Ytjbipdppgoldlaa

/-! Wr -/
namespace Go.Proofs.Ytjbipdppgoldlaa
open Go Dw
set_option maxRecDepth 10000
set_option linter.unusedVariables false
set_option linter.unusedSimpArgs false
attribute [local irreducible] Run

attribute [local irreducible] woI withI hasR
theorem eachRec_ok : ∀ (l : List Chg) (k : Nat) (a : Int), (eachRec l k a).2.1 = 0 → ∀ x ∈ l, recordErr x = 0
  | [], _, _, _, x, hx => by cases hx
  | y :: l, k, a, h, x, hx => by
    simp only [eachRec] at h
    by_cases hy : recErr y a = 0
    · rw [if_pos hy] at h
      rcases List.mem_cons.1 hx with rfl | hx
      · unfold recErr at hy
        rw [first_cons] at hy
        by_cases h2 : recordErr x = 0
        · exact h2
        · rw [if_neg h2] at hy; exact hy
      · exact eachRec_ok l _ _ h x hx
    · rw [if_neg hy] at h
      exact absurd h hy

theorem eachOpn_ok (m : List Opn) : ∀ (l : List Opn) (k : Nat), (eachOpn m l k).2 = 0 → ∀ x ∈ l, refErr x.file = 0 ∧ within x.reasons 1 4095 = true
  | [], _, _, x, hx => by cases hx
  | y :: l, k, h, x, hx => by
    simp only [eachOpn] at h
    by_cases hy : opnErr m k y = 0
    · rw [if_pos hy] at h
      rcases List.mem_cons.1 hx with rfl | hx
      · unfold opnErr at hy
        rw [first_cons] at hy
        by_cases h2 : refErr x.file = 0
        · rw [if_pos h2, first_cons] at hy
          refine ⟨h2, ?_⟩
          by_cases h3 : within x.reasons 1 4095 = true
          · exact h3
          · simp [h3] at hy
        · rw [if_neg h2] at hy; exact absurd hy h2
      · exact eachOpn_ok m l _ h x hx
    · rw [if_neg hy] at h
      exact absurd h hy

theorem within_iff {n lo hi : Int} : within n lo hi = true ↔ lo ≤ n ∧ n ≤ hi := by
  simp only [within, Bool.and_eq_true, decide_eq_true_eq]

theorem recordErr_ok {x : Chg} (h : recordErr x = 0) : refErr x.file = 0 ∧ refErr x.parent = 0 ∧ (0 ≤ x.tick ∧ x.tick ≤ 1000000) ∧ (1 ≤ x.reasons ∧ x.reasons ≤ 4095) ∧ nameErr x.name = 0 := by
  simp only [recordErr, first_cons, first_nil] at h
  by_cases h1 : refErr x.file = 0 <;> by_cases h2 : refErr x.parent = 0 <;> by_cases h3 : (within x.tick 0 1000000 && within x.reasons 1 4095) = true <;> by_cases h4 : nameErr x.name = 0 <;> simp [h1, h2, h3, h4] at h
  rw [Bool.and_eq_true] at h3
  exact ⟨h1, h2, within_iff.1 h3.1, within_iff.1 h3.2, h4⟩

theorem nameErr_ok {s : List UInt8} (h : nameErr s = 0) : 1 ≤ s.length ∧ s.length ≤ 32 ∧ ctl s = false := by
  unfold nameErr at h
  by_cases h1 : (within (s.length : Int) 1 32 && !ctl s) = true
  · rw [Bool.and_eq_true] at h1
    have := within_iff.1 h1.1
    exact ⟨by omega, by omega, by simpa using h1.2⟩
  · rw [if_neg h1] at h; omega

/-- What a valid journal is good for. -/
structure Valid (j : Jrn) : Prop where
  nums : (0 ≤ j.id ∧ j.id ≤ 2147483647) ∧ (0 ≤ j.first ∧ j.first ≤ 2147483647) ∧ (0 ≤ j.next ∧ j.next ≤ 2147483647) ∧ (128 ≤ j.most ∧ j.most ≤ 8192)
  recs : j.recs.length ≤ 200
  opens : j.opens.length ≤ 64
  recOk : ∀ x ∈ j.recs, recordErr x = 0
  opnOk : ∀ x ∈ j.opens, refErr x.file = 0 ∧ 1 ≤ x.reasons ∧ x.reasons ≤ 4095
  each : (eachRec j.recs 0 j.first).2.1 = 0 ∧ j.next = (eachRec j.recs 0 j.first).2.2
  eachO : (eachOpn j.opens j.opens 0).2 = 0

theorem numbersErr_ok {j : Jrn} (h : numbersErr j = 0) : (0 ≤ j.id ∧ j.id ≤ 2147483647) ∧ (0 ≤ j.first ∧ j.first ≤ 2147483647) ∧ (0 ≤ j.next ∧ j.next ≤ 2147483647) ∧ (128 ≤ j.most ∧ j.most ≤ 8192) := by
  unfold numbersErr at h
  split at h
  · rename_i h1
    split at h
    · rename_i h2
      simp only [Bool.and_eq_true] at h1
      exact ⟨within_iff.1 h1.1.1, within_iff.1 h1.1.2, within_iff.1 h1.2, within_iff.1 h2⟩
    · omega
  · omega

theorem valid_of {j : Jrn} (h : (checkJ j).2 = 0) : Valid j := by
  have c1 : first [numbersErr j, if few j then 0 else 8] = 0 := Classical.byContradiction fun c => by
    unfold checkJ at h; rw [if_pos c] at h; exact c h
  unfold checkJ at h
  rw [if_neg (fun c => c c1)] at h
  have c2 : (eachRec j.recs 0 j.first).2.1 = 0 := Classical.byContradiction fun c => by
    rw [if_pos c] at h; exact c h
  rw [if_neg (fun c => c c2)] at h
  have c3 : j.next = (eachRec j.recs 0 j.first).2.2 := Classical.byContradiction fun c => by
    rw [if_pos c] at h; exact absurd h (by decide)
  rw [if_neg (fun c => c c3)] at h
  rw [first_cons] at c1
  by_cases hn : numbersErr j = 0
  · rw [if_pos hn, first_cons] at c1
    by_cases hf : few j = true
    · simp only [few, Bool.and_eq_true, decide_eq_true_eq] at hf
      exact ⟨numbersErr_ok hn, by omega, by omega, eachRec_ok _ _ _ c2, fun x hx => ⟨(eachOpn_ok _ _ _ h x hx).1, within_iff.1 (eachOpn_ok _ _ _ h x hx).2⟩, ⟨c2, c3⟩, h⟩
    · simp [hf] at c1
  · rw [if_neg hn] at c1; exact absurd c1 hn

theorem valid_openR {j : Jrn} (h : Valid j) (f : Ref) : 0 ≤ openR j.opens f ∧ openR j.opens f ≤ 4095 := by
  have key : ∀ (l : List Opn), (∀ x ∈ l, refErr x.file = 0 ∧ 1 ≤ x.reasons ∧ x.reasons ≤ 4095) → 0 ≤ openR l f ∧ openR l f ≤ 4095 := by
    intro l
    induction l with
    | nil => intro _; simp [openR]
    | cons o l ih =>
      intro hl
      simp only [openR]
      have := hl o (by simp)
      split
      · omega
      · exact ih fun x hx => hl x (by simp [hx])
  exact key _ h.opnOk

theorem eventErr_ok {e : Evt} (h : eventErr e = 0) : refErr e.file = 0 ∧ refErr e.parent = 0 ∧ (0 ≤ e.tick ∧ e.tick ≤ 1000000) ∧ (1 ≤ e.reasons ∧ e.reasons ≤ 4095) ∧ has e.reasons 512 = has e.reasons 1024 ∧ nameErr e.name = 0 ∧ (has e.reasons 1024 = true → refErr e.np = 0 ∧ nameErr e.nn = 0) ∧ (has e.reasons 1024 = false → e.np = ⟨0, 0⟩ ∧ e.nn = []) := by
  have h1 : first [refErr e.file, refErr e.parent, if within e.tick 0 1000000 && within e.reasons 1 4095 then 0 else 2, if has e.reasons 512 = has e.reasons 1024 then 0 else 10, nameErr e.name] = 0 := Classical.byContradiction fun c => by
    unfold eventErr at h; rw [if_pos c] at h; exact c h
  unfold eventErr at h
  rw [if_neg (fun c => c h1)] at h
  simp only [first_cons, first_nil] at h1
  by_cases g1 : refErr e.file = 0 <;> by_cases g2 : refErr e.parent = 0 <;> by_cases g3 : (within e.tick 0 1000000 && within e.reasons 1 4095) = true <;> by_cases g4 : has e.reasons 512 = has e.reasons 1024 <;> by_cases g5 : nameErr e.name = 0 <;> simp [g1, g2, g3, g4, g5] at h1
  rw [Bool.and_eq_true] at g3
  refine ⟨g1, g2, within_iff.1 g3.1, within_iff.1 g3.2, g4, g5, fun hb => ?_, fun hb => ?_⟩
  · rw [if_pos hb] at h
    simp only [first_cons, first_nil] at h
    by_cases k1 : refErr e.np = 0 <;> by_cases k2 : nameErr e.nn = 0 <;> simp [k1, k2] at h
    exact ⟨k1, k2⟩
  · rw [if_neg (by simp [hb])] at h
    by_cases k : e.np = ⟨0, 0⟩ ∧ e.nn = []
    · exact k
    · rw [if_neg k] at h; exact absurd h (by decide)

def zeroJ : Jrn := ⟨0, 0, 0, 0, [], []⟩
def full (j : Jrn) : Bool := decide ((64 : Int) < j.opens.length) || decide (2147483647 < j.next) || decide ((200 : Int) < j.recs.length)
def noted (j : Jrn) (e : Evt) : Jrn × Int :=
  if (checkJ j).2 ≠ 0 then (zeroJ, (checkJ j).2) else if eventErr e ≠ 0 then (zeroJ, eventErr e) else if full (after j e) then (zeroJ, 16) else (after j e, 0)

theorem c41 (j : Jrn) (e : Evt) (hr : j.recs.length < 1000000) (hn : ∀ x ∈ j.recs, x.name.length < 1000000) (ho : j.opens.length < 1000000) (h0 : e.name.length < 1000000) (h1 : e.nn.length < 1000000) : Fn 41 [j.enc, e.enc] (.tup [(noted j e).1.enc, i (noted j e).2]) := by
  refine run_walkF eok Try.func41 rfl (by kernel_rfl) ?_
  conv => whnf
  repeat' (first
    | ((with_reducible refine on_dec_f ?_ ?_); (focus ((try simp only [List.length_map, List.length_cons, List.length_nil, List.length_append]); omega)); conv => whnf)
    | ((with_reducible refine on_dec_t ?_ ?_); (focus ((try simp only [List.length_map, List.length_cons, List.length_nil, List.length_append]); omega)); conv => whnf)
    | ((with_reducible refine on_dec (fun h => ?_) (fun h => ?_)) <;> (try simp only [List.length_map] at h) <;> conv => whnf)
    | ((with_reducible refine on_ndec (fun h => ?_) (fun h => ?_)) <;> (try simp only [List.length_map] at h) <;> conv => whnf)
    | ((with_reducible refine on_not (fun h => ?_) (fun h => ?_)) <;> conv => whnf)
    | ((with_reducible refine onBool_split (fun h => ?_) (fun h => ?_)) <;> conv => whnf)
    | (refine call_step (run_view (c11 _ hr hn ho) rfl rfl) ?_; conv => whnf)
    | (refine call_step (run_view (c27 _ h0 h1) rfl rfl) ?_; conv => whnf)
    | (refine call_step (run_data (c85 _ _ (by have := (valid_of (by assumption)).recs; omega) hn (by have := (valid_of (by assumption)).opens; omega) h0 h1 (by have := (eventErr_ok (by assumption)).2.2.2.1; omega) (valid_openR (valid_of (by assumption)) _)) _) ?_; conv => whnf)
    | (refine ⟨⟨(by first | rfl | (simp; done)), cap_ok (by simp only [List.length_map, List.length_cons, List.length_nil, List.length_append]; omega) rfl⟩, ?_⟩; conv => whnf)
    | (refine ⟨mem_one ⟨rfl, rfl⟩, ?_⟩; conv => whnf)
    | (refine ⟨(by intro y hy; obtain ⟨x, _, rfl⟩ := List.mem_map.1 hy; first | rfl | exact ⟨rfl, rfl⟩), ?_⟩; conv => whnf)
    | (refine ⟨cap_ok (by first | omega | (simp only [List.length_map]; omega)) rfl, ?_⟩; conv => whnf)
    | (refine ix_map (by omega) ?_; conv => whnf)
    | (refine ix_str (by omega) ?_; conv => whnf)
    | (refine wrap64 (by omega) ?_; conv => whnf)
    | (exfalso; simp only [List.length_map, List.length_cons, List.length_nil, List.length_append] at h; omega)
    | (refine endxv (view_tup (vlc (view_agg (vlc rfl (vlc rfl (vlc rfl (vlc rfl (vlc rfl (vlc rfl vln))))))) (vlc rfl vln))) ?_; simp_all [noted, zeroJ, Jrn.enc, full]; done)
    | (refine endxv (view_tup (vlc rfl (vlc rfl vln))) ?_; first | (simp_all [noted, zeroJ, full]; done) | (have hf : full (after j e) = false := (by simp only [full, Bool.or_eq_false_iff, decide_eq_false_iff_not]; exact ⟨⟨by assumption, by assumption⟩, by assumption⟩); simp_all [noted]); done)
    | (refine ⟨rfl, ?_⟩; conv => whnf)
    | fail
    )

theorem trimR_sub (n m : Int) : ∀ (l : List Chg) (f : Int), ∀ x ∈ (trimR n m f l).2, x ∈ l
  | [], f, x, hx => hx
  | y :: l, f, x, hx => by
    simp only [trimR] at hx
    split at hx
    · exact List.mem_cons_of_mem _ (trimR_sub n m l _ x hx)
    · exact hx
theorem after_names {j : Jrn} {e : Evt} (hn : ∀ x ∈ j.recs, x.name.length < 1000000) (h0 : e.name.length < 1000000) (h1 : e.nn.length < 1000000) : ∀ x ∈ (after j e).recs, x.name.length < 1000000 := by
  have k1 : ∀ x ∈ (aft1 j e).2.recs, x.name.length < 1000000 := by
    unfold aft1; split
    · exact hn
    · exact wr_names hn h0
  have k2 : ∀ x ∈ (aft2 e (aft1 j e)).2.recs, x.name.length < 1000000 := by
    unfold aft2; split
    · exact wr_names (wr_names k1 h0) h1
    · exact k1
  have k3 : ∀ x ∈ (aft3 e (aft2 e (aft1 j e))).2.recs, x.name.length < 1000000 := by
    unfold aft3; split
    · refine wr_names k2 ?_
      split
      · exact h1
      · exact h0
    · exact k2
  exact fun x hx => k3 x (trimR_sub _ _ _ _ x hx)
theorem noted_bd {j : Jrn} {e : Evt} (hn : ∀ x ∈ j.recs, x.name.length < 1000000) (h0 : e.name.length < 1000000) (h1 : e.nn.length < 1000000) : (noted j e).1.recs.length < 1000000 ∧ (∀ x ∈ (noted j e).1.recs, x.name.length < 1000000) ∧ (noted j e).1.opens.length < 1000000 := by
  unfold noted
  split
  · simp [zeroJ]
  · split
    · simp [zeroJ]
    · split
      · simp [zeroJ]
      · rename_i hf
        simp only [full, Bool.or_eq_true, decide_eq_true_eq] at hf
        exact ⟨by show (after j e).recs.length < _; omega, after_names hn h0 h1, by show (after j e).opens.length < _; omega⟩
def allGo (n : Int) : List Evt → Nat → Jrn → Jrn × Int × Int
  | [], _, j => (j, n, 0)
  | e :: l, k, j => if (noted j e).2 ≠ 0 then (zeroJ, k, (noted j e).2) else allGo n l (k + 1) (noted j e).1
def allR (j : Jrn) (l : List Evt) : Jrn × Int × Int :=
  if (checkJ j).2 ≠ 0 then (zeroJ, 0, (checkJ j).2) else if (200 : Int) < l.length then (zeroJ, 0, 8) else allGo l.length l 0 j
theorem allGo_drop {n : Int} {l : List Evt} {k : Nat} {j : Jrn} (h : k < l.length) : allGo n (l.drop k) k j = if (noted j l[k]).2 ≠ 0 then (zeroJ, (k : Int), (noted j l[k]).2) else allGo n (l.drop (k + 1)) (k + 1) (noted j l[k]).1 := by
  rw [List.drop_eq_getElem_cons h]; rfl
theorem allGo_end {n : Int} {l : List Evt} {k : Nat} {j : Jrn} (h : l.length ≤ k) : allGo n (l.drop k) k j = (j, n, 0) := by
  rw [List.drop_eq_nil_of_le h]; rfl

theorem c38 (j : Jrn) (l : List Evt) (hr : j.recs.length < 1000000) (hn : ∀ x ∈ j.recs, x.name.length < 1000000) (ho : j.opens.length < 1000000) (hel : ∀ e ∈ l, e.name.length < 1000000 ∧ e.nn.length < 1000000) : Fn 38 [j.enc, .fs (l.map Evt.enc)] (.tup [(allR j l).1.enc, i (allR j l).2.1, i (allR j l).2.2]) := by
  refine run_walkF eok Try.func38 rfl (by kernel_rfl) ?_
  conv => whnf
  repeat' (first
    | ((with_reducible refine on_dec_f ?_ ?_); (focus ((try simp only [List.length_map, List.length_cons, List.length_nil, List.length_append]); omega)); conv => whnf)
    | ((with_reducible refine on_dec_t ?_ ?_); (focus ((try simp only [List.length_map, List.length_cons, List.length_nil, List.length_append]); omega)); conv => whnf)
    | ((with_reducible refine on_dec (fun h => ?_) (fun h => ?_)) <;> (try simp only [List.length_map] at h) <;> conv => whnf)
    | ((with_reducible refine on_ndec (fun h => ?_) (fun h => ?_)) <;> (try simp only [List.length_map] at h) <;> conv => whnf)
    | ((with_reducible refine on_not (fun h => ?_) (fun h => ?_)) <;> conv => whnf)
    | ((with_reducible refine onBool_split (fun h => ?_) (fun h => ?_)) <;> conv => whnf)
    | (refine call_step (run_view (c11 _ hr hn ho) rfl rfl) ?_; conv => whnf)
    | (refine call_step (run_data (c41 _ _ hb.1 hb.2.1 hb.2.2 (hel _ (List.getElem_mem _)).1 (hel _ (List.getElem_mem _)).2) _) ?_; conv => whnf)
    | (refine ⟨[], [(9, 5)], (by decide +kernel), ?_⟩; conv => whnf)
    | (refine loop2 (fun (k : Nat) (a : Jrn) => l.length - k) (fun (k : Nat) (a : Jrn) => k ≤ l.length ∧ (a.recs.length < 1000000 ∧ (∀ x ∈ a.recs, x.name.length < 1000000) ∧ a.opens.length < 1000000) ∧ allGo l.length l 0 j = allGo l.length (l.drop k) k a) (fun (k : Nat) (a : Jrn) => [(1, .d (.fs (l.map Evt.enc))), (2, .ptr 0 0 0), (4, .ptr 1 0 0), (8, .d (i k))]) (fun (k : Nat) (a : Jrn) => [⟨[.d a.enc], 6, 0⟩, ⟨[.junk], 6, 0⟩]) (0) (j) (by exact ⟨by omega, ⟨hr, hn, ho⟩, rfl⟩) ?_ (fun k a C hI hC => ?_); (exact ⟨[.old 0, .old 1], rfl, rfl, ⟨(by first | exact congrArg (D.int .i64) (by omega) | exact ⟨rfl, rfl, rfl⟩ | exact ⟨rfl, rfl, rfl, rfl, rfl⟩ | (show (_ : D) = _; with_reducible rfl)), (by first | exact congrArg (D.int .i64) (by omega) | exact ⟨rfl, rfl, rfl⟩ | exact ⟨rfl, rfl, rfl, rfl, rfl⟩ | (show (_ : D) = _; with_reducible rfl)), (by first | exact congrArg (D.int .i64) (by omega) | exact ⟨rfl, rfl, rfl⟩ | exact ⟨rfl, rfl, rfl, rfl, rfl⟩ | (show (_ : D) = _; with_reducible rfl)), (by first | exact congrArg (D.int .i64) (by omega) | exact ⟨rfl, rfl, rfl⟩ | exact ⟨rfl, rfl, rfl, rfl, rfl⟩ | (show (_ : D) = _; with_reducible rfl)), trivial⟩, ⟨⟨rfl, rfl, .inl ⟨[_], rfl, rfl⟩⟩, ⟨rfl, rfl, .inr ⟨trivial, trivial⟩⟩, trivial⟩⟩); have hb := hI.2.1; all_goals (conv => whnf))
    | (refine hC (k + 1) ((noted a l[k]).1) _ _ ?_ (by omega) ?_; clear hC; rotate_left; (exact ⟨[.old 0, .old 1], rfl, rfl, ⟨(by first | exact congrArg (D.int .i64) (by omega) | exact ⟨rfl, rfl, rfl⟩ | exact ⟨rfl, rfl, rfl, rfl, rfl⟩ | (show (_ : D) = _; with_reducible rfl)), (by first | exact congrArg (D.int .i64) (by omega) | exact ⟨rfl, rfl, rfl⟩ | exact ⟨rfl, rfl, rfl, rfl, rfl⟩ | (show (_ : D) = _; with_reducible rfl)), (by first | exact congrArg (D.int .i64) (by omega) | exact ⟨rfl, rfl, rfl⟩ | exact ⟨rfl, rfl, rfl, rfl, rfl⟩ | (show (_ : D) = _; with_reducible rfl)), (by first | exact congrArg (D.int .i64) (by omega) | exact ⟨rfl, rfl, rfl⟩ | exact ⟨rfl, rfl, rfl, rfl, rfl⟩ | (show (_ : D) = _; with_reducible rfl)), trivial⟩, ⟨⟨rfl, rfl, .inl ⟨[_], rfl, rfl⟩⟩, ⟨rfl, rfl, .inr ⟨trivial, trivial⟩⟩, trivial⟩⟩); (exact ⟨by omega, noted_bd hb.2.1 (hel _ (List.getElem_mem _)).1 (hel _ (List.getElem_mem _)).2, by rw [hI.2.2, allGo_drop (by omega), if_neg (by simp [h])]⟩))
    | (refine ⟨⟨(by first | rfl | (simp; done)), cap_ok (by simp only [List.length_map, List.length_cons, List.length_nil, List.length_append]; omega) rfl⟩, ?_⟩; conv => whnf)
    | (refine ⟨mem_one ⟨rfl, rfl⟩, ?_⟩; conv => whnf)
    | (refine ⟨(by intro y hy; obtain ⟨x, _, rfl⟩ := List.mem_map.1 hy; first | rfl | exact ⟨rfl, rfl⟩), ?_⟩; conv => whnf)
    | (refine ⟨cap_ok (by first | omega | (simp only [List.length_map]; omega)) rfl, ?_⟩; conv => whnf)
    | (refine ix_map (by omega) ?_; conv => whnf)
    | (refine ix_str (by omega) ?_; conv => whnf)
    | (refine wrap64 (by omega) ?_; conv => whnf)
    | (exfalso; simp only [List.length_map, List.length_cons, List.length_nil, List.length_append] at h; omega)
    | (refine endxv (view_tup (vlc (view_agg (vlc rfl (vlc rfl (vlc rfl (vlc rfl (vlc rfl (vlc rfl vln))))))) (vlc rfl (vlc rfl vln)))) ?_; simp_all [allR, zeroJ, Jrn.enc]; done)
    | (have he := allGo_drop (n := l.length) (l := l) (k := k) (j := a) (by omega); rw [if_pos (by simpa using h)] at he; refine endxv (view_tup (vlc (view_agg (vlc rfl (vlc rfl (vlc rfl (vlc rfl (vlc rfl (vlc rfl vln))))))) (vlc rfl (vlc rfl vln)))) ?_; rw [allR, if_neg (fun c => c (by assumption)), if_neg (by assumption), hI.2.2, he]; rfl; done)
    | (have he := allGo_end (n := l.length) (l := l) (k := k) (j := a) (by omega); refine endxv (view_tup (vlc rfl (vlc rfl (vlc rfl vln)))) ?_; simp_all [allR, zeroJ, -Int.not_lt]; done)
    | (refine ⟨rfl, ?_⟩; conv => whnf)
    | fail
    )

end Go.Proofs.Ytjbipdppgoldlaa

/-! DwZi -/
namespace Dw
open Go Go.RowKit
set_option linter.unusedVariables false

theorem onBool_iff {b : Bool} {A B : Prop} : onBool b A B ↔ (b = true ∧ A) ∨ (b = false ∧ B) := by cases b <;> simp [onBool]
theorem onOk_iff {b : Bool} {K : Prop} : onOk b K ↔ b = true ∧ K := by cases b <;> simp [onOk]

/-- Numbers are reckoned out. -/
def frcN {α : Type} (n : Nat) (K : Nat → α) : α := match n with
  | 0 => K 0
  | m + 1 => K (m + 1)
theorem frcN_eq {α : Type} (n : Nat) (K : Nat → α) : frcN n K = K n := by cases n <;> rfl
def frcI {α : Type} (n : Int) (K : Int → α) : α := match n with
  | .ofNat m => frcN m (fun m => K (.ofNat m))
  | .negSucc m => frcN m (fun m => K (.negSucc m))
theorem frcI_eq {α : Type} (n : Int) (K : Int → α) : frcI n K = K n := by cases n <;> simp [frcI, frcN_eq]

def evInt (k : IntKind) (n : Int) : Option AV := frcI n (fun n => some (.d (.int k n)))
theorem evInt_eq (k : IntKind) (n : Int) : evInt k n = some (.d (.int k n)) := by simp [evInt, frcI_eq]
def evBool (b : Bool) : Option AV := match b with
  | true => some (.d (.bool true))
  | false => some (.d (.bool false))
theorem evBool_eq (b : Bool) : evBool b = some (.d (.bool b)) := by cases b <;> rfl

def evLdA (t : TI) (x : AV) (off : Nat) : Option AV :=
  if t.agg then
    if (off == 0) && (x.isAgg && (x.cells.length == t.size)) then some x
    else if x.isAgg && decide (off + t.size ≤ x.cells.length) then some (.agg ((x.cells.drop off).take t.size)) else none
  else if t.kind != 0 then x.cells[off]? else none

theorem evLdA_ok {t : TI} {x : AV} {off : Nat} {v : AV} {K : AV → Prop} (h : evLdA t x off = some v) (k : K v) : ldA t x off K := by
  unfold evLdA at h
  unfold ldA
  simp only [onBool_iff, onOk_iff, nthK_iff, dropK_eq, takeK_eq]
  repeat' split at h
  all_goals simp_all

def evLdD (t : TI) (x : D) (off : Nat) : Option AV :=
  if t.agg then
    if (off == 0) && (x.isAgg && (x.cells.length == t.size)) then some (.d x)
    else if x.isAgg && decide (off + t.size ≤ x.cells.length) then some (.d (.agg ((x.cells.drop off).take t.size))) else none
  else if t.kind != 0 then (match x.cells[off]? with | some y => some (.d y) | none => none) else none

theorem evLdD_ok {t : TI} {x : D} {off : Nat} {v : AV} {K : AV → Prop} (h : evLdD t x off = some v) (k : K v) : ldD t x off K := by
  unfold evLdD at h
  unfold ldD
  simp only [onBool_iff, onOk_iff, nthK_iff, dropK_eq, takeK_eq]
  repeat' split at h
  all_goals simp_all

def evLive (h : Heap) (id : Nat) : Option AO := match h[id]? with
  | some o => if Nat.blt o.st 2 then some o else none
  | none => none
def evMut (h : Heap) (id : Nat) : Option AO := match h[id]? with
  | some o => if Nat.beq o.st 0 then some o else none
  | none => none
theorem evLive_ok {h : Heap} {id : Nat} {o : AO} {K : AO → Prop} (e : evLive h id = some o) (k : K o) : liveK h id K := by
  unfold evLive at e
  unfold liveK
  simp only [nthK_iff, onOk_iff]
  repeat' split at e
  all_goals simp_all
theorem evMut_ok {h : Heap} {id : Nat} {o : AO} {K : AO → Prop} (e : evMut h id = some o) (k : K o) : mutK h id K := by
  unfold evMut at e
  unfold mutK
  simp only [nthK_iff, onOk_iff]
  repeat' split at e
  all_goals simp_all

def evLoad (t : TI) (a : AV) (h : Heap) : Option AV :=
  match a with
  | .ptr id e off => match evLive h id with
    | some o => match o.elems[e]? with
      | some x => evLdA t x off
      | none => none
    | none => none
  | .d (.fp x off) => evLdD t x off
  | _ => none
theorem evLoad_ok {t : TI} {a : AV} {h : Heap} {v : AV} {K : AV → Prop} (e : evLoad t a h = some v) (k : K v) : loadD t a h K := by
  unfold evLoad at e
  unfold loadD
  split at e
  · split at e
    · rename_i o ho
      split at e
      · rename_i x hx
        exact evLive_ok ho (nthK_of hx (evLdA_ok e k))
      · cases e
    · cases e
  · exact evLdD_ok e k
  · cases e

def evStore (t : TI) (a v : AV) (h : Heap) : Option Heap :=
  match a with
  | .ptr id e off => match evMut h id with
    | some o => match o.elems[e]? with
      | some x =>
        if fits t v && t.kind != 0 then
          if (off == 0) && ((t.size == o.k) && ((x.isAgg == t.agg) || x.isJunk)) then some (h.set id { o with elems := o.elems.set e v })
          else if x.isAgg && decide (off + t.size ≤ x.cells.length) then some (h.set id { o with elems := o.elems.set e (.agg (puts x.cells off v.cells)) }) else none
        else none
      | none => none
    | none => none
  | _ => none
theorem evStore_ok {t : TI} {a v : AV} {h h' : Heap} {K : Heap → Prop} (e : evStore t a v h = some h') (k : K h') : storeD t a v h K := by
  unfold evStore at e
  unfold storeD
  split at e
  · split at e
    · rename_i o ho
      split at e
      · rename_i x hx
        refine evMut_ok ho (nthK_of hx ?_)
        simp only [onBool_iff, onOk_iff, setK_eq, putK_eq]
        repeat' split at e
        all_goals simp_all
      · cases e
    · cases e
  · cases e

def evIntOp (op : BinOp) (k : IntKind) (a b : Int) : Option AV :=
  match op with
  | .add => evInt k (k.wrap (a + b))
  | .sub => evInt k (k.wrap (a - b))
  | .mul => evInt k (k.wrap (a * b))
  | .quo => if decide (b = 0) then none else evInt k (k.wrap (a.tdiv b))
  | .rem => if decide (b = 0) then none else evInt k (a.tmod b)
  | .and => evInt k (bitsOf .and k a b)
  | .or => evInt k (bitsOf .or k a b)
  | .xor => evInt k (bitsOf .xor k a b)
  | .andNot => evInt k (bitsOf .andNot k a b)
  | .eql => evBool (decide (a = b))
  | .neq => evBool (!decide (a = b))
  | .lss => evBool (decide (a < b))
  | .leq => evBool (decide (a ≤ b))
  | .gtr => evBool (decide (b < a))
  | .geq => evBool (decide (b ≤ a))
  | _ => none
theorem evIntOp_ok {op : BinOp} {k : IntKind} {a b : Int} {v : AV} {K : AV → Prop} (e : evIntOp op k a b = some v) (hk : K v) : intD op k a b K := by
  cases op <;> simp only [evIntOp, evInt_eq, evBool_eq, Option.some.injEq, reduceCtorEq] at e <;> first
    | (subst e; exact hk)
    | (split at e
       · cases e
       · rename_i h; cases e; exact onOk_of (by simpa using h) hk)

def evStrOp (op : BinOp) (a b : List UInt8) : Option AV :=
  match op with
  | .add => if decide (a.length + b.length < 9223372036854775808) then some (.d (.str (a ++ b))) else none
  | .eql => evBool (decide (a = b))
  | .neq => evBool (!decide (a = b))
  | .lss => evBool (Op.bytesLess a b)
  | .leq => evBool (Op.bytesLess a b || decide (a = b))
  | .gtr => evBool (!(Op.bytesLess a b || decide (a = b)))
  | .geq => evBool (!Op.bytesLess a b)
  | _ => none
theorem evStrOp_ok {op : BinOp} {a b : List UInt8} {v : AV} {K : AV → Prop} (e : evStrOp op a b = some v) (hk : K v) : strD op a b K := by
  cases op <;> simp only [evStrOp, evBool_eq, Option.some.injEq, reduceCtorEq] at e <;> first
    | (subst e; exact hk)
    | (split at e
       · rename_i h; cases e; exact ⟨by simpa using h, hk⟩
       · cases e)

def evEq (op : BinOp) (b : Bool) : Option AV :=
  match op with
  | .eql => evBool b
  | .neq => evBool (!b)
  | _ => none
theorem evEq_ok {op : BinOp} {b : Bool} {v : AV} {K : AV → Prop} (e : evEq op b = some v) (hk : K v) : eqD op b K := by
  cases op <;> simp only [evEq, evBool_eq, Option.some.injEq, reduceCtorEq] at e <;> (subst e; exact hk)

def evAgg (E : TE) (op : BinOp) (t : Nat) (x y : AV) : Option AV :=
  if x.isAgg && y.isAgg && ((E t).kind == 5) then
    match dcells x.cells with
    | some l => match dcells y.cells with
      | some r => if !(E t).leaf.isEmpty && alike (E t).leaf l r then evEq op (cellsEq l r) else none
      | none => none
    | none => none
  else none

def evBin (E : TE) (op : BinOp) (t : Nat) (x y : AV) : Option AV :=
  match x, y with
  | .d (.int k a), .d (.int k' b) =>
    match op with
    | .shl => if decide (0 ≤ b) then evInt k (k.wrap (a * 2 ^ (min b.toNat k.bits))) else none
    | .shr => if decide (0 ≤ b) then evInt k (a.fdiv (2 ^ (min b.toNat k.bits))) else none
    | op => if k == k' then evIntOp op k a b else none
  | .d (.str a), .d (.str b) => evStrOp op a b
  | .d (.bool a), .d (.bool b) => if (E t).kind == 2 then evEq op (a == b) else none
  | x, y => evAgg E op t x y

theorem evBin_ok {E : TE} {op : BinOp} {t : Nat} {x y v : AV} {K : AV → Prop} (e : evBin E op t x y = some v) (hk : K v) : binD E op t x y K := by
  unfold evBin at e
  split at e
  · rename_i k a k' b
    by_cases h1 : op = .shl
    · subst h1
      simp only [evInt_eq] at e
      split at e
      · rename_i h; cases e; exact onOk_of h hk
      · cases e
    · by_cases h2 : op = .shr
      · subst h2
        simp only [evInt_eq] at e
        split at e
        · rename_i h; cases e; exact onOk_of h hk
        · cases e
      · have e' : (if k == k' then evIntOp op k a b else none) = some v := by
          cases op <;> first | exact e | exact (h1 rfl).elim | exact (h2 rfl).elim
        split at e'
        · rename_i h
          have := evIntOp_ok e' hk
          cases op <;> first | exact onOk_of h this | exact (h1 rfl).elim | exact (h2 rfl).elim
        · cases e'
  · exact evStrOp_ok e hk
  · split at e
    · rename_i h; exact onOk_of h (evEq_ok e hk)
    · cases e
  · rename_i h1 h2 h3
    unfold binD
    split
    · exact (h1 _ _ _ _ rfl rfl).elim
    · exact (h2 _ _ rfl rfl).elim
    · exact (h3 _ _ rfl rfl).elim
    · unfold evAgg at e
      split at e
      · rename_i hc
        refine onOk_of hc ?_
        split at e
        · rename_i l hl
          split at e
          · rename_i r hr
            split at e
            · rename_i h; simp only [hl, hr]; exact onOk_of h (evEq_ok e hk)
            · cases e
          · cases e
        · cases e
      · cases e

def evNilC (E : TE) (op : BinOp) (t : Nat) (x : AV) : Option AV :=
  match nilAns x with
  | some b => if (E t).kind == 4 then evEq op b else none
  | none => none
theorem evNilC_ok {E : TE} {op : BinOp} {t : Nat} {x v : AV} {K : AV → Prop} (e : evNilC E op t x = some v) (hk : K v) : nilD E op t x K := by
  unfold evNilC at e
  unfold nilD
  split at e
  · rename_i b hb
    simp only [hb]
    split at e
    · rename_i h; exact onOk_of h (evEq_ok e hk)
    · cases e
  · cases e

def evUn (op : UnOp) (x : AV) : Option AV :=
  match op, x with
  | .not, .d (.bool b) => evBool (!b)
  | .neg, .d (.int k n) => evInt k (k.wrap (0 - n))
  | _, _ => none
theorem evUn_ok {op : UnOp} {x v : AV} {K : AV → Prop} (e : evUn op x = some v) (hk : K v) : unD op x K := by
  unfold evUn at e
  split at e
  · rw [evBool_eq] at e; cases e; exact hk
  · rw [evInt_eq] at e; cases e; exact hk
  · cases e

def evFieldAddr (E : TE) (s : Nat) (x : AV) (f : Nat) : Option AV :=
  if (E s).kind == 5 then match (E s).fields[f]? with
    | some p => if (E p.2).kind != 0 then (match x with
      | .ptr id e o => some (.ptr id e (o + p.1))
      | .d (.fp y o) => some (.d (.fp y (o + p.1)))
      | _ => none) else none
    | none => none
  else none
theorem evFieldAddr_ok {E : TE} {s f : Nat} {x v : AV} {K : AV → Prop} (e : evFieldAddr E s x f = some v) (hk : K v) : fieldAddrD E s x f K := by
  unfold evFieldAddr at e
  split at e
  · rename_i h1
    split at e
    · rename_i p hp
      split at e
      · rename_i h2
        refine onOk_of h1 (nthK_of hp (onOk_of h2 ?_))
        split at e
        · cases e; exact hk
        · cases e; exact hk
        · cases e
      · cases e
    · cases e
  · cases e

def evField (E : TE) (s : Nat) (x : AV) (f : Nat) : Option AV :=
  if (E s).kind == 5 then match (E s).fields[f]? with
    | some p => if x.isAgg then evLdA (E p.2) x p.1 else none
    | none => none
  else none
theorem evField_ok {E : TE} {s f : Nat} {x v : AV} {K : AV → Prop} (e : evField E s x f = some v) (hk : K v) : fieldD E s x f K := by
  unfold evField at e
  split at e
  · rename_i h1
    split at e
    · rename_i p hp
      split at e
      · rename_i h2
        exact onOk_of h1 (nthK_of hp (onOk_of h2 (evLdA_ok e hk)))
      · cases e
    · cases e
  · cases e

def evIndexAddr (E : TE) (t : Nat) (x i : AV) : Option AV :=
  match i with
  | .d (.int _ n) =>
    match x with
    | .sl id s len k _ => if ((E t).kind == 4 && (k == (E (E t).elem).size && (E (E t).elem).kind != 0)) && decide (0 ≤ n ∧ n < len) then some (.ptr id (s + n.toNat) 0) else none
    | .d (.fs l) => if ((E t).kind == 4) && decide (0 ≤ n) then (match l[n.toNat]? with
      | some y => if y.cells.length == (E (E t).elem).size && (E (E t).elem).kind != 0 then some (.d (.fp y 0)) else none
      | none => none) else none
    | .ptr id e o => if ((E t).kind == 6 && (E (E t).elem).kind != 0) && decide (0 ≤ n ∧ n < (E t).len) then some (.ptr id e (o + n.toNat * (E (E t).elem).size)) else none
    | .d (.fp y o) => if ((E t).kind == 6 && (E (E t).elem).kind != 0) && decide (0 ≤ n ∧ n < (E t).len) then some (.d (.fp y (o + n.toNat * (E (E t).elem).size))) else none
    | _ => none
  | _ => none
theorem evIndexAddr_ok {E : TE} {t : Nat} {x i v : AV} {K : AV → Prop} (e : evIndexAddr E t x i = some v) (hk : K v) : indexAddrD E t x i K := by
  unfold evIndexAddr at e
  split at e
  · unfold indexAddrD
    split at e <;> (try (cases e; done)) <;> simp only [onOk_iff, nthK_iff]
    all_goals repeat' split at e
    all_goals simp_all
  · cases e

def evIndex (E : TE) (t : Nat) (x i : AV) : Option AV :=
  match i with
  | .d (.int _ n) =>
    match x with
    | .d (.str s) => if ((E t).kind == 3) && decide (0 ≤ n) then (match s[n.toNat]? with
      | some b => evInt .u8 b.toNat
      | none => none) else none
    | x => if ((E t).kind == 6 && (x.isAgg && (E (E t).elem).kind != 0)) && decide (0 ≤ n ∧ n < (E t).len) then evLdA (E (E t).elem) x (n.toNat * (E (E t).elem).size) else none
  | _ => none
theorem evIndex_ok {E : TE} {t : Nat} {x i v : AV} {K : AV → Prop} (e : evIndex E t x i = some v) (hk : K v) : indexD E t x i K := by
  unfold evIndex at e
  split at e
  · split at e
    · simp only [indexD, onOk_iff, nthK_iff]
      split at e
      · split at e
        · rw [evInt_eq] at e
          cases e
          simp_all
        · cases e
      · cases e
    · rename_i hx
      split at e
      · rename_i h
        simp only [Bool.and_eq_true, decide_eq_true_eq] at h
        simp only [indexD]
        exact onOk_of (by simp only [Bool.and_eq_true]; exact h.1) ⟨h.2, evLdA_ok e hk⟩
      · cases e
  · cases e

def evBound (dflt : Nat) : Option AV → Option Int
  | none => some dflt
  | some (.d (.int _ n)) => some n
  | _ => none
theorem evBound_ok {d : Nat} {o : Option AV} {n : Int} {K : Int → Prop} (e : evBound d o = some n) (hk : K n) : boundK d o K := by
  unfold evBound at e
  split at e <;> first | (cases e; exact hk) | cases e

def evRoom (h : Heap) (id s len : Nat) (cap : Option Nat) (u : Int) : Bool :=
  if decide (u ≤ len) then true else match cap with
    | some c => decide (u ≤ c)
    | none => (match h[id]? with
      | some o => decide (o.st < 2 ∧ s + u.toNat ≤ o.elems.length)
      | none => false)
theorem evRoom_ok {h : Heap} {id s len : Nat} {cap : Option Nat} {u : Int} (e : evRoom h id s len cap u = true) : inRoom h id s len cap u := by
  unfold evRoom at e
  split at e
  · rename_i h1; exact .inl (of_decide_eq_true h1)
  · right
    split at e
    · exact of_decide_eq_true e
    · split at e
      · rename_i o ho
        have := of_decide_eq_true e
        exact ⟨o, ho, this.1, this.2⟩
      · cases e

def evSlice (E : TE) (t : Nat) (x : AV) (lo hi mx : Option AV) (h : Heap) : Option AV :=
  match x with
  | .d (.str s) => if (E t).kind == 3 && mx.isNone then (match evBound 0 lo with
      | some l => match evBound s.length hi with
        | some u => if decide (0 ≤ l ∧ l ≤ u ∧ u ≤ s.length) then some (.d (.str ((s.take u.toNat).drop l.toNat))) else none
        | none => none
      | none => none) else none
  | .nilS => if (E t).kind == 4 && ((E (E t).elem).kind != 0 && (mx.isNone || hi.isSome)) then (match evBound 0 lo with
      | some l => match evBound 0 hi with
        | some u => match evBound 0 mx with
          | some m => if decide (l = 0 ∧ u = 0 ∧ m = 0) then some .nilS else none
          | none => none
        | none => none
      | none => none) else none
  | .d (.fs x) => if (E t).kind == 4 && (E (E t).elem).kind != 0 then (match evBound 0 lo with
      | some l => match evBound x.length hi with
        | some u => match mx with
          | none => if decide (0 ≤ l ∧ l ≤ u ∧ u ≤ x.length) && x.all (fun y => y.cells.length == (E (E t).elem).size) then some (.d (.fs ((x.take u.toNat).drop l.toNat))) else none
          | some _ => none
        | none => none
      | none => none) else none
  | .sl id s len k cap => if (E t).kind == 4 && (k == (E (E t).elem).size && (E (E t).elem).kind != 0) then (match evBound 0 lo with
      | some l => match evBound len hi with
        | some u => match mx with
          | none => if decide (0 ≤ l ∧ l ≤ u) && evRoom h id s len cap u then some (.sl id (s + l.toNat) (u.toNat - l.toNat) k (match cap with | some c => some (c - l.toNat) | none => none)) else none
          | some _ => if hi.isSome then (match evBound 0 mx with
            | some m => if decide (0 ≤ l ∧ l ≤ u ∧ u ≤ m ∧ m ≤ len) then (if decide (l = m) then some .nilS else some (.sl id (s + l.toNat) (u.toNat - l.toNat) k (some (m.toNat - l.toNat)))) else none
            | none => none) else none
        | none => none
      | none => none) else none
  | _ => none
theorem evSlice_ok {E : TE} {t : Nat} {x : AV} {lo hi mx : Option AV} {h0 : Heap} {v : AV} {K : AV → Prop} (e : evSlice E t x lo hi mx h0 = some v) (hk : K v) : sliceD E t x lo hi mx h0 K := by
  unfold evSlice at e
  unfold sliceD
  split at e
  · split at e
    · rename_i h0
      split at e
      · rename_i l hl
        split at e
        · rename_i u hu
          split at e
          · rename_i h; cases e
            exact onOk_of h0 (evBound_ok hl (evBound_ok hu ⟨of_decide_eq_true h, hk⟩))
          · cases e
        · cases e
      · cases e
    · cases e
  · split at e
    · rename_i h0
      split at e
      · rename_i l hl
        split at e
        · rename_i u hu
          split at e
          · rename_i m hm
            split at e
            · rename_i h; cases e
              exact onOk_of h0 (evBound_ok hl (evBound_ok hu (evBound_ok hm ⟨of_decide_eq_true h, hk⟩)))
            · cases e
          · cases e
        · cases e
      · cases e
    · cases e
  · split at e
    · rename_i h0
      split at e
      · rename_i l hl
        split at e
        · rename_i u hu
          split at e
          · split at e
            · rename_i h; cases e
              simp only [Bool.and_eq_true, decide_eq_true_eq, List.all_eq_true, beq_iff_eq] at h
              exact onOk_of h0 (evBound_ok hl (evBound_ok hu ⟨⟨h.1.1, h.1.2.1, h.1.2.2, h.2⟩, hk⟩))
            · cases e
          · cases e
        · cases e
      · cases e
    · cases e
  · split at e
    · rename_i h0
      split at e
      · rename_i l hl
        split at e
        · rename_i u hu
          split at e
          · split at e
            · rename_i h; cases e
              simp only [Bool.and_eq_true, decide_eq_true_eq] at h
              exact onOk_of h0 (evBound_ok hl (evBound_ok hu ⟨⟨h.1.1, h.1.2, evRoom_ok h.2⟩, hk⟩))
            · cases e
          · split at e
            · rename_i h1
              split at e
              · rename_i m hm
                split at e
                · rename_i h
                  refine onOk_of h0 (evBound_ok hl (evBound_ok hu (onOk_of h1 (evBound_ok hm ⟨of_decide_eq_true h, ?_⟩))))
                  split at e
                  · rename_i h2; cases e; exact onBool_t h2 hk
                  · rename_i h2; cases e; exact onBool_f (by simpa using h2) hk
                · cases e
              · cases e
            · cases e
        · cases e
      · cases e
    · cases e
  · cases e

def evSrc (k : Nat) (h : Heap) (x : AV) : Option (List AV) :=
  match x with
  | .nilS => some []
  | .d (.fs l) => if l.all (fun y => y.cells.length == k && y.memOk) then some (l.map .d) else none
  | .d (.str s) => if k == 1 then some (s.map byteV) else none
  | .sl id s len k' _ => match evLive h id with
    | some o => if k' == k && decide (s + len ≤ o.elems.length) && (((o.elems.drop s).take len).all AV.known) then some ((o.elems.drop s).take len) else none
    | none => none
  | _ => none
theorem evSrc_ok {k : Nat} {h : Heap} {x : AV} {l : List AV} {K : List AV → Prop} (e : evSrc k h x = some l) (hk : K l) : srcK k h x K := by
  unfold evSrc at e
  unfold srcK
  split at e
  · cases e; exact hk
  · split at e
    · rename_i h1; cases e
      simp only [List.all_eq_true, Bool.and_eq_true, beq_iff_eq] at h1
      exact ⟨h1, hk⟩
    · cases e
  · split at e
    · rename_i h1; cases e; exact onOk_of h1 hk
    · cases e
  · split at e
    · rename_i o ho
      split at e
      · rename_i h1; cases e
        simp only [Bool.and_eq_true, decide_eq_true_eq] at h1
        refine evLive_ok ho (onOk_of h1.1.1 ⟨h1.1.2, ?_⟩)
        rw [dropK_eq]
        refine onBool_split (fun hl => onOk_of ?_ ?_) (fun hl => onOk_of h1.2 (by rw [takeK_eq]; exact hk))
        · have := h1.2
          rwa [List.take_of_length_le (Nat.le_of_eq (beq_iff_eq.1 hl))] at this
        · rwa [List.take_of_length_le (Nat.le_of_eq (beq_iff_eq.1 hl))] at hk
      · cases e
    · cases e
  · cases e

def evApp (t : TI) (base : AV) (new : List AV) (h : Heap) : Option (AV × Heap) :=
  if t.kind != 0 && Nat.blt 0 t.bytes then (match base with
  | .nilS => if decide (new.length * t.bytes ≤ 140737488355328) then some (.sl h.length 0 new.length t.size none, h ++ [{ elems := new, k := t.size, st := 0 }]) else none
  | .sl id s len k none => match evMut h id with
    | some o => if k == t.size then (
      if decide (s + len + new.length ≤ o.elems.length) then some (.sl id s (len + new.length) k none, h.set id { o with elems := over o.elems (s + len) new })
      else if decide (s + len = o.elems.length ∧ (len + new.length) * t.bytes ≤ 140737488355328) then some (.sl h.length 0 (len + new.length) k none, h.set id { o with st := 2 } ++ [{ o with elems := o.elems.drop s ++ new }]) else none) else none
    | none => none
  | .sl id s len k (some c) =>
      if decide (len + new.length ≤ c) then (match evMut h id with
        | some o => if k == t.size && decide (s + c ≤ o.elems.length) then some (.sl id s (len + new.length) k (some c), h.set id { o with elems := over o.elems (s + len) new }) else none
        | none => none)
      else (match evLive h id with
        | some o => if k == t.size && decide (s + len ≤ o.elems.length ∧ (len + new.length) * t.bytes ≤ 140737488355328) then some (.sl h.length 0 (len + new.length) k none, h ++ [{ o with elems := (o.elems.drop s).take len ++ new, st := 0 }]) else none
        | none => none)
  | _ => none) else none
theorem evApp_ok {t : TI} {base : AV} {new : List AV} {h h' : Heap} {v : AV} {K : KV} (e : evApp t base new h = some (v, h')) (hk : K v h') : appD t base new h K := by
  unfold evApp at e
  unfold appD
  split at e
  · rename_i h0
    refine onOk_of h0 ?_
    split at e
    · split at e
      · rename_i h1; cases e
        refine ⟨of_decide_eq_true h1, ?_⟩
        rw [newD_eq]; exact hk
      · cases e
    · split at e
      · rename_i o ho
        split at e
        · rename_i h1
          refine evMut_ok ho (onOk_of h1 ?_)
          split at e
          · rename_i h2; cases e
            refine onBool_t h2 ?_
            rw [setK_eq]; exact hk
          · rename_i h2
            refine onBool_f (by simpa using h2) ?_
            split at e
            · rename_i h3; cases e
              refine ⟨of_decide_eq_true h3, ?_⟩
              rw [setK_eq, dropK_eq, newD_eq]
              simpa using hk
            · cases e
        · cases e
      · cases e
    · split at e
      · rename_i h1
        refine onBool_t h1 ?_
        split at e
        · rename_i o ho
          split at e
          · rename_i h2; cases e
            simp only [Bool.and_eq_true, decide_eq_true_eq] at h2
            refine evMut_ok ho (onOk_of h2.1 ⟨h2.2, ?_⟩)
            rw [setK_eq]; exact hk
          · cases e
        · cases e
      · rename_i h1
        refine onBool_f (by simpa using h1) ?_
        split at e
        · rename_i o ho
          split at e
          · rename_i h2; cases e
            simp only [Bool.and_eq_true, decide_eq_true_eq] at h2
            refine evLive_ok ho (onOk_of h2.1 ⟨h2.2, ?_⟩)
            rw [newD_eq]; exact hk
          · cases e
        · cases e
    · cases e
  · cases e

def evMax (f : Int → Int → Int) : AV → List AV → Option AV
  | x, [] => some x
  | .d (.int k a), .d (.int _ b) :: l => evMax f (.d (.int k (f a b))) l
  | _, _ => none
theorem evMax_ok {f : Int → Int → Int} {v : AV} {K : AV → Prop} (hk : K v) : ∀ (l : List AV) (x : AV), evMax f x l = some v → maxOf f x l K
  | [], x, e => by simp only [evMax, Option.some.injEq] at e; subst e; simpa [maxOf] using hk
  | y :: l, x, e => by
    unfold evMax at e
    split at e
    · rename_i h; cases h
    · rename_i h; cases h; simp only [maxOf]; exact evMax_ok hk l _ e
    · cases e

def evLen (x : AV) : Option AV :=
  match x with
  | .nilS => some (.d (.int .i64 0))
  | .sl _ _ len _ _ => evInt .i64 len
  | .d (.fs l) => evInt .i64 l.length
  | .d (.str s) => evInt .i64 s.length
  | _ => none
theorem evLen_ok {x v : AV} {K : AV → Prop} (e : evLen x = some v) (hk : K v) : lenD x K := by
  unfold evLen at e
  simp only [evInt_eq] at e
  split at e <;> first | (cases e; exact hk) | cases e

def lenTy (E : TE) (ts : List Nat) (x : AV) : Bool := match ts with | [t] => (match x with | .d (.str _) => (E t).kind == 3 | _ => (E t).kind == 4) | _ => false

def evBuiltin (E : TE) (b : Builtin) (ts : List Nat) (args : List AV) (h : Heap) : Option (AV × Heap) :=
  match b, args with
  | .len, [x] => if lenTy E ts x then (match evLen x with
    | some v => some (v, h)
    | none => none) else none
  | .append, [s, x] =>
    match ts with
    | t :: t' :: _ => if (E t).kind == 4 && !((E t').kind == 0) then
        (if (E t').kind == 1 then
          (match x with
            | .d (.int _ n) => if decide (0 ≤ n ∧ n < 9223372036854775808 ∧ n * (E (E t).elem).bytes ≤ 140737488355328) then evApp (E (E t).elem) s (List.replicate n.toNat (E (E t).elem).zero) h else none
            | _ => none)
        else (match evSrc (E (E t).elem).size h x with
          | some new => evApp (E (E t).elem) s new h
          | none => none)) else none
    | _ => none
  | .copy, [.sl id s len k _, x] =>
    match ts with
    | t :: _ => if (E t).kind == 4 && (E (E t).elem).kind != 0 then (match evSrc (E (E t).elem).size h x with
      | some new => match evMut h id with
        | some o => if k == (E (E t).elem).size && decide (s + len ≤ o.elems.length) then some (.d (.int .i64 (min new.length len : Nat)), h.set id { o with elems := over o.elems s (new.take len) }) else none
        | none => none
      | none => none) else none
    | _ => none
  | .clear, [.sl id s len k _] =>
    match ts with
    | t :: _ => if (E t).kind == 4 && (E (E t).elem).kind != 0 then (match evMut h id with
        | some o => if k == (E (E t).elem).size && decide (s + len ≤ o.elems.length) then some (.tup [], h.set id { o with elems := over o.elems s (List.replicate len (E (E t).elem).zero) }) else none
        | none => none) else none
    | _ => none
  | .max, x :: l => if x.isInt then (match evMax goMax x l with
    | some v => some (v, h)
    | none => none) else none
  | .min, x :: l => if x.isInt then (match evMax goMin x l with
    | some v => some (v, h)
    | none => none) else none
  | _, _ => none
theorem evBuiltin_ok {E : TE} {b : Builtin} {ts : List Nat} {args : List AV} {h h' : Heap} {v : AV} {K : KV} (e : evBuiltin E b ts args h = some (v, h')) (hk : K v h') : builtinD E b ts args h K := by
  unfold evBuiltin at e
  unfold builtinD
  split at e
  · split at e
    · rename_i h1
      split at e
      · rename_i v' hv; cases e
        exact onOk_of h1 (evLen_ok hv hk)
      · cases e
    · cases e
  · split at e
    · split at e
      · rename_i h1
        refine onOk_of h1 ?_
        split at e
        · rename_i h2
          refine onBool_t h2 ?_
          split at e
          · split at e
            · rename_i h3
              exact ⟨of_decide_eq_true h3, evApp_ok e hk⟩
            · cases e
          · cases e
        · rename_i h2
          refine onBool_f (by simpa using h2) ?_
          split at e
          · rename_i new hn
            exact evSrc_ok hn (evApp_ok e hk)
          · cases e
      · cases e
    · cases e
  · split at e
    · split at e
      · rename_i h1
        refine onOk_of h1 ?_
        split at e
        · rename_i new hn
          split at e
          · rename_i o ho
            split at e
            · rename_i h2; cases e
              simp only [Bool.and_eq_true, decide_eq_true_eq] at h2
              refine evSrc_ok hn (evMut_ok ho (onOk_of h2.1 ⟨h2.2, ?_⟩))
              rw [setK_eq]; exact hk
            · cases e
          · cases e
        · cases e
      · cases e
    · cases e
  · split at e
    · split at e
      · rename_i h1
        refine onOk_of h1 ?_
        split at e
        · rename_i o ho
          split at e
          · rename_i h2; cases e
            simp only [Bool.and_eq_true, decide_eq_true_eq] at h2
            refine evMut_ok ho (onOk_of h2.1 ⟨h2.2, ?_⟩)
            rw [setK_eq]; exact hk
          · cases e
        · cases e
      · cases e
    · cases e
  · split at e
    · rename_i h1
      split at e
      · rename_i v' hv; cases e
        exact onOk_of h1 (evMax_ok hk _ _ hv)
      · cases e
    · cases e
  · split at e
    · rename_i h1
      split at e
      · rename_i v' hv; cases e
        exact onOk_of h1 (evMax_ok hk _ _ hv)
      · cases e
    · cases e
  · cases e

def bytesD : List D → Option (List UInt8)
  | [] => some []
  | .int .u8 (.ofNat n) :: l => if decide (n < 256) then (match bytesD l with
    | some r => some (UInt8.ofNat n :: r)
    | none => none) else none
  | _ => none
theorem bytesD_ok : ∀ (l : List D) (s : List UInt8), bytesD l = some s → l = s.map (fun b => D.int .u8 b.toNat)
  | [], s, e => by simp only [bytesD, Option.some.injEq] at e; subst e; rfl
  | x :: l, s, e => by
    unfold bytesD at e
    split at e
    · rename_i h; cases h
    · rename_i n l' h
      cases h
      split at e
      · rename_i hn
        split at e
        · rename_i r hr; cases e
          have := bytesD_ok _ _ hr
          subst this
          have hn' : n < 256 := of_decide_eq_true hn
          simp only [List.map_cons, List.cons.injEq, D.int.injEq, true_and, and_true]
          have : (UInt8.ofNat n).toNat = n := by simp [UInt8.toNat_ofNat']; omega
          rw [this]; rfl
        · cases e
      · cases e
    · cases e
def bytesA : List AV → Option (List UInt8)
  | [] => some []
  | .d (.int .u8 (.ofNat n)) :: l => if decide (n < 256) then (match bytesA l with
    | some r => some (UInt8.ofNat n :: r)
    | none => none) else none
  | _ => none
theorem bytesA_ok : ∀ (l : List AV) (s : List UInt8), bytesA l = some s → l = s.map byteV
  | [], s, e => by simp only [bytesA, Option.some.injEq] at e; subst e; rfl
  | x :: l, s, e => by
    unfold bytesA at e
    split at e
    · rename_i h; cases h
    · rename_i n l' h
      cases h
      split at e
      · rename_i hn
        split at e
        · rename_i r hr; cases e
          have := bytesA_ok _ _ hr
          subst this
          have hn' : n < 256 := of_decide_eq_true hn
          simp only [List.map_cons, List.cons.injEq, and_true, byteV, AV.d.injEq, D.int.injEq, true_and]
          have : (UInt8.ofNat n).toNat = n := by simp [UInt8.toNat_ofNat']; omega
          rw [this]; rfl
        · cases e
      · cases e
    · cases e

def evConv (E : TE) (src dst : Nat) (x : AV) (h : Heap) : Option (AV × Heap) :=
  match x with
  | .d (.int _ n) => if (E dst).kind == 1 && !((E src).kind == 0) then frcI ((E dst).ik.wrap n) (fun m => some (.d (.int (E dst).ik m), h)) else none
  | .d (.str s) =>
    if (E dst).kind == 3 then (if !((E src).kind == 0) then some (x, h) else none)
      else if ((E dst).kind == 4 && !((E src).kind == 0)) && ((E (E dst).elem).kind == 1 && (E (E dst).elem).ik == .u8) then some (.sl h.length 0 s.length 1 none, h ++ [{ elems := s.map byteV, k := 1, st := 0 }]) else none
  | .nilS => if ((E dst).kind == 3 && (E src).kind == 4) && ((E (E src).elem).kind == 1 && (E (E src).elem).ik == .u8) then some (.d (.str []), h) else none
  | .d (.fs l) => if ((E dst).kind == 3 && (E src).kind == 4) && ((E (E src).elem).kind == 1 && (E (E src).elem).ik == .u8) then
      (match bytesD l with
      | some s => some (.d (.str s), h)
      | none => none) else none
  | .sl id s len k _ => if ((E dst).kind == 3 && (E src).kind == 4) && ((E (E src).elem).kind == 1 && (E (E src).elem).ik == .u8) then
      (match evLive h id with
      | some o => if k == 1 && decide (s + len ≤ o.elems.length) then (match bytesA ((o.elems.drop s).take len) with
        | some b => some (.d (.str b), h)
        | none => none) else none
      | none => none) else none
  | _ => none
theorem evConv_ok {E : TE} {src dst : Nat} {x : AV} {h h' : Heap} {v : AV} {K : KV} (e : evConv E src dst x h = some (v, h')) (hk : K v h') : convD E src dst x h K := by
  unfold evConv at e
  unfold convD
  split at e
  · split at e
    · rename_i h1
      rw [frcI_eq] at e
      cases e
      exact onOk_of h1 hk
    · cases e
  · split at e
    · rename_i h1
      refine onBool_t h1 ?_
      split at e
      · rename_i h2; cases e; exact onOk_of h2 hk
      · cases e
    · rename_i h1
      refine onBool_f (by simpa using h1) ?_
      split at e
      · rename_i h2; cases e
        refine onOk_of h2 ?_
        rw [newD_eq]; exact hk
      · cases e
  · split at e
    · rename_i h1; cases e; exact onOk_of h1 hk
    · cases e
  · split at e
    · rename_i h1
      split at e
      · rename_i s hs; cases e
        exact onOk_of h1 ⟨s, bytesD_ok _ _ hs, hk⟩
      · cases e
    · cases e
  · split at e
    · rename_i h1
      split at e
      · rename_i o ho
        split at e
        · rename_i h2
          simp only [Bool.and_eq_true, decide_eq_true_eq] at h2
          split at e
          · rename_i b hb; cases e
            exact onOk_of h1 (evLive_ok ho (onOk_of h2.1 ⟨b, ⟨h2.2, bytesA_ok _ _ hb⟩, hk⟩))
          · cases e
        · cases e
      · cases e
    · cases e
  · cases e

def evFill (E : TE) (t : TI) (T : List AV) : List (Nat × Operand) → List AV → Option (List AV)
  | [], cs => some cs
  | (i, x) :: l, cs =>
    if t.kind == 5 then
      (match t.fields[i]? with
      | some p => if decide (p.1 + (E p.2).size ≤ cs.length) && (fits (E p.2) (opnd T x) && (E p.2).kind != 0) then evFill E t T l (puts cs p.1 (opnd T x).cells) else none
      | none => none)
    else if (t.kind == 6 && (E t.elem).kind != 0) && (decide (i * (E t.elem).size + (E t.elem).size ≤ cs.length) && fits (E t.elem) (opnd T x)) then evFill E t T l (puts cs (i * (E t.elem).size) (opnd T x).cells) else none
theorem evFill_ok {E : TE} {t : TI} {T : List AV} {r : List AV} {K : List AV → Prop} (hk : K r) : ∀ (l : List (Nat × Operand)) (cs : List AV), evFill E t T l cs = some r → fillK E t T l cs K
  | [], cs, e => by simp only [evFill, Option.some.injEq] at e; subst e; simpa [fillK] using hk
  | (i, x) :: l, cs, e => by
    unfold evFill at e
    unfold fillK
    rw [opndK_eq]
    split at e
    · rename_i h1
      refine onBool_t h1 ?_
      split at e
      · rename_i p hp
        split at e
        · rename_i h2
          refine nthK_of hp (onOk_of h2 ?_)
          rw [putK_eq]
          exact evFill_ok hk l _ e
        · cases e
      · cases e
    · rename_i h1
      refine onBool_f (by simpa using h1) ?_
      split at e
      · rename_i h2
        refine onOk_of h2 ?_
        rw [putK_eq]
        exact evFill_ok hk l _ e
      · cases e

def evRow (t : TI) (T : List AV) : List (Nat × Operand) → List AV → Option (List AV)
  | [], es => some es
  | (i, x) :: l, es => if fits t (opnd T x) && decide (i < es.length) then evRow t T l (es.set i (opnd T x)) else none
theorem evRow_ok {t : TI} {T : List AV} {r : List AV} {K : List AV → Prop} (hk : K r) : ∀ (l : List (Nat × Operand)) (es : List AV), evRow t T l es = some r → rowK t T l es K
  | [], cs, e => by simp only [evRow, Option.some.injEq] at e; subst e; simpa [rowK] using hk
  | (i, x) :: l, es, e => by
    unfold evRow at e
    unfold rowK
    rw [opndK_eq]
    split at e
    · rename_i h1
      refine onOk_of h1 ?_
      rw [setK_eq]
      exact evRow_ok hk l _ e
    · cases e

def evOpt (T : List AV) : Option Operand → Option AV
  | none => none
  | some x => some (opnd T x)
theorem optK_evOpt (T : List AV) (o : Option Operand) (K : Option AV → Prop) : optK T o K = K (evOpt T o) := by
  cases o <;> simp [optK, evOpt, opndK_eq]

abbrev CallF := Nat → List AV → Heap → Option (AV × Heap)

def evCall (call : CallF) (f : AV) (args : List AV) (h : Heap) : Option (AV × Heap) :=
  match f with
  | .d (.fn f first cap) => call f (first.map .d ++ (args ++ cap.map .d)) h
  | .fn f first cap => call f (first ++ (args ++ cap)) h
  | _ => none

def addH (v : Option AV) (h : Heap) : Option (AV × Heap) := match v with
  | some v => some (v, h)
  | none => none
theorem addH_some {v : Option AV} {h : Heap} {r : AV × Heap} (e : addH v h = some r) : v = some r.1 ∧ r.2 = h := by
  unfold addH at e
  split at e
  · cases e; exact ⟨rfl, rfl⟩
  · cases e

def evNil (a : AV) (h : Heap) : Option (AV × Heap) := match a with
  | .ptr .. => some (a, h)
  | .fn .. => some (a, h)
  | .d (.fp ..) => some (a, h)
  | .d (.fn ..) => some (a, h)
  | _ => none

def evOp (E : TE) (call : CallF) (T : List AV) (h : Heap) (o : Op) : Option (AV × Heap) :=
  match o with
  | .move x => some (opnd T x, h)
  | .assign x => some (opnd T x, h)
  | .pick c a b => match opnd T c with
    | .d (.bool c) => if c then some (opnd T a, h) else some (opnd T b, h)
    | _ => none
  | .alloc t => if (E t).kind != 0 then some (.ptr h.length 0 0, h ++ [{ elems := [(E t).zero], k := (E t).size, st := 0 }]) else none
  | .box t x => if (E t).kind != 0 && fits (E t) (opnd T x) then some (.ptr h.length 0 0, h ++ [{ elems := [opnd T x], k := (E t).size, st := 0 }]) else none
  | .build t ps => if (E t).kind == 5 || ((E t).kind == 6 && (E (E t).elem).kind != 0) then (match evFill E (E t) T ps.toList (E t).zero.cells with
    | some cs => some (.agg cs, h)
    | none => none) else none
  | .buildSlice t n ps => if (E t).kind == 4 && (decide (n * (E (E t).elem).size ≤ 16777216) && (E (E t).elem).kind != 0) then
      (if n == 0 then (if ps.toList.isEmpty then some (.nilS, h) else none)
      else (match evRow (E (E t).elem) T ps.toList (List.replicate n (E (E t).elem).zero) with
        | some es => if (E t).len == 0 then some (.sl h.length 0 n (E (E t).elem).size (some n), h ++ [{ elems := es, k := (E (E t).elem).size, st := 0 }]) else (match vl (view 8 []) es with
          | some ds => some (.d (.fs ds), h)
          | none => none)
        | none => none)) else none
  | .load t a => addH (evLoad (E t) (opnd T a) h) h
  | .store t a v => match evStore (E t) (opnd T a) (opnd T v) h with
    | some h' => some (.und, h')
    | none => none
  | .nilCheck x => evNil (opnd T x) h
  | .binOp op t x y _ => if isNilC y then addH (evNilC E op t (opnd T x)) h else addH (evBin E op t (opnd T x) (opnd T y)) h
  | .unOp op _ x => addH (evUn op (opnd T x)) h
  | .convert src dst x => evConv E src dst (opnd T x) h
  | .makeFunc fn first cap => match fn with
    | .func f => some (.fn f (first.toList.map (opnd T)) (cap.toList.map (opnd T)), h)
    | _ => none
  | .makeSlice t l c => match opnd T l, opnd T c with
    | .d (.int _ l), .d (.int _ c) => if ((E t).kind == 4 && (E (E t).elem).kind != 0) && decide (0 ≤ l ∧ l ≤ c ∧ c < 9223372036854775808 ∧ c * (E (E t).elem).bytes ≤ 140737488355328) then
        some (.sl h.length 0 l.toNat (E (E t).elem).size (some c.toNat), h ++ [{ elems := List.replicate c.toNat (E (E t).elem).zero, k := (E (E t).elem).size, st := 0 }]) else none
    | _, _ => none
  | .slice t x lo hi mx => addH (evSlice E t (opnd T x) (evOpt T lo) (evOpt T hi) (evOpt T mx) h) h
  | .fieldAddr s x f => addH (evFieldAddr E s (opnd T x) f) h
  | .field s x f => addH (evField E s (opnd T x) f) h
  | .indexAddr t x i => addH (evIndexAddr E t (opnd T x) (opnd T i)) h
  | .index t x i => addH (evIndex E t (opnd T x) (opnd T i)) h
  | .extract x i => match opnd T x with
    | .tup l => addH l[i]? h
    | .d (.tup l) => (match l[i]? with
      | some v => some (.d v, h)
      | none => none)
    | _ => none
  | .call c => match c.callee with
    | .value f => evCall call (opnd T f) (c.args.toList.map (opnd T)) h
    | .builtin b => evBuiltin E b c.argTypes.toList (c.args.toList.map (opnd T)) h
    | _ => none
  | _ => none

theorem evOp_ok {E : TE} {R : Rel} {call : CallF} (hc : ∀ f args h r h', call f args h = some (r, h') → R f args h r h') {T : List AV} {h h' : Heap} {o : Op} {v : AV} {K : KV} (e : evOp E call T h o = some (v, h')) (hk : K v h') : opD E R T h o K := by
  cases o <;> simp only [evOp] at e <;> simp only [opD, opndK_eq, opndsK_eq, optK_evOpt, replK_eq, newD_eq] <;> try (cases e; done)
  case move x => cases e; exact hk
  case assign x => cases e; exact hk
  case pick c a b =>
    split at e
    · rename_i c' hc'
      split at e
      · rename_i h1; cases e; simp only [hc']; exact onBool_t h1 hk
      · rename_i h1; cases e; simp only [hc']; exact onBool_f (by simpa using h1) hk
    · cases e
  case alloc t =>
    split at e
    · rename_i h1; cases e; exact onOk_of h1 hk
    · cases e
  case box t x =>
    split at e
    · rename_i h1; cases e; exact onOk_of h1 hk
    · cases e
  case build t ps =>
    split at e
    · rename_i h1
      split at e
      · rename_i cs hcs; cases e; exact onOk_of h1 (evFill_ok (K := fun cs => K (.agg cs) _) hk _ _ hcs)
      · cases e
    · cases e
  case buildSlice t n ps =>
    split at e
    · rename_i h1
      refine onOk_of h1 ?_
      split at e
      · rename_i h2
        refine onBool_t h2 ?_
        split at e
        · rename_i h3; cases e; exact onOk_of h3 hk
        · cases e
      · rename_i h2
        refine onBool_f (by simpa using h2) ?_
        split at e
        · rename_i es hes
          refine evRow_ok ?_ _ _ hes
          split at e
          · rename_i h3; cases e; exact onBool_t h3 hk
          · rename_i h3
            split at e
            · rename_i ds hds; cases e
              refine onBool_f (by simpa using h3) ?_
              unfold dataK
              simp only [hds]
              exact hk
            · cases e
        · cases e
    · cases e
  case load t a =>
    obtain ⟨e1, e2⟩ := addH_some e
    cases e2
    exact evLoad_ok (K := fun v => K v _) e1 hk
  case store t a x =>
    split at e
    · rename_i h1 he; cases e; exact evStore_ok he hk
    · cases e
  case nilCheck x =>
    unfold evNil at e
    split at e <;> first | (cases e; done) | (rename_i hx; rw [hx]; simp only [hx] at e; cases e; exact hk) | (rename_i hx; simp only [hx] at e ⊢; cases e; exact hk)
  case binOp op t x y b =>
    split at e
    · rename_i h1
      obtain ⟨e1, e2⟩ := addH_some e
      cases e2
      exact onBool_t h1 (evNilC_ok (K := fun v => K v _) e1 hk)
    · rename_i h1
      obtain ⟨e1, e2⟩ := addH_some e
      cases e2
      exact onBool_f (by simpa using h1) (evBin_ok (K := fun v => K v _) e1 hk)
  case unOp op t x =>
    obtain ⟨e1, e2⟩ := addH_some e
    cases e2
    exact evUn_ok (K := fun v => K v _) e1 hk
  case convert src dst x => exact evConv_ok e hk
  case makeFunc fn first cap =>
    split at e
    · cases e; exact hk
    · cases e
  case makeSlice t l c =>
    split at e
    · rename_i l' k1 c' h1 h2
      split at e
      · rename_i h3; cases e
        simp only [Bool.and_eq_true, decide_eq_true_eq] at h3
        simp only [h1, h2]
        exact onOk_of (by simp only [Bool.and_eq_true]; exact h3.1) ⟨h3.2, hk⟩
      · cases e
    · cases e
  case slice t x lo hi mx =>
    obtain ⟨e1, e2⟩ := addH_some e
    cases e2
    exact evSlice_ok (K := fun v => K v _) e1 hk
  case fieldAddr s x f =>
    obtain ⟨e1, e2⟩ := addH_some e
    cases e2
    exact evFieldAddr_ok (K := fun v => K v _) e1 hk
  case field s x f =>
    obtain ⟨e1, e2⟩ := addH_some e
    cases e2
    exact evField_ok (K := fun v => K v _) e1 hk
  case indexAddr t x i =>
    obtain ⟨e1, e2⟩ := addH_some e
    cases e2
    exact evIndexAddr_ok (K := fun v => K v _) e1 hk
  case index t x i =>
    obtain ⟨e1, e2⟩ := addH_some e
    cases e2
    exact evIndex_ok (K := fun v => K v _) e1 hk
  case extract x i =>
    split at e
    · rename_i l hx
      obtain ⟨e1, e2⟩ := addH_some e
      cases e2
      simp only [hx]
      exact nthK_of e1 hk
    · rename_i l hx
      split at e
      · rename_i v' hv; cases e
        simp only [hx]
        exact nthK_of hv hk
      · cases e
    · cases e
  case call c =>
    split at e
    · rename_i f hf
      simp only [hf]
      unfold evCall at e
      unfold callK
      split at e
      · rename_i h1; simp only [h1]; exact ⟨_, _, hc _ _ _ _ _ e, hk⟩
      · rename_i h1; simp only [h1]; exact ⟨_, _, hc _ _ _ _ _ e, hk⟩
      · cases e
    · rename_i f hf
      simp only [hf]
      exact evBuiltin_ok e hk
    · cases e

end Dw

/-! DwZj -/
namespace Dw
open Go Go.RowKit
set_option linter.unusedVariables false

/-! ### Equality of what is known -/

mutual
def sameD : D → D → Bool
  | .int k n, .int k' m => k == k' && decide (n = m)
  | .bool a, .bool b => a == b
  | .str a, .str b => decide (a = b)
  | .agg l, .agg r => sameDs l r
  | .fs l, .fs r => sameDs l r
  | .fp x o, .fp y p => sameD x y && decide (o = p)
  | .fn f a c, .fn g b d => decide (f = g) && (sameDs a b && sameDs c d)
  | .tup l, .tup r => sameDs l r
  | _, _ => false
def sameDs : List D → List D → Bool
  | [], [] => true
  | x :: l, y :: r => sameD x y && sameDs l r
  | _, _ => false
end

mutual
theorem sameD_ok : ∀ (x y : D), sameD x y = true → x = y
  | .int k n, y, h => by cases y <;> simp_all [sameD]
  | .bool a, y, h => by cases y <;> simp_all [sameD]
  | .str a, y, h => by cases y <;> simp_all [sameD]
  | .agg l, y, h => by
    cases y <;> simp only [sameD, Bool.false_eq_true] at h
    rename_i r; rw [sameDs_ok l r h]
  | .fs l, y, h => by
    cases y <;> simp only [sameD, Bool.false_eq_true] at h
    rename_i r; rw [sameDs_ok l r h]
  | .fp x o, y, h => by
    cases y <;> simp only [sameD, Bool.false_eq_true, Bool.and_eq_true, decide_eq_true_eq] at h
    rename_i r p; rw [sameD_ok x r h.1, h.2]
  | .fn f a c, y, h => by
    cases y <;> simp only [sameD, Bool.false_eq_true, Bool.and_eq_true, decide_eq_true_eq] at h
    rename_i g b d; rw [h.1, sameDs_ok a b h.2.1, sameDs_ok c d h.2.2]
  | .tup l, y, h => by
    cases y <;> simp only [sameD, Bool.false_eq_true] at h
    rename_i r; rw [sameDs_ok l r h]
theorem sameDs_ok : ∀ (x y : List D), sameDs x y = true → x = y
  | [], y, h => by cases y <;> simp_all [sameDs]
  | x :: l, y, h => by
    cases y <;> simp only [sameDs, Bool.false_eq_true, Bool.and_eq_true] at h
    rename_i y r; rw [sameD_ok x y h.1, sameDs_ok l r h.2]
end

mutual
def sameA : AV → AV → Bool
  | .d x, .d y => sameD x y
  | .nilS, .nilS => true
  | .ptr i e o, .ptr i' e' o' => decide (i = i') && (decide (e = e') && decide (o = o'))
  | .sl i s l k c, .sl i' s' l' k' c' => decide (i = i') && (decide (s = s') && (decide (l = l') && (decide (k = k') && decide (c = c'))))
  | .agg l, .agg r => sameAs l r
  | .fn f a c, .fn g b d => decide (f = g) && (sameAs a b && sameAs c d)
  | .tup l, .tup r => sameAs l r
  | .und, .und => true
  | .junk, .junk => true
  | _, _ => false
def sameAs : List AV → List AV → Bool
  | [], [] => true
  | x :: l, y :: r => sameA x y && sameAs l r
  | _, _ => false
end

mutual
theorem sameA_ok : ∀ (x y : AV), sameA x y = true → x = y
  | .d x, y, h => by
    cases y <;> simp only [sameA, Bool.false_eq_true] at h
    rename_i r; rw [sameD_ok x r h]
  | .nilS, y, h => by cases y <;> simp_all [sameA]
  | .ptr .., y, h => by cases y <;> simp_all [sameA]
  | .sl .., y, h => by cases y <;> simp_all [sameA]
  | .agg l, y, h => by
    cases y <;> simp only [sameA, Bool.false_eq_true] at h
    rename_i r; rw [sameAs_ok l r h]
  | .fn f a c, y, h => by
    cases y <;> simp only [sameA, Bool.false_eq_true, Bool.and_eq_true, decide_eq_true_eq] at h
    rename_i g b d; rw [h.1, sameAs_ok a b h.2.1, sameAs_ok c d h.2.2]
  | .tup l, y, h => by
    cases y <;> simp only [sameA, Bool.false_eq_true] at h
    rename_i r; rw [sameAs_ok l r h]
  | .raw v, y, h => by cases y <;> simp_all [sameA]
  | .und, y, h => by cases y <;> simp_all [sameA]
  | .junk, y, h => by cases y <;> simp_all [sameA]
theorem sameAs_ok : ∀ (x y : List AV), sameAs x y = true → x = y
  | [], y, h => by cases y <;> simp_all [sameAs]
  | x :: l, y, h => by
    cases y <;> simp only [sameAs, Bool.false_eq_true, Bool.and_eq_true] at h
    rename_i y r; rw [sameA_ok x y h.1, sameAs_ok l r h.2]
end

def sameO : Option AO → Option AO → Bool
  | none, none => true
  | some a, some b => sameAs a.elems b.elems && (decide (a.k = b.k) && decide (a.st = b.st))
  | _, _ => false
theorem sameO_ok {x y : Option AO} (h : sameO x y = true) : x = y := by
  unfold sameO at h
  split at h
  · rfl
  · rename_i a b
    simp only [Bool.and_eq_true, decide_eq_true_eq] at h
    have := sameAs_ok _ _ h.1
    cases a; cases b
    simp_all
  · cases h

/-! ### Regions -/

def evGuard (all : List Oper) (T : List AV) (g : Option (Nat × Bool)) : Option Bool :=
  match g with
  | none => some true
  | some (j, want) => match dstOf all j with
    | some t => match nth T t with
      | .d (.bool b) => some (b == want)
      | .und => some false
      | _ => none
    | none => none

theorem evGuard_ok {all : List Oper} {T : List AV} {g : Option (Nat × Bool)} {b : Bool} {A B : List AV → Prop} (e : evGuard all T g = some b) (ht : b = true → A T) (hf : b = false → B T) : guardD all T g A B := by
  unfold evGuard at e
  unfold guardD
  split at e
  · cases e; exact ht rfl
  · split at e
    · rename_i t hd
      simp only [hd]
      rw [getK_eq]
      split at e
      · rename_i c hc
        simp only [hc, setK_eq]
        cases c
        · rw [set_nth hc (by simp)]
          refine onBool_f rfl ?_
          exact onBool_split (fun hw => hf (by cases e; rw [hw]; rfl)) (fun hw => ht (by cases e; rw [hw]; rfl))
        · rw [set_nth hc (by simp)]
          refine onBool_t rfl ?_
          exact onBool_split (fun hw => ht (by cases e; rw [hw]; rfl)) (fun hw => hf (by cases e; rw [hw]; rfl))
      · rename_i hc
        simp only [hc]
        cases e
        exact hf rfl
      · cases e
    · cases e

section
variable (E : TE) (call : CallF)

def evReg (all : List Oper) : List Oper → List AV → Heap → Option (List AV × Heap)
  | [], T, h => some (T, h)
  | o :: rest, T, h => match evGuard all T o.guard with
    | some true => match evOp E call T h o.op with
      | some (v, h') => evReg all rest (putD o.dst v T) h'
      | none => none
    | some false => evReg all rest (putD o.dst .und T) h
    | none => none

def evEv (ps : List (Nat × Nat)) : Ev → List Ev → Bool
  | _, [] => true
  | .read i id, .heap j h h' :: l => (if memB ps i j then sameO h[id]? h'[id]? else true) && evEv ps (.read i id) l
  | .heap j h h', .read i id :: l => (if memB ps i j then sameO h[id]? h'[id]? else true) && evEv ps (.heap j h h') l
  | .heap j h h', .made i id :: l => (if memB ps i j then sameO h[id]? h'[id]? else true) && evEv ps (.heap j h h') l
  | e, _ :: l => evEv ps e l

def evReads (T : List AV) (o : Op) : Option Nat :=
  match o with
  | .load _ a => (match opnd T a with | .ptr id _ _ => some id | _ => none)
  | .convert _ _ a => (match opnd T a with | .sl id _ _ _ _ => some id | _ => none)
  | .slice _ a _ _ _ => (match opnd T a with | .sl id _ _ _ _ => some id | _ => none)
  | _ => none

def evDraw (all : List Oper) (ps : List (Nat × Nat)) : List (Nat × Oper) → List Ev → List AV → Heap → Option (List AV × Heap)
  | [], _, T, h => some (T, h)
  | (i, o) :: rest, L, T, h => match evGuard all T o.guard with
    | some true => match evOp E call T h o.op with
      | some (v, h') => match cls E o.op with
        | 0 => evDraw all ps rest L (putD o.dst v T) h'
        | 1 => match evReads T o.op with
          | some id => if evEv ps (.read i id) L then evDraw all ps rest (.read i id :: L) (putD o.dst v T) h' else none
          | none => evDraw all ps rest L (putD o.dst v T) h'
        | 2 => match v with
          | .ptr id _ _ => evDraw all ps rest (.made i id :: L) (putD o.dst v T) h'
          | _ => none
        | _ => if evEv ps (.heap i h h') L then evDraw all ps rest (.heap i h h' :: L) (putD o.dst v T) h' else none
      | none => none
    | some false => evDraw all ps rest L (putD o.dst .und T) h
    | none => none
end

def psOf1 (E : TE) (ws : List Nat) (x : Nat × Oper) : List (Nat × Oper) → List (Nat × Nat) → List (Nat × Nat)
  | [], acc => acc
  | y :: l, acc =>
    let acc := psOf1 E ws x l acc
    if (ws.getD y.1 0).testBit x.1 then acc else
    let cx := cls E x.2.op
    let cy := cls E y.2.op
    if (cx == 1 || cx == 2) && cy == 3 then (x.1, y.1) :: acc else if cx == 3 && cy == 1 then (y.1, x.1) :: acc else acc
def psOf (E : TE) (ws : List Nat) : List (Nat × Oper) → List (Nat × Nat)
  | [] => []
  | x :: l => psOf1 E ws x l (psOf E ws l)
def flOf : List Oper → List Nat
  | [] => []
  | o :: l => match o.op with
    | .buildSlice t _ _ => t :: flOf l
    | _ => flOf l

def evTry (E : TE) (call : CallF) (ops : List Oper) (fl : List Nat) (T : List AV) (h : Heap) : Option (Option (List AV × Heap)) :=
  let ps := psOf (flagE E fl) (waitsFor ops []) (baseOrder ops)
  if drawOk (flagE E fl) ops ps then some (evDraw (flagE E fl) call ops ps (baseOrder ops) [] T h) else none
def evDrawn (E : TE) (call : CallF) (ops : List Oper) (T : List AV) (h : Heap) : Option (List AV × Heap) :=
  match evTry E call ops [] T h with
  | some r => r
  | none => match evTry E call ops (flOf ops) T h with
    | some r => r
    | none => none

theorem evEv_ok {ps : List (Nat × Nat)} {K : Prop} (k : K) : ∀ (e : Ev) (L : List Ev), evEv ps e L = true → evD ps e L K
  | e, [], h => by simp only [evD]; exact k
  | .read i id, .heap j h h' :: l, hk => by
    simp only [evEv, Bool.and_eq_true] at hk
    simp only [evD]
    have := evEv_ok k _ l hk.2
    refine onBool_split (fun hm => ⟨?_, this⟩) (fun _ => this)
    rw [if_pos hm] at hk
    rw [sameO_ok hk.1]
  | .heap j h h', .read i id :: l, hk => by
    simp only [evEv, Bool.and_eq_true] at hk
    simp only [evD]
    have := evEv_ok k _ l hk.2
    refine onBool_split (fun hm => ⟨?_, this⟩) (fun _ => this)
    rw [if_pos hm] at hk
    rw [sameO_ok hk.1]
  | .heap j h h', .made i id :: l, hk => by
    simp only [evEv, Bool.and_eq_true] at hk
    simp only [evD]
    have := evEv_ok k _ l hk.2
    refine onBool_split (fun hm => ⟨?_, this⟩) (fun _ => this)
    rw [if_pos hm] at hk
    exact sameO_ok hk.1
  | .read i id, .read j jd :: l, hk => by simp only [evD]; exact evEv_ok k _ l (by simpa only [evEv] using hk)
  | .read i id, .made j jd :: l, hk => by simp only [evD]; exact evEv_ok k _ l (by simpa only [evEv] using hk)
  | .made i id, .read j jd :: l, hk => by simp only [evD]; exact evEv_ok k _ l (by simpa only [evEv] using hk)
  | .made i id, .made j jd :: l, hk => by simp only [evD]; exact evEv_ok k _ l (by simpa only [evEv] using hk)
  | .made i id, .heap j h h' :: l, hk => by simp only [evD]; exact evEv_ok k _ l (by simpa only [evEv] using hk)
  | .heap i g g', .heap j h h' :: l, hk => by simp only [evD]; exact evEv_ok k _ l (by simpa only [evEv] using hk)

theorem readsK_ev (T : List AV) (o : Op) (K : Option Nat → Prop) : readsK T o K = K (evReads T o) := by
  cases o <;> simp only [readsK, evReads, opndK_eq] <;> generalize opnd T _ = y <;> cases y <;> rfl

section
variable {E : TE} {R : Rel} {call : CallF} (hc : ∀ f args h r h', call f args h = some (r, h') → R f args h r h')
include hc

theorem evReg_ok {all : List Oper} {T' : List AV} {h' : Heap} {K : List AV → Heap → Prop} (hk : K T' h') : ∀ (l : List Oper) (T : List AV) (h : Heap), evReg E call all l T h = some (T', h') → regD E R all l T h K
  | [], T, h, e => by simp only [evReg, Option.some.injEq, Prod.mk.injEq] at e; obtain ⟨rfl, rfl⟩ := e; exact hk
  | o :: rest, T, h, e => by
    unfold evReg at e
    simp only [regD]
    split at e
    · rename_i hg
      split at e
      · rename_i v h1 ho
        refine evGuard_ok hg (fun _ => evOp_ok hc ho ?_) (fun h => by cases h)
        rw [dstK_eq]
        exact evReg_ok hk rest _ _ e
      · cases e
    · rename_i hg
      refine evGuard_ok hg (fun h => by cases h) (fun _ => ?_)
      rw [dstK_eq]
      exact evReg_ok hk rest _ _ e
    · cases e

theorem evDraw_ok {all : List Oper} {ps : List (Nat × Nat)} {T' : List AV} {h' : Heap} {K : List AV → Heap → Prop} (hk : K T' h') : ∀ (l : List (Nat × Oper)) (L : List Ev) (T : List AV) (h : Heap), evDraw E call all ps l L T h = some (T', h') → drawR E R all ps l L T h K
  | [], L, T, h, e => by simp only [evDraw, Option.some.injEq, Prod.mk.injEq] at e; obtain ⟨rfl, rfl⟩ := e; exact hk
  | (i, o) :: rest, L, T, h, e => by
    unfold evDraw at e
    simp only [drawR]
    split at e
    · rename_i hg
      split at e
      · rename_i v h1 ho
        refine evGuard_ok hg (fun _ => evOp_ok hc ho ?_) (fun h => by cases h)
        rw [dstK_eq]
        split at e
        · rename_i hcl; simp only [hcl]; exact evDraw_ok hk rest _ _ _ e
        · rename_i hcl; simp only [hcl]
          rw [readsK_ev]
          split at e
          · rename_i id hid
            simp only [hid]
            split at e
            · rename_i he; exact evEv_ok (evDraw_ok hk rest _ _ _ e) _ _ he
            · cases e
          · rename_i hid
            simp only [hid]
            exact evDraw_ok hk rest _ _ _ e
        · rename_i hcl; simp only [hcl]
          split at e
          · exact evDraw_ok hk rest _ _ _ e
          · cases e
        · rename_i n h0 h1' h2
          split at e
          · rename_i he
            split
            · exact (h0 (by assumption)).elim
            · exact (h1' (by assumption)).elim
            · exact (h2 (by assumption)).elim
            · exact evEv_ok (evDraw_ok hk rest _ _ _ e) _ _ he
          · cases e
      · cases e
    · rename_i hg
      refine evGuard_ok hg (fun h => by cases h) (fun _ => ?_)
      rw [dstK_eq]
      exact evDraw_ok hk rest _ _ _ e
    · cases e

theorem evDrawn_ok {ops : List Oper} {T T' : List AV} {h h' : Heap} {K : List AV → Heap → Prop} (e : evDrawn E call ops T h = some (T', h')) (hk : K T' h') : drawD E R ops T h K := by
  have key : ∀ fl, evTry E call ops fl T h = some (some (T', h')) → drawD E R ops T h K := by
    intro fl e
    simp only [evTry] at e
    split at e
    · rename_i h1
      exact ⟨fl, _, h1, evDraw_ok hc hk _ _ _ _ (Option.some.inj e)⟩
    · cases e
  unfold evDrawn at e
  split at e
  · rename_i r hr
    subst e; exact key _ hr
  · split at e
    · rename_i r hr
      subst e; exact key _ hr
    · cases e
end

/-! ### Code -/

def evCond (T : List AV) (c : Operand) : Option Bool :=
  match c with
  | .tmp t => (match nth T t with
    | .d (.bool b) => some b
    | _ => none)
  | .const (.bool b) => some b
  | _ => none

def evIter (W : List AV → Heap → Option (Ex × List AV × Heap)) : Nat → List AV → Heap → Option (Ex × List AV × Heap)
  | 0, _, _ => none
  | n + 1, T, h => match W T h with
    | some (.normal, T', h') => evIter W n T' h'
    | some (.exit i, T', h') => some (.exit i, T', h')
    | some (.ret, T', h') => some (.ret, T', h')
    | none => none

def evCode (E : TE) (call : CallF) (N : Nat) : Code → List AV → Heap → Option (Ex × List AV × Heap)
  | .skip, T, h => some (.normal, T, h)
  | .region _ ops d, T, h => match d with
    | true => (match evDrawn E call ops.toList T h with
      | some (T', h') => some (.normal, T', h')
      | none => none)
    | false => (match evReg E call ops.toList ops.toList T h with
      | some (T', h') => some (.normal, T', h')
      | none => none)
  | .seq a b, T, h => match evCode E call N a T h with
    | some (.normal, T', h') => evCode E call N b T' h'
    | some (.exit i, T', h') => some (.exit i, T', h')
    | some (.ret, T', h') => some (.ret, T', h')
    | none => none
  | .cond c a b, T, h => match evCond T c with
    | some true => evCode E call N a T h
    | some false => evCode E call N b T h
    | none => none
  | .block id c, T, h => match evCode E call N c T h with
    | some (.normal, T', h') => some (.normal, T', h')
    | some (.exit i, T', h') => if Nat.beq i id then some (.normal, T', h') else some (.exit i, T', h')
    | some (.ret, T', h') => some (.ret, T', h')
    | none => none
  | .loop c, T, h => evIter (evCode E call N c) N T h
  | .exit id, T, h => some (.exit id, T, h)
  | .ret, T, h => some (.ret, T, h)
  | _, _, _ => none

section
variable {P : Program} {E : TE} (hE : EOK P E) {B : Nat} {W w0 : World} {st0 : St} {call : CallF} (hc : ∀ f args h r h', call f args h = some (r, h') → Run P f args h r h')
include hE hc

theorem evCode_ok {N : Nat} : ∀ (c : Code) (T : List AV) (h : Heap) (a : Act) (w : World) (ex : Ex) (T' : List AV) (h' : Heap) (Q : Exit → Act → World → Prop),
    evCode E call N c T h = some (ex, T', h') → (∀ a w, Inv B W w0 st0 T' h' a w → Q ex.to a w) → Inv B W w0 st0 T h a w → c.wp P Q a w
  | .skip, T, h, a, w, ex, T', h', Q, e, hQ, hI => by
    simp only [evCode, Option.some.injEq, Prod.mk.injEq] at e
    obtain ⟨rfl, rfl, rfl⟩ := e
    exact wp_skip (hQ a w hI)
  | .region id ops d, T, h, a, w, ex, T', h', Q, e, hQ, hI => by
    cases d
    · simp only [evCode] at e
      split at e
      · rename_i T1 h1 he
        cases e
        exact regD_sound hE (K := fun T h => T = T' ∧ h = h') (fun T h a w ⟨e1, e2⟩ hI => by subst e1; subst e2; exact hQ a w hI) hI (evReg_ok hc ⟨rfl, rfl⟩ _ _ _ he)
      · cases e
    · simp only [evCode] at e
      split at e
      · rename_i T1 h1 he
        cases e
        exact drawSound hE (K := fun T h => T = T' ∧ h = h') (fun T h a w ⟨e1, e2⟩ hI => by subst e1; subst e2; exact hQ a w hI) hI (evDrawn_ok hc he ⟨rfl, rfl⟩)
      · cases e
  | .seq x y, T, h, a, w, ex, T', h', Q, e, hQ, hI => by
    simp only [evCode] at e
    split at e
    · rename_i T1 h1 he
      exact wp_seq (evCode_ok x T h a w _ _ _ _ he (fun a w hI => evCode_ok y T1 h1 a w ex T' h' Q e hQ hI) hI)
    · rename_i i T1 h1 he
      cases e
      exact wp_seq (evCode_ok x T h a w _ _ _ _ he (fun a w hI => hQ a w hI) hI)
    · rename_i T1 h1 he
      cases e
      exact wp_seq (evCode_ok x T h a w _ _ _ _ he (fun a w hI => hQ a w hI) hI)
    · cases e
  | .cond c x y, T, h, a, w, ex, T', h', Q, e, hQ, hI => by
    simp only [evCode] at e
    have hcond : ∀ b, evCond T c = some b → (if b then x.wp P Q a w else y.wp P Q a w) → (Code.cond c x y).wp P Q a w := by
      intro b hb hk
      unfold evCond at hb
      split at hb
      · rename_i t
        split at hb
        · rename_i b' hb'
          cases hb
          have hv : a.eval (.tmp t) = .bool b := by
            obtain ⟨_, st, _, h2, _⟩ := hI
            have := h2.2 t
            rw [hb'] at this
            exact aV_bool.1 this
          cases b
          · exact wp_cond_false hv hk
          · exact wp_cond_true hv hk
        · cases hb
      · rename_i b'
        cases hb
        cases b
        · exact wp_cond_false rfl hk
        · exact wp_cond_true rfl hk
      · cases hb
    split at e
    · rename_i hb; exact hcond _ hb (evCode_ok x T h a w ex T' h' Q e hQ hI)
    · rename_i hb; exact hcond _ hb (evCode_ok y T h a w ex T' h' Q e hQ hI)
    · cases e
  | .block id c, T, h, a, w, ex, T', h', Q, e, hQ, hI => by
    simp only [evCode] at e
    split at e
    · rename_i T1 h1 he
      cases e
      exact wp_block (evCode_ok c T h a w _ _ _ _ he (fun a w hI => hQ a w hI) hI)
    · rename_i i T1 h1 he
      refine wp_block (evCode_ok c T h a w _ _ _ _ he (fun a w hI => ?_) hI)
      simp only [Ex.to, Exit.inBlock]
      split at e
      · rename_i hi; cases e
        rw [if_pos (by simpa using hi)]
        exact hQ a w hI
      · rename_i hi; cases e
        rw [if_neg (by intro he; subst he; simp at hi)]
        exact hQ a w hI
    · rename_i T1 h1 he
      cases e
      exact wp_block (evCode_ok c T h a w _ _ _ _ he (fun a w hI => hQ a w hI) hI)
    · cases e
  | .loop c, T, h, a, w, ex, T', h', Q, e, hQ, hI => by
    simp only [evCode] at e
    refine wp_loop_n (I := fun n a w => ∃ T h, evIter (evCode E call N c) n T h = some (ex, T', h') ∧ Inv B W w0 st0 T h a w) ?_ ?_ N a w ⟨T, h, e, hI⟩
    · rintro a w ⟨T, h, hk, _⟩
      cases hk
    · rintro m a w ⟨T, h, hk, hI⟩
      simp only [evIter] at hk
      split at hk
      · rename_i T1 h1 he
        exact evCode_ok c T h a w _ _ _ _ he (fun a w hI => ⟨T1, h1, hk, hI⟩) hI
      · rename_i i T1 h1 he
        cases hk
        exact evCode_ok c T h a w _ _ _ _ he (fun a w hI => hQ a w hI) hI
      · rename_i T1 h1 he
        cases hk
        exact evCode_ok c T h a w _ _ _ _ he (fun a w hI => hQ a w hI) hI
      · cases hk
  | .exit id, T, h, a, w, ex, T', h', Q, e, hQ, hI => by
    simp only [evCode, Option.some.injEq, Prod.mk.injEq] at e
    obtain ⟨rfl, rfl, rfl⟩ := e
    exact wp_exit (hQ a w hI)
  | .ret, T, h, a, w, ex, T', h', Q, e, hQ, hI => by
    simp only [evCode, Option.some.injEq, Prod.mk.injEq] at e
    obtain ⟨rfl, rfl, rfl⟩ := e
    exact wp_ret (hQ a w hI)
  | .rangeFunc .., _, _, _, _, _, _, _, _, e, _, _ => by simp [evCode] at e
  | .scope .., _, _, _, _, _, _, _, _, e, _, _ => by simp [evCode] at e
  | .label .., _, _, _, _, _, _, _, _, e, _, _ => by simp [evCode] at e
  | .goto .., _, _, _, _, _, _, _, _, e, _, _ => by simp [evCode] at e
  | .refuse .., _, _, _, _, _, _, _, _, e, _, _ => by simp [evCode] at e

end

/-! ### slices.Clone -/

/-- What slices.Clone is to be. -/
def ClSpec (P : Program) (f k : Nat) : Prop := ∀ (l : List D), l.length < 1000000 → (∀ y ∈ l, y.cells.length = k ∧ y.memOk = true) → Run P f [.d (.fs l)] [] (.sl 0 0 l.length k none) [⟨l.map .d, k, 0⟩]

theorem run_rawE {P : Program} {f : Nat} {h1 : Heap} {r : AV} (hr : ∀ a c, Run P f [.raw (.slice a 0 c)] [] r h1) : Run P f [.d (.fs [])] [] r h1 := by
  intro B W w st vs hw hv
  simp only [aVs] at hv
  obtain ⟨v, t, us, rfl, h1, h2, rfl⟩ := hv
  obtain ⟨a, c, rfl, _, _⟩ := aV_fs.1 (⟨us, h1, h2⟩ : aV w st (.d (.fs [])) v)
  exact hr a c B W w st _ hw (by simp only [aVs]; exact ⟨_, [], [_], rfl, rfl, by simp [aC], rfl⟩)

theorem clSpec_of {P : Program} {f k : Nat} (h0 : ∀ a c, Run P f [.raw (.slice a 0 c)] [] (.sl 0 0 0 k none) [⟨[], k, 0⟩])
    (h1 : ∀ (x : D) (l : List D), (x :: l).length < 1000000 → (∀ y ∈ x :: l, y.cells.length = k ∧ y.memOk = true) → Run P f [.d (.fs (x :: l))] [] (.sl 0 0 (x :: l).length k none) [⟨(x :: l).map .d, k, 0⟩]) : ClSpec P f k := by
  intro l hl hk
  cases l with
  | nil => exact run_rawE h0
  | cons x l => exact h1 x l hl hk

theorem run_clone {P : Program} {f k : Nat} (hc : ClSpec P f k) {H : Heap} {a : AV} {l : List D} (hv : view 8 H a = some (.fs l)) (hl : l.length < 1000000) (hk : ∀ y ∈ l, y.cells.length = k ∧ y.memOk = true) (hf : ∀ y ∈ l, y.flat = true) :
    Run P f [a] H (.sl H.length 0 l.length k none) (H ++ [⟨l.map .d, k, 0⟩]) := by
  refine run_at (σ := []) (F := reach 8 H a) (fl := true) (hc l hl hk) List.nodup_nil (fun _ _ h => by cases h) ?_ (by simp [embH]) (fun _ => ⟨rfl, fun o ho => ?_⟩) ?_ ?_
  · exact embs_views H [a] [.fs l] _ (by simp) (by simp [vl, hv])
  · simp only [List.mem_singleton] at ho
    subst ho
    exact ⟨flats_map l hf, Nat.zero_ne_one⟩
  · simp [ren, tau]
  · simp only [outH, setAll, List.length_nil, List.drop_zero, List.map_cons, List.map_nil, renO, rens_D, if_true]

/-! ### Functions -/

def evRes (E : TE) (h : Heap) (T : List AV) : List ResultVar → Option (List AV)
  | [] => some []
  | .tmp t :: l => (match evRes E h T l with
    | some r => some (nth T t :: r)
    | none => none)
  | .cell a t :: l => (match evLoad (E t) (nth T a) h with
    | some v => (match evRes E h T l with
      | some r => some (v :: r)
      | none => none)
    | none => none)

theorem evRes_ok {E : TE} {h : Heap} {T : List AV} : ∀ (l : List ResultVar) (r : List AV) (K : List AV → Prop), evRes E h T l = some r → K r → resD E h T l K
  | [], r, K, e, hk => by simp only [evRes, Option.some.injEq] at e; subst e; exact hk
  | .tmp t :: l, r, K, e, hk => by
    simp only [evRes] at e
    simp only [resD]
    rw [getK_eq]
    split at e
    · rename_i r' hr; cases e; exact evRes_ok l r' _ hr hk
    · cases e
  | .cell a t :: l, r, K, e, hk => by
    simp only [evRes] at e
    simp only [resD]
    rw [getK_eq]
    split at e
    · rename_i v hv
      split at e
      · rename_i r' hr; cases e; exact evLoad_ok hv (evRes_ok l r' _ hr hk)
      · cases e
    · cases e

def evBody (E : TE) (call : CallF) (N : Nat) (fn : Func) (args : List AV) (h : Heap) : Option (AV × Heap) :=
  match fn.body with
  | some c => match evCode E call N c (start fn.ntmps args) h with
    | some (.normal, T, h') => (match evRes E h' T fn.results.toList with
      | some l => some (tupD l, h')
      | none => none)
    | some (.ret, T, h') => (match evRes E h' T fn.results.toList with
      | some l => some (tupD l, h')
      | none => none)
    | _ => none
  | none => none

def evClone (k : Nat) (args : List AV) (h : Heap) : Option (AV × Heap) :=
  match args with
  | [a] => (match view 8 h a with
    | some (.fs l) => if decide (l.length < 1000000) && l.all (fun y => y.flat && (y.cells.length == k && y.memOk)) then some (.sl h.length 0 l.length k none, h ++ [⟨l.map .d, k, 0⟩]) else none
    | _ => none)
  | _ => none

/-- dm: functions of plain data with plain answers, which are run in a heap of their own; orc: those that are slices.Clone. -/
def evFun (E : TE) (fs : List Func) (orc : Nat → Option Nat) (dm : Nat → Bool) (N : Nat) : Nat → CallF
  | 0, _, _, _ => none
  | n + 1, f, args, h => match orc f with
   | some k => evClone k args h
   | none => match fs[f]? with
    | some fn => if dm f then (match vl (view 8 h) args with
        | some xs => (match evBody E (evFun E fs orc dm N n) N fn (xs.map .d) [] with
          | some (a, h') => (match view 8 h' a with
            | some x => if x.flat then some (.d x, h) else none
            | none => none)
          | none => none)
        | none => none)
      else evBody E (evFun E fs orc dm N n) N fn args h
    | none => none

section
variable {P : Program} {E : TE} (hE : EOK P E)
include hE

theorem body_ev {call : CallF} (hc : ∀ f args h r h', call f args h = some (r, h') → Run P f args h r h') {N f : Nat} {fn : Func} (hf : P.funcs[f]? = some fn) (hn : (fn.name == "runtime.NumGoroutine") = false) {args : List AV} {h h' : Heap} {r : AV} (e : evBody E call N fn args h = some (r, h')) :
    Run P f args h r h' ∧ ∀ x, view 8 h' r = some x → h = [] → Run P f args h (.d x) [] := by
  unfold evBody at e
  split at e
  · rename_i c hb
    obtain ⟨ex, T', hev, hres, hex⟩ : ∃ ex T', evCode E call N c (start fn.ntmps args) h = some (ex, T', h') ∧ (∃ l, evRes E h' T' fn.results.toList = some l ∧ r = tupD l) ∧ (ex = .normal ∨ ex = .ret) := by
      split at e
      · rename_i T1 h1 he
        split at e
        · rename_i l hl; cases e; exact ⟨_, _, he, ⟨l, hl, rfl⟩, .inl rfl⟩
        · cases e
      · rename_i T1 h1 he
        split at e
        · rename_i l hl; cases e; exact ⟨_, _, he, ⟨l, hl, rfl⟩, .inr rfl⟩
        · cases e
      · cases e
    obtain ⟨l, hl, rfl⟩ := hres
    have hbn : fn.body.isNone = false := by simp [hb]
    have main : ∀ (r1 : AV) (h1 : Heap), (∀ {B : Nat} {W w0 w : World} {st0 : St} {a : Act}, st0.n = h.length → (∀ i, st0.G i → i < st0.n) → Inv B W w0 st0 T' h' a w → a.defers = [] ∧ ∃ v, (results fn a.tmps).run P w = .ok v w ∧ RunPost B W w0 st0 r1 h1 v w) → Run P f args h r1 h1 := by
      intro r1 h1 hend B W w st vs hw ha
      have hcall : (callFunc f vs.toArray).run P w = .ok (.enter f vs.toArray) w := by
        simp only [callFunc, Sem.run_bind, run_program, Result.andThen_ok, hf, hn, hbn, Bool.false_eq_true, if_false, Sem.run_pure]
      rw [hcall]
      show Calls P f vs.toArray w _
      refine calls_of_wp hf hb ?_
      have hl2 := ((aVs_iff _ _).1 ha).1
      have hg0 : ∀ i, st.G i → i < st.n := hw.gho
      have hlen := hw.len
      have hT : aT w st (start fn.ntmps args) (vs.toArray ++ Array.replicate (fn.ntmps - vs.toArray.size) undef) := by
        refine ⟨by simp [start, hl2], fun i => ?_⟩
        rw [nth_get]
        by_cases hi : i < args.length
        · have h1 : (start fn.ntmps args)[i]? = some args[i] := by simp only [start]; rw [List.getElem?_append_left hi]; exact List.getElem?_eq_getElem hi
          have h2 : (vs.toArray ++ Array.replicate (fn.ntmps - vs.toArray.size) undef).getD i undef = vs[i] := by
            simp [Array.getElem?_append, hl2, hi]
          rw [h1, h2]
          exact ((aVs_iff _ _).1 ha).2 i _ _ (List.getElem?_eq_getElem hi) (List.getElem?_eq_getElem (by omega))
        · by_cases hi2 : i < fn.ntmps
          · have h1 : (start fn.ntmps args)[i]? = some .und := by
              simp only [start]
              rw [List.getElem?_append_right (by omega), List.getElem?_replicate, if_pos (by omega)]
            have h2 : (vs.toArray ++ Array.replicate (fn.ntmps - vs.toArray.size) undef).getD i undef = undef := by
              simp only [Array.getD_eq_getD_getElem?]
              rw [Array.getElem?_append_right (by simp; omega), Array.getElem?_replicate]
              split <;> rfl
            rw [h1, h2]
            exact aV_one rfl (by simp [aC])
          · have h1 : (start fn.ntmps args)[i]? = none := by
              rw [List.getElem?_eq_none]
              simp [start]; omega
            rw [h1]
            exact aV_junk _ _ _
      refine evCode_ok hE hc (B := B) (W := W) (w0 := w) (st0 := st) c _ h _ w ex T' h' _ hev ?_ ⟨rfl, st, hw, hT, Ext.refl _ _, rfl⟩
      intro a w' hI
      obtain ⟨hd, v, g1, g2⟩ := hend hlen hg0 hI
      rcases hex with rfl | rfl
      · exact ⟨hd, v, g1, v, rfl, g2⟩
      · exact ⟨hd, v, g1, v, rfl, g2⟩
    refine ⟨main _ _ ?_, fun x hx hh => main _ _ ?_⟩
    · intro B W w0 w st0 a _ _ hI
      obtain ⟨hd, st, i1, i2, i3, i4⟩ := hI
      obtain ⟨l2, vs, k1, k2, k3⟩ := resD_sound hE i1 i2 _ (fun r => r = l) (evRes_ok _ _ _ hl rfl)
      subst k1
      have hv := aV_tupD k2
      refine ⟨hd, (if h : vs.toArray.size = 1 then vs.toArray[0] else .tuple vs.toArray), ?_, st, i1, hv, i3, i4⟩
      unfold results
      have hm : ∀ (f : ResultVar → Sem Value), fn.results.mapM f = (do let l ← fn.results.toList.mapM f; pure l.toArray) := by
        intro f
        rw [Array.mapM_eq_mapM_toList]
        rfl
      show ((do let vs ← fn.results.mapM (resV a.tmps); pure (if h : vs.size = 1 then vs[0] else .tuple vs) : Sem Value)).run P w = _
      rw [hm]
      simp only [Sem.run_bind, k3, Result.andThen_ok, Sem.run_pure]
    · intro B W w0 w st0 a hn0 hg0 hI
      subst hh
      refine endD_sound hE (V := []) hI hg0 (fun _ h => by cases h) (evRes_ok _ _ _ hl ?_)
      have : st0.n = 0 := hn0
      rw [this]
      exact .inr ⟨x, hx, rfl, [], rfl, rfl, trivial, trivial⟩
  · cases e

theorem evFun_ok {fs : List Func} {orc : Nat → Option Nat} (horc : ∀ f k, orc f = some k → ClSpec P f k) (hfs : fs = P.funcs.toList) (hnm : fs.all (fun fn => !(fn.name == "runtime.NumGoroutine")) = true) {dm : Nat → Bool} {N : Nat} : ∀ (n f : Nat) (args : List AV) (h : Heap) (r : AV) (h' : Heap), evFun E fs orc dm N n f args h = some (r, h') → Run P f args h r h'
  | 0, f, args, h, r, h', e => by simp [evFun] at e
  | n + 1, f, args, h, r, h', e => by
    simp only [evFun] at e
    split at e
    · rename_i k hk
      unfold evClone at e
      split at e
      · split at e
        · rename_i l hl
          split at e
          · rename_i hc; cases e
            simp only [Bool.and_eq_true, decide_eq_true_eq, List.all_eq_true, beq_iff_eq] at hc
            exact run_clone (horc f k hk) hl hc.1 (fun y hy => (hc.2 y hy).2) (fun y hy => (hc.2 y hy).1)
          · cases e
        · cases e
      · cases e
    split at e
    · rename_i fn hfn
      have hf : P.funcs[f]? = some fn := by rw [hfs] at hfn; simpa using hfn
      have hn : (fn.name == "runtime.NumGoroutine") = false := by
        have := (List.all_eq_true.1 hnm) fn (List.mem_of_getElem? hfn)
        simpa using this
      split at e
      · split at e
        · rename_i xs hxs
          split at e
          · rename_i a h1 he
            split at e
            · rename_i x hx
              split at e
              · rename_i hfl; cases e
                exact run_view ((body_ev hE (evFun_ok horc hfs hnm n) hf hn he).2 x hx rfl) hfl hxs
              · cases e
            · cases e
          · cases e
        · cases e
      · exact (body_ev hE (evFun_ok horc hfs hnm n) hf hn e).1
    · cases e

/-- A call on known data, by evaluation. -/
theorem run_ev {fs : List Func} {orc : Nat → Option Nat} (horc : ∀ f k, orc f = some k → ClSpec P f k) (hfs : fs = P.funcs.toList) (hnm : fs.all (fun fn => !(fn.name == "runtime.NumGoroutine")) = true) (dm : Nat → Bool) (N n : Nat) {f : Nat} {xs : List D} {x : D} (e : (match evFun E fs orc dm N (n + 1) f (xs.map .d) [] with
    | some (a, h') => (match view 8 h' a with
      | some y => sameD y x
      | none => false)
    | none => false) = true) (hd : dm f = false) (ho : orc f = none) : Run P f (xs.map .d) [] (.d x) [] := by
  split at e
  · rename_i a h' he
    split at e
    · rename_i y hy
      have := sameD_ok _ _ e
      subst this
      simp only [evFun, ho] at he
      split at he
      · rename_i fn hfn
        have hf : P.funcs[f]? = some fn := by rw [hfs] at hfn; simpa using hfn
        have hn : (fn.name == "runtime.NumGoroutine") = false := by
          have := (List.all_eq_true.1 hnm) fn (List.mem_of_getElem? hfn)
          simpa using this
        rw [hd] at he
        simp only [Bool.false_eq_true, if_false] at he
        exact (body_ev hE (evFun_ok hE horc hfs hnm n) hf hn he).2 _ hy rfl
      · cases he
    · cases e
  · cases e

end
end Dw

/-! Cl -/
namespace Go.Proofs.Ytjbipdppgoldlaa
open Go Dw
set_option maxRecDepth 10000
attribute [local irreducible] Run
theorem cl91 : ClSpec Try.prog 91 8 := by
  refine clSpec_of (fun a c => ?_) (fun x l hl hk => ?_)
  · cases a <;> (refine run_walkF eok Try.func91 rfl (by kernel_rfl) ?_; conv => whnf)
    · refine endX_of (.inl ⟨[.void 8], rfl, rfl, ⟨⟨rfl, rfl, rfl, rfl⟩, trivial⟩, ⟨rfl, rfl, by decide, rfl⟩, trivial⟩)
    · refine ⟨by decide, ?_⟩; conv => whnf
      refine endX_of (.inl ⟨[.old 0], rfl, rfl, ⟨⟨rfl, rfl, rfl, rfl, rfl⟩, trivial⟩, ⟨rfl, rfl, .inr (wksd _ [])⟩, trivial⟩)
  · refine run_walkF eok Try.func91 rfl (by kernel_rfl) ?_
    conv => whnf
    refine ⟨hk, ?_⟩; conv => whnf
    refine ⟨cap_ok (by simp only [List.length_map]; omega) rfl, ?_⟩; conv => whnf
    refine endX_of (.inl ⟨[.old 0], rfl, rfl, ⟨⟨rfl, rfl, ?_, rfl, rfl⟩, trivial⟩, ⟨rfl, rfl, .inr (wksd _ _)⟩, trivial⟩)
    simp only [List.length_map]
theorem cl92 : ClSpec Try.prog 92 3 := by
  refine clSpec_of (fun a c => ?_) (fun x l hl hk => ?_)
  · cases a <;> (refine run_walkF eok Try.func92 rfl (by kernel_rfl) ?_; conv => whnf)
    · refine endX_of (.inl ⟨[.void 3], rfl, rfl, ⟨⟨rfl, rfl, rfl, rfl⟩, trivial⟩, ⟨rfl, rfl, by decide, rfl⟩, trivial⟩)
    · refine ⟨by decide, ?_⟩; conv => whnf
      refine endX_of (.inl ⟨[.old 0], rfl, rfl, ⟨⟨rfl, rfl, rfl, rfl, rfl⟩, trivial⟩, ⟨rfl, rfl, .inr (wksd _ [])⟩, trivial⟩)
  · refine run_walkF eok Try.func92 rfl (by kernel_rfl) ?_
    conv => whnf
    refine ⟨hk, ?_⟩; conv => whnf
    refine ⟨cap_ok (by simp only [List.length_map]; omega) rfl, ?_⟩; conv => whnf
    refine endX_of (.inl ⟨[.old 0], rfl, rfl, ⟨⟨rfl, rfl, ?_, rfl, rfl⟩, trivial⟩, ⟨rfl, rfl, .inr (wksd _ _)⟩, trivial⟩)
    simp only [List.length_map]
def orc24 (f : Nat) : Option Nat := match Nat.beq f 91 with
  | true => some 8
  | false => match Nat.beq f 92 with
    | true => some 3
    | false => none
theorem horc24 : ∀ f k, orc24 f = some k → ClSpec Try.prog f k := by
  intro f k h
  unfold orc24 at h
  split at h
  · rename_i h1; cases h; rw [Nat.eq_of_beq_eq_true h1]; exact cl91
  · split at h
    · rename_i h1; cases h; rw [Nat.eq_of_beq_eq_true h1]; exact cl92
    · cases h
end Go.Proofs.Ytjbipdppgoldlaa

/-! Aw -/
namespace Go.Proofs.Ytjbipdppgoldlaa
open Go Dw
set_option maxRecDepth 100000
theorem names_ok : Try.prog.funcs.toList.all (fun fn => !(fn.name == "runtime.NumGoroutine")) = true := by kernel_rfl
def dm24 (f : Nat) : Bool := [53, 52, 54, 51, 55, 56, 64, 65, 68, 61, 58, 93, 50, 87, 88, 89, 90, 100, 105, 49, 48, 104, 17].any (Nat.beq f)
theorem c9 : Run Try.prog 9 [] [] (.d (.bool true)) [] :=
  run_ev (fs := Try.prog.funcs.toList) (orc := orc24) eok horc24 (xs := []) rfl names_ok dm24 300 30 (by kernel_rfl) rfl rfl
end Go.Proofs.Ytjbipdppgoldlaa

/-! Wv -/
namespace Go.Proofs.Ytjbipdppgoldlaa
open Go Dw
set_option maxRecDepth 10000
set_option linter.unusedVariables false
set_option linter.unusedSimpArgs false
attribute [local irreducible] Run
set_option maxHeartbeats 2000000

theorem fewB_bd {j : Jrn} (h : fewB j = true) : j.recs.length < 1000000 ∧ (∀ x ∈ j.recs, x.name.length < 1000000) ∧ j.opens.length < 1000000 := by
  simp only [fewB, Bool.and_eq_true, decide_eq_true_eq, List.all_eq_true] at h
  exact ⟨by omega, fun x hx => by have := h.2 x hx; omega, by omega⟩

theorem c10g (j : Jrn) : Fn 10 [j.enc] (.bool (fewB j)) := by
  refine run_walkF eok Try.func10 rfl (by kernel_rfl) ?_
  conv => whnf
  repeat' (first
    | ((with_reducible refine on_dec_f ?_ ?_); (focus ((try simp only [List.length_map, List.length_cons, List.length_nil, List.length_append]); omega)); conv => whnf)
    | ((with_reducible refine on_dec_t ?_ ?_); (focus ((try simp only [List.length_map, List.length_cons, List.length_nil, List.length_append]); omega)); conv => whnf)
    | ((with_reducible refine on_dec (fun h => ?_) (fun h => ?_)) <;> (try simp only [List.length_map] at h) <;> conv => whnf)
    | ((with_reducible refine on_ndec (fun h => ?_) (fun h => ?_)) <;> (try simp only [List.length_map] at h) <;> conv => whnf)
    | ((with_reducible refine on_not (fun h => ?_) (fun h => ?_)) <;> conv => whnf)
    | ((with_reducible refine onBool_split (fun h => ?_) (fun h => ?_)) <;> conv => whnf)
    | (refine loop1 (fun (k : Nat) => j.recs.length - k) (fun (k : Nat) => k ≤ j.recs.length ∧ (j.recs.take k).all (fun x => decide (x.name.length ≤ 40)) = true) (fun (k : Nat) => [(1, .ptr 0 0 0), (3, .d (i k))]) (fun (k : Nat) => [⟨[.d j.enc], 6, 0⟩]) (0) (by first | (simp; done) | (constructor <;> simp; done) | omega) ?_ (fun k C hI hC => ?_); (exact ⟨[.old 0], rfl, rfl, ⟨(by first | exact congrArg (D.int .i64) (by omega) | exact ⟨rfl, rfl, rfl⟩ | exact ⟨rfl, rfl, rfl, rfl, rfl⟩ | (show (_ : D) = _; with_reducible rfl)), (by first | exact congrArg (D.int .i64) (by omega) | exact ⟨rfl, rfl, rfl⟩ | exact ⟨rfl, rfl, rfl, rfl, rfl⟩ | (show (_ : D) = _; with_reducible rfl)), trivial⟩, ⟨⟨rfl, rfl, .inl ⟨[_], rfl, rfl⟩⟩, trivial⟩⟩); all_goals (conv => whnf))
    | (refine hC (k + 1) _ _ ?_ (by omega) ?_; clear hC; rotate_left; (exact ⟨[.old 0], rfl, rfl, ⟨(by first | exact congrArg (D.int .i64) (by omega) | exact ⟨rfl, rfl, rfl⟩ | exact ⟨rfl, rfl, rfl, rfl, rfl⟩ | (show (_ : D) = _; with_reducible rfl)), (by first | exact congrArg (D.int .i64) (by omega) | exact ⟨rfl, rfl, rfl⟩ | exact ⟨rfl, rfl, rfl, rfl, rfl⟩ | (show (_ : D) = _; with_reducible rfl)), trivial⟩, ⟨⟨rfl, rfl, .inl ⟨[_], rfl, rfl⟩⟩, trivial⟩⟩); (exact ⟨by omega, by rw [List.take_succ_eq_append_getElem (by omega), List.all_append, hI.2]; simp; omega⟩))
    | (refine ⟨⟨(by first | rfl | (simp; done)), cap_ok (by simp only [List.length_map, List.length_cons, List.length_nil, List.length_append]; omega) rfl⟩, ?_⟩; conv => whnf)
    | (refine ⟨mem_one ⟨rfl, rfl⟩, ?_⟩; conv => whnf)
    | (refine ⟨(by intro y hy; obtain ⟨x, _, rfl⟩ := List.mem_map.1 hy; first | rfl | exact ⟨rfl, rfl⟩), ?_⟩; conv => whnf)
    | (refine ⟨cap_ok (by first | omega | (simp only [List.length_map]; omega)) rfl, ?_⟩; conv => whnf)
    | (refine ix_map (by omega) ?_; conv => whnf)
    | (refine ix_str (by omega) ?_; conv => whnf)
    | (refine wrap64 (by omega) ?_; conv => whnf)
    | (exfalso; simp only [List.length_map, List.length_cons, List.length_nil, List.length_append] at h; omega)
    | (exact endx (congrArg D.bool (by simp only [fewB]; grind)); done)
    | (exact endx (congrArg D.bool (by have := hI.2; rw [List.take_of_length_le (by omega)] at this; simp only [fewB, this]; simp; omega)); done)
    | (exact endx (congrArg D.bool (by symm; simp only [fewB, Bool.and_eq_false_iff]; right; rw [List.all_eq_false]; exact ⟨j.recs[k], List.getElem_mem _, by simp; omega⟩)); done)
    | (refine ⟨rfl, ?_⟩; conv => whnf)
    | fail
    )

def oneJ (a b : Int) : Jrn := ⟨a, 0, 0, b, [], []⟩
theorem c22a {a b : Int} (h : numbersErr (oneJ a b) = 0) : Fn 22 [i a, i b] (.tup [(oneJ a b).enc, i 0]) := by
  have := c22 a b
  unfold oneJ at h
  simp only [h, if_true] at this
  exact this
theorem c22b {a b : Int} (h : ¬ numbersErr (oneJ a b) = 0) : Fn 22 [i a, i b] (.tup [zeroJ.enc, i 2]) := by
  have := c22 a b
  have h2 : numbersErr ⟨a, 0, 0, b, [], []⟩ = 2 := by
    revert h; unfold numbersErr oneJ; split <;> (try split) <;> simp
  simp only [h2] at this
  exact this
theorem oneJ_ok {a b : Int} : numbersErr (oneJ a b) = 0 ↔ within a 0 2147483647 = true ∧ within b 128 8192 = true := by
  have h0 : within 0 0 2147483647 = true := by decide
  simp only [numbersErr, oneJ, h0]
  rcases Bool.eq_false_or_eq_true (within a 0 2147483647) with h1 | h1 <;> rcases Bool.eq_false_or_eq_true (within b 128 8192) with h2 | h2 <;> simp [h1, h2]
attribute [local irreducible] fewB checkJ within nameErr size

theorem c4a (j : Jrn) (a b : Int) (s : List UInt8) (hN : numbersErr (oneJ a b) = 0) : Fn 4 [j.enc, .agg [i a, i b], .str s] (.bool true) := by
  obtain ⟨h1, h2⟩ := oneJ_ok.1 hN
  refine run_walkF eok Try.func4 rfl (by kernel_rfl) ?_
  conv => whnf
  repeat' (first
    | (exfalso; simp_all; done)
    | ((with_reducible refine on_dec_f ?_ ?_); (focus ((try simp only [List.length_map, List.length_cons, List.length_nil, List.length_append]); omega)); conv => whnf)
    | ((with_reducible refine on_dec_t ?_ ?_); (focus ((try simp only [List.length_map, List.length_cons, List.length_nil, List.length_append]); omega)); conv => whnf)
    | ((with_reducible refine on_dec (fun h => ?_) (fun h => ?_)) <;> (try simp only [List.length_map] at h) <;> conv => whnf)
    | ((with_reducible refine on_ndec (fun h => ?_) (fun h => ?_)) <;> (try simp only [List.length_map] at h) <;> conv => whnf)
    | ((with_reducible refine on_not (fun h => ?_) (fun h => ?_)) <;> conv => whnf)
    | ((with_reducible refine onBool_split (fun h => ?_) (fun h => ?_)) <;> conv => whnf)
    | (refine call_step (run_view c9 rfl rfl) ?_; conv => whnf)
    | (refine call_step (run_view (c10g _) rfl rfl) ?_; conv => whnf)
    | (refine call_step (run_data (c13 _ (fewB_bd (by assumption)).1 (fewB_bd (by assumption)).2.2) _) ?_; conv => whnf)
    | (refine call_step (run_view (c17 _ (fewB_bd (by assumption)).1 (fewB_bd (by assumption)).2.1 (fewB_bd (by assumption)).2.2) rfl rfl) ?_; conv => whnf)
    | (refine call_step (run_view (c18 _ (fewB_bd (by assumption)).1 (fewB_bd (by assumption)).2.1 (fewB_bd (by assumption)).2.2) rfl rfl) ?_; conv => whnf)
    | (refine call_step (run_view (c19 ⟨0, ⟨0, 0⟩, ⟨0, 0⟩, 0, 0, s⟩ (by show s.length < 1000000; omega)) rfl rfl) ?_; conv => whnf)
    | (refine call_step (run_view (c20 s (by omega)) rfl rfl) ?_; conv => whnf)
    | (refine call_step (run_view (c21 s (by omega)) rfl rfl) ?_; conv => whnf)
    | (refine call_step (run_data (c22a hN) _) ?_; conv => whnf)
    | (refine call_step (run_data (c22b hN) _) ?_; conv => whnf)
    | (refine call_step (run_view (c23 _) rfl rfl) ?_; conv => whnf)
    | (refine call_step (run_view (c24 _ _ _) rfl rfl) ?_; conv => whnf)
    | (refine call_step (run_view (c25 (oneJ a b) (oneJ a b) (by simp [oneJ]) (by simp [oneJ]) (by simp [oneJ]) (by simp [oneJ])) rfl rfl) ?_; conv => whnf)
    | (refine call_step (run_view (c25 zeroJ zeroJ (by decide) (by decide) (by decide) (by decide)) rfl rfl) ?_; conv => whnf)
    | (refine ⟨⟨(by first | rfl | (simp; done)), cap_ok (by simp only [List.length_map, List.length_cons, List.length_nil, List.length_append]; omega) rfl⟩, ?_⟩; conv => whnf)
    | (refine ⟨mem_one ⟨rfl, rfl⟩, ?_⟩; conv => whnf)
    | (refine ⟨(by intro y hy; obtain ⟨x, _, rfl⟩ := List.mem_map.1 hy; first | rfl | exact ⟨rfl, rfl⟩), ?_⟩; conv => whnf)
    | (refine ⟨cap_ok (by first | omega | (simp only [List.length_map]; omega)) rfl, ?_⟩; conv => whnf)
    | (refine ix_map (by omega) ?_; conv => whnf)
    | (refine ix_str (by omega) ?_; conv => whnf)
    | (refine wrap64 (by omega) ?_; conv => whnf)
    | (refine ⟨⟨by decide, by decide⟩, ?_⟩; conv => whnf)
    | (exfalso; simp only [List.length_map, List.length_cons, List.length_nil, List.length_append] at h; omega)
    | (exact endx (congrArg D.bool (by simp)); done)
    | (refine ⟨rfl, ?_⟩; conv => whnf)
    | fail
    )

theorem c4b (j : Jrn) (a b : Int) (s : List UInt8) (hN : ¬ numbersErr (oneJ a b) = 0) : Fn 4 [j.enc, .agg [i a, i b], .str s] (.bool true) := by
  have hw := fun h1 h2 => hN (oneJ_ok.2 ⟨h1, h2⟩)
  refine run_walkF eok Try.func4 rfl (by kernel_rfl) ?_
  conv => whnf
  repeat' (first
    | (exfalso; simp_all; done)
    | ((with_reducible refine on_dec_f ?_ ?_); (focus ((try simp only [List.length_map, List.length_cons, List.length_nil, List.length_append]); omega)); conv => whnf)
    | ((with_reducible refine on_dec_t ?_ ?_); (focus ((try simp only [List.length_map, List.length_cons, List.length_nil, List.length_append]); omega)); conv => whnf)
    | ((with_reducible refine on_dec (fun h => ?_) (fun h => ?_)) <;> (try simp only [List.length_map] at h) <;> conv => whnf)
    | ((with_reducible refine on_ndec (fun h => ?_) (fun h => ?_)) <;> (try simp only [List.length_map] at h) <;> conv => whnf)
    | ((with_reducible refine on_not (fun h => ?_) (fun h => ?_)) <;> conv => whnf)
    | ((with_reducible refine onBool_split (fun h => ?_) (fun h => ?_)) <;> conv => whnf)
    | (refine call_step (run_view c9 rfl rfl) ?_; conv => whnf)
    | (refine call_step (run_view (c10g _) rfl rfl) ?_; conv => whnf)
    | (refine call_step (run_data (c13 _ (fewB_bd (by assumption)).1 (fewB_bd (by assumption)).2.2) _) ?_; conv => whnf)
    | (refine call_step (run_view (c17 _ (fewB_bd (by assumption)).1 (fewB_bd (by assumption)).2.1 (fewB_bd (by assumption)).2.2) rfl rfl) ?_; conv => whnf)
    | (refine call_step (run_view (c18 _ (fewB_bd (by assumption)).1 (fewB_bd (by assumption)).2.1 (fewB_bd (by assumption)).2.2) rfl rfl) ?_; conv => whnf)
    | (refine call_step (run_view (c19 ⟨0, ⟨0, 0⟩, ⟨0, 0⟩, 0, 0, s⟩ (by show s.length < 1000000; omega)) rfl rfl) ?_; conv => whnf)
    | (refine call_step (run_view (c20 s (by omega)) rfl rfl) ?_; conv => whnf)
    | (refine call_step (run_view (c21 s (by omega)) rfl rfl) ?_; conv => whnf)
    | (refine call_step (run_data (c22a hN) _) ?_; conv => whnf)
    | (refine call_step (run_data (c22b hN) _) ?_; conv => whnf)
    | (refine call_step (run_view (c23 _) rfl rfl) ?_; conv => whnf)
    | (refine call_step (run_view (c24 _ _ _) rfl rfl) ?_; conv => whnf)
    | (refine call_step (run_view (c25 (oneJ a b) (oneJ a b) (by simp [oneJ]) (by simp [oneJ]) (by simp [oneJ]) (by simp [oneJ])) rfl rfl) ?_; conv => whnf)
    | (refine call_step (run_view (c25 zeroJ zeroJ (by decide) (by decide) (by decide) (by decide)) rfl rfl) ?_; conv => whnf)
    | (refine ⟨⟨(by first | rfl | (simp; done)), cap_ok (by simp only [List.length_map, List.length_cons, List.length_nil, List.length_append]; omega) rfl⟩, ?_⟩; conv => whnf)
    | (refine ⟨mem_one ⟨rfl, rfl⟩, ?_⟩; conv => whnf)
    | (refine ⟨(by intro y hy; obtain ⟨x, _, rfl⟩ := List.mem_map.1 hy; first | rfl | exact ⟨rfl, rfl⟩), ?_⟩; conv => whnf)
    | (refine ⟨cap_ok (by first | omega | (simp only [List.length_map]; omega)) rfl, ?_⟩; conv => whnf)
    | (refine ix_map (by omega) ?_; conv => whnf)
    | (refine ix_str (by omega) ?_; conv => whnf)
    | (refine wrap64 (by omega) ?_; conv => whnf)
    | (refine ⟨⟨by decide, by decide⟩, ?_⟩; conv => whnf)
    | (exfalso; simp only [List.length_map, List.length_cons, List.length_nil, List.length_append] at h; omega)
    | (exact endx (congrArg D.bool (by simp)); done)
    | (refine ⟨rfl, ?_⟩; conv => whnf)
    | fail
    )

theorem c4 (j : Jrn) (a b : Int) (s : List UInt8) : Fn 4 [j.enc, .agg [i a, i b], .str s] (.bool true) := by
  by_cases h : numbersErr (oneJ a b) = 0
  · exact c4a j a b s h
  · exact c4b j a b s h

end Go.Proofs.Ytjbipdppgoldlaa

/-! DwZe -/
namespace Dw
open Go Go.RowKit

section
variable (E : TE)

def shpF (S : Nat → D → Prop) : List (Nat × Nat) → List D → Prop
  | [], cs => cs = []
  | p :: fs, cs => ∃ y r, S p.2 y ∧ cs = y.cells ++ r ∧ shpF S fs r

/-- Data of a type. -/
def shp : Nat → Nat → D → Prop
  | 0, _, _ => False
  | n + 1, t, x =>
    match (E t).kind with
    | 1 => ∃ k, x = .int (E t).ik k ∧ (Lit.int (E t).ik k).wf = true
    | 2 => ∃ b, x = .bool b
    | 3 => ∃ s : List UInt8, x = .str s ∧ s.length ≤ maxLen
    | 4 => ∃ l : List D, x = .fs l ∧ l.length ≤ maxLen ∧ ∀ y ∈ l, shp n (E t).elem y
    | 5 => ∃ cs, x = .agg cs ∧ shpF (shp n) (E t).fields cs
    | 6 => ∃ ys : List D, x = .agg (ys.flatMap D.cells) ∧ ys.length = (E t).len ∧ ∀ y ∈ ys, shp n (E t).elem y
    | _ => False

def laidF (okT : Nat → Bool) : List (Nat × Nat) → Nat → Nat → Bool
  | [], off, size => off == size
  | p :: fs, off, size => p.1 == off && okT p.2 && laidF okT fs (off + (E p.2).size) size

/-- A type of which all this can be said. -/
def okT : Nat → Nat → Bool
  | 0, _ => false
  | n + 1, t =>
    match (E t).kind with
    | 1 => true
    | 2 => true
    | 3 => true
    | 4 => okT n (E t).elem
    | 5 => laidF E (okT n) (E t).fields 0 (E t).size
    | 6 => okT n (E t).elem && ((E t).len * (E (E t).elem).size == (E t).size)
    | _ => false

theorem okT_kind {n t : Nat} (h : okT E n t = true) : (E t).kind ≠ 0 := by
  cases n with
  | zero => simp [okT] at h
  | succ n =>
    intro h0
    simp [okT, h0] at h

end

theorem aggOrOne {x : D} : (x.isAgg = true ∧ ∃ l, x = .agg l) ∨ (x.isAgg = false) := by
  cases x <;> simp [D.isAgg]

/-- One value's cells among those of a row. -/
theorem cC_piece {w : World} {S : Nat → Prop} {x : D} {us : List Value} (h : cC w S x us) (h1 : x.isAgg = true ∨ x.one = true) : cCs w S x.cells us := by
  cases x <;> simp [D.isAgg, D.one] at h1 <;> simp only [D.cells] <;> (try exact h)
  all_goals
    have hl := cC_length _ _ h
    simp only [D.cells, List.length_cons, List.length_nil] at hl
    match us, hl with
    | [u], _ =>
      simp only [cCs]
      exact ⟨u, [], rfl, rfl, h, rfl⟩

theorem cCs_app {w : World} {S : Nat → Prop} : ∀ {l r : List D} {us vs : List Value}, cCs w S l us → cCs w S r vs → cCs w S (l ++ r) (us ++ vs)
  | [], r, us, vs, h, k => by simp only [cCs] at h; subst h; simpa using k
  | x :: l, r, us, vs, h, k => by
    simp only [cCs] at h
    obtain ⟨v, t, rfl, h2, h3, h4⟩ := h
    simp only [List.cons_append, cCs]
    exact ⟨v, t ++ vs, rfl, h2, h3, cCs_app h4 k⟩

theorem cells?_mem {w : World} {base : Nat} {a : Addr} {n : Nat} {cs : List Value} (h : w.cells? base a n = some cs) : cs.length = n ∧ ∀ j v, cs[j]? = some v → w.cell? (a.add j) = some v := by
  unfold World.cells? at h
  split at h
  · refine ⟨by simpa using mapM_some_length h, fun j v hj => ?_⟩
    have hl : cs.length = n := by simpa using mapM_some_length h
    have hjn : j < n := by rw [← hl]; exact (List.getElem?_eq_some_iff.1 hj).1
    have := mapM_some_get h j j (by simp [hjn])
    rw [this]; exact hj
  · cases h

theorem cell_plain {w : World} {a : Addr} {v : Value} (h : w.cell? a = some v) : a = ⟨a.block, a.off, none⟩ ∧ a.block < w.heap.size := by
  unfold World.cell? at h
  split at h
  · rename_i c _ _ hc
    split at h
    · cases h
    · rename_i hs
      refine ⟨?_, (Array.getElem?_eq_some_iff.1 hc).1⟩
      obtain ⟨b, o, s⟩ := a
      cases s with
      | none => rfl
      | some s => exact absurd rfl hs
  · cases h

section
variable {P : Program} {E : TE} (hE : EOK P E) {H : Type} {enc : TypeId × Value → H} {w : World} {sp : Nat → Bool} {hd : Bool}
include hE

theorem cellsOf_eq {t : Nat} (h : (E t).kind ≠ 0) : P.cellsOf t = (E t).size := by
  obtain ⟨i, d, z, h1, h2, h3, _⟩ := (hE.facts h).ex
  simp [Program.cellsOf, h1, h3]

theorem shp_size {n : Nat} : ∀ (t : Nat) (x : D), okT E n t = true → shp E n t x → x.cells.length = (E t).size := by
  induction n with
  | zero => intro t x h; simp [okT] at h
  | succ n ih =>
    intro t x h hs
    have hk := okT_kind E h
    have hone : (E t).kind = 1 ∨ (E t).kind = 2 ∨ (E t).kind = 3 ∨ (E t).kind = 4 → (E t).size = 1 := by
      intro hh
      have hz := fits_one (hE.facts hk).zfit
      have hfit := (hE.facts hk).zfit
      simp only [fits, Bool.and_eq_true, beq_iff_eq] at hfit
      have hagg : (E t).agg = false := by rcases hh with hh | hh | hh | hh <;> simp [TI.agg, hh]
      rw [hagg] at hfit
      have hna := hfit.1
      have hl := hfit.2.1
      cases hzz : (E t).zero <;> rw [hzz] at hna hl <;> simp [AV.isAgg] at hna <;> (try (simp [AV.cells] at hl; exact hl.symm))
      rename_i d
      cases d <;> simp at hna <;> (simp [AV.cells] at hl; exact hl.symm)
    simp only [okT] at h
    simp only [shp] at hs
    split at hs
    · rename_i hk1
      obtain ⟨k, rfl, _⟩ := hs
      rw [hone (.inl hk1)]; rfl
    · rename_i hk1
      obtain ⟨k, rfl⟩ := hs
      rw [hone (.inr (.inl hk1))]; rfl
    · rename_i hk1
      obtain ⟨k, rfl, _⟩ := hs
      rw [hone (.inr (.inr (.inl hk1)))]; rfl
    · rename_i hk1
      obtain ⟨k, rfl, _⟩ := hs
      rw [hone (.inr (.inr (.inr hk1)))]; rfl
    · rename_i hk5
      rw [hk5] at h
      obtain ⟨cs, rfl, hf⟩ := hs
      have : ∀ (fs : List (Nat × Nat)) (off size : Nat) (cs : List D), laidF E (okT E n) fs off size = true → shpF (shp E n) fs cs → off + cs.length = size := by
        intro fs
        induction fs with
        | nil => intro off size cs h1 h2; simp [laidF] at h1; simp [shpF] at h2; simp [h1, h2]
        | cons p fs ihf =>
          intro off size cs h1 h2
          simp only [laidF, Bool.and_eq_true, beq_iff_eq] at h1
          obtain ⟨y, r, e1, rfl, e3⟩ := h2
          have := ihf _ _ _ h1.2 e3
          have := ih _ _ h1.1.2 e1
          simp
          omega
      have := this _ _ _ _ h hf
      simpa [D.cells] using this
    · rename_i hk6
      rw [hk6] at h
      simp only [Bool.and_eq_true, beq_iff_eq] at h
      obtain ⟨ys, rfl, hl, hy⟩ := hs
      have : ∀ (ys : List D), (∀ y ∈ ys, shp E n (E t).elem y) → (ys.flatMap D.cells).length = ys.length * (E (E t).elem).size := by
        intro ys
        induction ys with
        | nil => intro _; simp
        | cons y ys ihy =>
          intro hh
          simp only [List.flatMap_cons, List.length_append, List.length_cons]
          rw [ihy (fun z hz => hh z (by simp [hz])), ih _ _ h.1 (hh y (by simp)), Nat.add_mul]
          omega
      simp only [D.cells]
      rw [this ys hy, hl, h.2]
    · exact hs.elim

omit hE in
theorem shp_piece {n t : Nat} {x : D} (h : shp E n t x) : x.isAgg = true ∨ x.one = true := by
  cases n with
  | zero => exact h.elim
  | succ n =>
    simp only [shp] at h
    split at h
    · obtain ⟨k, rfl, _⟩ := h; exact .inr rfl
    · obtain ⟨k, rfl⟩ := h; exact .inr rfl
    · obtain ⟨k, rfl, _⟩ := h; exact .inr rfl
    · obtain ⟨k, rfl, _⟩ := h; exact .inr rfl
    · obtain ⟨k, rfl, _⟩ := h; exact .inl rfl
    · obtain ⟨k, rfl, _⟩ := h; exact .inl rfl
    · exact h.elim

/-- A reading is data. -/
theorem trod_shp {n : Nat} : ∀ (t fuel : Nat) (cs : List Value) (y : DataW H × List MemPlace), okT E n t = true → DataW.trod enc P w 0 sp hd fuel t cs = some y →
    ∃ x, shp E n t x ∧ cC w (fun b => b < w.heap.size) x cs := by
  induction n with
  | zero => intro t fuel cs y h; simp [okT] at h
  | succ n ih =>
    intro t fuel cs y h hy
    have hk := okT_kind E h
    have h0 := h
    simp only [okT] at h
    simp only [shp]
    split at h
    · rename_i hk1
      obtain ⟨k, rfl, rfl, hw⟩ := DataW.trod_int (und_int hE hk1) hy
      exact ⟨.int (E t).ik k, ⟨k, rfl, hw⟩, by simp [cC]⟩
    · rename_i hk1
      obtain ⟨b, rfl, rfl⟩ := DataW.trod_bool (und_bool hE hk1) hy
      exact ⟨.bool b, ⟨b, rfl⟩, by simp [cC]⟩
    · rename_i hk1
      obtain ⟨s, rfl, rfl, hs⟩ := DataW.trod_string (und_string hE hk1) hy
      exact ⟨.str s.data.toList, ⟨_, rfl, by rw [Array.length_toList]; exact hs⟩, by simp [cC]⟩
    · rename_i hk4
      have hek := okT_kind E h
      have hce := cellsOf_eq hE hek
      have hpos := (hE.facts hek).pos
      rcases DataW.trod_slice (und_slice hE hk4) hy with ⟨rfl, rfl⟩ | ⟨a, len, cap, elems, rest, m, _, rfl, rfl, _, hlc, hcm, hel, hget, _⟩
      · exact ⟨.fs [], ⟨[], rfl, Nat.zero_le _, fun y hy => absurd hy (by simp)⟩, by simp [cC]⟩
      · have each : ∀ i, i < len → ∃ x, shp E n (E t).elem x ∧ ∃ us, us.length = (E (E t).elem).size ∧ cC w (fun b => b < w.heap.size) x us ∧ ∀ j v, us[j]? = some v → w.cell? ((a.add (i * (E (E t).elem).size)).add j) = some v := by
          intro i hi
          have := hget i hi
          have hei : elems[i]? = some elems[i] := List.getElem?_eq_getElem (by omega)
          rw [hei] at this
          obtain ⟨us, u1, u2⟩ := Option.bind_eq_some_iff.1 this
          obtain ⟨l1, l2⟩ := cells?_mem u1
          obtain ⟨x, x1, x2⟩ := ih _ _ _ _ h u2
          rw [hce] at l1 l2
          exact ⟨x, x1, us, l1, x2, l2⟩
        have build : ∀ k, k ≤ len → ∃ l : List D, l.length = k ∧ ∀ i x, l[i]? = some x → shp E n (E t).elem x ∧ ∃ us, us.length = (E (E t).elem).size ∧ cC w (fun b => b < w.heap.size) x us ∧ ∀ j v, us[j]? = some v → w.cell? ((a.add (i * (E (E t).elem).size)).add j) = some v := by
          intro k
          induction k with
          | zero => intro _; exact ⟨[], rfl, fun i x hx => by simp at hx⟩
          | succ k ihk =>
            intro hk'
            obtain ⟨l, l1, l2⟩ := ihk (by omega)
            obtain ⟨x, x1, x2⟩ := each k (by omega)
            refine ⟨l ++ [x], by simp [l1], fun i y hy => ?_⟩
            rw [List.getElem?_append] at hy
            split at hy
            · exact l2 i y hy
            · rename_i hi
              have : i = k := by
                have := (List.getElem?_eq_some_iff.1 hy).1
                simp at this; omega
              subst this
              simp [l1] at hy
              subst hy
              exact ⟨x1, x2⟩
        obtain ⟨l, l1, l2⟩ := build len (Nat.le_refl _)
        refine ⟨.fs l, ⟨l, rfl, by omega, fun y hy => ?_⟩, ?_⟩
        · obtain ⟨i, hi⟩ := List.mem_iff_getElem?.1 hy
          exact (l2 i y hi).1
        · simp only [cC]
          refine ⟨some a, cap, by rw [l1], by omega, fun hne => ?_⟩
          have hlp : 0 < l.length := List.length_pos_iff.2 hne
          obtain ⟨_, us, u1, _, u3⟩ := l2 0 l[0] (List.getElem?_eq_getElem hlp)
          have hu0 : us[0]? = some us[0] := List.getElem?_eq_getElem (by omega)
          have h00 := u3 0 _ hu0
          have ha0 : (a.add (0 * (E (E t).elem).size)).add 0 = a := by simp [Addr.add]
          rw [ha0] at h00
          obtain ⟨ha, hb⟩ := cell_plain h00
          obtain ⟨b, o, s⟩ := a
          simp at ha
          subst ha
          refine ⟨b, o, _, rfl, hb, hpos, (cEls_iff _ _).2 fun i x hx => ?_⟩
          obtain ⟨_, us, u1, u2, u3⟩ := l2 i x hx
          refine ⟨us, u1, u2, (memAt_iff _ _).2 fun j v hj => ?_⟩
          have := u3 j v hj
          rw [add_none, add_none] at this
          exact this
    · rename_i hk5
      obtain ⟨fs, hu, hfe, _⟩ := und_struct hE hk5
      obtain ⟨xs, m, _, rfl, hcl, hxl, hget⟩ := DataW.trod_struct hu hy
      have hct := cellsOf_eq hE hk
      rw [hct] at hcl
      have key : ∀ (gs : List (Nat × Nat)) (off : Nat), laidF E (okT E n) gs off (E t).size = true → (∀ p ∈ gs, ∃ y', DataW.trod enc P w 0 sp hd m p.2 ((cs.drop p.1).take (P.cellsOf p.2)) = some y') →
          ∃ ds, shpF (shp E n) gs ds ∧ cCs w (fun b => b < w.heap.size) ds (cs.drop off) := by
        intro gs
        induction gs with
        | nil =>
          intro off h1 _
          simp [laidF] at h1
          refine ⟨[], rfl, ?_⟩
          simp only [cCs]
          exact List.drop_eq_nil_of_le (by omega)
        | cons p gs ihg =>
          intro off h1 h2
          simp only [laidF, Bool.and_eq_true, beq_iff_eq] at h1
          obtain ⟨⟨rfl, h1b⟩, h1c⟩ := h1
          obtain ⟨y', hy'⟩ := h2 p (by simp)
          obtain ⟨x, x1, x2⟩ := ih _ _ _ _ h1b hy'
          obtain ⟨ds, d1, d2⟩ := ihg _ h1c (fun q hq => h2 q (by simp [hq]))
          refine ⟨x.cells ++ ds, ⟨x, ds, x1, rfl, d1⟩, ?_⟩
          have hc2 := cellsOf_eq hE (okT_kind E h1b)
          rw [hc2] at x2
          have := cCs_app (cC_piece x2 (shp_piece x1)) d2
          have e : cs.drop p.1 = (cs.drop p.1).take (E p.2).size ++ cs.drop (p.1 + (E p.2).size) := by
            rw [← List.drop_drop]; exact (List.take_append_drop _ _).symm
          rw [e]
          exact this
      obtain ⟨ds, d1, d2⟩ := key (E t).fields 0 h (fun p hp => by
        rw [← hfe] at hp
        obtain ⟨f, hf, rfl⟩ := List.mem_map.1 hp
        obtain ⟨i, hi⟩ := List.mem_iff_getElem?.1 hf
        have hi' : fs[i]? = some f := by simpa using hi
        have := hget i f hi'
        have hil : i < xs.length := by rw [hxl]; exact (Array.getElem?_eq_some_iff.1 hi').1
        rw [List.getElem?_eq_getElem hil] at this
        exact ⟨_, this⟩)
      exact ⟨.agg ds, ⟨ds, rfl, d1⟩, by simpa [cC] using d2⟩
    · rename_i hk6
      simp only [Bool.and_eq_true, beq_iff_eq] at h
      obtain ⟨xs, m, _, rfl, hcl, hxl, hget⟩ := DataW.trod_array (und_array hE hk6) hy
      have hct := cellsOf_eq hE hk
      rw [hct] at hcl
      have hce := cellsOf_eq hE (okT_kind E h.1)
      have key : ∀ k, k ≤ (E t).len → ∃ ys : List D, ys.length = k ∧ (∀ y ∈ ys, shp E n (E t).elem y) ∧ cCs w (fun b => b < w.heap.size) (ys.flatMap D.cells) (cs.take (k * (E (E t).elem).size)) := by
        intro k
        induction k with
        | zero => intro _; exact ⟨[], rfl, fun y hy => absurd hy (by simp), by simp [cCs]⟩
        | succ k ihk =>
          intro hk'
          obtain ⟨ys, y1, y2, y3⟩ := ihk (by omega)
          have := hget k (by omega)
          have hxk : xs[k]? = some xs[k] := List.getElem?_eq_getElem (by omega)
          rw [hxk, hce] at this
          obtain ⟨x, x1, x2⟩ := ih _ _ _ _ h.1 this
          refine ⟨ys ++ [x], by simp [y1], fun y hy => ?_, ?_⟩
          · rcases List.mem_append.1 hy with hy | hy
            · exact y2 y hy
            · simp at hy; subst hy; exact x1
          · have hc := cCs_app y3 (cC_piece x2 (shp_piece x1))
            have e : cs.take ((k + 1) * (E (E t).elem).size) = cs.take (k * (E (E t).elem).size) ++ (cs.drop (k * (E (E t).elem).size)).take (E (E t).elem).size := by
              rw [Nat.add_mul, Nat.one_mul, List.take_add]
            rw [e]
            simpa using hc
      obtain ⟨ys, y1, y2, y3⟩ := key _ (Nat.le_refl _)
      refine ⟨.agg (ys.flatMap D.cells), ⟨ys, rfl, y1, y2⟩, ?_⟩
      simp only [cC]
      rw [h.2, ← hcl, List.take_length] at y3
      exact y3
    · cases h

end
end Dw

/-! DwZf -/
namespace Dw
open Go Go.RowKit Go.ChangeShapes

def St.entry (W : World) : St := ⟨0, fun _ => none, fun b => b < W.heap.size, fun _ => False, fun _ => False, fun b => b < W.heap.size⟩

theorem WR.entry (W : World) : WR W.heap.size W W (St.entry W) [] where
  below := Below.refl _ _
  base := Nat.le_refl _
  len := rfl
  obj := fun id o h => by simp at h
  dom := fun id r h => by simp [St.entry] at h
  inj := fun i j r s h => by simp [St.entry] at h
  stab := fun b h => h
  live := fun id r o h => by simp [St.entry] at h
  frz := fun id r o h => by simp [St.entry] at h
  gho := fun id h => h.elim
  x := ⟨fun id r h => by simp [St.entry] at h, fun b h => .inl h, fun b h => h.elim⟩

def shps (E : TE) (n : Nat) : List Nat → List D → Prop
  | [], xs => xs = []
  | t :: ts, xs => ∃ x r, xs = x :: r ∧ shp E n t x ∧ shps E n ts r

section
variable {P : Program} {E : TE} (hE : EOK P E) {H : Type} {enc : TypeId × Value → H}
include hE

theorem trod_cV {n t base : Nat} {W : World} {sp : Nat → Bool} {v : Value} {d : DataW H} {ps : List MemPlace} (ht : okT E n t = true) (hv : Value.okWide P W .any base t v) (h : DataW.Trod enc P W 0 sp true t v d ps) :
    ∃ x, shp E n t x ∧ aV W (St.entry W) (.d x) v := by
  obtain ⟨fuel, h⟩ := h
  obtain ⟨x, h1, h2⟩ := trod_shp hE t fuel _ _ ht h
  refine ⟨x, h1, v.cells.toList, ?_, by simpa [aC, St.entry] using h2⟩
  have hx : (AV.d x).isAgg = x.isAgg := by cases x <;> rfl
  rw [hx]
  cases n with
  | zero => exact h1.elim
  | succ n =>
    simp only [shp] at h1
    split at h1
    · rename_i hk
      obtain ⟨k, rfl, _⟩ := h1
      obtain ⟨m, rfl⟩ := WideShapes.okWide_int (und_int hE hk) hv
      simp [D.isAgg, Value.cells]
    · rename_i hk
      obtain ⟨k, rfl⟩ := h1
      obtain ⟨m, rfl⟩ := WideShapes.okWide_bool (und_bool hE hk) hv
      simp [D.isAgg, Value.cells]
    · rename_i hk
      obtain ⟨k, rfl, _⟩ := h1
      obtain ⟨m, rfl⟩ := WideShapes.okWide_string (und_string hE hk) hv
      simp [D.isAgg, Value.cells]
    · rename_i hk
      obtain ⟨k, rfl, _⟩ := h1
      obtain ⟨a, len, cap, rfl⟩ := WideShapes.okWide_slice (und_slice hE hk) hv
      simp [D.isAgg, Value.cells]
    · rename_i hk
      obtain ⟨k, rfl, _⟩ := h1
      obtain ⟨fs, hu, _⟩ := und_struct hE hk
      obtain ⟨cs, rfl, _⟩ := WideShapes.okWide_struct hu hv
      simp [D.isAgg, Value.cells]
    · rename_i hk
      obtain ⟨k, rfl, _⟩ := h1
      have hu := und_array hE hk
      simp only [Value.okWide, hu] at hv
      obtain ⟨cs, rfl, _⟩ := hv
      simp [D.isAgg, Value.cells]
    · exact h1.elim

theorem args_data {n base : Nat} {W : World} {sp : Nat → Bool} : ∀ (ts : List Nat) (vs : List Value) (ds : List (DataW H)) (ps : List MemPlace), (∀ t ∈ ts, okT E n t = true) →
    (∀ (j : Nat) t v, ts[j]? = some t → vs[j]? = some v → Value.okWide P W .any base t v) → DataW.TrodAll enc P W 0 sp true ts vs ds ps → ∃ xs, shps E n ts xs ∧ aVs W (St.entry W) (xs.map .d) vs
  | [], vs, ds, ps, _, _, h => by
    obtain ⟨rfl, _, _⟩ := trodAll_nil h
    exact ⟨[], rfl, by simp [aVs]⟩
  | t :: ts, vs, ds, ps, hk, hv, h => by
    obtain ⟨v, vs', d, ds', p, q, rfl, rfl, rfl, h1, h2⟩ := trodAll_cons h
    obtain ⟨x, x1, x2⟩ := trod_cV hE (hk t (by simp)) (hv 0 t v rfl rfl) h1
    obtain ⟨xs, y1, y2⟩ := args_data ts vs' ds' q (fun u hu => hk u (by simp [hu])) (fun j u w hu hw => hv (j + 1) u w (by simpa using hu) (by simpa using hw)) h2
    obtain ⟨us, u1, u2⟩ := x2
    exact ⟨x :: xs, ⟨x, xs, rfl, x1, y1⟩, by simp only [List.map_cons, aVs]; exact ⟨v, vs', us, rfl, u1, u2, y2⟩⟩

omit hE in
theorem args_stay {W W' : World} (hl : laidOutB P = true) (hb : Below W.heap.size W W') : ∀ (ts : List Nat) (vs : List Value) (ds : List (DataW H)) (ps : List MemPlace), (∀ t ∈ ts, P.readableRec t = true ∧ t < P.types.size) →
    DataW.TrodAll enc P W 0 (fun _ => true) true ts vs ds ps → (∀ x ∈ ps, x.block < W.heap.size) → DataW.TrodAll enc P W' 0 (fun b => decide (b < W.heap.size)) true ts vs ds ps
  | [], vs, ds, ps, _, h, _ => by
    obtain ⟨rfl, rfl, rfl⟩ := trodAll_nil h
    rfl
  | t :: ts, vs, ds, ps, hr, h, hp => by
    obtain ⟨v, vs', d, ds', p, q, rfl, rfl, rfl, h1, h2⟩ := trodAll_cons h
    exact ⟨p, q, Below.trod hl (hr t (by simp)).1 (hr t (by simp)).2 h1 hb (fun x hx => hp x (by simp [hx])), args_stay hl hb ts vs' ds' q (fun u hu => hr u (by simp [hu])) h2 (fun x hx => hp x (by simp [hx])), rfl⟩

/-- What a row asks of a call of a law, from a walk through it. -/
theorem law_lift {f n t4 : Nat} {fn : Func} {s : ChangeSpec} {apart fresh : Bool} (hf : P.funcs[f]? = some fn) (hn : (fn.name == "runtime.NumGoroutine") = false) (hb : fn.body.isNone = false) (hl : laidOutB P = true)
    (hs : s.vars = []) (hspec : ∀ (H : Type) (ds : List (DataW H)), ds.length = fn.params.size → s.fn H ds = { results := [.lit (.bool true)], args := ds }) (hres : fn.resultTypes = #[t4]) (h4 : P.underlying t4 = some .bool)
    (hok : (fn.params.toList.all fun t => okT E n t && (P.readableRec t && decide (t < P.types.size))) = true) (hrun : ∀ xs, shps E n fn.params.toList xs → Run P f (xs.map .d) [] (.d (.bool true)) [])
    (W : World) (base : Nat) (args : Array Value) (ds gs : List (DataW H)) (before : List MemPlace)
    (hval : ∀ (j : Nat) t v, fn.params[j]? = some t → args[j]? = some v → Value.okWide P W .any base t v) (hW : DataW.Whole enc P fn.params.toList s.vars apart W args.toList ds gs before) :
    Calls P f args W fun e W' => ∃ v, e = .returned v ∧ s.post enc P fn apart fresh false false W args v W' := by
  have hW' := hW
  obtain ⟨p, q, hA, hV, rfl, hfz, hnd⟩ := hW
  rw [hs] at hV
  obtain ⟨rfl, rfl⟩ := trodVars_none hV
  simp only [List.all_eq_true, Bool.and_eq_true, decide_eq_true_eq] at hok
  obtain ⟨xs, x1, x2⟩ := args_data hE (n := n) (base := base) fn.params.toList args.toList ds p (fun t ht => (hok t ht).1) (fun j t v hj hv => hval j t v (by simpa using hj) (by simpa using hv)) hA
  have hgood := hrun xs x1 W.heap.size W W (St.entry W) args.toList (WR.entry W) x2
  have hcall : (callFunc f args.toList.toArray).run P W = .ok (.enter f args) W := by
    simp only [callFunc, Sem.run_bind, run_program, Result.andThen_ok, hf, hn, hb, Bool.false_eq_true, if_false, Sem.run_pure, Array.toArray_toList]
  rw [hcall] at hgood
  refine Calls.mono (hgood : Calls P f args W _) fun e W' ⟨v, he, st', hw', hv', _, _⟩ => ?_
  subst he
  have hvb := aV_bool.1 hv'
  subst hvb
  have hdl : ds.length = fn.params.size := by
    have : ∀ (ts : List Nat) (vs : List Value) (ds : List (DataW H)) (ps : List MemPlace), DataW.TrodAll enc P W 0 (fun _ => true) true ts vs ds ps → ds.length = ts.length := by
      intro ts
      induction ts with
      | nil => intro vs ds ps h; obtain ⟨_, rfl, _⟩ := trodAll_nil h; rfl
      | cons t ts ih =>
        intro vs ds ps h
        obtain ⟨v, vs', d, ds', p, q, rfl, rfl, rfl, h1, h2⟩ := trodAll_cons h
        simp [ih _ _ _ h2]
    have := this _ _ _ _ hA
    simpa using this
  have hsp := hspec H (ds ++ []) (by simpa using hdl)
  have hlt : ∀ x ∈ p, x.block < W.heap.size := fun x hx => by simpa using hW'.lt x (by simp [hx])
  refine ⟨_, rfl, ds, [], p ++ [], [], p, [], hW', ?_, ?_, ?_, ?_, fun h => Bool.noConfusion h⟩
  · rw [hsp, hres]
    exact trodAll_mk1 (shut_bool h4 true)
  · rw [hsp]
    simp only [List.append_nil]
    exact args_stay hl hw'.below _ _ _ _ (fun t ht => (hok t ht).2) hA hlt
  · rw [hsp, hs]
    rfl
  · exact hw'.below.frame _

end
end Dw

/-! Sh -/
namespace Go.Proofs.Ytjbipdppgoldlaa
open Go Dw
theorem map_of {α : Type} {f : α → D} : ∀ (l : List D), (∀ y ∈ l, ∃ a, y = f a) → ∃ r : List α, l = r.map f
  | [], _ => ⟨[], rfl⟩
  | x :: l, h => by
    obtain ⟨a, rfl⟩ := h x (by simp)
    obtain ⟨r, rfl⟩ := map_of l fun y hy => h y (by simp [hy])
    exact ⟨a :: r, rfl⟩
theorem shpRef {n : Nat} {x : D} (h : shp E (n + 2) 41 x) : ∃ r : Ref, x = r.enc := by
  obtain ⟨cs, rfl, y1, r1, ⟨k1, rfl, _⟩, rfl, y2, r2, ⟨k2, rfl, _⟩, rfl, rfl⟩ := h
  exact ⟨⟨k1, k2⟩, rfl⟩
theorem shpChg {n : Nat} {x : D} (h : shp E (n + 3) 43 x) : ∃ r : Chg, x = r.enc := by
  obtain ⟨cs, rfl, y1, r1, ⟨k1, rfl, _⟩, rfl, y2, r2, h2, rfl, y3, r3, h3, rfl, y4, r4, ⟨k4, rfl, _⟩, rfl, y5, r5, ⟨k5, rfl, _⟩, rfl, y6, r6, ⟨k6, rfl, _⟩, rfl, rfl⟩ := h
  obtain ⟨a, rfl⟩ := shpRef h2
  obtain ⟨b, rfl⟩ := shpRef h3
  exact ⟨⟨k1, a, b, k4, k5, k6⟩, rfl⟩
theorem shpOpn {n : Nat} {x : D} (h : shp E (n + 3) 102 x) : ∃ r : Opn, x = r.enc := by
  obtain ⟨cs, rfl, y2, r2, h2, rfl, y4, r4, ⟨k4, rfl, _⟩, rfl, rfl⟩ := h
  obtain ⟨a, rfl⟩ := shpRef h2
  exact ⟨⟨a, k4⟩, rfl⟩
theorem shpJrn {n : Nat} {x : D} (h : shp E (n + 5) 25 x) : ∃ r : Jrn, x = r.enc := by
  obtain ⟨cs, rfl, y1, r1, ⟨k1, rfl, _⟩, rfl, y2, r2, ⟨k2, rfl, _⟩, rfl, y3, r3, ⟨k3, rfl, _⟩, rfl, y4, r4, ⟨k4, rfl, _⟩, rfl, y5, r5, ⟨k5, rfl, _, h5⟩, rfl, y6, r6, ⟨k6, rfl, _, h6⟩, rfl, rfl⟩ := h
  obtain ⟨a, rfl⟩ := map_of k5 fun y hy => shpChg (h5 y hy)
  obtain ⟨b, rfl⟩ := map_of k6 fun y hy => shpOpn (h6 y hy)
  exact ⟨⟨k1, k2, k3, k4, a, b⟩, rfl⟩
theorem shpEvt {n : Nat} {x : D} (h : shp E (n + 3) 61 x) : ∃ r : Evt, x = r.enc := by
  obtain ⟨cs, rfl, y2, r2, h2, rfl, y3, r3, h3, rfl, y4, r4, ⟨k4, rfl, _⟩, rfl, y5, r5, ⟨k5, rfl, _⟩, rfl, y6, r6, ⟨k6, rfl, _⟩, rfl, y7, r7, h7, rfl, y8, r8, ⟨k8, rfl, _⟩, rfl, rfl⟩ := h
  obtain ⟨a, rfl⟩ := shpRef h2
  obtain ⟨b, rfl⟩ := shpRef h3
  obtain ⟨c, rfl⟩ := shpRef h7
  exact ⟨⟨a, b, k4, k5, k6, c, k8⟩, rfl⟩
theorem shps4 {xs : List D} (h : shps E 5 Try.f4.params.toList xs) : ∃ (j : Jrn) (a b : Int) (s : List UInt8), xs = [j.enc, .agg [i a, i b], .str s] := by
  obtain ⟨x1, r1, rfl, h1, x2, r2, rfl, h2, x3, r3, rfl, ⟨s, rfl, _⟩, rfl⟩ := h
  obtain ⟨j, rfl⟩ := shpJrn h1
  obtain ⟨ys, rfl, hl, hy⟩ := h2
  match ys, hl, hy with
  | [u, v], _, hy =>
    obtain ⟨a, rfl, _⟩ := hy u (by simp)
    obtain ⟨b, rfl, _⟩ := hy v (by simp)
    exact ⟨j, a, b, s, rfl⟩
end Go.Proofs.Ytjbipdppgoldlaa

/-! La -/
namespace Go.Proofs.Ytjbipdppgoldlaa
open Go Dw Go.ChangeShapes Go.RowKit
theorem own : ownKnob Try.prog.godebug = none := by kernel_rfl
theorem laidOut : laidOutB Try.prog = true := by kernel_rfl

section
attribute [local irreducible] Run
theorem hrun4 : ∀ xs, shps E 5 Try.f4.params.toList xs → Run Try.prog 4 (xs.map .d) [] (.d (.bool true)) [] := by
  intro xs h
  obtain ⟨j, a, b, s, rfl⟩ := shps4 h
  exact c4 j a b s
end

set_option maxRecDepth 100000 in
theorem lifted4 (os : Os) (started : os.Started) (H : Type) (enc : TypeId × Value → H) :
    ReturnsInHanded {} Try.checked os 4 .any (Rows.changesErrorsSpec.pre6 enc Try.prog Try.f4 Rows.changesErrorsRow.domain false) (Rows.changesErrorsSpec.post enc Try.prog Try.f4 false true false false) := by
  refine returnsInHanded_of_change (C := Try.checked) own started (by kernel_rfl) Try.func4
    (ChangeSpec.witness6 (enc := enc) (C := Try.checked) false ⟨#[], #[.agg #[.int .i64 0, .int .i64 0, .int .i64 0, .int .i64 0, .slice none 0 0, .slice none 0 0], .agg #[.int .i64 0, .int .i64 0], .string ⟨#[]⟩], []⟩ 8 (by kernel_rfl) (by kernel_rfl) (by kernel_rfl) (by kernel_rfl)) ?_
  intro W base args ds gs before hval hW _ _
  refine law_lift (n := 5) (t4 := 4) eok Try.func4 (by kernel_rfl) rfl laidOut rfl ?_ rfl Try.underlying4 (by kernel_rfl) hrun4 W base args ds gs before hval hW
  intro H ds hds
  match ds, hds with
  | [a, b, c], _ => rfl

theorem over4 : Rows.changesErrorsRow.holds Try.pinned (OpenSpec.ofChange Rows.changesErrorsSpec) :=
  OpenClaim.holds_of_wide 4 Try.f4 rfl rfl rfl rfl rfl rfl rfl ⟨rfl, rfl, rfl, rfl, rfl⟩ rfl rfl rfl rfl rfl (by kernel_rfl) Try.func4 (by kernel_rfl)
    (of_decide_eq_true (by kernel_rfl)) (by unfold Func.isWrapper; first | (rw [if_pos (by decide +kernel)]; kernel_rfl) | (rw [if_neg (by decide +kernel)]; exact ⟨rfl, rfl⟩))
    (fun os started H enc _ => lifted4 os started H enc)
theorem changesErrors_proved : Rows.ChangesErrorsSaid := over4

end Go.Proofs.Ytjbipdppgoldlaa
