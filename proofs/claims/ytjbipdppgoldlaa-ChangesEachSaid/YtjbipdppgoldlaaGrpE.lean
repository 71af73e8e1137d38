/-
  Own lemmas, no conditions: Wp, Wq, Wr, Cl, Aw, Wv, Sh.
-/
import Derived.Test.YtjbipdppgoldlaaGrpD
import Derived.Test.YtjbipdppgoldlaaRows
set_option linter.unusedVariables false
set_option linter.unusedSimpArgs false

/-! Wp -/
namespace Go.Proofs.Ytjbipdppgoldlaa
open Go Dw
set_option maxRecDepth 10000
set_option linter.unusedVariables false
set_option linter.unusedSimpArgs false
attribute [local irreducible] Run
set_option maxHeartbeats 2000000

def openGo (f : Ref) (r : Int) : List Opn → Bool → List Opn → List Opn
  | [], d, out => if d then out else out ++ [⟨f, r⟩]
  | o :: l, d, out => openGo f r l (d || less f o.file)
      (if o.file = f then (if !d && less f o.file then out ++ [⟨f, r⟩] else out) else (if !d && less f o.file then out ++ [⟨f, r⟩] else out) ++ [o])
def Jrn.opened (j : Jrn) (f : Ref) (r : Int) : Jrn := { j with opens := openGo f r j.opens (decide (r = 0)) [] }
theorem openGo_drop {f : Ref} {r : Int} {l : List Opn} {k : Nat} {d : Bool} {out : List Opn} (h : k < l.length) : openGo f r (l.drop k) d out = openGo f r (l.drop (k + 1)) (d || less f l[k].file)
      (if l[k].file = f then (if !d && less f l[k].file then out ++ [⟨f, r⟩] else out) else (if !d && less f l[k].file then out ++ [⟨f, r⟩] else out) ++ [l[k]]) := by
  rw [List.drop_eq_getElem_cons h]; rfl
theorem openGo_end {f : Ref} {r : Int} {l : List Opn} {k : Nat} {d : Bool} {out : List Opn} (h : l.length ≤ k) : openGo f r (l.drop k) d out = if d then out else out ++ [⟨f, r⟩] := by
  rw [List.drop_eq_nil_of_le h]; rfl

theorem c98 (j : Jrn) (f : Ref) (r : Int) (ho : j.opens.length < 1000000) : Fn 98 [j.enc, f.enc, i r] (j.opened f r).enc := by
  refine run_walkF eok Try.func98 rfl (by kernel_rfl) ?_
  conv => whnf
  repeat' (first
    | (refine on_ref (fun h => ?_) (fun h => ?_) <;> conv => whnf)
    | (refine on_refn (fun h => ?_) (fun h => ?_) <;> conv => whnf)
    | ((with_reducible refine on_dec_f ?_ ?_); (focus ((try simp only [List.length_map, List.length_cons, List.length_nil, List.length_append]); omega)); conv => whnf)
    | ((with_reducible refine on_dec_t ?_ ?_); (focus ((try simp only [List.length_map, List.length_cons, List.length_nil, List.length_append]); omega)); conv => whnf)
    | ((with_reducible refine on_dec (fun h => ?_) (fun h => ?_)) <;> (try simp only [List.length_map] at h) <;> conv => whnf)
    | ((with_reducible refine on_ndec (fun h => ?_) (fun h => ?_)) <;> (try simp only [List.length_map] at h) <;> conv => whnf)
    | ((with_reducible refine on_not (fun h => ?_) (fun h => ?_)) <;> conv => whnf)
    | ((with_reducible refine onBool_split (fun h => ?_) (fun h => ?_)) <;> conv => whnf)
    | (refine call_step (run_view (c67 _ _) rfl rfl) ?_; conv => whnf)
    | (refine ⟨[], [], (by decide +kernel), ?_⟩; conv => whnf)
    | (refine loop3 (fun (k : Nat) (d : Bool) (out : List Opn) => j.opens.length - k) (fun (k : Nat) (d : Bool) (out : List Opn) => k ≤ j.opens.length ∧ out.length ≤ 2 * k ∧ openGo f r j.opens (decide (r = 0)) [] = openGo f r (j.opens.drop k) d out) (fun (k : Nat) (d : Bool) (out : List Opn) => [(2, .d (i r)), (3, .ptr 0 0 0), (4, .ptr 1 0 0), (6, .ptr 2 0 0), (7, .sl 3 0 out.length 3 none), (8, .d (.bool d)), (9, .d (i k))]) (fun (k : Nat) (d : Bool) (out : List Opn) => [⟨[.d j.enc], 6, 0⟩, ⟨[.d f.enc], 2, 0⟩, ⟨[.junk], 6, 0⟩, ⟨(out.map Opn.enc).map .d, 3, 0⟩]) (0) (decide (r = 0)) ([]) (by exact ⟨by omega, by simp, rfl⟩) ?_ (fun k d out C hI hC => ?_); (exact ⟨[.old 0, .old 1, .old 2, .void 3], rfl, rfl, ⟨rfl, ⟨rfl, rfl, rfl⟩, ⟨rfl, rfl, rfl⟩, ⟨rfl, rfl, rfl⟩, ⟨rfl, rfl, rfl, rfl⟩, rfl, rfl, trivial⟩, ⟨⟨rfl, rfl, .inl ⟨[_], rfl, rfl⟩⟩, ⟨rfl, rfl, .inl ⟨[_], rfl, rfl⟩⟩, ⟨rfl, rfl, .inr ⟨trivial, trivial⟩⟩, ⟨rfl, rfl, (by decide), rfl⟩, trivial⟩⟩); all_goals (conv => whnf))
    | (refine hC (k + 1) (d) (out) _ _ ?_ (by omega) ?_; clear hC; rotate_left; (exact ⟨[.old 0, .old 1, .old 2, .old 3], rfl, rfl, ⟨(by first | exact congrArg (D.int .i64) (by omega) | exact ⟨rfl, rfl, rfl⟩ | exact ⟨rfl, rfl, rfl, rfl, rfl⟩ | (show (_ : D) = _; with_reducible rfl)), (by first | exact congrArg (D.int .i64) (by omega) | exact ⟨rfl, rfl, rfl⟩ | exact ⟨rfl, rfl, rfl, rfl, rfl⟩ | (show (_ : D) = _; with_reducible rfl)), (by first | exact congrArg (D.int .i64) (by omega) | exact ⟨rfl, rfl, rfl⟩ | exact ⟨rfl, rfl, rfl, rfl, rfl⟩ | (show (_ : D) = _; with_reducible rfl)), (by first | exact congrArg (D.int .i64) (by omega) | exact ⟨rfl, rfl, rfl⟩ | exact ⟨rfl, rfl, rfl, rfl, rfl⟩ | (show (_ : D) = _; with_reducible rfl)), ⟨rfl, rfl, (by simp), rfl, rfl⟩, (by first | exact congrArg (D.int .i64) (by omega) | exact ⟨rfl, rfl, rfl⟩ | exact ⟨rfl, rfl, rfl, rfl, rfl⟩ | (show (_ : D) = _; with_reducible rfl)), (by first | exact congrArg (D.int .i64) (by omega) | exact ⟨rfl, rfl, rfl⟩ | exact ⟨rfl, rfl, rfl, rfl, rfl⟩ | (show (_ : D) = _; with_reducible rfl)), trivial⟩, ⟨⟨rfl, rfl, .inl ⟨[_], rfl, rfl⟩⟩, ⟨rfl, rfl, .inl ⟨[_], rfl, rfl⟩⟩, ⟨rfl, rfl, .inr ⟨trivial, trivial⟩⟩, ⟨rfl, rfl, .inr ((wksd _ _))⟩, trivial⟩⟩); (exact ⟨by omega, by (first | omega | (simp; omega)), by rw [hI.2.2, openGo_drop (by omega)]; simp_all⟩))
    | (refine hC (k + 1) (d) (out ++ [j.opens[k]]) _ _ ?_ (by omega) ?_; clear hC; rotate_left; (exact ⟨[.old 0, .old 1, .old 2, .old 5], rfl, rfl, ⟨(by first | exact congrArg (D.int .i64) (by omega) | exact ⟨rfl, rfl, rfl⟩ | exact ⟨rfl, rfl, rfl, rfl, rfl⟩ | (show (_ : D) = _; with_reducible rfl)), (by first | exact congrArg (D.int .i64) (by omega) | exact ⟨rfl, rfl, rfl⟩ | exact ⟨rfl, rfl, rfl, rfl, rfl⟩ | (show (_ : D) = _; with_reducible rfl)), (by first | exact congrArg (D.int .i64) (by omega) | exact ⟨rfl, rfl, rfl⟩ | exact ⟨rfl, rfl, rfl, rfl, rfl⟩ | (show (_ : D) = _; with_reducible rfl)), (by first | exact congrArg (D.int .i64) (by omega) | exact ⟨rfl, rfl, rfl⟩ | exact ⟨rfl, rfl, rfl, rfl, rfl⟩ | (show (_ : D) = _; with_reducible rfl)), ⟨rfl, rfl, (by simp), rfl, rfl⟩, (by first | exact congrArg (D.int .i64) (by omega) | exact ⟨rfl, rfl, rfl⟩ | exact ⟨rfl, rfl, rfl, rfl, rfl⟩ | (show (_ : D) = _; with_reducible rfl)), (by first | exact congrArg (D.int .i64) (by omega) | exact ⟨rfl, rfl, rfl⟩ | exact ⟨rfl, rfl, rfl, rfl, rfl⟩ | (show (_ : D) = _; with_reducible rfl)), trivial⟩, ⟨⟨rfl, rfl, .inl ⟨[_], rfl, rfl⟩⟩, ⟨rfl, rfl, .inl ⟨[_], rfl, rfl⟩⟩, ⟨rfl, rfl, .inr ⟨trivial, trivial⟩⟩, ⟨rfl, rfl, .inr (wks_add (wksd _ _) rfl)⟩, trivial⟩⟩); (exact ⟨by omega, by (first | omega | (simp; omega)), by rw [hI.2.2, openGo_drop (by omega)]; simp_all⟩))
    | (refine hC (k + 1) (true) (out ++ [⟨f, r⟩]) _ _ ?_ (by omega) ?_; clear hC; rotate_left; (exact ⟨[.old 0, .old 1, .old 2, .old 5], rfl, rfl, ⟨(by first | exact congrArg (D.int .i64) (by omega) | exact ⟨rfl, rfl, rfl⟩ | exact ⟨rfl, rfl, rfl, rfl, rfl⟩ | (show (_ : D) = _; with_reducible rfl)), (by first | exact congrArg (D.int .i64) (by omega) | exact ⟨rfl, rfl, rfl⟩ | exact ⟨rfl, rfl, rfl, rfl, rfl⟩ | (show (_ : D) = _; with_reducible rfl)), (by first | exact congrArg (D.int .i64) (by omega) | exact ⟨rfl, rfl, rfl⟩ | exact ⟨rfl, rfl, rfl, rfl, rfl⟩ | (show (_ : D) = _; with_reducible rfl)), (by first | exact congrArg (D.int .i64) (by omega) | exact ⟨rfl, rfl, rfl⟩ | exact ⟨rfl, rfl, rfl, rfl, rfl⟩ | (show (_ : D) = _; with_reducible rfl)), ⟨rfl, rfl, (by simp), rfl, rfl⟩, (by first | exact congrArg (D.int .i64) (by omega) | exact ⟨rfl, rfl, rfl⟩ | exact ⟨rfl, rfl, rfl, rfl, rfl⟩ | (show (_ : D) = _; with_reducible rfl)), (by first | exact congrArg (D.int .i64) (by omega) | exact ⟨rfl, rfl, rfl⟩ | exact ⟨rfl, rfl, rfl, rfl, rfl⟩ | (show (_ : D) = _; with_reducible rfl)), trivial⟩, ⟨⟨rfl, rfl, .inl ⟨[_], rfl, rfl⟩⟩, ⟨rfl, rfl, .inl ⟨[_], rfl, rfl⟩⟩, ⟨rfl, rfl, .inr ⟨trivial, trivial⟩⟩, ⟨rfl, rfl, .inr (wks_add (wksd _ _) ⟨rfl, rfl, rfl, rfl, trivial⟩)⟩, trivial⟩⟩); (exact ⟨by omega, by (first | omega | (simp; omega)), by rw [hI.2.2, openGo_drop (by omega)]; simp_all⟩))
    | (refine hC (k + 1) (true) (out ++ [⟨f, r⟩] ++ [j.opens[k]]) _ _ ?_ (by omega) ?_; clear hC; rotate_left; (exact ⟨[.old 0, .old 1, .old 2, .old 7], rfl, rfl, ⟨(by first | exact congrArg (D.int .i64) (by omega) | exact ⟨rfl, rfl, rfl⟩ | exact ⟨rfl, rfl, rfl, rfl, rfl⟩ | (show (_ : D) = _; with_reducible rfl)), (by first | exact congrArg (D.int .i64) (by omega) | exact ⟨rfl, rfl, rfl⟩ | exact ⟨rfl, rfl, rfl, rfl, rfl⟩ | (show (_ : D) = _; with_reducible rfl)), (by first | exact congrArg (D.int .i64) (by omega) | exact ⟨rfl, rfl, rfl⟩ | exact ⟨rfl, rfl, rfl, rfl, rfl⟩ | (show (_ : D) = _; with_reducible rfl)), (by first | exact congrArg (D.int .i64) (by omega) | exact ⟨rfl, rfl, rfl⟩ | exact ⟨rfl, rfl, rfl, rfl, rfl⟩ | (show (_ : D) = _; with_reducible rfl)), ⟨rfl, rfl, (by simp), rfl, rfl⟩, (by first | exact congrArg (D.int .i64) (by omega) | exact ⟨rfl, rfl, rfl⟩ | exact ⟨rfl, rfl, rfl, rfl, rfl⟩ | (show (_ : D) = _; with_reducible rfl)), (by first | exact congrArg (D.int .i64) (by omega) | exact ⟨rfl, rfl, rfl⟩ | exact ⟨rfl, rfl, rfl, rfl, rfl⟩ | (show (_ : D) = _; with_reducible rfl)), trivial⟩, ⟨⟨rfl, rfl, .inl ⟨[_], rfl, rfl⟩⟩, ⟨rfl, rfl, .inl ⟨[_], rfl, rfl⟩⟩, ⟨rfl, rfl, .inr ⟨trivial, trivial⟩⟩, ⟨rfl, rfl, .inr (wks_add (wks_add (wksd _ _) ⟨rfl, rfl, rfl, rfl, trivial⟩) rfl)⟩, trivial⟩⟩); (exact ⟨by omega, by (first | omega | (simp; omega)), by rw [hI.2.2, openGo_drop (by omega)]; simp_all⟩))
    | (refine ⟨⟨(by first | rfl | (simp; done)), cap_ok (by simp only [List.length_map, List.length_cons, List.length_nil, List.length_append]; omega) rfl⟩, ?_⟩; conv => whnf)
    | (refine ⟨mem_one ⟨rfl, rfl⟩, ?_⟩; conv => whnf)
    | (refine ⟨(by intro y hy; obtain ⟨x, _, rfl⟩ := List.mem_map.1 hy; first | rfl | exact ⟨rfl, rfl⟩), ?_⟩; conv => whnf)
    | (refine ⟨cap_ok (by first | omega | (simp only [List.length_map]; omega)) rfl, ?_⟩; conv => whnf)
    | (refine ix_map (by omega) ?_; conv => whnf)
    | (refine ix_str (by omega) ?_; conv => whnf)
    | (refine wrap64 (by omega) ?_; conv => whnf)
    | (refine ⟨(by simp), ?_⟩; conv => whnf)
    | (exfalso; simp only [List.length_map, List.length_cons, List.length_nil, List.length_append] at h; omega)
    | (refine endxv (view_agg (vlc rfl (vlc rfl (vlc rfl (vlc rfl (vlc rfl (vlc (view_map rfl Nat.two_pos) vln))))))) ?_; subst h; have he := openGo_end (f := f) (r := r) (l := j.opens) (k := k) (d := true) (out := out) (by omega); rw [if_pos rfl] at he; simp only [Jrn.opened, hI.2.2, he]; rfl; done)
    | (refine endxv (view_agg (vlc rfl (vlc rfl (vlc rfl (vlc rfl (vlc rfl (vlc (view_snoc rfl Nat.two_pos rfl) vln))))))) ?_; subst h; have he := openGo_end (f := f) (r := r) (l := j.opens) (k := k) (d := false) (out := out) (by omega); rw [if_neg (by decide)] at he; simp only [Jrn.opened, hI.2.2, he, Jrn.enc, List.map_append, List.map_cons, List.map_nil]; rfl; done)
    | (refine ⟨rfl, ?_⟩; conv => whnf)
    | fail
    )

end Go.Proofs.Ytjbipdppgoldlaa

/-! Wq -/
namespace Go.Proofs.Ytjbipdppgoldlaa
open Go Dw
set_option maxRecDepth 10000
set_option linter.unusedVariables false
set_option linter.unusedSimpArgs false
attribute [local irreducible] Run
set_option maxHeartbeats 4000000

attribute [local irreducible] woI withI hasR
theorem woI_r12 {a b : Int} (ha : 0 ≤ a ∧ a ≤ 4095) : 0 ≤ woI a b ∧ woI a b ≤ 4095 := by
  have := woI_bd (b := b) ha; omega
theorem wr_names {j : Jrn} {x : Chg} (h : ∀ y ∈ j.recs, y.name.length < 1000000) (hx : x.name.length < 1000000) : ∀ y ∈ (j.wr x).recs, y.name.length < 1000000 := by
  intro y hy
  simp only [Jrn.wr, List.mem_append, List.mem_singleton] at hy
  rcases hy with hy | rfl
  · exact h y hy
  · exact hx
theorem opened_names {j : Jrn} {f : Ref} {r : Int} (h : ∀ y ∈ j.recs, y.name.length < 1000000) : ∀ y ∈ (j.opened f r).recs, y.name.length < 1000000 := h
def aft1 (j : Jrn) (e : Evt) : Int × Jrn :=
  if woI (woI e.reasons 3584) (openR j.opens e.file) = 0 then (openR j.opens e.file, j)
  else (withI (openR j.opens e.file) (woI e.reasons 3584), j.wr ⟨0, e.file, e.parent, e.tick, withI (openR j.opens e.file) (woI e.reasons 3584), e.name⟩)
def aft2 (e : Evt) (p : Int × Jrn) : Int × Jrn :=
  if hasR e.reasons 512 then (withI (woI p.1 512) 1024, (p.2.wr ⟨0, e.file, e.parent, e.tick, withI p.1 512, e.name⟩).wr ⟨0, e.file, e.np, e.tick, withI (woI p.1 512) 1024, e.nn⟩) else p
def aft3 (e : Evt) (p : Int × Jrn) : Int × Jrn :=
  if hasR e.reasons 2048 && !decide (p.1 = 0) then (0, p.2.wr (if hasR e.reasons 512 then ⟨0, e.file, e.np, e.tick, withI p.1 2048, e.nn⟩ else ⟨0, e.file, e.parent, e.tick, withI p.1 2048, e.name⟩)) else p
def after (j : Jrn) (e : Evt) : Jrn := ((aft3 e (aft2 e (aft1 j e))).2.opened e.file (aft3 e (aft2 e (aft1 j e))).1).trim

theorem c85 (j : Jrn) (e : Evt) (hr : j.recs.length < 999990) (hn : ∀ x ∈ j.recs, x.name.length < 1000000) (ho : j.opens.length < 999990) (h0 : e.name.length < 1000000) (h1 : e.nn.length < 1000000) (he : 0 ≤ e.reasons ∧ e.reasons ≤ 4095) (hop : 0 ≤ openR j.opens e.file ∧ openR j.opens e.file ≤ 4095) : Fn 85 [j.enc, e.enc] (after j e).enc := by
  refine run_walkF eok Try.func85 rfl (by kernel_rfl) ?_
  conv => whnf
  repeat' (first
    | ((with_reducible refine on_dec_f ?_ ?_); (focus ((try simp only [List.length_map, List.length_cons, List.length_nil, List.length_append]); omega)); conv => whnf)
    | ((with_reducible refine on_dec_t ?_ ?_); (focus ((try simp only [List.length_map, List.length_cons, List.length_nil, List.length_append]); omega)); conv => whnf)
    | ((with_reducible refine on_dec (fun h => ?_) (fun h => ?_)) <;> (try simp only [List.length_map] at h) <;> conv => whnf)
    | ((with_reducible refine on_ndec (fun h => ?_) (fun h => ?_)) <;> (try simp only [List.length_map] at h) <;> conv => whnf)
    | ((with_reducible refine on_not (fun h => ?_) (fun h => ?_)) <;> conv => whnf)
    | ((with_reducible refine onBool_split (fun h => ?_) (fun h => ?_)) <;> conv => whnf)
    | (refine call_step (run_view (c45 _ e.file (by first | assumption | omega)) rfl rfl) ?_; conv => whnf)
    | (refine call_step (run_view (c14 _ _ (by repeat (first | assumption | exact ⟨by decide, by decide⟩ | apply withI_bd | apply woI_r12)) (by repeat (first | assumption | exact ⟨by decide, by decide⟩ | apply withI_bd | apply woI_r12))) rfl rfl) ?_; conv => whnf)
    | (refine call_step (run_view (c30 _ _ (by repeat (first | assumption | exact ⟨by decide, by decide⟩ | apply withI_bd | apply woI_r12)) (by repeat (first | assumption | exact ⟨by decide, by decide⟩ | apply withI_bd | apply woI_r12))) rfl rfl) ?_; conv => whnf)
    | (refine call_step (run_viewF (c97 _ ⟨0, e.file, e.parent, e.tick, _, e.name⟩ (by first | omega | (simp only [Jrn.wr, Jrn.opened, List.length_append, List.length_cons, List.length_nil]; omega)) (by assumption)) rfl) ?_; conv => whnf)
    | (refine call_step (run_viewF (c97 _ ⟨0, e.file, e.np, e.tick, _, e.nn⟩ (by first | omega | (simp only [Jrn.wr, Jrn.opened, List.length_append, List.length_cons, List.length_nil]; omega)) (by assumption)) rfl) ?_; conv => whnf)
    | (refine call_step (run_view (c15 _ _ (by decide)) rfl rfl) ?_; conv => whnf)
    | (refine call_step (run_viewF (c98 _ e.file _ (by first | omega | (simp only [Jrn.wr]; omega))) rfl) ?_; conv => whnf)
    | (refine call_step (run_data (c40 _ (by first | omega | (simp only [Jrn.wr, Jrn.opened, List.length_append, List.length_cons, List.length_nil]; omega)) (by repeat (first | assumption | apply opened_names | apply wr_names))) _) ?_; conv => whnf)
    | (refine ⟨[], [(2, 6), (4, 6), (4, 8)], (by decide +kernel), ?_⟩; conv => whnf)
    | (refine ⟨⟨(by first | rfl | (simp; done)), cap_ok (by simp only [List.length_map, List.length_cons, List.length_nil, List.length_append]; omega) rfl⟩, ?_⟩; conv => whnf)
    | (refine ⟨mem_one ⟨rfl, rfl⟩, ?_⟩; conv => whnf)
    | (refine ⟨(by intro y hy; obtain ⟨x, _, rfl⟩ := List.mem_map.1 hy; first | rfl | exact ⟨rfl, rfl⟩), ?_⟩; conv => whnf)
    | (refine ⟨cap_ok (by first | omega | (simp only [List.length_map]; omega)) rfl, ?_⟩; conv => whnf)
    | (refine ix_map (by omega) ?_; conv => whnf)
    | (refine ix_str (by omega) ?_; conv => whnf)
    | (refine wrap64 (by omega) ?_; conv => whnf)
    | (exfalso; simp only [List.length_map, List.length_cons, List.length_nil, List.length_append] at h; omega)
    | (exact endx (congrArg Jrn.enc (by simp only [after, aft1, aft2, aft3]; simp_all)); done)
    | (refine ⟨rfl, ?_⟩; conv => whnf)
    | fail
    )

end Go.Proofs.Ytjbipdppgoldlaa

/-! Wr -/
namespace Go.Proofs.Ytjbipdppgoldlaa
open Go Dw
set_option maxRecDepth 10000
set_option linter.unusedVariables false
set_option linter.unusedSimpArgs false
attribute [local irreducible] Run

attribute [local irreducible] woI withI hasR
theorem eachRec_ok : ∀ (l : List Chg) (k : Nat) (a : Int), (eachRec l k a).2.1 = 0 → ∀ x ∈ l, recordErr x = 0
  | [], _, _, _, x, hx => by cases hx
  | y :: l, k, a, h, x, hx => by
    simp only [eachRec] at h
    by_cases hy : recErr y a = 0
    · rw [if_pos hy] at h
      rcases List.mem_cons.1 hx with rfl | hx
      · unfold recErr at hy
        rw [first_cons] at hy
        by_cases h2 : recordErr x = 0
        · exact h2
        · rw [if_neg h2] at hy; exact hy
      · exact eachRec_ok l _ _ h x hx
    · rw [if_neg hy] at h
      exact absurd h hy

theorem eachOpn_ok (m : List Opn) : ∀ (l : List Opn) (k : Nat), (eachOpn m l k).2 = 0 → ∀ x ∈ l, refErr x.file = 0 ∧ within x.reasons 1 4095 = true
  | [], _, _, x, hx => by cases hx
  | y :: l, k, h, x, hx => by
    simp only [eachOpn] at h
    by_cases hy : opnErr m k y = 0
    · rw [if_pos hy] at h
      rcases List.mem_cons.1 hx with rfl | hx
      · unfold opnErr at hy
        rw [first_cons] at hy
        by_cases h2 : refErr x.file = 0
        · rw [if_pos h2, first_cons] at hy
          refine ⟨h2, ?_⟩
          by_cases h3 : within x.reasons 1 4095 = true
          · exact h3
          · simp [h3] at hy
        · rw [if_neg h2] at hy; exact absurd hy h2
      · exact eachOpn_ok m l _ h x hx
    · rw [if_neg hy] at h
      exact absurd h hy

theorem within_iff {n lo hi : Int} : within n lo hi = true ↔ lo ≤ n ∧ n ≤ hi := by
  simp only [within, Bool.and_eq_true, decide_eq_true_eq]

theorem recordErr_ok {x : Chg} (h : recordErr x = 0) : refErr x.file = 0 ∧ refErr x.parent = 0 ∧ (0 ≤ x.tick ∧ x.tick ≤ 1000000) ∧ (1 ≤ x.reasons ∧ x.reasons ≤ 4095) ∧ nameErr x.name = 0 := by
  simp only [recordErr, first_cons, first_nil] at h
  by_cases h1 : refErr x.file = 0 <;> by_cases h2 : refErr x.parent = 0 <;> by_cases h3 : (within x.tick 0 1000000 && within x.reasons 1 4095) = true <;> by_cases h4 : nameErr x.name = 0 <;> simp [h1, h2, h3, h4] at h
  rw [Bool.and_eq_true] at h3
  exact ⟨h1, h2, within_iff.1 h3.1, within_iff.1 h3.2, h4⟩

theorem nameErr_ok {s : List UInt8} (h : nameErr s = 0) : 1 ≤ s.length ∧ s.length ≤ 32 ∧ ctl s = false := by
  unfold nameErr at h
  by_cases h1 : (within (s.length : Int) 1 32 && !ctl s) = true
  · rw [Bool.and_eq_true] at h1
    have := within_iff.1 h1.1
    exact ⟨by omega, by omega, by simpa using h1.2⟩
  · rw [if_neg h1] at h; omega

/-- What a valid journal is good for. -/
structure Valid (j : Jrn) : Prop where
  nums : (0 ≤ j.id ∧ j.id ≤ 2147483647) ∧ (0 ≤ j.first ∧ j.first ≤ 2147483647) ∧ (0 ≤ j.next ∧ j.next ≤ 2147483647) ∧ (128 ≤ j.most ∧ j.most ≤ 8192)
  recs : j.recs.length ≤ 200
  opens : j.opens.length ≤ 64
  recOk : ∀ x ∈ j.recs, recordErr x = 0
  opnOk : ∀ x ∈ j.opens, refErr x.file = 0 ∧ 1 ≤ x.reasons ∧ x.reasons ≤ 4095
  each : (eachRec j.recs 0 j.first).2.1 = 0 ∧ j.next = (eachRec j.recs 0 j.first).2.2
  eachO : (eachOpn j.opens j.opens 0).2 = 0

theorem numbersErr_ok {j : Jrn} (h : numbersErr j = 0) : (0 ≤ j.id ∧ j.id ≤ 2147483647) ∧ (0 ≤ j.first ∧ j.first ≤ 2147483647) ∧ (0 ≤ j.next ∧ j.next ≤ 2147483647) ∧ (128 ≤ j.most ∧ j.most ≤ 8192) := by
  unfold numbersErr at h
  split at h
  · rename_i h1
    split at h
    · rename_i h2
      simp only [Bool.and_eq_true] at h1
      exact ⟨within_iff.1 h1.1.1, within_iff.1 h1.1.2, within_iff.1 h1.2, within_iff.1 h2⟩
    · omega
  · omega

theorem valid_of {j : Jrn} (h : (checkJ j).2 = 0) : Valid j := by
  have c1 : first [numbersErr j, if few j then 0 else 8] = 0 := Classical.byContradiction fun c => by
    unfold checkJ at h; rw [if_pos c] at h; exact c h
  unfold checkJ at h
  rw [if_neg (fun c => c c1)] at h
  have c2 : (eachRec j.recs 0 j.first).2.1 = 0 := Classical.byContradiction fun c => by
    rw [if_pos c] at h; exact c h
  rw [if_neg (fun c => c c2)] at h
  have c3 : j.next = (eachRec j.recs 0 j.first).2.2 := Classical.byContradiction fun c => by
    rw [if_pos c] at h; exact absurd h (by decide)
  rw [if_neg (fun c => c c3)] at h
  rw [first_cons] at c1
  by_cases hn : numbersErr j = 0
  · rw [if_pos hn, first_cons] at c1
    by_cases hf : few j = true
    · simp only [few, Bool.and_eq_true, decide_eq_true_eq] at hf
      exact ⟨numbersErr_ok hn, by omega, by omega, eachRec_ok _ _ _ c2, fun x hx => ⟨(eachOpn_ok _ _ _ h x hx).1, within_iff.1 (eachOpn_ok _ _ _ h x hx).2⟩, ⟨c2, c3⟩, h⟩
    · simp [hf] at c1
  · rw [if_neg hn] at c1; exact absurd c1 hn

theorem valid_openR {j : Jrn} (h : Valid j) (f : Ref) : 0 ≤ openR j.opens f ∧ openR j.opens f ≤ 4095 := by
  have key : ∀ (l : List Opn), (∀ x ∈ l, refErr x.file = 0 ∧ 1 ≤ x.reasons ∧ x.reasons ≤ 4095) → 0 ≤ openR l f ∧ openR l f ≤ 4095 := by
    intro l
    induction l with
    | nil => intro _; simp [openR]
    | cons o l ih =>
      intro hl
      simp only [openR]
      have := hl o (by simp)
      split
      · omega
      · exact ih fun x hx => hl x (by simp [hx])
  exact key _ h.opnOk

theorem eventErr_ok {e : Evt} (h : eventErr e = 0) : refErr e.file = 0 ∧ refErr e.parent = 0 ∧ (0 ≤ e.tick ∧ e.tick ≤ 1000000) ∧ (1 ≤ e.reasons ∧ e.reasons ≤ 4095) ∧ has e.reasons 512 = has e.reasons 1024 ∧ nameErr e.name = 0 ∧ (has e.reasons 1024 = true → refErr e.np = 0 ∧ nameErr e.nn = 0) ∧ (has e.reasons 1024 = false → e.np = ⟨0, 0⟩ ∧ e.nn = []) := by
  have h1 : first [refErr e.file, refErr e.parent, if within e.tick 0 1000000 && within e.reasons 1 4095 then 0 else 2, if has e.reasons 512 = has e.reasons 1024 then 0 else 10, nameErr e.name] = 0 := Classical.byContradiction fun c => by
    unfold eventErr at h; rw [if_pos c] at h; exact c h
  unfold eventErr at h
  rw [if_neg (fun c => c h1)] at h
  simp only [first_cons, first_nil] at h1
  by_cases g1 : refErr e.file = 0 <;> by_cases g2 : refErr e.parent = 0 <;> by_cases g3 : (within e.tick 0 1000000 && within e.reasons 1 4095) = true <;> by_cases g4 : has e.reasons 512 = has e.reasons 1024 <;> by_cases g5 : nameErr e.name = 0 <;> simp [g1, g2, g3, g4, g5] at h1
  rw [Bool.and_eq_true] at g3
  refine ⟨g1, g2, within_iff.1 g3.1, within_iff.1 g3.2, g4, g5, fun hb => ?_, fun hb => ?_⟩
  · rw [if_pos hb] at h
    simp only [first_cons, first_nil] at h
    by_cases k1 : refErr e.np = 0 <;> by_cases k2 : nameErr e.nn = 0 <;> simp [k1, k2] at h
    exact ⟨k1, k2⟩
  · rw [if_neg (by simp [hb])] at h
    by_cases k : e.np = ⟨0, 0⟩ ∧ e.nn = []
    · exact k
    · rw [if_neg k] at h; exact absurd h (by decide)

def zeroJ : Jrn := ⟨0, 0, 0, 0, [], []⟩
def full (j : Jrn) : Bool := decide ((64 : Int) < j.opens.length) || decide (2147483647 < j.next) || decide ((200 : Int) < j.recs.length)
def noted (j : Jrn) (e : Evt) : Jrn × Int :=
  if (checkJ j).2 ≠ 0 then (zeroJ, (checkJ j).2) else if eventErr e ≠ 0 then (zeroJ, eventErr e) else if full (after j e) then (zeroJ, 16) else (after j e, 0)

theorem c41 (j : Jrn) (e : Evt) (hr : j.recs.length < 1000000) (hn : ∀ x ∈ j.recs, x.name.length < 1000000) (ho : j.opens.length < 1000000) (h0 : e.name.length < 1000000) (h1 : e.nn.length < 1000000) : Fn 41 [j.enc, e.enc] (.tup [(noted j e).1.enc, i (noted j e).2]) := by
  refine run_walkF eok Try.func41 rfl (by kernel_rfl) ?_
  conv => whnf
  repeat' (first
    | ((with_reducible refine on_dec_f ?_ ?_); (focus ((try simp only [List.length_map, List.length_cons, List.length_nil, List.length_append]); omega)); conv => whnf)
    | ((with_reducible refine on_dec_t ?_ ?_); (focus ((try simp only [List.length_map, List.length_cons, List.length_nil, List.length_append]); omega)); conv => whnf)
    | ((with_reducible refine on_dec (fun h => ?_) (fun h => ?_)) <;> (try simp only [List.length_map] at h) <;> conv => whnf)
    | ((with_reducible refine on_ndec (fun h => ?_) (fun h => ?_)) <;> (try simp only [List.length_map] at h) <;> conv => whnf)
    | ((with_reducible refine on_not (fun h => ?_) (fun h => ?_)) <;> conv => whnf)
    | ((with_reducible refine onBool_split (fun h => ?_) (fun h => ?_)) <;> conv => whnf)
    | (refine call_step (run_view (c11 _ hr hn ho) rfl rfl) ?_; conv => whnf)
    | (refine call_step (run_view (c27 _ h0 h1) rfl rfl) ?_; conv => whnf)
    | (refine call_step (run_data (c85 _ _ (by have := (valid_of (by assumption)).recs; omega) hn (by have := (valid_of (by assumption)).opens; omega) h0 h1 (by have := (eventErr_ok (by assumption)).2.2.2.1; omega) (valid_openR (valid_of (by assumption)) _)) _) ?_; conv => whnf)
    | (refine ⟨⟨(by first | rfl | (simp; done)), cap_ok (by simp only [List.length_map, List.length_cons, List.length_nil, List.length_append]; omega) rfl⟩, ?_⟩; conv => whnf)
    | (refine ⟨mem_one ⟨rfl, rfl⟩, ?_⟩; conv => whnf)
    | (refine ⟨(by intro y hy; obtain ⟨x, _, rfl⟩ := List.mem_map.1 hy; first | rfl | exact ⟨rfl, rfl⟩), ?_⟩; conv => whnf)
    | (refine ⟨cap_ok (by first | omega | (simp only [List.length_map]; omega)) rfl, ?_⟩; conv => whnf)
    | (refine ix_map (by omega) ?_; conv => whnf)
    | (refine ix_str (by omega) ?_; conv => whnf)
    | (refine wrap64 (by omega) ?_; conv => whnf)
    | (exfalso; simp only [List.length_map, List.length_cons, List.length_nil, List.length_append] at h; omega)
    | (refine endxv (view_tup (vlc (view_agg (vlc rfl (vlc rfl (vlc rfl (vlc rfl (vlc rfl (vlc rfl vln))))))) (vlc rfl vln))) ?_; simp_all [noted, zeroJ, Jrn.enc, full]; done)
    | (refine endxv (view_tup (vlc rfl (vlc rfl vln))) ?_; first | (simp_all [noted, zeroJ, full]; done) | (have hf : full (after j e) = false := (by simp only [full, Bool.or_eq_false_iff, decide_eq_false_iff_not]; exact ⟨⟨by assumption, by assumption⟩, by assumption⟩); simp_all [noted]); done)
    | (refine ⟨rfl, ?_⟩; conv => whnf)
    | fail
    )

theorem trimR_sub (n m : Int) : ∀ (l : List Chg) (f : Int), ∀ x ∈ (trimR n m f l).2, x ∈ l
  | [], f, x, hx => hx
  | y :: l, f, x, hx => by
    simp only [trimR] at hx
    split at hx
    · exact List.mem_cons_of_mem _ (trimR_sub n m l _ x hx)
    · exact hx
theorem after_names {j : Jrn} {e : Evt} (hn : ∀ x ∈ j.recs, x.name.length < 1000000) (h0 : e.name.length < 1000000) (h1 : e.nn.length < 1000000) : ∀ x ∈ (after j e).recs, x.name.length < 1000000 := by
  have k1 : ∀ x ∈ (aft1 j e).2.recs, x.name.length < 1000000 := by
    unfold aft1; split
    · exact hn
    · exact wr_names hn h0
  have k2 : ∀ x ∈ (aft2 e (aft1 j e)).2.recs, x.name.length < 1000000 := by
    unfold aft2; split
    · exact wr_names (wr_names k1 h0) h1
    · exact k1
  have k3 : ∀ x ∈ (aft3 e (aft2 e (aft1 j e))).2.recs, x.name.length < 1000000 := by
    unfold aft3; split
    · refine wr_names k2 ?_
      split
      · exact h1
      · exact h0
    · exact k2
  exact fun x hx => k3 x (trimR_sub _ _ _ _ x hx)
theorem noted_bd {j : Jrn} {e : Evt} (hn : ∀ x ∈ j.recs, x.name.length < 1000000) (h0 : e.name.length < 1000000) (h1 : e.nn.length < 1000000) : (noted j e).1.recs.length < 1000000 ∧ (∀ x ∈ (noted j e).1.recs, x.name.length < 1000000) ∧ (noted j e).1.opens.length < 1000000 := by
  unfold noted
  split
  · simp [zeroJ]
  · split
    · simp [zeroJ]
    · split
      · simp [zeroJ]
      · rename_i hf
        simp only [full, Bool.or_eq_true, decide_eq_true_eq] at hf
        exact ⟨by show (after j e).recs.length < _; omega, after_names hn h0 h1, by show (after j e).opens.length < _; omega⟩
def allGo (n : Int) : List Evt → Nat → Jrn → Jrn × Int × Int
  | [], _, j => (j, n, 0)
  | e :: l, k, j => if (noted j e).2 ≠ 0 then (zeroJ, k, (noted j e).2) else allGo n l (k + 1) (noted j e).1
def allR (j : Jrn) (l : List Evt) : Jrn × Int × Int :=
  if (checkJ j).2 ≠ 0 then (zeroJ, 0, (checkJ j).2) else if (200 : Int) < l.length then (zeroJ, 0, 8) else allGo l.length l 0 j
theorem allGo_drop {n : Int} {l : List Evt} {k : Nat} {j : Jrn} (h : k < l.length) : allGo n (l.drop k) k j = if (noted j l[k]).2 ≠ 0 then (zeroJ, (k : Int), (noted j l[k]).2) else allGo n (l.drop (k + 1)) (k + 1) (noted j l[k]).1 := by
  rw [List.drop_eq_getElem_cons h]; rfl
theorem allGo_end {n : Int} {l : List Evt} {k : Nat} {j : Jrn} (h : l.length ≤ k) : allGo n (l.drop k) k j = (j, n, 0) := by
  rw [List.drop_eq_nil_of_le h]; rfl

theorem c38 (j : Jrn) (l : List Evt) (hr : j.recs.length < 1000000) (hn : ∀ x ∈ j.recs, x.name.length < 1000000) (ho : j.opens.length < 1000000) (hel : ∀ e ∈ l, e.name.length < 1000000 ∧ e.nn.length < 1000000) : Fn 38 [j.enc, .fs (l.map Evt.enc)] (.tup [(allR j l).1.enc, i (allR j l).2.1, i (allR j l).2.2]) := by
  refine run_walkF eok Try.func38 rfl (by kernel_rfl) ?_
  conv => whnf
  repeat' (first
    | ((with_reducible refine on_dec_f ?_ ?_); (focus ((try simp only [List.length_map, List.length_cons, List.length_nil, List.length_append]); omega)); conv => whnf)
    | ((with_reducible refine on_dec_t ?_ ?_); (focus ((try simp only [List.length_map, List.length_cons, List.length_nil, List.length_append]); omega)); conv => whnf)
    | ((with_reducible refine on_dec (fun h => ?_) (fun h => ?_)) <;> (try simp only [List.length_map] at h) <;> conv => whnf)
    | ((with_reducible refine on_ndec (fun h => ?_) (fun h => ?_)) <;> (try simp only [List.length_map] at h) <;> conv => whnf)
    | ((with_reducible refine on_not (fun h => ?_) (fun h => ?_)) <;> conv => whnf)
    | ((with_reducible refine onBool_split (fun h => ?_) (fun h => ?_)) <;> conv => whnf)
    | (refine call_step (run_view (c11 _ hr hn ho) rfl rfl) ?_; conv => whnf)
    | (refine call_step (run_data (c41 _ _ hb.1 hb.2.1 hb.2.2 (hel _ (List.getElem_mem _)).1 (hel _ (List.getElem_mem _)).2) _) ?_; conv => whnf)
    | (refine ⟨[], [(9, 5)], (by decide +kernel), ?_⟩; conv => whnf)
    | (refine loop2 (fun (k : Nat) (a : Jrn) => l.length - k) (fun (k : Nat) (a : Jrn) => k ≤ l.length ∧ (a.recs.length < 1000000 ∧ (∀ x ∈ a.recs, x.name.length < 1000000) ∧ a.opens.length < 1000000) ∧ allGo l.length l 0 j = allGo l.length (l.drop k) k a) (fun (k : Nat) (a : Jrn) => [(1, .d (.fs (l.map Evt.enc))), (2, .ptr 0 0 0), (4, .ptr 1 0 0), (8, .d (i k))]) (fun (k : Nat) (a : Jrn) => [⟨[.d a.enc], 6, 0⟩, ⟨[.junk], 6, 0⟩]) (0) (j) (by exact ⟨by omega, ⟨hr, hn, ho⟩, rfl⟩) ?_ (fun k a C hI hC => ?_); (exact ⟨[.old 0, .old 1], rfl, rfl, ⟨(by first | exact congrArg (D.int .i64) (by omega) | exact ⟨rfl, rfl, rfl⟩ | exact ⟨rfl, rfl, rfl, rfl, rfl⟩ | (show (_ : D) = _; with_reducible rfl)), (by first | exact congrArg (D.int .i64) (by omega) | exact ⟨rfl, rfl, rfl⟩ | exact ⟨rfl, rfl, rfl, rfl, rfl⟩ | (show (_ : D) = _; with_reducible rfl)), (by first | exact congrArg (D.int .i64) (by omega) | exact ⟨rfl, rfl, rfl⟩ | exact ⟨rfl, rfl, rfl, rfl, rfl⟩ | (show (_ : D) = _; with_reducible rfl)), (by first | exact congrArg (D.int .i64) (by omega) | exact ⟨rfl, rfl, rfl⟩ | exact ⟨rfl, rfl, rfl, rfl, rfl⟩ | (show (_ : D) = _; with_reducible rfl)), trivial⟩, ⟨⟨rfl, rfl, .inl ⟨[_], rfl, rfl⟩⟩, ⟨rfl, rfl, .inr ⟨trivial, trivial⟩⟩, trivial⟩⟩); have hb := hI.2.1; all_goals (conv => whnf))
    | (refine hC (k + 1) ((noted a l[k]).1) _ _ ?_ (by omega) ?_; clear hC; rotate_left; (exact ⟨[.old 0, .old 1], rfl, rfl, ⟨(by first | exact congrArg (D.int .i64) (by omega) | exact ⟨rfl, rfl, rfl⟩ | exact ⟨rfl, rfl, rfl, rfl, rfl⟩ | (show (_ : D) = _; with_reducible rfl)), (by first | exact congrArg (D.int .i64) (by omega) | exact ⟨rfl, rfl, rfl⟩ | exact ⟨rfl, rfl, rfl, rfl, rfl⟩ | (show (_ : D) = _; with_reducible rfl)), (by first | exact congrArg (D.int .i64) (by omega) | exact ⟨rfl, rfl, rfl⟩ | exact ⟨rfl, rfl, rfl, rfl, rfl⟩ | (show (_ : D) = _; with_reducible rfl)), (by first | exact congrArg (D.int .i64) (by omega) | exact ⟨rfl, rfl, rfl⟩ | exact ⟨rfl, rfl, rfl, rfl, rfl⟩ | (show (_ : D) = _; with_reducible rfl)), trivial⟩, ⟨⟨rfl, rfl, .inl ⟨[_], rfl, rfl⟩⟩, ⟨rfl, rfl, .inr ⟨trivial, trivial⟩⟩, trivial⟩⟩); (exact ⟨by omega, noted_bd hb.2.1 (hel _ (List.getElem_mem _)).1 (hel _ (List.getElem_mem _)).2, by rw [hI.2.2, allGo_drop (by omega), if_neg (by simp [h])]⟩))
    | (refine ⟨⟨(by first | rfl | (simp; done)), cap_ok (by simp only [List.length_map, List.length_cons, List.length_nil, List.length_append]; omega) rfl⟩, ?_⟩; conv => whnf)
    | (refine ⟨mem_one ⟨rfl, rfl⟩, ?_⟩; conv => whnf)
    | (refine ⟨(by intro y hy; obtain ⟨x, _, rfl⟩ := List.mem_map.1 hy; first | rfl | exact ⟨rfl, rfl⟩), ?_⟩; conv => whnf)
    | (refine ⟨cap_ok (by first | omega | (simp only [List.length_map]; omega)) rfl, ?_⟩; conv => whnf)
    | (refine ix_map (by omega) ?_; conv => whnf)
    | (refine ix_str (by omega) ?_; conv => whnf)
    | (refine wrap64 (by omega) ?_; conv => whnf)
    | (exfalso; simp only [List.length_map, List.length_cons, List.length_nil, List.length_append] at h; omega)
    | (refine endxv (view_tup (vlc (view_agg (vlc rfl (vlc rfl (vlc rfl (vlc rfl (vlc rfl (vlc rfl vln))))))) (vlc rfl (vlc rfl vln)))) ?_; simp_all [allR, zeroJ, Jrn.enc]; done)
    | (have he := allGo_drop (n := l.length) (l := l) (k := k) (j := a) (by omega); rw [if_pos (by simpa using h)] at he; refine endxv (view_tup (vlc (view_agg (vlc rfl (vlc rfl (vlc rfl (vlc rfl (vlc rfl (vlc rfl vln))))))) (vlc rfl (vlc rfl vln)))) ?_; rw [allR, if_neg (fun c => c (by assumption)), if_neg (by assumption), hI.2.2, he]; rfl; done)
    | (have he := allGo_end (n := l.length) (l := l) (k := k) (j := a) (by omega); refine endxv (view_tup (vlc rfl (vlc rfl (vlc rfl vln)))) ?_; simp_all [allR, zeroJ, -Int.not_lt]; done)
    | (refine ⟨rfl, ?_⟩; conv => whnf)
    | fail
    )

end Go.Proofs.Ytjbipdppgoldlaa

/-! Cl -/
namespace Go.Proofs.Ytjbipdppgoldlaa
open Go Dw
set_option maxRecDepth 10000
attribute [local irreducible] Run
theorem cl91 : ClSpec Try.prog 91 8 := by
  refine clSpec_of (fun a c => ?_) (fun x l hl hk => ?_)
  · cases a <;> (refine run_walkF eok Try.func91 rfl (by kernel_rfl) ?_; conv => whnf)
    · refine endX_of (.inl ⟨[.void 8], rfl, rfl, ⟨⟨rfl, rfl, rfl, rfl⟩, trivial⟩, ⟨rfl, rfl, by decide, rfl⟩, trivial⟩)
    · refine ⟨by decide, ?_⟩; conv => whnf
      refine endX_of (.inl ⟨[.old 0], rfl, rfl, ⟨⟨rfl, rfl, rfl, rfl, rfl⟩, trivial⟩, ⟨rfl, rfl, .inr (wksd _ [])⟩, trivial⟩)
  · refine run_walkF eok Try.func91 rfl (by kernel_rfl) ?_
    conv => whnf
    refine ⟨hk, ?_⟩; conv => whnf
    refine ⟨cap_ok (by simp only [List.length_map]; omega) rfl, ?_⟩; conv => whnf
    refine endX_of (.inl ⟨[.old 0], rfl, rfl, ⟨⟨rfl, rfl, ?_, rfl, rfl⟩, trivial⟩, ⟨rfl, rfl, .inr (wksd _ _)⟩, trivial⟩)
    simp only [List.length_map]
theorem cl92 : ClSpec Try.prog 92 3 := by
  refine clSpec_of (fun a c => ?_) (fun x l hl hk => ?_)
  · cases a <;> (refine run_walkF eok Try.func92 rfl (by kernel_rfl) ?_; conv => whnf)
    · refine endX_of (.inl ⟨[.void 3], rfl, rfl, ⟨⟨rfl, rfl, rfl, rfl⟩, trivial⟩, ⟨rfl, rfl, by decide, rfl⟩, trivial⟩)
    · refine ⟨by decide, ?_⟩; conv => whnf
      refine endX_of (.inl ⟨[.old 0], rfl, rfl, ⟨⟨rfl, rfl, rfl, rfl, rfl⟩, trivial⟩, ⟨rfl, rfl, .inr (wksd _ [])⟩, trivial⟩)
  · refine run_walkF eok Try.func92 rfl (by kernel_rfl) ?_
    conv => whnf
    refine ⟨hk, ?_⟩; conv => whnf
    refine ⟨cap_ok (by simp only [List.length_map]; omega) rfl, ?_⟩; conv => whnf
    refine endX_of (.inl ⟨[.old 0], rfl, rfl, ⟨⟨rfl, rfl, ?_, rfl, rfl⟩, trivial⟩, ⟨rfl, rfl, .inr (wksd _ _)⟩, trivial⟩)
    simp only [List.length_map]
def orc24 (f : Nat) : Option Nat := match Nat.beq f 91 with
  | true => some 8
  | false => match Nat.beq f 92 with
    | true => some 3
    | false => none
theorem horc24 : ∀ f k, orc24 f = some k → ClSpec Try.prog f k := by
  intro f k h
  unfold orc24 at h
  split at h
  · rename_i h1; cases h; rw [Nat.eq_of_beq_eq_true h1]; exact cl91
  · split at h
    · rename_i h1; cases h; rw [Nat.eq_of_beq_eq_true h1]; exact cl92
    · cases h
end Go.Proofs.Ytjbipdppgoldlaa

/-! Aw -/
namespace Go.Proofs.Ytjbipdppgoldlaa
open Go Dw
set_option maxRecDepth 100000
theorem names_ok : Try.prog.funcs.toList.all (fun fn => !(fn.name == "runtime.NumGoroutine")) = true := by kernel_rfl
def dm24 (f : Nat) : Bool := [53, 52, 54, 51, 55, 56, 64, 65, 68, 61, 58, 93, 50, 87, 88, 89, 90, 100, 105, 49, 48, 104, 17].any (Nat.beq f)
theorem c9 : Run Try.prog 9 [] [] (.d (.bool true)) [] :=
  run_ev (fs := Try.prog.funcs.toList) (orc := orc24) eok horc24 (xs := []) rfl names_ok dm24 300 30 (by kernel_rfl) rfl rfl
end Go.Proofs.Ytjbipdppgoldlaa

/-! Wv -/
namespace Go.Proofs.Ytjbipdppgoldlaa
open Go Dw
set_option maxRecDepth 10000
set_option linter.unusedVariables false
set_option linter.unusedSimpArgs false
attribute [local irreducible] Run
set_option maxHeartbeats 2000000

theorem fewB_bd {j : Jrn} (h : fewB j = true) : j.recs.length < 1000000 ∧ (∀ x ∈ j.recs, x.name.length < 1000000) ∧ j.opens.length < 1000000 := by
  simp only [fewB, Bool.and_eq_true, decide_eq_true_eq, List.all_eq_true] at h
  exact ⟨by omega, fun x hx => by have := h.2 x hx; omega, by omega⟩

theorem c10g (j : Jrn) : Fn 10 [j.enc] (.bool (fewB j)) := by
  refine run_walkF eok Try.func10 rfl (by kernel_rfl) ?_
  conv => whnf
  repeat' (first
    | ((with_reducible refine on_dec_f ?_ ?_); (focus ((try simp only [List.length_map, List.length_cons, List.length_nil, List.length_append]); omega)); conv => whnf)
    | ((with_reducible refine on_dec_t ?_ ?_); (focus ((try simp only [List.length_map, List.length_cons, List.length_nil, List.length_append]); omega)); conv => whnf)
    | ((with_reducible refine on_dec (fun h => ?_) (fun h => ?_)) <;> (try simp only [List.length_map] at h) <;> conv => whnf)
    | ((with_reducible refine on_ndec (fun h => ?_) (fun h => ?_)) <;> (try simp only [List.length_map] at h) <;> conv => whnf)
    | ((with_reducible refine on_not (fun h => ?_) (fun h => ?_)) <;> conv => whnf)
    | ((with_reducible refine onBool_split (fun h => ?_) (fun h => ?_)) <;> conv => whnf)
    | (refine loop1 (fun (k : Nat) => j.recs.length - k) (fun (k : Nat) => k ≤ j.recs.length ∧ (j.recs.take k).all (fun x => decide (x.name.length ≤ 40)) = true) (fun (k : Nat) => [(1, .ptr 0 0 0), (3, .d (i k))]) (fun (k : Nat) => [⟨[.d j.enc], 6, 0⟩]) (0) (by first | (simp; done) | (constructor <;> simp; done) | omega) ?_ (fun k C hI hC => ?_); (exact ⟨[.old 0], rfl, rfl, ⟨(by first | exact congrArg (D.int .i64) (by omega) | exact ⟨rfl, rfl, rfl⟩ | exact ⟨rfl, rfl, rfl, rfl, rfl⟩ | (show (_ : D) = _; with_reducible rfl)), (by first | exact congrArg (D.int .i64) (by omega) | exact ⟨rfl, rfl, rfl⟩ | exact ⟨rfl, rfl, rfl, rfl, rfl⟩ | (show (_ : D) = _; with_reducible rfl)), trivial⟩, ⟨⟨rfl, rfl, .inl ⟨[_], rfl, rfl⟩⟩, trivial⟩⟩); all_goals (conv => whnf))
    | (refine hC (k + 1) _ _ ?_ (by omega) ?_; clear hC; rotate_left; (exact ⟨[.old 0], rfl, rfl, ⟨(by first | exact congrArg (D.int .i64) (by omega) | exact ⟨rfl, rfl, rfl⟩ | exact ⟨rfl, rfl, rfl, rfl, rfl⟩ | (show (_ : D) = _; with_reducible rfl)), (by first | exact congrArg (D.int .i64) (by omega) | exact ⟨rfl, rfl, rfl⟩ | exact ⟨rfl, rfl, rfl, rfl, rfl⟩ | (show (_ : D) = _; with_reducible rfl)), trivial⟩, ⟨⟨rfl, rfl, .inl ⟨[_], rfl, rfl⟩⟩, trivial⟩⟩); (exact ⟨by omega, by rw [List.take_succ_eq_append_getElem (by omega), List.all_append, hI.2]; simp; omega⟩))
    | (refine ⟨⟨(by first | rfl | (simp; done)), cap_ok (by simp only [List.length_map, List.length_cons, List.length_nil, List.length_append]; omega) rfl⟩, ?_⟩; conv => whnf)
    | (refine ⟨mem_one ⟨rfl, rfl⟩, ?_⟩; conv => whnf)
    | (refine ⟨(by intro y hy; obtain ⟨x, _, rfl⟩ := List.mem_map.1 hy; first | rfl | exact ⟨rfl, rfl⟩), ?_⟩; conv => whnf)
    | (refine ⟨cap_ok (by first | omega | (simp only [List.length_map]; omega)) rfl, ?_⟩; conv => whnf)
    | (refine ix_map (by omega) ?_; conv => whnf)
    | (refine ix_str (by omega) ?_; conv => whnf)
    | (refine wrap64 (by omega) ?_; conv => whnf)
    | (exfalso; simp only [List.length_map, List.length_cons, List.length_nil, List.length_append] at h; omega)
    | (exact endx (congrArg D.bool (by simp only [fewB]; grind)); done)
    | (exact endx (congrArg D.bool (by have := hI.2; rw [List.take_of_length_le (by omega)] at this; simp only [fewB, this]; simp; omega)); done)
    | (exact endx (congrArg D.bool (by symm; simp only [fewB, Bool.and_eq_false_iff]; right; rw [List.all_eq_false]; exact ⟨j.recs[k], List.getElem_mem _, by simp; omega⟩)); done)
    | (refine ⟨rfl, ?_⟩; conv => whnf)
    | fail
    )

def oneJ (a b : Int) : Jrn := ⟨a, 0, 0, b, [], []⟩
theorem c22a {a b : Int} (h : numbersErr (oneJ a b) = 0) : Fn 22 [i a, i b] (.tup [(oneJ a b).enc, i 0]) := by
  have := c22 a b
  unfold oneJ at h
  simp only [h, if_true] at this
  exact this
theorem c22b {a b : Int} (h : ¬ numbersErr (oneJ a b) = 0) : Fn 22 [i a, i b] (.tup [zeroJ.enc, i 2]) := by
  have := c22 a b
  have h2 : numbersErr ⟨a, 0, 0, b, [], []⟩ = 2 := by
    revert h; unfold numbersErr oneJ; split <;> (try split) <;> simp
  simp only [h2] at this
  exact this
theorem oneJ_ok {a b : Int} : numbersErr (oneJ a b) = 0 ↔ within a 0 2147483647 = true ∧ within b 128 8192 = true := by
  have h0 : within 0 0 2147483647 = true := by decide
  simp only [numbersErr, oneJ, h0]
  rcases Bool.eq_false_or_eq_true (within a 0 2147483647) with h1 | h1 <;> rcases Bool.eq_false_or_eq_true (within b 128 8192) with h2 | h2 <;> simp [h1, h2]
attribute [local irreducible] fewB checkJ within nameErr size

theorem c4a (j : Jrn) (a b : Int) (s : List UInt8) (hN : numbersErr (oneJ a b) = 0) : Fn 4 [j.enc, .agg [i a, i b], .str s] (.bool true) := by
  obtain ⟨h1, h2⟩ := oneJ_ok.1 hN
  refine run_walkF eok Try.func4 rfl (by kernel_rfl) ?_
  conv => whnf
  repeat' (first
    | (exfalso; simp_all; done)
    | ((with_reducible refine on_dec_f ?_ ?_); (focus ((try simp only [List.length_map, List.length_cons, List.length_nil, List.length_append]); omega)); conv => whnf)
    | ((with_reducible refine on_dec_t ?_ ?_); (focus ((try simp only [List.length_map, List.length_cons, List.length_nil, List.length_append]); omega)); conv => whnf)
    | ((with_reducible refine on_dec (fun h => ?_) (fun h => ?_)) <;> (try simp only [List.length_map] at h) <;> conv => whnf)
    | ((with_reducible refine on_ndec (fun h => ?_) (fun h => ?_)) <;> (try simp only [List.length_map] at h) <;> conv => whnf)
    | ((with_reducible refine on_not (fun h => ?_) (fun h => ?_)) <;> conv => whnf)
    | ((with_reducible refine onBool_split (fun h => ?_) (fun h => ?_)) <;> conv => whnf)
    | (refine call_step (run_view c9 rfl rfl) ?_; conv => whnf)
    | (refine call_step (run_view (c10g _) rfl rfl) ?_; conv => whnf)
    | (refine call_step (run_data (c13 _ (fewB_bd (by assumption)).1 (fewB_bd (by assumption)).2.2) _) ?_; conv => whnf)
    | (refine call_step (run_view (c17 _ (fewB_bd (by assumption)).1 (fewB_bd (by assumption)).2.1 (fewB_bd (by assumption)).2.2) rfl rfl) ?_; conv => whnf)
    | (refine call_step (run_view (c18 _ (fewB_bd (by assumption)).1 (fewB_bd (by assumption)).2.1 (fewB_bd (by assumption)).2.2) rfl rfl) ?_; conv => whnf)
    | (refine call_step (run_view (c19 ⟨0, ⟨0, 0⟩, ⟨0, 0⟩, 0, 0, s⟩ (by show s.length < 1000000; omega)) rfl rfl) ?_; conv => whnf)
    | (refine call_step (run_view (c20 s (by omega)) rfl rfl) ?_; conv => whnf)
    | (refine call_step (run_view (c21 s (by omega)) rfl rfl) ?_; conv => whnf)
    | (refine call_step (run_data (c22a hN) _) ?_; conv => whnf)
    | (refine call_step (run_data (c22b hN) _) ?_; conv => whnf)
    | (refine call_step (run_view (c23 _) rfl rfl) ?_; conv => whnf)
    | (refine call_step (run_view (c24 _ _ _) rfl rfl) ?_; conv => whnf)
    | (refine call_step (run_view (c25 (oneJ a b) (oneJ a b) (by simp [oneJ]) (by simp [oneJ]) (by simp [oneJ]) (by simp [oneJ])) rfl rfl) ?_; conv => whnf)
    | (refine call_step (run_view (c25 zeroJ zeroJ (by decide) (by decide) (by decide) (by decide)) rfl rfl) ?_; conv => whnf)
    | (refine ⟨⟨(by first | rfl | (simp; done)), cap_ok (by simp only [List.length_map, List.length_cons, List.length_nil, List.length_append]; omega) rfl⟩, ?_⟩; conv => whnf)
    | (refine ⟨mem_one ⟨rfl, rfl⟩, ?_⟩; conv => whnf)
    | (refine ⟨(by intro y hy; obtain ⟨x, _, rfl⟩ := List.mem_map.1 hy; first | rfl | exact ⟨rfl, rfl⟩), ?_⟩; conv => whnf)
    | (refine ⟨cap_ok (by first | omega | (simp only [List.length_map]; omega)) rfl, ?_⟩; conv => whnf)
    | (refine ix_map (by omega) ?_; conv => whnf)
    | (refine ix_str (by omega) ?_; conv => whnf)
    | (refine wrap64 (by omega) ?_; conv => whnf)
    | (refine ⟨⟨by decide, by decide⟩, ?_⟩; conv => whnf)
    | (exfalso; simp only [List.length_map, List.length_cons, List.length_nil, List.length_append] at h; omega)
    | (exact endx (congrArg D.bool (by simp)); done)
    | (refine ⟨rfl, ?_⟩; conv => whnf)
    | fail
    )

theorem c4b (j : Jrn) (a b : Int) (s : List UInt8) (hN : ¬ numbersErr (oneJ a b) = 0) : Fn 4 [j.enc, .agg [i a, i b], .str s] (.bool true) := by
  have hw := fun h1 h2 => hN (oneJ_ok.2 ⟨h1, h2⟩)
  refine run_walkF eok Try.func4 rfl (by kernel_rfl) ?_
  conv => whnf
  repeat' (first
    | (exfalso; simp_all; done)
    | ((with_reducible refine on_dec_f ?_ ?_); (focus ((try simp only [List.length_map, List.length_cons, List.length_nil, List.length_append]); omega)); conv => whnf)
    | ((with_reducible refine on_dec_t ?_ ?_); (focus ((try simp only [List.length_map, List.length_cons, List.length_nil, List.length_append]); omega)); conv => whnf)
    | ((with_reducible refine on_dec (fun h => ?_) (fun h => ?_)) <;> (try simp only [List.length_map] at h) <;> conv => whnf)
    | ((with_reducible refine on_ndec (fun h => ?_) (fun h => ?_)) <;> (try simp only [List.length_map] at h) <;> conv => whnf)
    | ((with_reducible refine on_not (fun h => ?_) (fun h => ?_)) <;> conv => whnf)
    | ((with_reducible refine onBool_split (fun h => ?_) (fun h => ?_)) <;> conv => whnf)
    | (refine call_step (run_view c9 rfl rfl) ?_; conv => whnf)
    | (refine call_step (run_view (c10g _) rfl rfl) ?_; conv => whnf)
    | (refine call_step (run_data (c13 _ (fewB_bd (by assumption)).1 (fewB_bd (by assumption)).2.2) _) ?_; conv => whnf)
    | (refine call_step (run_view (c17 _ (fewB_bd (by assumption)).1 (fewB_bd (by assumption)).2.1 (fewB_bd (by assumption)).2.2) rfl rfl) ?_; conv => whnf)
    | (refine call_step (run_view (c18 _ (fewB_bd (by assumption)).1 (fewB_bd (by assumption)).2.1 (fewB_bd (by assumption)).2.2) rfl rfl) ?_; conv => whnf)
    | (refine call_step (run_view (c19 ⟨0, ⟨0, 0⟩, ⟨0, 0⟩, 0, 0, s⟩ (by show s.length < 1000000; omega)) rfl rfl) ?_; conv => whnf)
    | (refine call_step (run_view (c20 s (by omega)) rfl rfl) ?_; conv => whnf)
    | (refine call_step (run_view (c21 s (by omega)) rfl rfl) ?_; conv => whnf)
    | (refine call_step (run_data (c22a hN) _) ?_; conv => whnf)
    | (refine call_step (run_data (c22b hN) _) ?_; conv => whnf)
    | (refine call_step (run_view (c23 _) rfl rfl) ?_; conv => whnf)
    | (refine call_step (run_view (c24 _ _ _) rfl rfl) ?_; conv => whnf)
    | (refine call_step (run_view (c25 (oneJ a b) (oneJ a b) (by simp [oneJ]) (by simp [oneJ]) (by simp [oneJ]) (by simp [oneJ])) rfl rfl) ?_; conv => whnf)
    | (refine call_step (run_view (c25 zeroJ zeroJ (by decide) (by decide) (by decide) (by decide)) rfl rfl) ?_; conv => whnf)
    | (refine ⟨⟨(by first | rfl | (simp; done)), cap_ok (by simp only [List.length_map, List.length_cons, List.length_nil, List.length_append]; omega) rfl⟩, ?_⟩; conv => whnf)
    | (refine ⟨mem_one ⟨rfl, rfl⟩, ?_⟩; conv => whnf)
    | (refine ⟨(by intro y hy; obtain ⟨x, _, rfl⟩ := List.mem_map.1 hy; first | rfl | exact ⟨rfl, rfl⟩), ?_⟩; conv => whnf)
    | (refine ⟨cap_ok (by first | omega | (simp only [List.length_map]; omega)) rfl, ?_⟩; conv => whnf)
    | (refine ix_map (by omega) ?_; conv => whnf)
    | (refine ix_str (by omega) ?_; conv => whnf)
    | (refine wrap64 (by omega) ?_; conv => whnf)
    | (refine ⟨⟨by decide, by decide⟩, ?_⟩; conv => whnf)
    | (exfalso; simp only [List.length_map, List.length_cons, List.length_nil, List.length_append] at h; omega)
    | (exact endx (congrArg D.bool (by simp)); done)
    | (refine ⟨rfl, ?_⟩; conv => whnf)
    | fail
    )

theorem c4 (j : Jrn) (a b : Int) (s : List UInt8) : Fn 4 [j.enc, .agg [i a, i b], .str s] (.bool true) := by
  by_cases h : numbersErr (oneJ a b) = 0
  · exact c4a j a b s h
  · exact c4b j a b s h

end Go.Proofs.Ytjbipdppgoldlaa

/-! Sh -/
namespace Go.Proofs.Ytjbipdppgoldlaa
open Go Dw
theorem map_of {α : Type} {f : α → D} : ∀ (l : List D), (∀ y ∈ l, ∃ a, y = f a) → ∃ r : List α, l = r.map f
  | [], _ => ⟨[], rfl⟩
  | x :: l, h => by
    obtain ⟨a, rfl⟩ := h x (by simp)
    obtain ⟨r, rfl⟩ := map_of l fun y hy => h y (by simp [hy])
    exact ⟨a :: r, rfl⟩
theorem shpRef {n : Nat} {x : D} (h : shp E (n + 2) 41 x) : ∃ r : Ref, x = r.enc := by
  obtain ⟨cs, rfl, y1, r1, ⟨k1, rfl, _⟩, rfl, y2, r2, ⟨k2, rfl, _⟩, rfl, rfl⟩ := h
  exact ⟨⟨k1, k2⟩, rfl⟩
theorem shpChg {n : Nat} {x : D} (h : shp E (n + 3) 43 x) : ∃ r : Chg, x = r.enc := by
  obtain ⟨cs, rfl, y1, r1, ⟨k1, rfl, _⟩, rfl, y2, r2, h2, rfl, y3, r3, h3, rfl, y4, r4, ⟨k4, rfl, _⟩, rfl, y5, r5, ⟨k5, rfl, _⟩, rfl, y6, r6, ⟨k6, rfl, _⟩, rfl, rfl⟩ := h
  obtain ⟨a, rfl⟩ := shpRef h2
  obtain ⟨b, rfl⟩ := shpRef h3
  exact ⟨⟨k1, a, b, k4, k5, k6⟩, rfl⟩
theorem shpOpn {n : Nat} {x : D} (h : shp E (n + 3) 102 x) : ∃ r : Opn, x = r.enc := by
  obtain ⟨cs, rfl, y2, r2, h2, rfl, y4, r4, ⟨k4, rfl, _⟩, rfl, rfl⟩ := h
  obtain ⟨a, rfl⟩ := shpRef h2
  exact ⟨⟨a, k4⟩, rfl⟩
theorem shpJrn {n : Nat} {x : D} (h : shp E (n + 5) 25 x) : ∃ r : Jrn, x = r.enc := by
  obtain ⟨cs, rfl, y1, r1, ⟨k1, rfl, _⟩, rfl, y2, r2, ⟨k2, rfl, _⟩, rfl, y3, r3, ⟨k3, rfl, _⟩, rfl, y4, r4, ⟨k4, rfl, _⟩, rfl, y5, r5, ⟨k5, rfl, _, h5⟩, rfl, y6, r6, ⟨k6, rfl, _, h6⟩, rfl, rfl⟩ := h
  obtain ⟨a, rfl⟩ := map_of k5 fun y hy => shpChg (h5 y hy)
  obtain ⟨b, rfl⟩ := map_of k6 fun y hy => shpOpn (h6 y hy)
  exact ⟨⟨k1, k2, k3, k4, a, b⟩, rfl⟩
theorem shpEvt {n : Nat} {x : D} (h : shp E (n + 3) 61 x) : ∃ r : Evt, x = r.enc := by
  obtain ⟨cs, rfl, y2, r2, h2, rfl, y3, r3, h3, rfl, y4, r4, ⟨k4, rfl, _⟩, rfl, y5, r5, ⟨k5, rfl, _⟩, rfl, y6, r6, ⟨k6, rfl, _⟩, rfl, y7, r7, h7, rfl, y8, r8, ⟨k8, rfl, _⟩, rfl, rfl⟩ := h
  obtain ⟨a, rfl⟩ := shpRef h2
  obtain ⟨b, rfl⟩ := shpRef h3
  obtain ⟨c, rfl⟩ := shpRef h7
  exact ⟨⟨a, b, k4, k5, k6, c, k8⟩, rfl⟩
theorem shps4 {xs : List D} (h : shps E 5 Try.f4.params.toList xs) : ∃ (j : Jrn) (a b : Int) (s : List UInt8), xs = [j.enc, .agg [i a, i b], .str s] := by
  obtain ⟨x1, r1, rfl, h1, x2, r2, rfl, h2, x3, r3, rfl, ⟨s, rfl, _⟩, rfl⟩ := h
  obtain ⟨j, rfl⟩ := shpJrn h1
  obtain ⟨ys, rfl, hl, hy⟩ := h2
  match ys, hl, hy with
  | [u, v], _, hy =>
    obtain ⟨a, rfl, _⟩ := hy u (by simp)
    obtain ⟨b, rfl, _⟩ := hy v (by simp)
    exact ⟨j, a, b, s, rfl⟩
end Go.Proofs.Ytjbipdppgoldlaa
