/-
  Chapter 24: ChangesNotes holds at every input: no condition of ours.
-/
import Derived.Test.YtjbipdppgoldlaaGrpJ
set_option linter.unusedVariables false
set_option linter.unusedSimpArgs false

/-! Xs -/
namespace Go.Proofs.Ytjbipdppgoldlaa
open Go Dw
set_option maxRecDepth 10000
set_option linter.unusedVariables false
set_option linter.unusedSimpArgs false
attribute [local irreducible] Run
set_option maxHeartbeats 4000000

structure Bd (j : Jrn) : Prop where
  r : j.recs.length < 1000000
  n : ∀ x ∈ j.recs, x.name.length < 1000000
  o : j.opens.length < 1000000
theorem bd_few {j : Jrn} (h : fewB j = true) : Bd j := ⟨(fewB_bd h).1, (fewB_bd h).2.1, (fewB_bd h).2.2⟩
theorem bd_zero : Bd zeroJ := ⟨by decide, fun x hx => by simp [zeroJ] at hx, by decide⟩
theorem bd_valid {j : Jrn} (V : Valid j) : Bd j := ⟨by have := V.recs; omega, valid_nm V, by have := V.opens; omega⟩
theorem bd_trim {j : Jrn} (h : Bd j) : Bd j.trim := by
  have key : ∀ (l : List Chg) (f : Int), (trimR j.next j.most f l).2.length ≤ l.length := by
    intro l
    induction l with
    | nil => intro f; exact Nat.le_refl _
    | cons x l ih =>
      intro f
      simp only [trimR]
      split
      · have := ih (IntKind.i64.wrap (f + size x.name.length)); simp only [List.length_cons]; omega
      · exact Nat.le_refl _
  refine ⟨?_, fun x hx => h.n x (trimR_sub _ _ _ _ x hx), h.o⟩
  have := key j.recs j.first
  have := h.r
  show (trimR j.next j.most j.first j.recs).2.length < 1000000
  omega
theorem bd_trimT {j : Jrn} (h : Bd j) : Bd (trimT j) := by
  unfold trimT
  split
  · exact bd_trim h
  · exact bd_zero
theorem trimT_e {j : Jrn} (h : ¬ (checkJ j).2 = 0) : trimT j = zeroJ := by unfold trimT; rw [if_neg h]
theorem trimT_o {j : Jrn} (h : (checkJ j).2 = 0) : trimT j = j.trim := by unfold trimT; rw [if_pos h]
theorem nGo_valid : ∀ (l : List Evt) (k : Nat) (J : Jrn), Valid J → (nGo J k l).2.2 = 0 → Valid (nGo J k l).1
  | [], _, J, V, _ => V
  | e :: l, k, J, V, h => by
    simp only [nGo] at h ⊢
    by_cases h0 : nE J e = 0
    · rw [if_pos h0] at h ⊢
      exact nGo_valid l (k + 1) _ (nJ_valid V h0) h
    · rw [if_neg h0] at h; exact absurd h h0
theorem bd_all (j : Jrn) (l : List Evt) : Bd (allR j l).1 := by
  by_cases hc : first [(checkJ j).2, if decide ((l.length : Int) ≤ 200) = true then 0 else 8] = 0
  · obtain ⟨V, hl⟩ := allR_0 hc
    rw [allR_n V hl]
    split
    · exact bd_valid (nGo_valid l 0 j V (by assumption))
    · exact bd_zero
  · rw [allR_e hc]; exact bd_zero
theorem bd_noted {j : Jrn} {e : Evt} (h : Bd j) (h0 : e.name.length < 1000000) (h1 : e.nn.length < 1000000) : Bd (noted j e).1 := by
  obtain ⟨a, b, c⟩ := noted_bd (j := j) (e := e) h.n h0 h1
  exact ⟨a, b, c⟩
theorem c25b {a b : Jrn} (h : Bd a) (k : Bd b) : Fn 25 [a.enc, b.enc] (.bool (decide (a = b))) := c25 a b h.r k.r h.o k.o
theorem short_bd {e : Evt} (h : shortB e = true) : e.name.length < 1000000 ∧ e.nn.length < 1000000 := by
  unfold shortB at h
  simp only [Bool.and_eq_true, decide_eq_true_eq] at h
  omega
theorem sh_take {l : List Evt} {k : Nat} (h : k < l.length) (hI : ∀ e ∈ l.take k, shortB e = true) (hs : shortB l[k] = true) : ∀ e ∈ l.take (k + 1), shortB e = true := by
  intro e he
  rw [List.take_succ_eq_append_getElem h] at he
  rcases List.mem_append.1 he with he | he
  · exact hI e he
  · rw [List.mem_singleton.1 he]; exact hs
theorem sh_all {l : List Evt} {k : Nat} (h : l.length ≤ k) (hI : ∀ e ∈ l.take k, shortB e = true) : ∀ e ∈ l, e.name.length < 1000000 ∧ e.nn.length < 1000000 := by
  rw [List.take_of_length_le h] at hI
  exact fun e he => short_bd (hI e he)
attribute [local irreducible] woI withI hasR after checkJ eventErr full noted nE nJ Jrn.trim nGo allR first fewB shortB trimT

theorem c7f (j : Jrn) (l : List Evt) (hf : fewB j = false) : Fn 7 [j.enc, .fs (l.map Evt.enc)] (.bool true) := by
  refine run_walkF eok Try.func7 rfl (by kernel_rfl) ?_
  conv => whnf
  repeat' (first
    | ((with_reducible refine on_dec_t (by assumption) ?_); conv => whnf)
    | ((with_reducible refine on_dec_f (by assumption) ?_); conv => whnf)
    | ((with_reducible refine onBool_t (by assumption) ?_); conv => whnf)
    | ((with_reducible refine onBool_f (by assumption) ?_); conv => whnf)
    | ((with_reducible refine on_nt (by assumption) ?_); conv => whnf)
    | ((with_reducible refine on_nf (by assumption) ?_); conv => whnf)
    | ((with_reducible refine on_ndec_t (by first | assumption | rfl) ?_); conv => whnf)
    | ((with_reducible refine on_ndec_f (by assumption) ?_); conv => whnf)
    | ((with_reducible refine on_dec_t rfl ?_); conv => whnf)
    | ((with_reducible refine on_dec_f ?_ ?_); (focus ((try simp only [List.length_map, List.length_cons, List.length_nil, List.length_append]); omega)); conv => whnf)
    | ((with_reducible refine on_dec_t ?_ ?_); (focus ((try simp only [List.length_map, List.length_cons, List.length_nil, List.length_append]); omega)); conv => whnf)
    | ((with_reducible refine on_dec (fun h => ?_) (fun h => ?_)) <;> (try simp only [List.length_map] at h) <;> conv => whnf)
    | ((with_reducible refine on_ndec (fun h => ?_) (fun h => ?_)) <;> (try simp only [List.length_map] at h) <;> conv => whnf)
    | ((with_reducible refine on_not (fun h => ?_) (fun h => ?_)) <;> conv => whnf)
    | ((with_reducible refine onBool_split (fun h => ?_) (fun h => ?_)) <;> conv => whnf)
    | ((with_reducible refine call_go ?_); (first | refine call_step (run_data (xs := []) c9 _) ?_ | refine call_step (run_data (xs := [_]) (c10g j) _) ?_ | refine call_step (run_view (c24 _ 201 205) rfl rfl) ?_ | refine call_step (run_data (xs := [_]) (c26 _) _) ?_ | refine call_step (run_data (xs := [_]) (c13 j B.r B.o) _) ?_ | refine call_step (run_data (xs := [_]) (c37 l hlen) _) ?_ | refine call_step (run_data (xs := [_, _]) (c36 j l hlen (sh_all (by omega) hI.2) B.r B.n B.o) _) ?_ | refine call_step (run_data (xs := [_, _]) (c38 j l B.r B.n B.o (sh_all (by omega) hI.2)) _) ?_ | refine call_step (run_data (xs := [_, _]) (c25b (a := (allR j l).1) (b := (allR j l).1) (by first | exact bd_all _ _ | exact bd_trimT B | exact bd_trim B | exact bd_noted B ((sh_all (by omega) hI.2) _ (List.getElem_mem _)).1 ((sh_all (by omega) hI.2) _ (List.getElem_mem _)).2) (by first | exact bd_all _ _ | exact bd_trimT B | exact bd_trim B | exact bd_noted B ((sh_all (by omega) hI.2) _ (List.getElem_mem _)).1 ((sh_all (by omega) hI.2) _ (List.getElem_mem _)).2)) _) ?_ | refine call_step (run_data (xs := [_, _]) (c25b (a := (trimT j)) (b := j.trim) (by first | exact bd_all _ _ | exact bd_trimT B | exact bd_trim B | exact bd_noted B ((sh_all (by omega) hI.2) _ (List.getElem_mem _)).1 ((sh_all (by omega) hI.2) _ (List.getElem_mem _)).2) (by first | exact bd_all _ _ | exact bd_trimT B | exact bd_trim B | exact bd_noted B ((sh_all (by omega) hI.2) _ (List.getElem_mem _)).1 ((sh_all (by omega) hI.2) _ (List.getElem_mem _)).2)) _) ?_ | refine call_step (run_data (xs := [_, _]) (c25b (a := (noted j (l[0]'(by omega))).1) (b := (noted j (l[0]'(by omega))).1) (by first | exact bd_all _ _ | exact bd_trimT B | exact bd_trim B | exact bd_noted B ((sh_all (by omega) hI.2) _ (List.getElem_mem _)).1 ((sh_all (by omega) hI.2) _ (List.getElem_mem _)).2) (by first | exact bd_all _ _ | exact bd_trimT B | exact bd_trim B | exact bd_noted B ((sh_all (by omega) hI.2) _ (List.getElem_mem _)).1 ((sh_all (by omega) hI.2) _ (List.getElem_mem _)).2)) _) ?_ | refine call_step (run_view (c25b (bd_trimT B) bd_zero) rfl (vlc rfl (vlc (view_agg (vlc rfl (vlc rfl (vlc rfl (vlc rfl (vlc rfl (vlc rfl vln))))))) vln))) ?_ | refine call_step (run_data (xs := [_]) (c39 j B.r B.n B.o) _) ?_ | refine call_step (run_data (xs := [_]) (c11 j B.r B.n B.o) _) ?_ | refine call_step (run_data (xs := [_]) (c40 j B.r B.n) _) ?_ | refine call_step (run_data (xs := [_, _]) (c28 j (l[0]'(by omega)) ((sh_all (by omega) hI.2) _ (List.getElem_mem _)).1 ((sh_all (by omega) hI.2) _ (List.getElem_mem _)).2 B.r B.n B.o) _) ?_ | refine call_step (run_data (xs := [_, _]) (c41 j (l[0]'(by omega)) B.r B.n B.o ((sh_all (by omega) hI.2) _ (List.getElem_mem _)).1 ((sh_all (by omega) hI.2) _ (List.getElem_mem _)).2) _) ?_); conv => whnf)
    | (refine ⟨[], [(3, 5), (3, 6)], (by decide +kernel), ?_⟩; conv => whnf)
    | (refine ⟨[], [(9, 1), (9, 5), (4, 1)], (by decide +kernel), ?_⟩; conv => whnf)
    | (refine ⟨[], [(8, 4)], (by decide +kernel), ?_⟩; conv => whnf)
    | (refine ⟨⟨(by first | rfl | (simp; done)), cap_ok (by simp only [List.length_map, List.length_cons, List.length_nil, List.length_append]; omega) rfl⟩, ?_⟩; conv => whnf)
    | (refine ⟨mem_one ⟨rfl, rfl⟩, ?_⟩; conv => whnf)
    | (refine ⟨(by intro y hy; obtain ⟨x, _, rfl⟩ := List.mem_map.1 hy; first | rfl | exact ⟨rfl, rfl⟩), ?_⟩; conv => whnf)
    | (refine ⟨cap_ok (by first | omega | (simp only [List.length_map]; omega)) rfl, ?_⟩; conv => whnf)
    | (refine ix_map (by omega) ?_; conv => whnf)
    | (refine ix_str (by omega) ?_; conv => whnf)
    | (refine wrap64 (by omega) ?_; conv => whnf)
    | (exfalso; simp only [List.length_map, List.length_cons, List.length_nil, List.length_append] at h; omega)
    | ((with_reducible refine endx_go ?_); first | (exact endx rfl; done) | (exfalso; refine absurd (trimT_o (j := j) ?_) ?_; (focus assumption); (first | assumption | exact of_decide_eq_false (by assumption)); done) | (exact endx (congrArg D.bool (decide_eq_true rfl)); done) | (exact endx (congrArg D.bool (decide_eq_true (by first | assumption | exact if_neg (by assumption) | (show _ = zeroJ; exact trimT_e (by assumption))))); done))
    | (refine ⟨rfl, ?_⟩; conv => whnf)
    | fail
    )

theorem c7l (j : Jrn) (l : List Evt) (hf : fewB j = true) (h30 : (30 : Int) < l.length) (hw : within l.length 201 205 = false) : Fn 7 [j.enc, .fs (l.map Evt.enc)] (.bool true) := by
  refine run_walkF eok Try.func7 rfl (by kernel_rfl) ?_
  conv => whnf
  repeat' (first
    | ((with_reducible refine on_dec_t (by assumption) ?_); conv => whnf)
    | ((with_reducible refine on_dec_f (by assumption) ?_); conv => whnf)
    | ((with_reducible refine onBool_t (by assumption) ?_); conv => whnf)
    | ((with_reducible refine onBool_f (by assumption) ?_); conv => whnf)
    | ((with_reducible refine on_nt (by assumption) ?_); conv => whnf)
    | ((with_reducible refine on_nf (by assumption) ?_); conv => whnf)
    | ((with_reducible refine on_ndec_t (by first | assumption | rfl) ?_); conv => whnf)
    | ((with_reducible refine on_ndec_f (by assumption) ?_); conv => whnf)
    | ((with_reducible refine on_dec_t rfl ?_); conv => whnf)
    | ((with_reducible refine on_dec_t (by rw [List.length_map]; assumption) ?_); conv => whnf)
    | ((with_reducible refine on_dec_f (by rw [List.length_map]; assumption) ?_); conv => whnf)
    | ((with_reducible refine on_nt (by rw [List.length_map]; assumption) ?_); conv => whnf)
    | ((with_reducible refine on_nf (by rw [List.length_map]; assumption) ?_); conv => whnf)
    | ((with_reducible refine on_dec_f ?_ ?_); (focus ((try simp only [List.length_map, List.length_cons, List.length_nil, List.length_append]); omega)); conv => whnf)
    | ((with_reducible refine on_dec_t ?_ ?_); (focus ((try simp only [List.length_map, List.length_cons, List.length_nil, List.length_append]); omega)); conv => whnf)
    | ((with_reducible refine on_dec (fun h => ?_) (fun h => ?_)) <;> (try simp only [List.length_map] at h) <;> conv => whnf)
    | ((with_reducible refine on_ndec (fun h => ?_) (fun h => ?_)) <;> (try simp only [List.length_map] at h) <;> conv => whnf)
    | ((with_reducible refine on_not (fun h => ?_) (fun h => ?_)) <;> conv => whnf)
    | ((with_reducible refine onBool_split (fun h => ?_) (fun h => ?_)) <;> conv => whnf)
    | ((with_reducible refine call_go ?_); (first | refine call_step (run_data (xs := []) c9 _) ?_ | refine call_step (run_data (xs := [_]) (c10g j) _) ?_ | refine call_step (run_view (c24 _ 201 205) rfl rfl) ?_ | refine call_step (run_data (xs := [_]) (c26 _) _) ?_ | refine call_step (run_data (xs := [_]) (c13 j B.r B.o) _) ?_ | refine call_step (run_data (xs := [_]) (c37 l hlen) _) ?_ | refine call_step (run_data (xs := [_, _]) (c36 j l hlen (sh_all (by omega) hI.2) B.r B.n B.o) _) ?_ | refine call_step (run_data (xs := [_, _]) (c38 j l B.r B.n B.o (sh_all (by omega) hI.2)) _) ?_ | refine call_step (run_data (xs := [_, _]) (c25b (a := (allR j l).1) (b := (allR j l).1) (by first | exact bd_all _ _ | exact bd_trimT B | exact bd_trim B | exact bd_noted B ((sh_all (by omega) hI.2) _ (List.getElem_mem _)).1 ((sh_all (by omega) hI.2) _ (List.getElem_mem _)).2) (by first | exact bd_all _ _ | exact bd_trimT B | exact bd_trim B | exact bd_noted B ((sh_all (by omega) hI.2) _ (List.getElem_mem _)).1 ((sh_all (by omega) hI.2) _ (List.getElem_mem _)).2)) _) ?_ | refine call_step (run_data (xs := [_, _]) (c25b (a := (trimT j)) (b := j.trim) (by first | exact bd_all _ _ | exact bd_trimT B | exact bd_trim B | exact bd_noted B ((sh_all (by omega) hI.2) _ (List.getElem_mem _)).1 ((sh_all (by omega) hI.2) _ (List.getElem_mem _)).2) (by first | exact bd_all _ _ | exact bd_trimT B | exact bd_trim B | exact bd_noted B ((sh_all (by omega) hI.2) _ (List.getElem_mem _)).1 ((sh_all (by omega) hI.2) _ (List.getElem_mem _)).2)) _) ?_ | refine call_step (run_data (xs := [_, _]) (c25b (a := (noted j (l[0]'(by omega))).1) (b := (noted j (l[0]'(by omega))).1) (by first | exact bd_all _ _ | exact bd_trimT B | exact bd_trim B | exact bd_noted B ((sh_all (by omega) hI.2) _ (List.getElem_mem _)).1 ((sh_all (by omega) hI.2) _ (List.getElem_mem _)).2) (by first | exact bd_all _ _ | exact bd_trimT B | exact bd_trim B | exact bd_noted B ((sh_all (by omega) hI.2) _ (List.getElem_mem _)).1 ((sh_all (by omega) hI.2) _ (List.getElem_mem _)).2)) _) ?_ | refine call_step (run_view (c25b (bd_trimT B) bd_zero) rfl (vlc rfl (vlc (view_agg (vlc rfl (vlc rfl (vlc rfl (vlc rfl (vlc rfl (vlc rfl vln))))))) vln))) ?_ | refine call_step (run_data (xs := [_]) (c39 j B.r B.n B.o) _) ?_ | refine call_step (run_data (xs := [_]) (c11 j B.r B.n B.o) _) ?_ | refine call_step (run_data (xs := [_]) (c40 j B.r B.n) _) ?_ | refine call_step (run_data (xs := [_, _]) (c28 j (l[0]'(by omega)) ((sh_all (by omega) hI.2) _ (List.getElem_mem _)).1 ((sh_all (by omega) hI.2) _ (List.getElem_mem _)).2 B.r B.n B.o) _) ?_ | refine call_step (run_data (xs := [_, _]) (c41 j (l[0]'(by omega)) B.r B.n B.o ((sh_all (by omega) hI.2) _ (List.getElem_mem _)).1 ((sh_all (by omega) hI.2) _ (List.getElem_mem _)).2) _) ?_); conv => whnf)
    | (refine ⟨[], [(3, 5), (3, 6)], (by decide +kernel), ?_⟩; conv => whnf)
    | (refine ⟨[], [(9, 1), (9, 5), (4, 1)], (by decide +kernel), ?_⟩; conv => whnf)
    | (refine ⟨[], [(8, 4)], (by decide +kernel), ?_⟩; conv => whnf)
    | (refine ⟨⟨(by first | rfl | (simp; done)), cap_ok (by simp only [List.length_map, List.length_cons, List.length_nil, List.length_append]; omega) rfl⟩, ?_⟩; conv => whnf)
    | (refine ⟨mem_one ⟨rfl, rfl⟩, ?_⟩; conv => whnf)
    | (refine ⟨(by intro y hy; obtain ⟨x, _, rfl⟩ := List.mem_map.1 hy; first | rfl | exact ⟨rfl, rfl⟩), ?_⟩; conv => whnf)
    | (refine ⟨cap_ok (by first | omega | (simp only [List.length_map]; omega)) rfl, ?_⟩; conv => whnf)
    | (refine ix_map (by omega) ?_; conv => whnf)
    | (refine ix_str (by omega) ?_; conv => whnf)
    | (refine wrap64 (by omega) ?_; conv => whnf)
    | (exfalso; simp only [List.length_map, List.length_cons, List.length_nil, List.length_append] at h; omega)
    | ((with_reducible refine endx_go ?_); first | (exact endx rfl; done) | (exfalso; refine absurd (trimT_o (j := j) ?_) ?_; (focus assumption); (first | assumption | exact of_decide_eq_false (by assumption)); done) | (exact endx (congrArg D.bool (decide_eq_true rfl)); done) | (exact endx (congrArg D.bool (decide_eq_true (by first | assumption | exact if_neg (by assumption) | (show _ = zeroJ; exact trimT_e (by assumption))))); done))
    | (refine ⟨rfl, ?_⟩; conv => whnf)
    | fail
    )

theorem c7m (j : Jrn) (l : List Evt) (hf : fewB j = true) (hlen : l.length < 1000000) (h30 : ¬ (30 : Int) < l.length) : Fn 7 [j.enc, .fs (l.map Evt.enc)] (.bool true) := by
  have B := bd_few hf
  refine run_walkF eok Try.func7 rfl (by kernel_rfl) ?_
  conv => whnf
  repeat' (first
    | ((with_reducible refine on_dec_t (by assumption) ?_); conv => whnf)
    | ((with_reducible refine on_dec_f (by assumption) ?_); conv => whnf)
    | ((with_reducible refine onBool_t (by assumption) ?_); conv => whnf)
    | ((with_reducible refine onBool_f (by assumption) ?_); conv => whnf)
    | ((with_reducible refine on_nt (by assumption) ?_); conv => whnf)
    | ((with_reducible refine on_nf (by assumption) ?_); conv => whnf)
    | ((with_reducible refine on_ndec_t (by first | assumption | rfl) ?_); conv => whnf)
    | ((with_reducible refine on_ndec_f (by assumption) ?_); conv => whnf)
    | ((with_reducible refine on_dec_t rfl ?_); conv => whnf)
    | ((with_reducible refine on_dec_t (by rw [List.length_map]; assumption) ?_); conv => whnf)
    | ((with_reducible refine on_dec_f (by rw [List.length_map]; assumption) ?_); conv => whnf)
    | ((with_reducible refine on_nt (by rw [List.length_map]; assumption) ?_); conv => whnf)
    | ((with_reducible refine on_nf (by rw [List.length_map]; assumption) ?_); conv => whnf)
    | ((with_reducible refine on_dec_f ?_ ?_); (focus ((try simp only [List.length_map, List.length_cons, List.length_nil, List.length_append]); omega)); conv => whnf)
    | ((with_reducible refine on_dec_t ?_ ?_); (focus ((try simp only [List.length_map, List.length_cons, List.length_nil, List.length_append]); omega)); conv => whnf)
    | ((with_reducible refine on_dec (fun h => ?_) (fun h => ?_)) <;> (try simp only [List.length_map] at h) <;> conv => whnf)
    | ((with_reducible refine on_ndec (fun h => ?_) (fun h => ?_)) <;> (try simp only [List.length_map] at h) <;> conv => whnf)
    | ((with_reducible refine on_not (fun h => ?_) (fun h => ?_)) <;> conv => whnf)
    | ((with_reducible refine onBool_split (fun h => ?_) (fun h => ?_)) <;> conv => whnf)
    | ((with_reducible refine call_go ?_); (first | refine call_step (run_data (xs := []) c9 _) ?_ | refine call_step (run_data (xs := [_]) (c10g j) _) ?_ | refine call_step (run_view (c24 _ 201 205) rfl rfl) ?_ | refine call_step (run_data (xs := [_]) (c26 _) _) ?_ | refine call_step (run_data (xs := [_]) (c13 j B.r B.o) _) ?_ | refine call_step (run_data (xs := [_]) (c37 l hlen) _) ?_ | refine call_step (run_data (xs := [_, _]) (c36 j l hlen (sh_all (by omega) hI.2) B.r B.n B.o) _) ?_ | refine call_step (run_data (xs := [_, _]) (c38 j l B.r B.n B.o (sh_all (by omega) hI.2)) _) ?_ | refine call_step (run_data (xs := [_, _]) (c25b (a := (allR j l).1) (b := (allR j l).1) (by first | exact bd_all _ _ | exact bd_trimT B | exact bd_trim B | exact bd_noted B ((sh_all (by omega) hI.2) _ (List.getElem_mem _)).1 ((sh_all (by omega) hI.2) _ (List.getElem_mem _)).2) (by first | exact bd_all _ _ | exact bd_trimT B | exact bd_trim B | exact bd_noted B ((sh_all (by omega) hI.2) _ (List.getElem_mem _)).1 ((sh_all (by omega) hI.2) _ (List.getElem_mem _)).2)) _) ?_ | refine call_step (run_data (xs := [_, _]) (c25b (a := (trimT j)) (b := j.trim) (by first | exact bd_all _ _ | exact bd_trimT B | exact bd_trim B | exact bd_noted B ((sh_all (by omega) hI.2) _ (List.getElem_mem _)).1 ((sh_all (by omega) hI.2) _ (List.getElem_mem _)).2) (by first | exact bd_all _ _ | exact bd_trimT B | exact bd_trim B | exact bd_noted B ((sh_all (by omega) hI.2) _ (List.getElem_mem _)).1 ((sh_all (by omega) hI.2) _ (List.getElem_mem _)).2)) _) ?_ | refine call_step (run_data (xs := [_, _]) (c25b (a := (noted j (l[0]'(by omega))).1) (b := (noted j (l[0]'(by omega))).1) (by first | exact bd_all _ _ | exact bd_trimT B | exact bd_trim B | exact bd_noted B ((sh_all (by omega) hI.2) _ (List.getElem_mem _)).1 ((sh_all (by omega) hI.2) _ (List.getElem_mem _)).2) (by first | exact bd_all _ _ | exact bd_trimT B | exact bd_trim B | exact bd_noted B ((sh_all (by omega) hI.2) _ (List.getElem_mem _)).1 ((sh_all (by omega) hI.2) _ (List.getElem_mem _)).2)) _) ?_ | refine call_step (run_view (c25b (bd_trimT B) bd_zero) rfl (vlc rfl (vlc (view_agg (vlc rfl (vlc rfl (vlc rfl (vlc rfl (vlc rfl (vlc rfl vln))))))) vln))) ?_ | refine call_step (run_data (xs := [_]) (c39 j B.r B.n B.o) _) ?_ | refine call_step (run_data (xs := [_]) (c11 j B.r B.n B.o) _) ?_ | refine call_step (run_data (xs := [_]) (c40 j B.r B.n) _) ?_ | refine call_step (run_data (xs := [_, _]) (c28 j (l[0]'(by omega)) ((sh_all (by omega) hI.2) _ (List.getElem_mem _)).1 ((sh_all (by omega) hI.2) _ (List.getElem_mem _)).2 B.r B.n B.o) _) ?_ | refine call_step (run_data (xs := [_, _]) (c41 j (l[0]'(by omega)) B.r B.n B.o ((sh_all (by omega) hI.2) _ (List.getElem_mem _)).1 ((sh_all (by omega) hI.2) _ (List.getElem_mem _)).2) _) ?_); conv => whnf)
    | (refine ⟨[], [(3, 5), (3, 6)], (by decide +kernel), ?_⟩; conv => whnf)
    | (refine ⟨[], [(9, 1), (9, 5), (4, 1)], (by decide +kernel), ?_⟩; conv => whnf)
    | (refine ⟨[], [(8, 4)], (by decide +kernel), ?_⟩; conv => whnf)
    | ((with_reducible refine loop_go ?_); first | (refine loop1 (fun (k : Nat) => l.length - k) (fun (k : Nat) => k ≤ l.length ∧ ∀ e ∈ l.take k, shortB e = true) (fun (k : Nat) => [(1, .d (.fs (l.map Evt.enc))), (2, .ptr 0 0 0), (5, .d (i k))]) (fun (k : Nat) => [⟨[.d j.enc], 6, 0⟩]) (0) (by exact ⟨Nat.zero_le _, fun e he => by simp at he⟩) ?_ (fun k C hI hC => ?_); (exact ⟨[.old 0], rfl, rfl, ⟨(by first | (show (_ : D) = _; with_reducible rfl) | exact rfl), ⟨rfl, rfl, rfl⟩, (by first | (show (_ : D) = _; with_reducible rfl) | exact congrArg (D.int .i64) (by omega) | exact congrArg (D.int .i64) (by simp only [List.length_map]) | exact rfl), trivial⟩, ⟨⟨rfl, rfl, .inl ⟨[_], rfl, rfl⟩⟩, trivial⟩⟩); all_goals (conv => whnf)))
    | ((with_reducible show C _ _); first | (refine hC (k + 1) _ _ ?_ (by omega) ?_; clear hC; rotate_left; (exact ⟨[.old 0], rfl, rfl, ⟨(by first | (show (_ : D) = _; with_reducible rfl) | exact rfl), ⟨rfl, rfl, rfl⟩, (by first | (show (_ : D) = _; with_reducible rfl) | exact congrArg (D.int .i64) (by omega) | exact congrArg (D.int .i64) (by simp only [List.length_map]) | exact rfl), trivial⟩, ⟨⟨rfl, rfl, .inl ⟨[_], rfl, rfl⟩⟩, trivial⟩⟩); (exact ⟨by omega, sh_take (by omega) hI.2 (by assumption)⟩)))
    | (refine ⟨⟨(by first | rfl | (simp; done)), cap_ok (by simp only [List.length_map, List.length_cons, List.length_nil, List.length_append]; omega) rfl⟩, ?_⟩; conv => whnf)
    | (refine ⟨mem_one ⟨rfl, rfl⟩, ?_⟩; conv => whnf)
    | (refine ⟨(by intro y hy; obtain ⟨x, _, rfl⟩ := List.mem_map.1 hy; first | rfl | exact ⟨rfl, rfl⟩), ?_⟩; conv => whnf)
    | (refine ⟨cap_ok (by first | omega | (simp only [List.length_map]; omega)) rfl, ?_⟩; conv => whnf)
    | (refine ix_map (by omega) ?_; conv => whnf)
    | (refine ix_str (by omega) ?_; conv => whnf)
    | (refine wrap64 (by omega) ?_; conv => whnf)
    | (refine wrap64 (by omega) ?_; conv => whnf)
    | (refine ix_at 0 rfl (by omega) ?_; conv => whnf)
    | (exfalso; simp only [List.length_map, List.length_cons, List.length_nil, List.length_append] at h; omega)
    | ((with_reducible refine endx_go ?_); first | (exact endx rfl; done) | (exfalso; refine absurd (trimT_o (j := j) ?_) ?_; (focus assumption); (first | assumption | exact of_decide_eq_false (by assumption)); done) | (exact endx (congrArg D.bool (decide_eq_true rfl)); done) | (exact endx (congrArg D.bool (decide_eq_true (by first | assumption | exact if_neg (by assumption) | (show _ = zeroJ; exact trimT_e (by assumption))))); done))
    | (refine ⟨rfl, ?_⟩; conv => whnf)
    | fail
    )

theorem c7n (j : Jrn) (l : List Evt) (hf : fewB j = true) (hlen : l.length < 1000000) (h30 : (30 : Int) < l.length) (hw : within l.length 201 205 = true) : Fn 7 [j.enc, .fs (l.map Evt.enc)] (.bool true) := by
  have B := bd_few hf
  refine run_walkF eok Try.func7 rfl (by kernel_rfl) ?_
  conv => whnf
  repeat' (first
    | ((with_reducible refine on_dec_t (by assumption) ?_); conv => whnf)
    | ((with_reducible refine on_dec_f (by assumption) ?_); conv => whnf)
    | ((with_reducible refine onBool_t (by assumption) ?_); conv => whnf)
    | ((with_reducible refine onBool_f (by assumption) ?_); conv => whnf)
    | ((with_reducible refine on_nt (by assumption) ?_); conv => whnf)
    | ((with_reducible refine on_nf (by assumption) ?_); conv => whnf)
    | ((with_reducible refine on_ndec_t (by first | assumption | rfl) ?_); conv => whnf)
    | ((with_reducible refine on_ndec_f (by assumption) ?_); conv => whnf)
    | ((with_reducible refine on_dec_t rfl ?_); conv => whnf)
    | ((with_reducible refine on_dec_t (by rw [List.length_map]; assumption) ?_); conv => whnf)
    | ((with_reducible refine on_dec_f (by rw [List.length_map]; assumption) ?_); conv => whnf)
    | ((with_reducible refine on_nt (by rw [List.length_map]; assumption) ?_); conv => whnf)
    | ((with_reducible refine on_nf (by rw [List.length_map]; assumption) ?_); conv => whnf)
    | ((with_reducible refine on_dec_f ?_ ?_); (focus ((try simp only [List.length_map, List.length_cons, List.length_nil, List.length_append]); omega)); conv => whnf)
    | ((with_reducible refine on_dec_t ?_ ?_); (focus ((try simp only [List.length_map, List.length_cons, List.length_nil, List.length_append]); omega)); conv => whnf)
    | ((with_reducible refine on_dec (fun h => ?_) (fun h => ?_)) <;> (try simp only [List.length_map] at h) <;> conv => whnf)
    | ((with_reducible refine on_ndec (fun h => ?_) (fun h => ?_)) <;> (try simp only [List.length_map] at h) <;> conv => whnf)
    | ((with_reducible refine on_not (fun h => ?_) (fun h => ?_)) <;> conv => whnf)
    | ((with_reducible refine onBool_split (fun h => ?_) (fun h => ?_)) <;> conv => whnf)
    | ((with_reducible refine call_go ?_); (first | refine call_step (run_data (xs := []) c9 _) ?_ | refine call_step (run_data (xs := [_]) (c10g j) _) ?_ | refine call_step (run_view (c24 _ 201 205) rfl rfl) ?_ | refine call_step (run_data (xs := [_]) (c26 _) _) ?_ | refine call_step (run_data (xs := [_]) (c13 j B.r B.o) _) ?_ | refine call_step (run_data (xs := [_]) (c37 l hlen) _) ?_ | refine call_step (run_data (xs := [_, _]) (c36 j l hlen (sh_all (by omega) hI.2) B.r B.n B.o) _) ?_ | refine call_step (run_data (xs := [_, _]) (c38 j l B.r B.n B.o (sh_all (by omega) hI.2)) _) ?_ | refine call_step (run_data (xs := [_, _]) (c25b (a := (allR j l).1) (b := (allR j l).1) (by first | exact bd_all _ _ | exact bd_trimT B | exact bd_trim B | exact bd_noted B ((sh_all (by omega) hI.2) _ (List.getElem_mem _)).1 ((sh_all (by omega) hI.2) _ (List.getElem_mem _)).2) (by first | exact bd_all _ _ | exact bd_trimT B | exact bd_trim B | exact bd_noted B ((sh_all (by omega) hI.2) _ (List.getElem_mem _)).1 ((sh_all (by omega) hI.2) _ (List.getElem_mem _)).2)) _) ?_ | refine call_step (run_data (xs := [_, _]) (c25b (a := (trimT j)) (b := j.trim) (by first | exact bd_all _ _ | exact bd_trimT B | exact bd_trim B | exact bd_noted B ((sh_all (by omega) hI.2) _ (List.getElem_mem _)).1 ((sh_all (by omega) hI.2) _ (List.getElem_mem _)).2) (by first | exact bd_all _ _ | exact bd_trimT B | exact bd_trim B | exact bd_noted B ((sh_all (by omega) hI.2) _ (List.getElem_mem _)).1 ((sh_all (by omega) hI.2) _ (List.getElem_mem _)).2)) _) ?_ | refine call_step (run_data (xs := [_, _]) (c25b (a := (noted j (l[0]'(by omega))).1) (b := (noted j (l[0]'(by omega))).1) (by first | exact bd_all _ _ | exact bd_trimT B | exact bd_trim B | exact bd_noted B ((sh_all (by omega) hI.2) _ (List.getElem_mem _)).1 ((sh_all (by omega) hI.2) _ (List.getElem_mem _)).2) (by first | exact bd_all _ _ | exact bd_trimT B | exact bd_trim B | exact bd_noted B ((sh_all (by omega) hI.2) _ (List.getElem_mem _)).1 ((sh_all (by omega) hI.2) _ (List.getElem_mem _)).2)) _) ?_ | refine call_step (run_view (c25b (bd_trimT B) bd_zero) rfl (vlc rfl (vlc (view_agg (vlc rfl (vlc rfl (vlc rfl (vlc rfl (vlc rfl (vlc rfl vln))))))) vln))) ?_ | refine call_step (run_data (xs := [_]) (c39 j B.r B.n B.o) _) ?_ | refine call_step (run_data (xs := [_]) (c11 j B.r B.n B.o) _) ?_ | refine call_step (run_data (xs := [_]) (c40 j B.r B.n) _) ?_ | refine call_step (run_data (xs := [_, _]) (c28 j (l[0]'(by omega)) ((sh_all (by omega) hI.2) _ (List.getElem_mem _)).1 ((sh_all (by omega) hI.2) _ (List.getElem_mem _)).2 B.r B.n B.o) _) ?_ | refine call_step (run_data (xs := [_, _]) (c41 j (l[0]'(by omega)) B.r B.n B.o ((sh_all (by omega) hI.2) _ (List.getElem_mem _)).1 ((sh_all (by omega) hI.2) _ (List.getElem_mem _)).2) _) ?_); conv => whnf)
    | (refine ⟨[], [(3, 5), (3, 6)], (by decide +kernel), ?_⟩; conv => whnf)
    | (refine ⟨[], [(9, 1), (9, 5), (4, 1)], (by decide +kernel), ?_⟩; conv => whnf)
    | (refine ⟨[], [(8, 4)], (by decide +kernel), ?_⟩; conv => whnf)
    | ((with_reducible refine loop_go ?_); first | (refine loop1 (fun (k : Nat) => l.length - k) (fun (k : Nat) => k ≤ l.length ∧ ∀ e ∈ l.take k, shortB e = true) (fun (k : Nat) => [(1, .d (.fs (l.map Evt.enc))), (2, .ptr 0 0 0), (5, .d (i k))]) (fun (k : Nat) => [⟨[.d j.enc], 6, 0⟩]) (0) (by exact ⟨Nat.zero_le _, fun e he => by simp at he⟩) ?_ (fun k C hI hC => ?_); (exact ⟨[.old 0], rfl, rfl, ⟨(by first | (show (_ : D) = _; with_reducible rfl) | exact rfl), ⟨rfl, rfl, rfl⟩, (by first | (show (_ : D) = _; with_reducible rfl) | exact congrArg (D.int .i64) (by omega) | exact congrArg (D.int .i64) (by simp only [List.length_map]) | exact rfl), trivial⟩, ⟨⟨rfl, rfl, .inl ⟨[_], rfl, rfl⟩⟩, trivial⟩⟩); all_goals (conv => whnf)))
    | ((with_reducible show C _ _); first | (refine hC (k + 1) _ _ ?_ (by omega) ?_; clear hC; rotate_left; (exact ⟨[.old 0], rfl, rfl, ⟨(by first | (show (_ : D) = _; with_reducible rfl) | exact rfl), ⟨rfl, rfl, rfl⟩, (by first | (show (_ : D) = _; with_reducible rfl) | exact congrArg (D.int .i64) (by omega) | exact congrArg (D.int .i64) (by simp only [List.length_map]) | exact rfl), trivial⟩, ⟨⟨rfl, rfl, .inl ⟨[_], rfl, rfl⟩⟩, trivial⟩⟩); (exact ⟨by omega, sh_take (by omega) hI.2 (by assumption)⟩)))
    | (refine ⟨⟨(by first | rfl | (simp; done)), cap_ok (by simp only [List.length_map, List.length_cons, List.length_nil, List.length_append]; omega) rfl⟩, ?_⟩; conv => whnf)
    | (refine ⟨mem_one ⟨rfl, rfl⟩, ?_⟩; conv => whnf)
    | (refine ⟨(by intro y hy; obtain ⟨x, _, rfl⟩ := List.mem_map.1 hy; first | rfl | exact ⟨rfl, rfl⟩), ?_⟩; conv => whnf)
    | (refine ⟨cap_ok (by first | omega | (simp only [List.length_map]; omega)) rfl, ?_⟩; conv => whnf)
    | (refine ix_map (by omega) ?_; conv => whnf)
    | (refine ix_str (by omega) ?_; conv => whnf)
    | (refine wrap64 (by omega) ?_; conv => whnf)
    | (refine wrap64 (by omega) ?_; conv => whnf)
    | (refine ix_at 0 rfl (by omega) ?_; conv => whnf)
    | (exfalso; simp only [List.length_map, List.length_cons, List.length_nil, List.length_append] at h; omega)
    | ((with_reducible refine endx_go ?_); first | (exact endx rfl; done) | (exfalso; refine absurd (trimT_o (j := j) ?_) ?_; (focus assumption); (first | assumption | exact of_decide_eq_false (by assumption)); done) | (exact endx (congrArg D.bool (decide_eq_true rfl)); done) | (exact endx (congrArg D.bool (decide_eq_true (by first | assumption | exact if_neg (by assumption) | (show _ = zeroJ; exact trimT_e (by assumption))))); done))
    | (refine ⟨rfl, ?_⟩; conv => whnf)
    | fail
    )

theorem c7 (j : Jrn) (l : List Evt) : Fn 7 [j.enc, .fs (l.map Evt.enc)] (.bool true) := by
  cases hf : fewB j with
  | false => exact c7f j l hf
  | true =>
    by_cases h30 : (30 : Int) < l.length
    · cases hw : within l.length 201 205 with
      | false => exact c7l j l hf h30 hw
      | true =>
        have := within_iff.1 hw
        exact c7n j l hf (by omega) h30 hw
    · exact c7m j l hf (by omega) h30

end Go.Proofs.Ytjbipdppgoldlaa

/-! St -/
namespace Go.Proofs.Ytjbipdppgoldlaa
open Go Dw
theorem shpEvts {n : Nat} {x : D} (h : shp E (n + 4) 74 x) : ∃ l : List Evt, x = .fs (l.map Evt.enc) := by
  obtain ⟨l, rfl, _, h1⟩ := h
  obtain ⟨a, rfl⟩ := map_of l fun y hy => shpEvt (h1 y hy)
  exact ⟨a, rfl⟩
end Go.Proofs.Ytjbipdppgoldlaa

/-! Le -/
namespace Go.Proofs.Ytjbipdppgoldlaa
open Go Dw Go.ChangeShapes Go.RowKit
theorem own7 : ownKnob Try.prog.godebug = none := by kernel_rfl
theorem laidOut7 : laidOutB Try.prog = true := by kernel_rfl

section
attribute [local irreducible] Run
theorem hrun7 : ∀ xs, shps E 5 Try.f7.params.toList xs → Run Try.prog 7 (xs.map .d) [] (.d (.bool true)) [] := by
  intro xs h
  obtain ⟨x1, r1, rfl, h1, x2, r2, rfl, h2, rfl⟩ := h
  obtain ⟨j, rfl⟩ := shpJrn h1
  obtain ⟨l, rfl⟩ := shpEvts h2
  exact c7 j l
end

set_option maxRecDepth 100000 in
theorem lifted7 (os : Os) (started : os.Started) (H : Type) (enc : TypeId × Value → H) :
    ReturnsInHanded {} Try.checked os 7 .any (Rows.changesNotesSpec.pre6 enc Try.prog Try.f7 Rows.changesNotesRow.domain false) (Rows.changesNotesSpec.post enc Try.prog Try.f7 false true false false) := by
  refine returnsInHanded_of_change (C := Try.checked) own7 started (by kernel_rfl) Try.func7
    (ChangeSpec.witness6 (enc := enc) (C := Try.checked) false ⟨#[], #[.agg #[.int .i64 0, .int .i64 0, .int .i64 0, .int .i64 0, .slice none 0 0, .slice none 0 0], .slice none 0 0], []⟩ 8 (by kernel_rfl) (by kernel_rfl) (by kernel_rfl) (by kernel_rfl)) ?_
  intro W base args ds gs before hval hW _ _
  refine law_lift (n := 5) (t4 := 4) eok Try.func7 (by kernel_rfl) rfl laidOut7 rfl ?_ rfl Try.underlying4 (by kernel_rfl) hrun7 W base args ds gs before hval hW
  intro H ds hds
  match ds, hds with
  | [a, b], _ => rfl

theorem over7 : Rows.changesNotesRow.holds Try.pinned (OpenSpec.ofChange Rows.changesNotesSpec) :=
  OpenClaim.holds_of_wide 7 Try.f7 rfl rfl rfl rfl rfl rfl rfl ⟨rfl, rfl, rfl, rfl, rfl⟩ rfl rfl rfl rfl rfl (by kernel_rfl) Try.func7 (by kernel_rfl)
    (of_decide_eq_true (by kernel_rfl)) (by unfold Func.isWrapper; first | (rw [if_pos (by decide +kernel)]; kernel_rfl) | (rw [if_neg (by decide +kernel)]; exact ⟨rfl, rfl⟩))
    (fun os started H enc _ => lifted7 os started H enc)
theorem changesNotes_proved : Rows.ChangesNotesSaid := over7
end Go.Proofs.Ytjbipdppgoldlaa
