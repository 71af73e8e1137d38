/-
  Chapter 24: ChangesEach holds at every input: no condition of ours.
-/
import Derived.Test.YtjbipdppgoldlaaGrpJ
set_option linter.unusedVariables false
set_option linter.unusedSimpArgs false

/-! Xs -/
namespace Go.Proofs.Ytjbipdppgoldlaa
open Go Dw
set_option maxRecDepth 10000
set_option linter.unusedVariables false
set_option linter.unusedSimpArgs false
attribute [local irreducible] Run
set_option maxHeartbeats 4000000

structure Bd (j : Jrn) : Prop where
  r : j.recs.length < 1000000
  n : ∀ x ∈ j.recs, x.name.length < 1000000
  o : j.opens.length < 1000000
theorem bd_few {j : Jrn} (h : fewB j = true) : Bd j := ⟨(fewB_bd h).1, (fewB_bd h).2.1, (fewB_bd h).2.2⟩
theorem bd_zero : Bd zeroJ := ⟨by decide, fun x hx => by simp [zeroJ] at hx, by decide⟩
theorem bd_valid {j : Jrn} (V : Valid j) : Bd j := ⟨by have := V.recs; omega, valid_nm V, by have := V.opens; omega⟩
theorem bd_trim {j : Jrn} (h : Bd j) : Bd j.trim := by
  have key : ∀ (l : List Chg) (f : Int), (trimR j.next j.most f l).2.length ≤ l.length := by
    intro l
    induction l with
    | nil => intro f; exact Nat.le_refl _
    | cons x l ih =>
      intro f
      simp only [trimR]
      split
      · have := ih (IntKind.i64.wrap (f + size x.name.length)); simp only [List.length_cons]; omega
      · exact Nat.le_refl _
  refine ⟨?_, fun x hx => h.n x (trimR_sub _ _ _ _ x hx), h.o⟩
  have := key j.recs j.first
  have := h.r
  show (trimR j.next j.most j.first j.recs).2.length < 1000000
  omega
theorem bd_trimT {j : Jrn} (h : Bd j) : Bd (trimT j) := by
  unfold trimT
  split
  · exact bd_trim h
  · exact bd_zero
theorem trimT_e {j : Jrn} (h : ¬ (checkJ j).2 = 0) : trimT j = zeroJ := by unfold trimT; rw [if_neg h]
theorem trimT_o {j : Jrn} (h : (checkJ j).2 = 0) : trimT j = j.trim := by unfold trimT; rw [if_pos h]
theorem nGo_valid : ∀ (l : List Evt) (k : Nat) (J : Jrn), Valid J → (nGo J k l).2.2 = 0 → Valid (nGo J k l).1
  | [], _, J, V, _ => V
  | e :: l, k, J, V, h => by
    simp only [nGo] at h ⊢
    by_cases h0 : nE J e = 0
    · rw [if_pos h0] at h ⊢
      exact nGo_valid l (k + 1) _ (nJ_valid V h0) h
    · rw [if_neg h0] at h; exact absurd h h0
theorem bd_all (j : Jrn) (l : List Evt) : Bd (allR j l).1 := by
  by_cases hc : first [(checkJ j).2, if decide ((l.length : Int) ≤ 200) = true then 0 else 8] = 0
  · obtain ⟨V, hl⟩ := allR_0 hc
    rw [allR_n V hl]
    split
    · exact bd_valid (nGo_valid l 0 j V (by assumption))
    · exact bd_zero
  · rw [allR_e hc]; exact bd_zero
theorem bd_noted {j : Jrn} {e : Evt} (h : Bd j) (h0 : e.name.length < 1000000) (h1 : e.nn.length < 1000000) : Bd (noted j e).1 := by
  obtain ⟨a, b, c⟩ := noted_bd (j := j) (e := e) h.n h0 h1
  exact ⟨a, b, c⟩
theorem c25b {a b : Jrn} (h : Bd a) (k : Bd b) : Fn 25 [a.enc, b.enc] (.bool (decide (a = b))) := c25 a b h.r k.r h.o k.o
theorem short_bd {e : Evt} (h : shortB e = true) : e.name.length < 1000000 ∧ e.nn.length < 1000000 := by
  unfold shortB at h
  simp only [Bool.and_eq_true, decide_eq_true_eq] at h
  omega
theorem sh_take {l : List Evt} {k : Nat} (h : k < l.length) (hI : ∀ e ∈ l.take k, shortB e = true) (hs : shortB l[k] = true) : ∀ e ∈ l.take (k + 1), shortB e = true := by
  intro e he
  rw [List.take_succ_eq_append_getElem h] at he
  rcases List.mem_append.1 he with he | he
  · exact hI e he
  · rw [List.mem_singleton.1 he]; exact hs
theorem sh_all {l : List Evt} {k : Nat} (h : l.length ≤ k) (hI : ∀ e ∈ l.take k, shortB e = true) : ∀ e ∈ l, e.name.length < 1000000 ∧ e.nn.length < 1000000 := by
  rw [List.take_of_length_le h] at hI
  exact fun e he => short_bd (hI e he)
attribute [local irreducible] woI withI hasR after checkJ eventErr full noted nE nJ Jrn.trim nGo allR first fewB shortB trimT

theorem c7f (j : Jrn) (l : List Evt) (hf : fewB j = false) : Fn 7 [j.enc, .fs (l.map Evt.enc)] (.bool true) := by
  refine run_walkF eok Try.func7 rfl (by kernel_rfl) ?_
  conv => whnf
  repeat' (first
    | ((with_reducible refine on_dec_t (by assumption) ?_); conv => whnf)
    | ((with_reducible refine on_dec_f (by assumption) ?_); conv => whnf)
    | ((with_reducible refine onBool_t (by assumption) ?_); conv => whnf)
    | ((with_reducible refine onBool_f (by assumption) ?_); conv => whnf)
    | ((with_reducible refine on_nt (by assumption) ?_); conv => whnf)
    | ((with_reducible refine on_nf (by assumption) ?_); conv => whnf)
    | ((with_reducible refine on_ndec_t (by first | assumption | rfl) ?_); conv => whnf)
    | ((with_reducible refine on_ndec_f (by assumption) ?_); conv => whnf)
    | ((with_reducible refine on_dec_t rfl ?_); conv => whnf)
    | ((with_reducible refine on_dec_f ?_ ?_); (focus ((try simp only [List.length_map, List.length_cons, List.length_nil, List.length_append]); omega)); conv => whnf)
    | ((with_reducible refine on_dec_t ?_ ?_); (focus ((try simp only [List.length_map, List.length_cons, List.length_nil, List.length_append]); omega)); conv => whnf)
    | ((with_reducible refine on_dec (fun h => ?_) (fun h => ?_)) <;> (try simp only [List.length_map] at h) <;> conv => whnf)
    | ((with_reducible refine on_ndec (fun h => ?_) (fun h => ?_)) <;> (try simp only [List.length_map] at h) <;> conv => whnf)
    | ((with_reducible refine on_not (fun h => ?_) (fun h => ?_)) <;> conv => whnf)
    | ((with_reducible refine onBool_split (fun h => ?_) (fun h => ?_)) <;> conv => whnf)
    | ((with_reducible refine call_go ?_); (first | refine call_step (run_data (xs := []) c9 _) ?_ | refine call_step (run_data (xs := [_]) (c10g j) _) ?_ | refine call_step (run_view (c24 _ 201 205) rfl rfl) ?_ | refine call_step (run_data (xs := [_]) (c26 _) _) ?_ | refine call_step (run_data (xs := [_]) (c13 j B.r B.o) _) ?_ | refine call_step (run_data (xs := [_]) (c37 l hlen) _) ?_ | refine call_step (run_data (xs := [_, _]) (c36 j l hlen (sh_all (by omega) hI.2) B.r B.n B.o) _) ?_ | refine call_step (run_data (xs := [_, _]) (c38 j l B.r B.n B.o (sh_all (by omega) hI.2)) _) ?_ | refine call_step (run_data (xs := [_, _]) (c25b (a := (allR j l).1) (b := (allR j l).1) (by first | exact bd_all _ _ | exact bd_trimT B | exact bd_trim B | exact bd_noted B ((sh_all (by omega) hI.2) _ (List.getElem_mem _)).1 ((sh_all (by omega) hI.2) _ (List.getElem_mem _)).2) (by first | exact bd_all _ _ | exact bd_trimT B | exact bd_trim B | exact bd_noted B ((sh_all (by omega) hI.2) _ (List.getElem_mem _)).1 ((sh_all (by omega) hI.2) _ (List.getElem_mem _)).2)) _) ?_ | refine call_step (run_data (xs := [_, _]) (c25b (a := (trimT j)) (b := j.trim) (by first | exact bd_all _ _ | exact bd_trimT B | exact bd_trim B | exact bd_noted B ((sh_all (by omega) hI.2) _ (List.getElem_mem _)).1 ((sh_all (by omega) hI.2) _ (List.getElem_mem _)).2) (by first | exact bd_all _ _ | exact bd_trimT B | exact bd_trim B | exact bd_noted B ((sh_all (by omega) hI.2) _ (List.getElem_mem _)).1 ((sh_all (by omega) hI.2) _ (List.getElem_mem _)).2)) _) ?_ | refine call_step (run_data (xs := [_, _]) (c25b (a := (noted j (l[0]'(by omega))).1) (b := (noted j (l[0]'(by omega))).1) (by first | exact bd_all _ _ | exact bd_trimT B | exact bd_trim B | exact bd_noted B ((sh_all (by omega) hI.2) _ (List.getElem_mem _)).1 ((sh_all (by omega) hI.2) _ (List.getElem_mem _)).2) (by first | exact bd_all _ _ | exact bd_trimT B | exact bd_trim B | exact bd_noted B ((sh_all (by omega) hI.2) _ (List.getElem_mem _)).1 ((sh_all (by omega) hI.2) _ (List.getElem_mem _)).2)) _) ?_ | refine call_step (run_view (c25b (bd_trimT B) bd_zero) rfl (vlc rfl (vlc (view_agg (vlc rfl (vlc rfl (vlc rfl (vlc rfl (vlc rfl (vlc rfl vln))))))) vln))) ?_ | refine call_step (run_data (xs := [_]) (c39 j B.r B.n B.o) _) ?_ | refine call_step (run_data (xs := [_]) (c11 j B.r B.n B.o) _) ?_ | refine call_step (run_data (xs := [_]) (c40 j B.r B.n) _) ?_ | refine call_step (run_data (xs := [_, _]) (c28 j (l[0]'(by omega)) ((sh_all (by omega) hI.2) _ (List.getElem_mem _)).1 ((sh_all (by omega) hI.2) _ (List.getElem_mem _)).2 B.r B.n B.o) _) ?_ | refine call_step (run_data (xs := [_, _]) (c41 j (l[0]'(by omega)) B.r B.n B.o ((sh_all (by omega) hI.2) _ (List.getElem_mem _)).1 ((sh_all (by omega) hI.2) _ (List.getElem_mem _)).2) _) ?_); conv => whnf)
    | (refine ⟨[], [(3, 5), (3, 6)], (by decide +kernel), ?_⟩; conv => whnf)
    | (refine ⟨[], [(9, 1), (9, 5), (4, 1)], (by decide +kernel), ?_⟩; conv => whnf)
    | (refine ⟨[], [(8, 4)], (by decide +kernel), ?_⟩; conv => whnf)
    | (refine ⟨⟨(by first | rfl | (simp; done)), cap_ok (by simp only [List.length_map, List.length_cons, List.length_nil, List.length_append]; omega) rfl⟩, ?_⟩; conv => whnf)
    | (refine ⟨mem_one ⟨rfl, rfl⟩, ?_⟩; conv => whnf)
    | (refine ⟨(by intro y hy; obtain ⟨x, _, rfl⟩ := List.mem_map.1 hy; first | rfl | exact ⟨rfl, rfl⟩), ?_⟩; conv => whnf)
    | (refine ⟨cap_ok (by first | omega | (simp only [List.length_map]; omega)) rfl, ?_⟩; conv => whnf)
    | (refine ix_map (by omega) ?_; conv => whnf)
    | (refine ix_str (by omega) ?_; conv => whnf)
    | (refine wrap64 (by omega) ?_; conv => whnf)
    | (exfalso; simp only [List.length_map, List.length_cons, List.length_nil, List.length_append] at h; omega)
    | ((with_reducible refine endx_go ?_); first | (exact endx rfl; done) | (exfalso; refine absurd (trimT_o (j := j) ?_) ?_; (focus assumption); (first | assumption | exact of_decide_eq_false (by assumption)); done) | (exact endx (congrArg D.bool (decide_eq_true rfl)); done) | (exact endx (congrArg D.bool (decide_eq_true (by first | assumption | exact if_neg (by assumption) | (show _ = zeroJ; exact trimT_e (by assumption))))); done))
    | (refine ⟨rfl, ?_⟩; conv => whnf)
    | fail
    )

theorem c7l (j : Jrn) (l : List Evt) (hf : fewB j = true) (h30 : (30 : Int) < l.length) (hw : within l.length 201 205 = false) : Fn 7 [j.enc, .fs (l.map Evt.enc)] (.bool true) := by
  refine run_walkF eok Try.func7 rfl (by kernel_rfl) ?_
  conv => whnf
  repeat' (first
    | ((with_reducible refine on_dec_t (by assumption) ?_); conv => whnf)
    | ((with_reducible refine on_dec_f (by assumption) ?_); conv => whnf)
    | ((with_reducible refine onBool_t (by assumption) ?_); conv => whnf)
    | ((with_reducible refine onBool_f (by assumption) ?_); conv => whnf)
    | ((with_reducible refine on_nt (by assumption) ?_); conv => whnf)
    | ((with_reducible refine on_nf (by assumption) ?_); conv => whnf)
    | ((with_reducible refine on_ndec_t (by first | assumption | rfl) ?_); conv => whnf)
    | ((with_reducible refine on_ndec_f (by assumption) ?_); conv => whnf)
    | ((with_reducible refine on_dec_t rfl ?_); conv => whnf)
    | ((with_reducible refine on_dec_t (by rw [List.length_map]; assumption) ?_); conv => whnf)
    | ((with_reducible refine on_dec_f (by rw [List.length_map]; assumption) ?_); conv => whnf)
    | ((with_reducible refine on_nt (by rw [List.length_map]; assumption) ?_); conv => whnf)
    | ((with_reducible refine on_nf (by rw [List.length_map]; assumption) ?_); conv => whnf)
    | ((with_reducible refine on_dec_f ?_ ?_); (focus ((try simp only [List.length_map, List.length_cons, List.length_nil, List.length_append]); omega)); conv => whnf)
    | ((with_reducible refine on_dec_t ?_ ?_); (focus ((try simp only [List.length_map, List.length_cons, List.length_nil, List.length_append]); omega)); conv => whnf)
    | ((with_reducible refine on_dec (fun h => ?_) (fun h => ?_)) <;> (try simp only [List.length_map] at h) <;> conv => whnf)
    | ((with_reducible refine on_ndec (fun h => ?_) (fun h => ?_)) <;> (try simp only [List.length_map] at h) <;> conv => whnf)
    | ((with_reducible refine on_not (fun h => ?_) (fun h => ?_)) <;> conv => whnf)
    | ((with_reducible refine onBool_split (fun h => ?_) (fun h => ?_)) <;> conv => whnf)
    | ((with_reducible refine call_go ?_); (first | refine call_step (run_data (xs := []) c9 _) ?_ | refine call_step (run_data (xs := [_]) (c10g j) _) ?_ | refine call_step (run_view (c24 _ 201 205) rfl rfl) ?_ | refine call_step (run_data (xs := [_]) (c26 _) _) ?_ | refine call_step (run_data (xs := [_]) (c13 j B.r B.o) _) ?_ | refine call_step (run_data (xs := [_]) (c37 l hlen) _) ?_ | refine call_step (run_data (xs := [_, _]) (c36 j l hlen (sh_all (by omega) hI.2) B.r B.n B.o) _) ?_ | refine call_step (run_data (xs := [_, _]) (c38 j l B.r B.n B.o (sh_all (by omega) hI.2)) _) ?_ | refine call_step (run_data (xs := [_, _]) (c25b (a := (allR j l).1) (b := (allR j l).1) (by first | exact bd_all _ _ | exact bd_trimT B | exact bd_trim B | exact bd_noted B ((sh_all (by omega) hI.2) _ (List.getElem_mem _)).1 ((sh_all (by omega) hI.2) _ (List.getElem_mem _)).2) (by first | exact bd_all _ _ | exact bd_trimT B | exact bd_trim B | exact bd_noted B ((sh_all (by omega) hI.2) _ (List.getElem_mem _)).1 ((sh_all (by omega) hI.2) _ (List.getElem_mem _)).2)) _) ?_ | refine call_step (run_data (xs := [_, _]) (c25b (a := (trimT j)) (b := j.trim) (by first | exact bd_all _ _ | exact bd_trimT B | exact bd_trim B | exact bd_noted B ((sh_all (by omega) hI.2) _ (List.getElem_mem _)).1 ((sh_all (by omega) hI.2) _ (List.getElem_mem _)).2) (by first | exact bd_all _ _ | exact bd_trimT B | exact bd_trim B | exact bd_noted B ((sh_all (by omega) hI.2) _ (List.getElem_mem _)).1 ((sh_all (by omega) hI.2) _ (List.getElem_mem _)).2)) _) ?_ | refine call_step (run_data (xs := [_, _]) (c25b (a := (noted j (l[0]'(by omega))).1) (b := (noted j (l[0]'(by omega))).1) (by first | exact bd_all _ _ | exact bd_trimT B | exact bd_trim B | exact bd_noted B ((sh_all (by omega) hI.2) _ (List.getElem_mem _)).1 ((sh_all (by omega) hI.2) _ (List.getElem_mem _)).2) (by first | exact bd_all _ _ | exact bd_trimT B | exact bd_trim B | exact bd_noted B ((sh_all (by omega) hI.2) _ (List.getElem_mem _)).1 ((sh_all (by omega) hI.2) _ (List.getElem_mem _)).2)) _) ?_ | refine call_step (run_view (c25b (bd_trimT B) bd_zero) rfl (vlc rfl (vlc (view_agg (vlc rfl (vlc rfl (vlc rfl (vlc rfl (vlc rfl (vlc rfl vln))))))) vln))) ?_ | refine call_step (run_data (xs := [_]) (c39 j B.r B.n B.o) _) ?_ | refine call_step (run_data (xs := [_]) (c11 j B.r B.n B.o) _) ?_ | refine call_step (run_data (xs := [_]) (c40 j B.r B.n) _) ?_ | refine call_step (run_data (xs := [_, _]) (c28 j (l[0]'(by omega)) ((sh_all (by omega) hI.2) _ (List.getElem_mem _)).1 ((sh_all (by omega) hI.2) _ (List.getElem_mem _)).2 B.r B.n B.o) _) ?_ | refine call_step (run_data (xs := [_, _]) (c41 j (l[0]'(by omega)) B.r B.n B.o ((sh_all (by omega) hI.2) _ (List.getElem_mem _)).1 ((sh_all (by omega) hI.2) _ (List.getElem_mem _)).2) _) ?_); conv => whnf)
    | (refine ⟨[], [(3, 5), (3, 6)], (by decide +kernel), ?_⟩; conv => whnf)
    | (refine ⟨[], [(9, 1), (9, 5), (4, 1)], (by decide +kernel), ?_⟩; conv => whnf)
    | (refine ⟨[], [(8, 4)], (by decide +kernel), ?_⟩; conv => whnf)
    | (refine ⟨⟨(by first | rfl | (simp; done)), cap_ok (by simp only [List.length_map, List.length_cons, List.length_nil, List.length_append]; omega) rfl⟩, ?_⟩; conv => whnf)
    | (refine ⟨mem_one ⟨rfl, rfl⟩, ?_⟩; conv => whnf)
    | (refine ⟨(by intro y hy; obtain ⟨x, _, rfl⟩ := List.mem_map.1 hy; first | rfl | exact ⟨rfl, rfl⟩), ?_⟩; conv => whnf)
    | (refine ⟨cap_ok (by first | omega | (simp only [List.length_map]; omega)) rfl, ?_⟩; conv => whnf)
    | (refine ix_map (by omega) ?_; conv => whnf)
    | (refine ix_str (by omega) ?_; conv => whnf)
    | (refine wrap64 (by omega) ?_; conv => whnf)
    | (exfalso; simp only [List.length_map, List.length_cons, List.length_nil, List.length_append] at h; omega)
    | ((with_reducible refine endx_go ?_); first | (exact endx rfl; done) | (exfalso; refine absurd (trimT_o (j := j) ?_) ?_; (focus assumption); (first | assumption | exact of_decide_eq_false (by assumption)); done) | (exact endx (congrArg D.bool (decide_eq_true rfl)); done) | (exact endx (congrArg D.bool (decide_eq_true (by first | assumption | exact if_neg (by assumption) | (show _ = zeroJ; exact trimT_e (by assumption))))); done))
    | (refine ⟨rfl, ?_⟩; conv => whnf)
    | fail
    )

theorem c7m (j : Jrn) (l : List Evt) (hf : fewB j = true) (hlen : l.length < 1000000) (h30 : ¬ (30 : Int) < l.length) : Fn 7 [j.enc, .fs (l.map Evt.enc)] (.bool true) := by
  have B := bd_few hf
  refine run_walkF eok Try.func7 rfl (by kernel_rfl) ?_
  conv => whnf
  repeat' (first
    | ((with_reducible refine on_dec_t (by assumption) ?_); conv => whnf)
    | ((with_reducible refine on_dec_f (by assumption) ?_); conv => whnf)
    | ((with_reducible refine onBool_t (by assumption) ?_); conv => whnf)
    | ((with_reducible refine onBool_f (by assumption) ?_); conv => whnf)
    | ((with_reducible refine on_nt (by assumption) ?_); conv => whnf)
    | ((with_reducible refine on_nf (by assumption) ?_); conv => whnf)
    | ((with_reducible refine on_ndec_t (by first | assumption | rfl) ?_); conv => whnf)
    | ((with_reducible refine on_ndec_f (by assumption) ?_); conv => whnf)
    | ((with_reducible refine on_dec_t rfl ?_); conv => whnf)
    | ((with_reducible refine on_dec_t (by rw [List.length_map]; assumption) ?_); conv => whnf)
    | ((with_reducible refine on_dec_f (by rw [List.length_map]; assumption) ?_); conv => whnf)
    | ((with_reducible refine on_nt (by rw [List.length_map]; assumption) ?_); conv => whnf)
    | ((with_reducible refine on_nf (by rw [List.length_map]; assumption) ?_); conv => whnf)
    | ((with_reducible refine on_dec_f ?_ ?_); (focus ((try simp only [List.length_map, List.length_cons, List.length_nil, List.length_append]); omega)); conv => whnf)
    | ((with_reducible refine on_dec_t ?_ ?_); (focus ((try simp only [List.length_map, List.length_cons, List.length_nil, List.length_append]); omega)); conv => whnf)
    | ((with_reducible refine on_dec (fun h => ?_) (fun h => ?_)) <;> (try simp only [List.length_map] at h) <;> conv => whnf)
    | ((with_reducible refine on_ndec (fun h => ?_) (fun h => ?_)) <;> (try simp only [List.length_map] at h) <;> conv => whnf)
    | ((with_reducible refine on_not (fun h => ?_) (fun h => ?_)) <;> conv => whnf)
    | ((with_reducible refine onBool_split (fun h => ?_) (fun h => ?_)) <;> conv => whnf)
    | ((with_reducible refine call_go ?_); (first | refine call_step (run_data (xs := []) c9 _) ?_ | refine call_step (run_data (xs := [_]) (c10g j) _) ?_ | refine call_step (run_view (c24 _ 201 205) rfl rfl) ?_ | refine call_step (run_data (xs := [_]) (c26 _) _) ?_ | refine call_step (run_data (xs := [_]) (c13 j B.r B.o) _) ?_ | refine call_step (run_data (xs := [_]) (c37 l hlen) _) ?_ | refine call_step (run_data (xs := [_, _]) (c36 j l hlen (sh_all (by omega) hI.2) B.r B.n B.o) _) ?_ | refine call_step (run_data (xs := [_, _]) (c38 j l B.r B.n B.o (sh_all (by omega) hI.2)) _) ?_ | refine call_step (run_data (xs := [_, _]) (c25b (a := (allR j l).1) (b := (allR j l).1) (by first | exact bd_all _ _ | exact bd_trimT B | exact bd_trim B | exact bd_noted B ((sh_all (by omega) hI.2) _ (List.getElem_mem _)).1 ((sh_all (by omega) hI.2) _ (List.getElem_mem _)).2) (by first | exact bd_all _ _ | exact bd_trimT B | exact bd_trim B | exact bd_noted B ((sh_all (by omega) hI.2) _ (List.getElem_mem _)).1 ((sh_all (by omega) hI.2) _ (List.getElem_mem _)).2)) _) ?_ | refine call_step (run_data (xs := [_, _]) (c25b (a := (trimT j)) (b := j.trim) (by first | exact bd_all _ _ | exact bd_trimT B | exact bd_trim B | exact bd_noted B ((sh_all (by omega) hI.2) _ (List.getElem_mem _)).1 ((sh_all (by omega) hI.2) _ (List.getElem_mem _)).2) (by first | exact bd_all _ _ | exact bd_trimT B | exact bd_trim B | exact bd_noted B ((sh_all (by omega) hI.2) _ (List.getElem_mem _)).1 ((sh_all (by omega) hI.2) _ (List.getElem_mem _)).2)) _) ?_ | refine call_step (run_data (xs := [_, _]) (c25b (a := (noted j (l[0]'(by omega))).1) (b := (noted j (l[0]'(by omega))).1) (by first | exact bd_all _ _ | exact bd_trimT B | exact bd_trim B | exact bd_noted B ((sh_all (by omega) hI.2) _ (List.getElem_mem _)).1 ((sh_all (by omega) hI.2) _ (List.getElem_mem _)).2) (by first | exact bd_all _ _ | exact bd_trimT B | exact bd_trim B | exact bd_noted B ((sh_all (by omega) hI.2) _ (List.getElem_mem _)).1 ((sh_all (by omega) hI.2) _ (List.getElem_mem _)).2)) _) ?_ | refine call_step (run_view (c25b (bd_trimT B) bd_zero) rfl (vlc rfl (vlc (view_agg (vlc rfl (vlc rfl (vlc rfl (vlc rfl (vlc rfl (vlc rfl vln))))))) vln))) ?_ | refine call_step (run_data (xs := [_]) (c39 j B.r B.n B.o) _) ?_ | refine call_step (run_data (xs := [_]) (c11 j B.r B.n B.o) _) ?_ | refine call_step (run_data (xs := [_]) (c40 j B.r B.n) _) ?_ | refine call_step (run_data (xs := [_, _]) (c28 j (l[0]'(by omega)) ((sh_all (by omega) hI.2) _ (List.getElem_mem _)).1 ((sh_all (by omega) hI.2) _ (List.getElem_mem _)).2 B.r B.n B.o) _) ?_ | refine call_step (run_data (xs := [_, _]) (c41 j (l[0]'(by omega)) B.r B.n B.o ((sh_all (by omega) hI.2) _ (List.getElem_mem _)).1 ((sh_all (by omega) hI.2) _ (List.getElem_mem _)).2) _) ?_); conv => whnf)
    | (refine ⟨[], [(3, 5), (3, 6)], (by decide +kernel), ?_⟩; conv => whnf)
    | (refine ⟨[], [(9, 1), (9, 5), (4, 1)], (by decide +kernel), ?_⟩; conv => whnf)
    | (refine ⟨[], [(8, 4)], (by decide +kernel), ?_⟩; conv => whnf)
    | ((with_reducible refine loop_go ?_); first | (refine loop1 (fun (k : Nat) => l.length - k) (fun (k : Nat) => k ≤ l.length ∧ ∀ e ∈ l.take k, shortB e = true) (fun (k : Nat) => [(1, .d (.fs (l.map Evt.enc))), (2, .ptr 0 0 0), (5, .d (i k))]) (fun (k : Nat) => [⟨[.d j.enc], 6, 0⟩]) (0) (by exact ⟨Nat.zero_le _, fun e he => by simp at he⟩) ?_ (fun k C hI hC => ?_); (exact ⟨[.old 0], rfl, rfl, ⟨(by first | (show (_ : D) = _; with_reducible rfl) | exact rfl), ⟨rfl, rfl, rfl⟩, (by first | (show (_ : D) = _; with_reducible rfl) | exact congrArg (D.int .i64) (by omega) | exact congrArg (D.int .i64) (by simp only [List.length_map]) | exact rfl), trivial⟩, ⟨⟨rfl, rfl, .inl ⟨[_], rfl, rfl⟩⟩, trivial⟩⟩); all_goals (conv => whnf)))
    | ((with_reducible show C _ _); first | (refine hC (k + 1) _ _ ?_ (by omega) ?_; clear hC; rotate_left; (exact ⟨[.old 0], rfl, rfl, ⟨(by first | (show (_ : D) = _; with_reducible rfl) | exact rfl), ⟨rfl, rfl, rfl⟩, (by first | (show (_ : D) = _; with_reducible rfl) | exact congrArg (D.int .i64) (by omega) | exact congrArg (D.int .i64) (by simp only [List.length_map]) | exact rfl), trivial⟩, ⟨⟨rfl, rfl, .inl ⟨[_], rfl, rfl⟩⟩, trivial⟩⟩); (exact ⟨by omega, sh_take (by omega) hI.2 (by assumption)⟩)))
    | (refine ⟨⟨(by first | rfl | (simp; done)), cap_ok (by simp only [List.length_map, List.length_cons, List.length_nil, List.length_append]; omega) rfl⟩, ?_⟩; conv => whnf)
    | (refine ⟨mem_one ⟨rfl, rfl⟩, ?_⟩; conv => whnf)
    | (refine ⟨(by intro y hy; obtain ⟨x, _, rfl⟩ := List.mem_map.1 hy; first | rfl | exact ⟨rfl, rfl⟩), ?_⟩; conv => whnf)
    | (refine ⟨cap_ok (by first | omega | (simp only [List.length_map]; omega)) rfl, ?_⟩; conv => whnf)
    | (refine ix_map (by omega) ?_; conv => whnf)
    | (refine ix_str (by omega) ?_; conv => whnf)
    | (refine wrap64 (by omega) ?_; conv => whnf)
    | (refine wrap64 (by omega) ?_; conv => whnf)
    | (refine ix_at 0 rfl (by omega) ?_; conv => whnf)
    | (exfalso; simp only [List.length_map, List.length_cons, List.length_nil, List.length_append] at h; omega)
    | ((with_reducible refine endx_go ?_); first | (exact endx rfl; done) | (exfalso; refine absurd (trimT_o (j := j) ?_) ?_; (focus assumption); (first | assumption | exact of_decide_eq_false (by assumption)); done) | (exact endx (congrArg D.bool (decide_eq_true rfl)); done) | (exact endx (congrArg D.bool (decide_eq_true (by first | assumption | exact if_neg (by assumption) | (show _ = zeroJ; exact trimT_e (by assumption))))); done))
    | (refine ⟨rfl, ?_⟩; conv => whnf)
    | fail
    )

theorem c7n (j : Jrn) (l : List Evt) (hf : fewB j = true) (hlen : l.length < 1000000) (h30 : (30 : Int) < l.length) (hw : within l.length 201 205 = true) : Fn 7 [j.enc, .fs (l.map Evt.enc)] (.bool true) := by
  have B := bd_few hf
  refine run_walkF eok Try.func7 rfl (by kernel_rfl) ?_
  conv => whnf
  repeat' (first
    | ((with_reducible refine on_dec_t (by assumption) ?_); conv => whnf)
    | ((with_reducible refine on_dec_f (by assumption) ?_); conv => whnf)
    | ((with_reducible refine onBool_t (by assumption) ?_); conv => whnf)
    | ((with_reducible refine onBool_f (by assumption) ?_); conv => whnf)
    | ((with_reducible refine on_nt (by assumption) ?_); conv => whnf)
    | ((with_reducible refine on_nf (by assumption) ?_); conv => whnf)
    | ((with_reducible refine on_ndec_t (by first | assumption | rfl) ?_); conv => whnf)
    | ((with_reducible refine on_ndec_f (by assumption) ?_); conv => whnf)
    | ((with_reducible refine on_dec_t rfl ?_); conv => whnf)
    | ((with_reducible refine on_dec_t (by rw [List.length_map]; assumption) ?_); conv => whnf)
    | ((with_reducible refine on_dec_f (by rw [List.length_map]; assumption) ?_); conv => whnf)
    | ((with_reducible refine on_nt (by rw [List.length_map]; assumption) ?_); conv => whnf)
    | ((with_reducible refine on_nf (by rw [List.length_map]; assumption) ?_); conv => whnf)
    | ((with_reducible refine on_dec_f ?_ ?_); (focus ((try simp only [List.length_map, List.length_cons, List.length_nil, List.length_append]); omega)); conv => whnf)
    | ((with_reducible refine on_dec_t ?_ ?_); (focus ((try simp only [List.length_map, List.length_cons, List.length_nil, List.length_append]); omega)); conv => whnf)
    | ((with_reducible refine on_dec (fun h => ?_) (fun h => ?_)) <;> (try simp only [List.length_map] at h) <;> conv => whnf)
    | ((with_reducible refine on_ndec (fun h => ?_) (fun h => ?_)) <;> (try simp only [List.length_map] at h) <;> conv => whnf)
    | ((with_reducible refine on_not (fun h => ?_) (fun h => ?_)) <;> conv => whnf)
    | ((with_reducible refine onBool_split (fun h => ?_) (fun h => ?_)) <;> conv => whnf)
    | ((with_reducible refine call_go ?_); (first | refine call_step (run_data (xs := []) c9 _) ?_ | refine call_step (run_data (xs := [_]) (c10g j) _) ?_ | refine call_step (run_view (c24 _ 201 205) rfl rfl) ?_ | refine call_step (run_data (xs := [_]) (c26 _) _) ?_ | refine call_step (run_data (xs := [_]) (c13 j B.r B.o) _) ?_ | refine call_step (run_data (xs := [_]) (c37 l hlen) _) ?_ | refine call_step (run_data (xs := [_, _]) (c36 j l hlen (sh_all (by omega) hI.2) B.r B.n B.o) _) ?_ | refine call_step (run_data (xs := [_, _]) (c38 j l B.r B.n B.o (sh_all (by omega) hI.2)) _) ?_ | refine call_step (run_data (xs := [_, _]) (c25b (a := (allR j l).1) (b := (allR j l).1) (by first | exact bd_all _ _ | exact bd_trimT B | exact bd_trim B | exact bd_noted B ((sh_all (by omega) hI.2) _ (List.getElem_mem _)).1 ((sh_all (by omega) hI.2) _ (List.getElem_mem _)).2) (by first | exact bd_all _ _ | exact bd_trimT B | exact bd_trim B | exact bd_noted B ((sh_all (by omega) hI.2) _ (List.getElem_mem _)).1 ((sh_all (by omega) hI.2) _ (List.getElem_mem _)).2)) _) ?_ | refine call_step (run_data (xs := [_, _]) (c25b (a := (trimT j)) (b := j.trim) (by first | exact bd_all _ _ | exact bd_trimT B | exact bd_trim B | exact bd_noted B ((sh_all (by omega) hI.2) _ (List.getElem_mem _)).1 ((sh_all (by omega) hI.2) _ (List.getElem_mem _)).2) (by first | exact bd_all _ _ | exact bd_trimT B | exact bd_trim B | exact bd_noted B ((sh_all (by omega) hI.2) _ (List.getElem_mem _)).1 ((sh_all (by omega) hI.2) _ (List.getElem_mem _)).2)) _) ?_ | refine call_step (run_data (xs := [_, _]) (c25b (a := (noted j (l[0]'(by omega))).1) (b := (noted j (l[0]'(by omega))).1) (by first | exact bd_all _ _ | exact bd_trimT B | exact bd_trim B | exact bd_noted B ((sh_all (by omega) hI.2) _ (List.getElem_mem _)).1 ((sh_all (by omega) hI.2) _ (List.getElem_mem _)).2) (by first | exact bd_all _ _ | exact bd_trimT B | exact bd_trim B | exact bd_noted B ((sh_all (by omega) hI.2) _ (List.getElem_mem _)).1 ((sh_all (by omega) hI.2) _ (List.getElem_mem _)).2)) _) ?_ | refine call_step (run_view (c25b (bd_trimT B) bd_zero) rfl (vlc rfl (vlc (view_agg (vlc rfl (vlc rfl (vlc rfl (vlc rfl (vlc rfl (vlc rfl vln))))))) vln))) ?_ | refine call_step (run_data (xs := [_]) (c39 j B.r B.n B.o) _) ?_ | refine call_step (run_data (xs := [_]) (c11 j B.r B.n B.o) _) ?_ | refine call_step (run_data (xs := [_]) (c40 j B.r B.n) _) ?_ | refine call_step (run_data (xs := [_, _]) (c28 j (l[0]'(by omega)) ((sh_all (by omega) hI.2) _ (List.getElem_mem _)).1 ((sh_all (by omega) hI.2) _ (List.getElem_mem _)).2 B.r B.n B.o) _) ?_ | refine call_step (run_data (xs := [_, _]) (c41 j (l[0]'(by omega)) B.r B.n B.o ((sh_all (by omega) hI.2) _ (List.getElem_mem _)).1 ((sh_all (by omega) hI.2) _ (List.getElem_mem _)).2) _) ?_); conv => whnf)
    | (refine ⟨[], [(3, 5), (3, 6)], (by decide +kernel), ?_⟩; conv => whnf)
    | (refine ⟨[], [(9, 1), (9, 5), (4, 1)], (by decide +kernel), ?_⟩; conv => whnf)
    | (refine ⟨[], [(8, 4)], (by decide +kernel), ?_⟩; conv => whnf)
    | ((with_reducible refine loop_go ?_); first | (refine loop1 (fun (k : Nat) => l.length - k) (fun (k : Nat) => k ≤ l.length ∧ ∀ e ∈ l.take k, shortB e = true) (fun (k : Nat) => [(1, .d (.fs (l.map Evt.enc))), (2, .ptr 0 0 0), (5, .d (i k))]) (fun (k : Nat) => [⟨[.d j.enc], 6, 0⟩]) (0) (by exact ⟨Nat.zero_le _, fun e he => by simp at he⟩) ?_ (fun k C hI hC => ?_); (exact ⟨[.old 0], rfl, rfl, ⟨(by first | (show (_ : D) = _; with_reducible rfl) | exact rfl), ⟨rfl, rfl, rfl⟩, (by first | (show (_ : D) = _; with_reducible rfl) | exact congrArg (D.int .i64) (by omega) | exact congrArg (D.int .i64) (by simp only [List.length_map]) | exact rfl), trivial⟩, ⟨⟨rfl, rfl, .inl ⟨[_], rfl, rfl⟩⟩, trivial⟩⟩); all_goals (conv => whnf)))
    | ((with_reducible show C _ _); first | (refine hC (k + 1) _ _ ?_ (by omega) ?_; clear hC; rotate_left; (exact ⟨[.old 0], rfl, rfl, ⟨(by first | (show (_ : D) = _; with_reducible rfl) | exact rfl), ⟨rfl, rfl, rfl⟩, (by first | (show (_ : D) = _; with_reducible rfl) | exact congrArg (D.int .i64) (by omega) | exact congrArg (D.int .i64) (by simp only [List.length_map]) | exact rfl), trivial⟩, ⟨⟨rfl, rfl, .inl ⟨[_], rfl, rfl⟩⟩, trivial⟩⟩); (exact ⟨by omega, sh_take (by omega) hI.2 (by assumption)⟩)))
    | (refine ⟨⟨(by first | rfl | (simp; done)), cap_ok (by simp only [List.length_map, List.length_cons, List.length_nil, List.length_append]; omega) rfl⟩, ?_⟩; conv => whnf)
    | (refine ⟨mem_one ⟨rfl, rfl⟩, ?_⟩; conv => whnf)
    | (refine ⟨(by intro y hy; obtain ⟨x, _, rfl⟩ := List.mem_map.1 hy; first | rfl | exact ⟨rfl, rfl⟩), ?_⟩; conv => whnf)
    | (refine ⟨cap_ok (by first | omega | (simp only [List.length_map]; omega)) rfl, ?_⟩; conv => whnf)
    | (refine ix_map (by omega) ?_; conv => whnf)
    | (refine ix_str (by omega) ?_; conv => whnf)
    | (refine wrap64 (by omega) ?_; conv => whnf)
    | (refine wrap64 (by omega) ?_; conv => whnf)
    | (refine ix_at 0 rfl (by omega) ?_; conv => whnf)
    | (exfalso; simp only [List.length_map, List.length_cons, List.length_nil, List.length_append] at h; omega)
    | ((with_reducible refine endx_go ?_); first | (exact endx rfl; done) | (exfalso; refine absurd (trimT_o (j := j) ?_) ?_; (focus assumption); (first | assumption | exact of_decide_eq_false (by assumption)); done) | (exact endx (congrArg D.bool (decide_eq_true rfl)); done) | (exact endx (congrArg D.bool (decide_eq_true (by first | assumption | exact if_neg (by assumption) | (show _ = zeroJ; exact trimT_e (by assumption))))); done))
    | (refine ⟨rfl, ?_⟩; conv => whnf)
    | fail
    )

theorem c7 (j : Jrn) (l : List Evt) : Fn 7 [j.enc, .fs (l.map Evt.enc)] (.bool true) := by
  cases hf : fewB j with
  | false => exact c7f j l hf
  | true =>
    by_cases h30 : (30 : Int) < l.length
    · cases hw : within l.length 201 205 with
      | false => exact c7l j l hf h30 hw
      | true =>
        have := within_iff.1 hw
        exact c7n j l hf (by omega) h30 hw
    · exact c7m j l hf (by omega) h30

end Go.Proofs.Ytjbipdppgoldlaa

/-! Ph -/
namespace Go.Proofs.Ytjbipdppgoldlaa
open Go Dw

/-! ### Bits of reasons -/
theorem wo_bit (a b : Int) (k : Nat) : (woI a b).toNat.testBit k = (a.toNat.testBit k && !b.toNat.testBit k) := by
  unfold woI; rw [Int.toNat_natCast, andn_bit]
theorem with_bit (a b : Int) (k : Nat) : (withI a b).toNat.testBit k = (a.toNat.testBit k || b.toNat.testBit k) := by
  unfold withI; rw [Int.toNat_natCast, Nat.testBit_or]
theorem wo_zero {a b : Int} : woI a b = 0 ↔ ∀ k, a.toNat.testBit k = true → b.toNat.testBit k = true := by
  constructor
  · intro h k hk
    have := wo_bit a b k
    rw [h] at this
    simp only [Int.toNat_zero, Nat.zero_testBit] at this
    rw [hk] at this
    simpa using this.symm
  · intro h
    have h0 : (woI a b).toNat = 0 := by
      apply Nat.eq_of_testBit_eq
      intro k
      rw [wo_bit, Nat.zero_testBit]
      cases hk : a.toNat.testBit k with
      | false => rfl
      | true => rw [h k hk]; rfl
    have h1 : 0 ≤ woI a b := by unfold woI; omega
    omega
theorem bit_zero {a : Int} (h : 0 ≤ a) : a = 0 ↔ ∀ k, a.toNat.testBit k = false := by
  constructor
  · rintro rfl k; simp
  · intro hk
    have : a.toNat = 0 := Nat.eq_of_testBit_eq fun k => by rw [hk k, Nat.zero_testBit]
    omega
theorem hasR_tb {a : Int} (h : 0 ≤ a ∧ a ≤ 4095) (n : Nat) (_hn : n ≤ 11) : hasR a ((2 ^ n : Nat) : Int) = a.toNat.testBit n := by
  unfold hasR
  have hp : 0 < 2 ^ n := Nat.two_pow_pos n
  have e1 : a.tdiv ((2 ^ n : Nat) : Int) = ((a.toNat / 2 ^ n : Nat) : Int) := by
    rw [Int.tdiv_eq_ediv_of_nonneg h.1, Int.natCast_ediv]
    congr 1; omega
  have e2 : a.toNat / 2 ^ n ≤ a.toNat := Nat.div_le_self _ _
  rw [e1, Nat.testBit_eq_decide_div_mod_eq]
  generalize a.toNat / 2 ^ n = q at e2
  rw [Go.IntWalk.i64_in _ (by omega), Int.tmod_eq_emod_of_nonneg (by omega), decide_eq_decide]
  omega
theorem pow_bit (n k : Nat) : ((2 ^ n : Nat) : Int).toNat.testBit k = decide (n = k) := by
  rw [Int.toNat_natCast, Nat.testBit_two_pow]
theorem bit_512 (k : Nat) : (512 : Int).toNat.testBit k = decide (9 = k) := pow_bit 9 k
theorem bit_1024 (k : Nat) : (1024 : Int).toNat.testBit k = decide (10 = k) := pow_bit 10 k
theorem bit_2048 (k : Nat) : (2048 : Int).toNat.testBit k = decide (11 = k) := pow_bit 11 k
theorem bit_3584 (k : Nat) : (3584 : Int).toNat.testBit k = (decide (9 = k) || decide (10 = k) || decide (11 = k)) := by
  have e : (3584 : Int).toNat = 2 ^ 9 ||| 2 ^ 10 ||| 2 ^ 11 := by decide
  rw [e, Nat.testBit_or, Nat.testBit_or, Nat.testBit_two_pow, Nat.testBit_two_pow, Nat.testBit_two_pow]
theorem bit_big {a : Int} {n : Nat} (h : 0 ≤ a ∧ a < ((2 ^ n : Nat) : Int)) {k : Nat} (hk : n ≤ k) : a.toNat.testBit k = false := by
  apply Nat.testBit_lt_two_pow
  have : 2 ^ n ≤ 2 ^ k := Nat.pow_le_pow_right (by omega) hk
  omega

/-! ### What is written -/
structure Wrt (j0 : Jrn) (e : Evt) (j : Jrn) (N : List Chg) : Prop where
  recs : j.recs = j0.recs ++ N
  each : ∀ y ∈ N, y.file = e.file ∧ y.tick = e.tick ∧ j0.next ≤ y.usn
theorem Wrt.wr {j0 j : Jrn} {e : Evt} {N : List Chg} (h : Wrt j0 e j N) (hn : j0.next ≤ j.next) {x : Chg} (h1 : x.file = e.file) (h2 : x.tick = e.tick) : Wrt j0 e (j.wr x) (N ++ [{ x with usn := j.next }]) := by
  refine ⟨by simp only [Jrn.wr, h.recs, List.append_assoc], fun y hy => ?_⟩
  rcases List.mem_append.1 hy with hy | hy
  · exact h.each y hy
  · rw [List.mem_singleton.1 hy]; exact ⟨h1, h2, hn⟩
/-- A bit is in one of some records. -/
def Cov (N : List Chg) (k : Nat) : Prop := ∃ y ∈ N, y.reasons.toNat.testBit k = true
theorem Cov.mono {N M : List Chg} {k : Nat} (h : Cov N k) (hs : ∀ y ∈ N, y ∈ M) : Cov M k := by
  obtain ⟨y, hy, hk⟩ := h
  exact ⟨y, hs y hy, hk⟩
section
variable {j : Jrn} {e : Evt} (V : Valid j) (he : eventErr e = 0)
include V he
theorem aft1_new : ∃ N, Wrt j e (aft1 j e).2 N ∧ N.length ≤ 1 ∧ (∀ k, (woI e.reasons 3584).toNat.testBit k = true → (openR j.opens e.file).toNat.testBit k = true ∨ Cov N k) ∧
    (aft1 j e).1 = withI (openR j.opens e.file) (woI e.reasons 3584) ∧ (woI (woI e.reasons 3584) (openR j.opens e.file) = 0 → N = [] ∧ aft1 j e = (openR j.opens e.file, j)) := by
  have ho := open_lt V e.file
  have hP := wo_lt (a := e.reasons) (ev_bd he)
  unfold aft1
  by_cases h : woI (woI e.reasons 3584) (openR j.opens e.file) = 0
  · rw [if_pos h]
    refine ⟨[], ⟨by simp, fun y hy => by cases hy⟩, by simp, fun k hk => .inl (wo_zero.1 h k hk), ?_, fun _ => ⟨rfl, rfl⟩⟩
    have h2 := wo_zero.1 h
    have hb := with_lt (a := openR j.opens e.file) (b := woI e.reasons 3584) 11 (by omega) (by omega)
    have : (openR j.opens e.file).toNat = (withI (openR j.opens e.file) (woI e.reasons 3584)).toNat := by
      apply Nat.eq_of_testBit_eq
      intro k
      rw [with_bit]
      cases hk : (woI e.reasons 3584).toNat.testBit k with
      | false => simp
      | true => rw [h2 k hk]; rfl
    show openR j.opens e.file = _
    omega
  · rw [if_neg h]
    refine ⟨[] ++ [_], Wrt.wr (N := []) ⟨by simp, fun y hy => by cases hy⟩ (Int.le_refl _) rfl rfl, by simp, fun k hk => .inr ⟨_, List.mem_append_right _ (List.mem_singleton.2 rfl), ?_⟩, rfl, fun h0 => absurd h0 h⟩
    show (withI _ _).toNat.testBit k = true
    rw [with_bit, hk]; simp
theorem aft2_new {p : Int × Jrn} (hs : Semi j p.2 1 ∧ 0 ≤ p.1 ∧ p.1 < 2048) {N : List Chg} (hp : Wrt j e p.2 N) : ∃ M, Wrt j e (aft2 e p).2 (N ++ M) ∧ M.length ≤ 2 ∧ (hasR e.reasons 512 = true → Cov M 9 ∧ Cov M 10 ∧ (aft2 e p).1.toNat.testBit 10 = true) ∧ (hasR e.reasons 512 = false → M = [] ∧ aft2 e p = p) := by
  unfold aft2
  by_cases h : hasR e.reasons 512 = true
  · rw [if_pos h]
    have s1 := hs.1.next
    have s2 : (j.next ≤ (p.2.wr ⟨0, e.file, e.parent, e.tick, withI p.1 512, e.name⟩).next) := by
      obtain ⟨h1, h2, h3, h4, h5, h6, h7, h8⟩ := eventErr_ok he
      have w1 := with_lt (a := p.1) (b := 512) 11 (by omega) (by omega)
      have g1 := with_ge (a := p.1) (b := 512) (by omega)
      exact (Semi.wr V (by omega) hs.1 (x := ⟨0, e.file, e.parent, e.tick, withI p.1 512, e.name⟩) (rec_mk h1 h2 h3 ⟨by show 1 ≤ withI _ _; omega, by show withI _ _ ≤ 4095; omega⟩ h6)).next.1
    refine ⟨[_] ++ [_], by rw [← List.append_assoc]; exact (hp.wr s1.1 rfl rfl).wr s2 rfl rfl, by simp, fun _ => ⟨⟨_, List.mem_append_left _ (List.mem_singleton.2 rfl), ?_⟩, ⟨_, List.mem_append_right _ (List.mem_singleton.2 rfl), ?_⟩, ?_⟩, fun h0 => by rw [h] at h0; cases h0⟩
    · show (withI _ _).toNat.testBit 9 = true
      rw [with_bit, bit_512]; simp
    · show (withI _ _).toNat.testBit 10 = true
      rw [with_bit, bit_1024]; simp
    · show (withI _ _).toNat.testBit 10 = true
      rw [with_bit, bit_1024]; simp
  · rw [if_neg h]
    exact ⟨[], by simpa using hp, by simp, fun h0 => absurd h0 h, fun _ => ⟨rfl, rfl⟩⟩
omit V he in
theorem aft3_new {p : Int × Jrn} (hs : Semi j p.2 3) {N : List Chg} (hp : Wrt j e p.2 N) : ∃ M, Wrt j e (aft3 e p).2 (N ++ M) ∧ M.length ≤ 1 ∧ (hasR e.reasons 2048 = true → ¬ p.1 = 0 → Cov M 11) ∧ (hasR e.reasons 2048 = false → M = [] ∧ aft3 e p = p) := by
  unfold aft3
  by_cases h : (hasR e.reasons 2048 && !decide (p.1 = 0)) = true
  · rw [if_pos h]
    refine ⟨[_], hp.wr hs.next.1 (by split <;> rfl) (by split <;> rfl), by simp, fun _ _ => ⟨_, List.mem_singleton.2 rfl, ?_⟩, fun h0 => by rw [h0] at h; cases h⟩
    show (if hasR e.reasons 512 = true then (⟨0, e.file, e.np, e.tick, withI p.1 2048, e.nn⟩ : Chg) else ⟨0, e.file, e.parent, e.tick, withI p.1 2048, e.name⟩).reasons.toNat.testBit 11 = true
    have : (if hasR e.reasons 512 = true then (⟨0, e.file, e.np, e.tick, withI p.1 2048, e.nn⟩ : Chg) else ⟨0, e.file, e.parent, e.tick, withI p.1 2048, e.name⟩).reasons = withI p.1 2048 := by split <;> rfl
    rw [this, with_bit, bit_2048]; simp
  · rw [if_neg h]
    refine ⟨[], by simpa using hp, by simp, fun h1 h2 => ?_, fun _ => ⟨rfl, rfl⟩⟩
    rw [h1, decide_eq_false h2] at h
    exact absurd rfl h
/-- What an event writes. -/
theorem aft_new : ∃ N, Wrt j e (aft3 e (aft2 e (aft1 j e))).2 N ∧ N.length ≤ 4 ∧ ((woI e.reasons 2048 = 0 ∧ openR j.opens e.file = 0) ∨ ∀ k, e.reasons.toNat.testBit k = true → (openR j.opens e.file).toNat.testBit k = true ∨ Cov N k) ∧
    (woI e.reasons (openR j.opens e.file) = 0 → hasR e.reasons 512 = false → N = [] ∧ (aft3 e (aft2 e (aft1 j e))).2 = j) := by
  have hbd := ev_bd he
  have ho := open_lt V e.file
  obtain ⟨N1, w1, l1, b1, o1, q1⟩ := aft1_new V he
  obtain ⟨N2, w2, l2, b2, q2⟩ := aft2_new V he (aft1_ok V he) w1
  obtain ⟨N3, w3, l3, b3, q3⟩ := aft3_new (aft2_ok V he (aft1_ok V he)).1 w2
  have h9 : hasR e.reasons 512 = e.reasons.toNat.testBit 9 := hasR_tb hbd 9 (by omega)
  have h11 : hasR e.reasons 2048 = e.reasons.toNat.testBit 11 := hasR_tb hbd 11 (by omega)
  have h10 : e.reasons.toNat.testBit 10 = e.reasons.toNat.testBit 9 := by
    have h1 : hasR e.reasons 1024 = e.reasons.toNat.testBit 10 := hasR_tb hbd 10 (by omega)
    have h2 : hasR e.reasons 1024 = has e.reasons 1024 := hasR_has (by omega) (by omega) 10 (by omega)
    rw [← h1, h2, ev_has he, h9]
  refine ⟨_, w3, by simp only [List.length_append]; omega, ?_, ?_⟩
  · by_cases hcl : woI e.reasons 2048 = 0 ∧ openR j.opens e.file = 0
    · exact .inl hcl
    · refine .inr fun k hk => ?_
      by_cases k9 : k = 9
      · subst k9
        exact .inr ((b2 (by rw [h9]; exact hk)).1.mono fun y hy => by simp [hy])
      · by_cases k10 : k = 10
        · subst k10
          exact .inr ((b2 (by rw [h9, ← h10]; exact hk)).2.1.mono fun y hy => by simp [hy])
        · by_cases k11 : k = 11
          · subst k11
            have hne : ¬ (aft2 e (aft1 j e)).1 = 0 := by
              intro h0
              by_cases hr : hasR e.reasons 512 = true
              · have := (b2 hr).2.2
                rw [h0] at this; simp at this
              · have hr' : hasR e.reasons 512 = false := by simpa using hr
                rw [(q2 hr').2, o1] at h0
                have hz := (bit_zero (with_lt (a := openR j.opens e.file) (b := woI e.reasons 3584) 11 (by omega) (by have := wo_lt hbd; omega)).1).1 h0
                apply hcl
                constructor
                · rw [wo_zero]
                  intro i hi
                  rw [bit_2048]
                  by_cases h11' : 11 = i
                  · simp [h11']
                  · exfalso
                    have hzi := hz i
                    rw [with_bit, wo_bit, bit_3584, hi] at hzi
                    by_cases h9' : 9 = i
                    · subst h9'; rw [h9, hi] at hr; exact hr rfl
                    · by_cases h10' : 10 = i
                      · subst h10'; rw [h9, ← h10, hi] at hr; exact hr rfl
                      · simp [h9', h10', h11'] at hzi
                · exact (bit_zero ho.1).2 fun i => by have := hz i; rw [with_bit] at this; simpa using (Bool.or_eq_false_iff.1 this).1
            exact .inr ((b3 (by rw [h11]; exact hk) hne).mono fun y hy => by simp [hy])
          · have hP : (woI e.reasons 3584).toNat.testBit k = true := by
              rw [wo_bit, hk, bit_3584]
              have a1 : ¬ 9 = k := fun h => k9 h.symm
              have a2 : ¬ 10 = k := fun h => k10 h.symm
              have a3 : ¬ 11 = k := fun h => k11 h.symm
              simp [a1, a2, a3]
            rcases b1 k hP with h | h
            · exact .inl h
            · exact .inr (h.mono fun y hy => by simp [hy])
  · intro hq hr
    have hz := wo_zero.1 hq
    have hc : hasR e.reasons 2048 = false := by
      rw [h11]
      cases hh : e.reasons.toNat.testBit 11 with
      | false => rfl
      | true =>
        have := hz 11 hh
        rw [bit_big (n := 11) (by omega) (Nat.le_refl _)] at this
        cases this
    have hp : woI (woI e.reasons 3584) (openR j.opens e.file) = 0 := by
      rw [wo_zero]
      intro k hk
      rw [wo_bit] at hk
      exact hz k (by simp at hk; exact hk.1)
    obtain ⟨n1, e1⟩ := q1 hp
    obtain ⟨n2, e2⟩ := q2 hr
    obtain ⟨n3, e3⟩ := q3 hc
    exact ⟨by rw [n1, n2, n3]; rfl, by rw [e3, e2, e1]⟩
end
/-! ### What is trimmed -/
theorem Chain.usn : ∀ {l : List Chg} {a b : Int}, Chain a l b → ∀ y ∈ l, a ≤ y.usn ∧ y.usn < b
  | x :: l, a, b, h, y, hy => by
    have hs := rec_sz h.1
    have hl := h.2.2.le
    rcases List.mem_cons.1 hy with rfl | hy
    · have := h.2.1; omega
    · have := Chain.usn h.2.2 y hy; omega
theorem trim_law {n m : Int} : ∀ {l : List Chg} {f : Int}, Chain f l n → 0 ≤ f → n < 1000000000000 →
    ∃ d, l = d ++ (trimR n m f l).2 ∧ (∀ y ∈ d, y.usn < (trimR n m f l).1) ∧ (∀ y ∈ (trimR n m f l).2, (trimR n m f l).1 ≤ y.usn) ∧ ((trimR n m f l).2 = [] ∨ n - (trimR n m f l).1 ≤ m) ∧ (n - f ≤ m → trimR n m f l = (f, l))
  | [], f, h, _, _ => ⟨[], rfl, (fun y hy => by cases hy), (fun y hy => by cases hy), .inl rfl, fun _ => rfl⟩
  | x :: l, f, h, h0, hb => by
    have hs := rec_sz h.1
    have hl := h.2.2.le
    have hc' := h.le
    have hw : IntKind.i64.wrap (n - f) = n - f := wrap_in (by simp only [List.length_cons] at hc'; omega)
    simp only [trimR, hw]
    by_cases hc : m < n - f
    · rw [if_pos hc, wrap_in (by omega)]
      obtain ⟨d, e1, e2, e3, e4, _⟩ := trim_law (m := m) h.2.2 (by omega) hb
      have hle := (trim_chain (m := m) h.2.2 (by omega) hb).2
      refine ⟨x :: d, by rw [List.cons_append, ← e1], fun y hy => ?_, e3, e4, fun hh => by omega⟩
      rcases List.mem_cons.1 hy with rfl | hy
      · have := h.2.1; omega
      · exact e2 y hy
    · rw [if_neg hc]
      exact ⟨[], rfl, (fun y hy => by cases hy), (fun y hy => (h.usn y hy).1), .inr (by show n - f ≤ m; omega), fun _ => rfl⟩
/-- What the law asks of a journal after an event. -/
structure Each (j : Jrn) (e : Evt) (x : Jrn) (o : Int) : Prop where
  id : x.id = j.id
  next : j.next ≤ x.next
  first : j.first ≤ x.first
  most : x.recs = [] ∨ x.next - x.first ≤ j.most
  new : ∀ y ∈ x.recs, j.next ≤ y.usn → y.file = e.file ∧ y.tick = e.tick
  kept : ∀ y ∈ j.recs, x.first ≤ y.usn → y ∈ x.recs
  quiet : woI e.reasons o = 0 → hasR e.reasons 512 = false → x.next = j.next ∧ x.recs = j.recs
  bits : ¬ j.next < x.first → ¬ (woI e.reasons 2048 = 0 ∧ o = 0) → ∀ k, e.reasons.toNat.testBit k = true → o.toNat.testBit k = true ∨ ∃ y ∈ x.recs, j.next ≤ y.usn ∧ y.reasons.toNat.testBit k = true
theorem after_each {j : Jrn} {e : Evt} (V : Valid j) (he : eventErr e = 0) (hm : j.next - j.first ≤ j.most) : Each j e (after j e) (openR j.opens e.file) := by
  obtain ⟨s, hb⟩ := aft_ok V he
  obtain ⟨N, w, hl, hbits, hq⟩ := aft_new V he
  have hv := V.nums
  have hn := s.next
  have hold := V.chain.usn
  unfold after Jrn.trim Jrn.opened
  generalize aft3 e (aft2 e (aft1 j e)) = p at *
  have hc := s.chain
  rw [s.first] at hc
  obtain ⟨d, e1, e2, e3, e4, e5⟩ := trim_law (m := p.2.most) hc (by omega) (by omega)
  have ht := trim_chain (m := p.2.most) hc (by omega) (by omega)
  simp only [s.first]
  have hin : ∀ y, y ∈ p.2.recs → (trimR p.2.next p.2.most j.first p.2.recs).1 ≤ y.usn → y ∈ (trimR p.2.next p.2.most j.first p.2.recs).2 := by
    intro y hy hf
    rw [e1] at hy
    rcases List.mem_append.1 hy with hy | hy
    · have := e2 y hy; omega
    · exact hy
  refine ⟨s.id, hn.1, ht.2, ?_, ?_, ?_, ?_, ?_⟩
  · rcases e4 with h | h
    · exact .inl h
    · right; rw [s.most] at *; exact h
  · intro y hy hu
    have hy2 : y ∈ p.2.recs := by rw [e1]; exact List.mem_append_right _ hy
    rw [w.recs] at hy2
    rcases List.mem_append.1 hy2 with h | h
    · have := hold y h; omega
    · exact ⟨(w.each y h).1, (w.each y h).2.1⟩
  · intro y hy hf
    exact hin y (by rw [w.recs]; exact List.mem_append_left _ hy) hf
  · intro h1 h2
    obtain ⟨_, e6⟩ := hq h1 h2
    have e7 : p.2.next - j.first ≤ p.2.most := by rw [e6]; exact hm
    rw [e5 e7, e6]
    exact ⟨rfl, rfl⟩
  · intro hlost hcl k hk
    rcases hbits with h | h
    · exact absurd h hcl
    · rcases h k hk with h | ⟨y, hy, hyk⟩
      · exact .inl h
      · have hu := (w.each y hy).2.2
        refine .inr ⟨y, hin y (by rw [w.recs]; exact List.mem_append_right _ hy) ?_, hu, hyk⟩
        have : ¬ j.next < (trimR p.2.next p.2.most j.first p.2.recs).1 := hlost
        omega
/-- With room for it, nothing is full. -/
theorem after_full {j : Jrn} {e : Evt} (V : Valid j) (he : eventErr e = 0) (hf : full (after j e) = true) : j.opens.length = 64 ∨ 2147483247 < j.next ∨ 196 < j.recs.length := by
  obtain ⟨s, hb⟩ := aft_ok V he
  obtain ⟨N, w, hl, _, _⟩ := aft_new V he
  have hv := V.nums
  have hn := s.next
  have hop := V.opens
  have hw := congrArg List.length w.recs
  rw [List.length_append] at hw
  unfold full at hf
  simp only [Bool.or_eq_true, decide_eq_true_eq] at hf
  unfold after Jrn.trim Jrn.opened at hf
  generalize aft3 e (aft2 e (aft1 j e)) = p at *
  have hc := s.chain
  rw [s.first] at hc
  obtain ⟨d, e1, _⟩ := trim_law (m := p.2.most) hc (by omega) (by omega)
  have hd := congrArg List.length e1
  rw [List.length_append] at hd
  simp only [s.first, s.opens] at hf
  have hol : (openGo e.file p.1 j.opens (decide (p.1 = 0)) []).length ≤ j.opens.length + 1 := by
    obtain ⟨k, k1, k2, k3, k4⟩ := opAt_ahead V e.file
    have h3 : ∀ a b (h : b < j.opens.length), (hab : a < b) → compare (j.opens[a]'(by omega)).file j.opens[b].file < 0 := fun a b h hab => opens_lt V hab h
    rw [openGo_law (f := e.file) (r := p.1) (decide (p.1 = 0)) j.opens k [] k1 k2 k3 h3, List.nil_append, List.length_append, List.length_append, List.length_take, List.length_drop]
    have e7 : (if decide (p.1 = 0) = true then [] else [(⟨e.file, p.1⟩ : Opn)]).length ≤ 1 := by split <;> simp
    generalize (if decide (p.1 = 0) = true then [] else [(⟨e.file, p.1⟩ : Opn)]).length = z at *
    split
    · split <;> omega
    · omega
  rcases hf with (h | h) | h
  · left; omega
  · right; left; omega
  · right; right; omega
end Go.Proofs.Ytjbipdppgoldlaa

/-! Xt -/
namespace Go.Proofs.Ytjbipdppgoldlaa
open Go Dw
set_option maxRecDepth 10000
set_option linter.unusedVariables false
set_option linter.unusedSimpArgs false
attribute [local irreducible] Run
set_option maxHeartbeats 4000000

theorem refn_eq {a b : Ref} {A B : Prop} (h : a = b) (k : B) : onBool (!cellsEq [i a.r, i a.s] [i b.r, i b.s]) A B := by
  subst h
  refine on_refn (fun hn => absurd rfl hn) (fun _ => k)
theorem noted_full {j : Jrn} {e : Evt} (V : Valid j) (he : eventErr e = 0) (hf : full (after j e) = true) : noted j e = (zeroJ, 16) := by
  rw [noted_n V]
  have : nE j e = 16 := by unfold nE; rw [if_pos he, hf]; rfl
  rw [this]; rfl
theorem noted_ok {j : Jrn} {e : Evt} (V : Valid j) (he : eventErr e = 0) (hf : full (after j e) = false) : noted j e = (after j e, 0) := by
  rw [noted_n V]
  have h1 : nE j e = 0 := by unfold nE; rw [if_pos he, hf]; rfl
  have h2 : nJ j e = after j e := by unfold nJ; rw [if_pos he]
  rw [h1, h2]; rfl
theorem c28n {j : Jrn} {e : Evt} {x : Jrn} {c : Int} (B : Bd j) (hs : shortB e = true) (h : noted j e = (x, c)) : Fn 28 [j.enc, e.enc] (.tup [x.enc, i c]) := by
  have := c28 j e (short_bd hs).1 (short_bd hs).2 B.r B.n B.o
  rw [h] at this
  exact this
theorem c29V {j : Jrn} {f : Ref} (V : Valid j) (hf : refErr f = 0) : Fn 29 [j.enc, f.enc] (.tup [i (openR j.opens f), i 0]) := by
  have B := bd_valid V
  have := c29 j f B.r B.n B.o
  have e : first [(checkJ j).2, refErr f] = 0 := by rw [first_cons, if_pos (valid_check V), first_cons, if_pos hf]; rfl
  rw [e, if_pos rfl, openB_openR V f] at this
  exact this
theorem c29o {j : Jrn} {f : Ref} {o : Int} (V : Valid j) (hf : refErr f = 0) (ho : openR j.opens f = o) : Fn 29 [j.enc, f.enc] (.tup [i o, i 0]) := by
  subst ho; exact c29V V hf
/-- Reasons that are noted so far. -/
structure Nt (j x : Jrn) (o : Int) (k : Nat) (m : Int) : Prop where
  bd : 0 ≤ m ∧ m ≤ 4095
  old : ∀ b, o.toNat.testBit b = true → m.toNat.testBit b = true
  new : ∀ y ∈ x.recs.take k, j.next ≤ y.usn → ∀ b, y.reasons.toNat.testBit b = true → m.toNat.testBit b = true
theorem nt_0 {j x : Jrn} {o : Int} (h : 0 ≤ o ∧ o ≤ 4095) : Nt j x o 0 o := ⟨h, fun _ hb => hb, fun y hy => by simp at hy⟩
theorem nt_skip {j x : Jrn} {o m : Int} {k : Nat} (h : Nt j x o k m) (hk : k < x.recs.length) (hu : ¬ j.next ≤ x.recs[k].usn) : Nt j x o (k + 1) m := by
  refine ⟨h.bd, h.old, fun y hy hn => ?_⟩
  rw [List.take_succ_eq_append_getElem hk] at hy
  rcases List.mem_append.1 hy with hy | hy
  · exact h.new y hy hn
  · rw [List.mem_singleton.1 hy] at hn; exact absurd hn hu
theorem nt_with {j x : Jrn} {o m : Int} {k : Nat} (h : Nt j x o k m) (hk : k < x.recs.length) (hb : 0 ≤ x.recs[k].reasons ∧ x.recs[k].reasons ≤ 4095) : Nt j x o (k + 1) (withI m x.recs[k].reasons) := by
  refine ⟨withI_bd h.bd hb, fun b ho => by rw [with_bit, h.old b ho]; rfl, fun y hy hn b hy2 => ?_⟩
  rw [List.take_succ_eq_append_getElem hk] at hy
  rcases List.mem_append.1 hy with hy | hy
  · rw [with_bit, h.new y hy hn b hy2]; rfl
  · rw [List.mem_singleton.1 hy] at hy2
    rw [with_bit, hy2]; simp
theorem nt_end {j x : Jrn} {e : Evt} {o m : Int} {k : Nat} (h : Nt j x o k m) (hk : ¬ k < x.recs.length) (E : Each j e x o) (h1 : ¬ j.next < x.first) (h2 : ¬ (woI e.reasons 2048 = 0 ∧ o = 0)) : woI e.reasons m = 0 := by
  rw [wo_zero]
  intro b hb
  rcases E.bits h1 h2 b hb with h3 | ⟨y, hy, hu, hyb⟩
  · exact h.old b h3
  · exact h.new y (by rw [List.take_of_length_le (by omega)]; exact hy) hu b hyb
theorem rsn_bd {x : Jrn} (V : Valid x) {k : Nat} (hk : k < x.recs.length) : 0 ≤ x.recs[k].reasons ∧ x.recs[k].reasons ≤ 4095 := by
  have := (recordErr_ok (V.recOk _ (List.getElem_mem hk))).2.2.2.1
  omega
/-- Where a record was found. -/
structure Fd (x : Jrn) (y : Chg) (n : Nat) (z : Int) : Prop where
  bd : -1 ≤ z ∧ z < 1000000
  at_ : y ∈ x.recs.take n → 0 ≤ z
theorem fd_0 {x : Jrn} {y : Chg} : Fd x y 0 (-1) := ⟨by omega, fun h => by simp at h⟩
theorem fd_eq {x : Jrn} {y : Chg} {n : Nat} (hn : n < 1000000) : Fd x y (n + 1) (n : Int) := ⟨by omega, fun _ => by omega⟩
theorem fd_ne {x : Jrn} {y : Chg} {n : Nat} {z : Int} (h : Fd x y n z) (hn : n < x.recs.length) (hy : ¬ x.recs[n] = y) : Fd x y (n + 1) z := by
  refine ⟨h.bd, fun hm => ?_⟩
  rw [List.take_succ_eq_append_getElem hn] at hm
  rcases List.mem_append.1 hm with hm | hm
  · exact h.at_ hm
  · exact absurd (List.mem_singleton.1 hm).symm hy
theorem fd_end {j x : Jrn} {e : Evt} {o z : Int} {n k : Nat} (E : Each j e x o) (hk : k < j.recs.length) (hf : x.first ≤ j.recs[k].usn) (hn : ¬ n < x.recs.length) (h : Fd x j.recs[k] n z) : 0 ≤ z := by
  refine h.at_ ?_
  rw [List.take_of_length_le (by omega)]
  exact E.kept _ (List.getElem_mem hk) hf
attribute [local irreducible] woI withI hasR after checkJ eventErr full noted nE nJ Jrn.trim nGo allR first fewB shortB trimT

theorem c5f (j : Jrn) (e : Evt) (hf : fewB j = false) : Fn 5 [j.enc, e.enc] (.bool true) := by
  refine run_walkF eok Try.func5 rfl (by kernel_rfl) ?_
  conv => whnf
  repeat' (first
    | ((with_reducible refine on_dec_t (by assumption) ?_); conv => whnf)
    | ((with_reducible refine on_dec_f (by assumption) ?_); conv => whnf)
    | ((with_reducible refine onBool_t (by assumption) ?_); conv => whnf)
    | ((with_reducible refine onBool_f (by assumption) ?_); conv => whnf)
    | ((with_reducible refine on_nt (by assumption) ?_); conv => whnf)
    | ((with_reducible refine on_nf (by assumption) ?_); conv => whnf)
    | ((with_reducible refine on_ndec_t (by first | assumption | rfl) ?_); conv => whnf)
    | ((with_reducible refine on_ndec_f (by assumption) ?_); conv => whnf)
    | ((with_reducible refine on_dec_t rfl ?_); conv => whnf)
    | ((with_reducible refine on_dec_f ?_ ?_); (focus ((try simp only [List.length_map, List.length_cons, List.length_nil, List.length_append]); omega)); conv => whnf)
    | ((with_reducible refine on_dec_t ?_ ?_); (focus ((try simp only [List.length_map, List.length_cons, List.length_nil, List.length_append]); omega)); conv => whnf)
    | ((with_reducible refine on_dec (fun h => ?_) (fun h => ?_)) <;> (try simp only [List.length_map] at h) <;> conv => whnf)
    | ((with_reducible refine on_ndec (fun h => ?_) (fun h => ?_)) <;> (try simp only [List.length_map] at h) <;> conv => whnf)
    | ((with_reducible refine on_not (fun h => ?_) (fun h => ?_)) <;> conv => whnf)
    | ((with_reducible refine onBool_split (fun h => ?_) (fun h => ?_)) <;> conv => whnf)
    | ((with_reducible refine call_go ?_); (first | refine call_step (run_data (xs := []) c9 _) ?_ | refine call_step (run_data (xs := [_]) (c10g j) _) ?_ | refine call_step (run_data (xs := [_]) (c26 _) _) ?_ | refine call_step (run_data (xs := [_]) (c11 j B.r B.n B.o) _) ?_ | refine call_step (run_data (xs := [_]) (c11 x BX.r BX.n BX.o) _) ?_ | refine call_step (run_data (xs := [_]) (c27 e (short_bd hs).1 (short_bd hs).2) _) ?_ | refine call_step (run_data (xs := [_]) (c13 j B.r B.o) _) ?_ | refine call_step (run_data (xs := [_, _]) (c28n B hs hN) _) ?_ | refine call_step (run_view (c29o V hF ho) rfl (vlc rfl (vlc (view_agg (vlc rfl (vlc rfl vln))) vln))) ?_); conv => whnf)
    | (refine ⟨[], [(7, 1), (7, 3), (2, 1)], (by decide +kernel), ?_⟩; conv => whnf)
    | (refine ⟨[], [(3, 1)], (by decide +kernel), ?_⟩; conv => whnf)
    | (refine ⟨[], [], (by decide +kernel), ?_⟩; conv => whnf)
    | (refine ⟨⟨(by first | rfl | (simp; done)), cap_ok (by simp only [List.length_map, List.length_cons, List.length_nil, List.length_append]; omega) rfl⟩, ?_⟩; conv => whnf)
    | (refine ⟨mem_one ⟨rfl, rfl⟩, ?_⟩; conv => whnf)
    | (refine ⟨(by intro y hy; obtain ⟨x, _, rfl⟩ := List.mem_map.1 hy; first | rfl | exact ⟨rfl, rfl⟩), ?_⟩; conv => whnf)
    | (refine ⟨cap_ok (by first | omega | (simp only [List.length_map]; omega)) rfl, ?_⟩; conv => whnf)
    | (refine ix_map (by omega) ?_; conv => whnf)
    | (refine ix_str (by omega) ?_; conv => whnf)
    | (refine wrap64 (by omega) ?_; conv => whnf)
    | (exfalso; simp only [List.length_map, List.length_cons, List.length_nil, List.length_append] at h; omega)
    | ((with_reducible refine endx_go ?_); first | (exact endx rfl; done))
    | (refine ⟨rfl, ?_⟩; conv => whnf)
    | fail
    )

theorem c5s (j : Jrn) (e : Evt) (hf : fewB j = true) (hs : shortB e = false) : Fn 5 [j.enc, e.enc] (.bool true) := by
  refine run_walkF eok Try.func5 rfl (by kernel_rfl) ?_
  conv => whnf
  repeat' (first
    | ((with_reducible refine on_dec_t (by assumption) ?_); conv => whnf)
    | ((with_reducible refine on_dec_f (by assumption) ?_); conv => whnf)
    | ((with_reducible refine onBool_t (by assumption) ?_); conv => whnf)
    | ((with_reducible refine onBool_f (by assumption) ?_); conv => whnf)
    | ((with_reducible refine on_nt (by assumption) ?_); conv => whnf)
    | ((with_reducible refine on_nf (by assumption) ?_); conv => whnf)
    | ((with_reducible refine on_ndec_t (by first | assumption | rfl) ?_); conv => whnf)
    | ((with_reducible refine on_ndec_f (by assumption) ?_); conv => whnf)
    | ((with_reducible refine on_dec_t rfl ?_); conv => whnf)
    | ((with_reducible refine on_dec_f ?_ ?_); (focus ((try simp only [List.length_map, List.length_cons, List.length_nil, List.length_append]); omega)); conv => whnf)
    | ((with_reducible refine on_dec_t ?_ ?_); (focus ((try simp only [List.length_map, List.length_cons, List.length_nil, List.length_append]); omega)); conv => whnf)
    | ((with_reducible refine on_dec (fun h => ?_) (fun h => ?_)) <;> (try simp only [List.length_map] at h) <;> conv => whnf)
    | ((with_reducible refine on_ndec (fun h => ?_) (fun h => ?_)) <;> (try simp only [List.length_map] at h) <;> conv => whnf)
    | ((with_reducible refine on_not (fun h => ?_) (fun h => ?_)) <;> conv => whnf)
    | ((with_reducible refine onBool_split (fun h => ?_) (fun h => ?_)) <;> conv => whnf)
    | ((with_reducible refine call_go ?_); (first | refine call_step (run_data (xs := []) c9 _) ?_ | refine call_step (run_data (xs := [_]) (c10g j) _) ?_ | refine call_step (run_data (xs := [_]) (c26 _) _) ?_ | refine call_step (run_data (xs := [_]) (c11 j B.r B.n B.o) _) ?_ | refine call_step (run_data (xs := [_]) (c11 x BX.r BX.n BX.o) _) ?_ | refine call_step (run_data (xs := [_]) (c27 e (short_bd hs).1 (short_bd hs).2) _) ?_ | refine call_step (run_data (xs := [_]) (c13 j B.r B.o) _) ?_ | refine call_step (run_data (xs := [_, _]) (c28n B hs hN) _) ?_ | refine call_step (run_view (c29o V hF ho) rfl (vlc rfl (vlc (view_agg (vlc rfl (vlc rfl vln))) vln))) ?_); conv => whnf)
    | (refine ⟨[], [(7, 1), (7, 3), (2, 1)], (by decide +kernel), ?_⟩; conv => whnf)
    | (refine ⟨[], [(3, 1)], (by decide +kernel), ?_⟩; conv => whnf)
    | (refine ⟨[], [], (by decide +kernel), ?_⟩; conv => whnf)
    | (refine ⟨⟨(by first | rfl | (simp; done)), cap_ok (by simp only [List.length_map, List.length_cons, List.length_nil, List.length_append]; omega) rfl⟩, ?_⟩; conv => whnf)
    | (refine ⟨mem_one ⟨rfl, rfl⟩, ?_⟩; conv => whnf)
    | (refine ⟨(by intro y hy; obtain ⟨x, _, rfl⟩ := List.mem_map.1 hy; first | rfl | exact ⟨rfl, rfl⟩), ?_⟩; conv => whnf)
    | (refine ⟨cap_ok (by first | omega | (simp only [List.length_map]; omega)) rfl, ?_⟩; conv => whnf)
    | (refine ix_map (by omega) ?_; conv => whnf)
    | (refine ix_str (by omega) ?_; conv => whnf)
    | (refine wrap64 (by omega) ?_; conv => whnf)
    | (exfalso; simp only [List.length_map, List.length_cons, List.length_nil, List.length_append] at h; omega)
    | ((with_reducible refine endx_go ?_); first | (exact endx rfl; done))
    | (refine ⟨rfl, ?_⟩; conv => whnf)
    | fail
    )

theorem c5c (j : Jrn) (e : Evt) (hf : fewB j = true) (hs : shortB e = true) (hc : ¬ (checkJ j).2 = 0) : Fn 5 [j.enc, e.enc] (.bool true) := by
  have B := bd_few hf
  refine run_walkF eok Try.func5 rfl (by kernel_rfl) ?_
  conv => whnf
  repeat' (first
    | ((with_reducible refine on_dec_t (by assumption) ?_); conv => whnf)
    | ((with_reducible refine on_dec_f (by assumption) ?_); conv => whnf)
    | ((with_reducible refine onBool_t (by assumption) ?_); conv => whnf)
    | ((with_reducible refine onBool_f (by assumption) ?_); conv => whnf)
    | ((with_reducible refine on_nt (by assumption) ?_); conv => whnf)
    | ((with_reducible refine on_nf (by assumption) ?_); conv => whnf)
    | ((with_reducible refine on_ndec_t (by first | assumption | rfl) ?_); conv => whnf)
    | ((with_reducible refine on_ndec_f (by assumption) ?_); conv => whnf)
    | ((with_reducible refine on_dec_t rfl ?_); conv => whnf)
    | ((with_reducible refine on_dec_f ?_ ?_); (focus ((try simp only [List.length_map, List.length_cons, List.length_nil, List.length_append]); omega)); conv => whnf)
    | ((with_reducible refine on_dec_t ?_ ?_); (focus ((try simp only [List.length_map, List.length_cons, List.length_nil, List.length_append]); omega)); conv => whnf)
    | ((with_reducible refine on_dec (fun h => ?_) (fun h => ?_)) <;> (try simp only [List.length_map] at h) <;> conv => whnf)
    | ((with_reducible refine on_ndec (fun h => ?_) (fun h => ?_)) <;> (try simp only [List.length_map] at h) <;> conv => whnf)
    | ((with_reducible refine on_not (fun h => ?_) (fun h => ?_)) <;> conv => whnf)
    | ((with_reducible refine onBool_split (fun h => ?_) (fun h => ?_)) <;> conv => whnf)
    | ((with_reducible refine call_go ?_); (first | refine call_step (run_data (xs := []) c9 _) ?_ | refine call_step (run_data (xs := [_]) (c10g j) _) ?_ | refine call_step (run_data (xs := [_]) (c26 _) _) ?_ | refine call_step (run_data (xs := [_]) (c11 j B.r B.n B.o) _) ?_ | refine call_step (run_data (xs := [_]) (c11 x BX.r BX.n BX.o) _) ?_ | refine call_step (run_data (xs := [_]) (c27 e (short_bd hs).1 (short_bd hs).2) _) ?_ | refine call_step (run_data (xs := [_]) (c13 j B.r B.o) _) ?_ | refine call_step (run_data (xs := [_, _]) (c28n B hs hN) _) ?_ | refine call_step (run_view (c29o V hF ho) rfl (vlc rfl (vlc (view_agg (vlc rfl (vlc rfl vln))) vln))) ?_); conv => whnf)
    | (refine ⟨[], [(7, 1), (7, 3), (2, 1)], (by decide +kernel), ?_⟩; conv => whnf)
    | (refine ⟨[], [(3, 1)], (by decide +kernel), ?_⟩; conv => whnf)
    | (refine ⟨[], [], (by decide +kernel), ?_⟩; conv => whnf)
    | (refine ⟨⟨(by first | rfl | (simp; done)), cap_ok (by simp only [List.length_map, List.length_cons, List.length_nil, List.length_append]; omega) rfl⟩, ?_⟩; conv => whnf)
    | (refine ⟨mem_one ⟨rfl, rfl⟩, ?_⟩; conv => whnf)
    | (refine ⟨(by intro y hy; obtain ⟨x, _, rfl⟩ := List.mem_map.1 hy; first | rfl | exact ⟨rfl, rfl⟩), ?_⟩; conv => whnf)
    | (refine ⟨cap_ok (by first | omega | (simp only [List.length_map]; omega)) rfl, ?_⟩; conv => whnf)
    | (refine ix_map (by omega) ?_; conv => whnf)
    | (refine ix_str (by omega) ?_; conv => whnf)
    | (refine wrap64 (by omega) ?_; conv => whnf)
    | (exfalso; simp only [List.length_map, List.length_cons, List.length_nil, List.length_append] at h; omega)
    | ((with_reducible refine endx_go ?_); first | (exact endx rfl; done))
    | (refine ⟨rfl, ?_⟩; conv => whnf)
    | fail
    )

theorem c5e (j : Jrn) (e : Evt) (hf : fewB j = true) (hs : shortB e = true) (hc : (checkJ j).2 = 0) (he : ¬ eventErr e = 0) : Fn 5 [j.enc, e.enc] (.bool true) := by
  have B := bd_few hf
  refine run_walkF eok Try.func5 rfl (by kernel_rfl) ?_
  conv => whnf
  repeat' (first
    | ((with_reducible refine on_dec_t (by assumption) ?_); conv => whnf)
    | ((with_reducible refine on_dec_f (by assumption) ?_); conv => whnf)
    | ((with_reducible refine onBool_t (by assumption) ?_); conv => whnf)
    | ((with_reducible refine onBool_f (by assumption) ?_); conv => whnf)
    | ((with_reducible refine on_nt (by assumption) ?_); conv => whnf)
    | ((with_reducible refine on_nf (by assumption) ?_); conv => whnf)
    | ((with_reducible refine on_ndec_t (by first | assumption | rfl) ?_); conv => whnf)
    | ((with_reducible refine on_ndec_f (by assumption) ?_); conv => whnf)
    | ((with_reducible refine on_dec_t rfl ?_); conv => whnf)
    | ((with_reducible refine on_dec_f ?_ ?_); (focus ((try simp only [List.length_map, List.length_cons, List.length_nil, List.length_append]); omega)); conv => whnf)
    | ((with_reducible refine on_dec_t ?_ ?_); (focus ((try simp only [List.length_map, List.length_cons, List.length_nil, List.length_append]); omega)); conv => whnf)
    | ((with_reducible refine on_dec (fun h => ?_) (fun h => ?_)) <;> (try simp only [List.length_map] at h) <;> conv => whnf)
    | ((with_reducible refine on_ndec (fun h => ?_) (fun h => ?_)) <;> (try simp only [List.length_map] at h) <;> conv => whnf)
    | ((with_reducible refine on_not (fun h => ?_) (fun h => ?_)) <;> conv => whnf)
    | ((with_reducible refine onBool_split (fun h => ?_) (fun h => ?_)) <;> conv => whnf)
    | ((with_reducible refine call_go ?_); (first | refine call_step (run_data (xs := []) c9 _) ?_ | refine call_step (run_data (xs := [_]) (c10g j) _) ?_ | refine call_step (run_data (xs := [_]) (c26 _) _) ?_ | refine call_step (run_data (xs := [_]) (c11 j B.r B.n B.o) _) ?_ | refine call_step (run_data (xs := [_]) (c11 x BX.r BX.n BX.o) _) ?_ | refine call_step (run_data (xs := [_]) (c27 e (short_bd hs).1 (short_bd hs).2) _) ?_ | refine call_step (run_data (xs := [_]) (c13 j B.r B.o) _) ?_ | refine call_step (run_data (xs := [_, _]) (c28n B hs hN) _) ?_ | refine call_step (run_view (c29o V hF ho) rfl (vlc rfl (vlc (view_agg (vlc rfl (vlc rfl vln))) vln))) ?_); conv => whnf)
    | (refine ⟨[], [(7, 1), (7, 3), (2, 1)], (by decide +kernel), ?_⟩; conv => whnf)
    | (refine ⟨[], [(3, 1)], (by decide +kernel), ?_⟩; conv => whnf)
    | (refine ⟨[], [], (by decide +kernel), ?_⟩; conv => whnf)
    | (refine ⟨⟨(by first | rfl | (simp; done)), cap_ok (by simp only [List.length_map, List.length_cons, List.length_nil, List.length_append]; omega) rfl⟩, ?_⟩; conv => whnf)
    | (refine ⟨mem_one ⟨rfl, rfl⟩, ?_⟩; conv => whnf)
    | (refine ⟨(by intro y hy; obtain ⟨x, _, rfl⟩ := List.mem_map.1 hy; first | rfl | exact ⟨rfl, rfl⟩), ?_⟩; conv => whnf)
    | (refine ⟨cap_ok (by first | omega | (simp only [List.length_map]; omega)) rfl, ?_⟩; conv => whnf)
    | (refine ix_map (by omega) ?_; conv => whnf)
    | (refine ix_str (by omega) ?_; conv => whnf)
    | (refine wrap64 (by omega) ?_; conv => whnf)
    | (exfalso; simp only [List.length_map, List.length_cons, List.length_nil, List.length_append] at h; omega)
    | ((with_reducible refine endx_go ?_); first | (exact endx rfl; done))
    | (refine ⟨rfl, ?_⟩; conv => whnf)
    | fail
    )

theorem c5m (j : Jrn) (e : Evt) (hf : fewB j = true) (hs : shortB e = true) (hc : (checkJ j).2 = 0) (he : eventErr e = 0) (hm : j.most < j.next - j.first) : Fn 5 [j.enc, e.enc] (.bool true) := by
  have B := bd_few hf; have V := valid_of hc; have hv := V.nums; have hF := (eventErr_ok he).1
  refine run_walkF eok Try.func5 rfl (by kernel_rfl) ?_
  conv => whnf
  repeat' (first
    | ((with_reducible refine on_dec_t (by assumption) ?_); conv => whnf)
    | ((with_reducible refine on_dec_f (by assumption) ?_); conv => whnf)
    | ((with_reducible refine onBool_t (by assumption) ?_); conv => whnf)
    | ((with_reducible refine onBool_f (by assumption) ?_); conv => whnf)
    | ((with_reducible refine on_nt (by assumption) ?_); conv => whnf)
    | ((with_reducible refine on_nf (by assumption) ?_); conv => whnf)
    | ((with_reducible refine on_ndec_t (by first | assumption | rfl) ?_); conv => whnf)
    | ((with_reducible refine on_ndec_f (by assumption) ?_); conv => whnf)
    | ((with_reducible refine on_dec_t rfl ?_); conv => whnf)
    | ((with_reducible refine on_dec_f ?_ ?_); (focus ((try simp only [List.length_map, List.length_cons, List.length_nil, List.length_append]); omega)); conv => whnf)
    | ((with_reducible refine on_dec_t ?_ ?_); (focus ((try simp only [List.length_map, List.length_cons, List.length_nil, List.length_append]); omega)); conv => whnf)
    | ((with_reducible refine on_dec (fun h => ?_) (fun h => ?_)) <;> (try simp only [List.length_map] at h) <;> conv => whnf)
    | ((with_reducible refine on_ndec (fun h => ?_) (fun h => ?_)) <;> (try simp only [List.length_map] at h) <;> conv => whnf)
    | ((with_reducible refine on_not (fun h => ?_) (fun h => ?_)) <;> conv => whnf)
    | ((with_reducible refine onBool_split (fun h => ?_) (fun h => ?_)) <;> conv => whnf)
    | ((with_reducible refine call_go ?_); (first | refine call_step (run_data (xs := []) c9 _) ?_ | refine call_step (run_data (xs := [_]) (c10g j) _) ?_ | refine call_step (run_data (xs := [_]) (c26 _) _) ?_ | refine call_step (run_data (xs := [_]) (c11 j B.r B.n B.o) _) ?_ | refine call_step (run_data (xs := [_]) (c11 x BX.r BX.n BX.o) _) ?_ | refine call_step (run_data (xs := [_]) (c27 e (short_bd hs).1 (short_bd hs).2) _) ?_ | refine call_step (run_data (xs := [_]) (c13 j B.r B.o) _) ?_ | refine call_step (run_data (xs := [_, _]) (c28n B hs hN) _) ?_ | refine call_step (run_view (c29o V hF ho) rfl (vlc rfl (vlc (view_agg (vlc rfl (vlc rfl vln))) vln))) ?_); conv => whnf)
    | (refine ⟨[], [(7, 1), (7, 3), (2, 1)], (by decide +kernel), ?_⟩; conv => whnf)
    | (refine ⟨[], [(3, 1)], (by decide +kernel), ?_⟩; conv => whnf)
    | (refine ⟨[], [], (by decide +kernel), ?_⟩; conv => whnf)
    | (refine ⟨⟨(by first | rfl | (simp; done)), cap_ok (by simp only [List.length_map, List.length_cons, List.length_nil, List.length_append]; omega) rfl⟩, ?_⟩; conv => whnf)
    | (refine ⟨mem_one ⟨rfl, rfl⟩, ?_⟩; conv => whnf)
    | (refine ⟨(by intro y hy; obtain ⟨x, _, rfl⟩ := List.mem_map.1 hy; first | rfl | exact ⟨rfl, rfl⟩), ?_⟩; conv => whnf)
    | (refine ⟨cap_ok (by first | omega | (simp only [List.length_map]; omega)) rfl, ?_⟩; conv => whnf)
    | (refine ix_map (by omega) ?_; conv => whnf)
    | (refine ix_str (by omega) ?_; conv => whnf)
    | (refine wrap64 (by omega) ?_; conv => whnf)
    | (refine wrap64 (by omega) ?_; conv => whnf)
    | (refine wrap64 (by have hv := V.nums; omega) ?_; conv => whnf)
    | (exfalso; simp only [List.length_map, List.length_cons, List.length_nil, List.length_append] at h; omega)
    | ((with_reducible refine endx_go ?_); first | (exact endx rfl; done))
    | (refine ⟨rfl, ?_⟩; conv => whnf)
    | fail
    )

theorem c5l (j : Jrn) (e : Evt) (hf : fewB j = true) (hs : shortB e = true) (hc : (checkJ j).2 = 0) (he : eventErr e = 0) (hm : ¬ j.most < j.next - j.first) (hl : full (after j e) = true) : Fn 5 [j.enc, e.enc] (.bool true) := by
  have B := bd_few hf; have V := valid_of hc; have hv := V.nums; have hF := (eventErr_ok he).1; have hN := noted_full V he hl; have hA := after_full V he hl
  refine run_walkF eok Try.func5 rfl (by kernel_rfl) ?_
  conv => whnf
  repeat' (first
    | ((with_reducible refine on_dec_t (by assumption) ?_); conv => whnf)
    | ((with_reducible refine on_dec_f (by assumption) ?_); conv => whnf)
    | ((with_reducible refine onBool_t (by assumption) ?_); conv => whnf)
    | ((with_reducible refine onBool_f (by assumption) ?_); conv => whnf)
    | ((with_reducible refine on_nt (by assumption) ?_); conv => whnf)
    | ((with_reducible refine on_nf (by assumption) ?_); conv => whnf)
    | ((with_reducible refine on_ndec_t (by first | assumption | rfl) ?_); conv => whnf)
    | ((with_reducible refine on_ndec_f (by assumption) ?_); conv => whnf)
    | ((with_reducible refine on_dec_t rfl ?_); conv => whnf)
    | ((with_reducible refine on_dec_f ?_ ?_); (focus ((try simp only [List.length_map, List.length_cons, List.length_nil, List.length_append]); omega)); conv => whnf)
    | ((with_reducible refine on_dec_t ?_ ?_); (focus ((try simp only [List.length_map, List.length_cons, List.length_nil, List.length_append]); omega)); conv => whnf)
    | ((with_reducible refine on_dec (fun h => ?_) (fun h => ?_)) <;> (try simp only [List.length_map] at h) <;> conv => whnf)
    | ((with_reducible refine on_ndec (fun h => ?_) (fun h => ?_)) <;> (try simp only [List.length_map] at h) <;> conv => whnf)
    | ((with_reducible refine on_not (fun h => ?_) (fun h => ?_)) <;> conv => whnf)
    | ((with_reducible refine onBool_split (fun h => ?_) (fun h => ?_)) <;> conv => whnf)
    | ((with_reducible refine call_go ?_); (first | refine call_step (run_data (xs := []) c9 _) ?_ | refine call_step (run_data (xs := [_]) (c10g j) _) ?_ | refine call_step (run_data (xs := [_]) (c26 _) _) ?_ | refine call_step (run_data (xs := [_]) (c11 j B.r B.n B.o) _) ?_ | refine call_step (run_data (xs := [_]) (c11 x BX.r BX.n BX.o) _) ?_ | refine call_step (run_data (xs := [_]) (c27 e (short_bd hs).1 (short_bd hs).2) _) ?_ | refine call_step (run_data (xs := [_]) (c13 j B.r B.o) _) ?_ | refine call_step (run_data (xs := [_, _]) (c28n B hs hN) _) ?_ | refine call_step (run_view (c29o V hF ho) rfl (vlc rfl (vlc (view_agg (vlc rfl (vlc rfl vln))) vln))) ?_); conv => whnf)
    | (refine ⟨[], [(7, 1), (7, 3), (2, 1)], (by decide +kernel), ?_⟩; conv => whnf)
    | (refine ⟨[], [(3, 1)], (by decide +kernel), ?_⟩; conv => whnf)
    | (refine ⟨[], [], (by decide +kernel), ?_⟩; conv => whnf)
    | (refine ⟨⟨(by first | rfl | (simp; done)), cap_ok (by simp only [List.length_map, List.length_cons, List.length_nil, List.length_append]; omega) rfl⟩, ?_⟩; conv => whnf)
    | (refine ⟨mem_one ⟨rfl, rfl⟩, ?_⟩; conv => whnf)
    | (refine ⟨(by intro y hy; obtain ⟨x, _, rfl⟩ := List.mem_map.1 hy; first | rfl | exact ⟨rfl, rfl⟩), ?_⟩; conv => whnf)
    | (refine ⟨cap_ok (by first | omega | (simp only [List.length_map]; omega)) rfl, ?_⟩; conv => whnf)
    | (refine ix_map (by omega) ?_; conv => whnf)
    | (refine ix_str (by omega) ?_; conv => whnf)
    | (refine wrap64 (by omega) ?_; conv => whnf)
    | (refine wrap64 (by omega) ?_; conv => whnf)
    | (refine wrap64 (by have hv := V.nums; omega) ?_; conv => whnf)
    | (exfalso; omega)
    | (exfalso; simp only [List.length_map, List.length_cons, List.length_nil, List.length_append] at h; omega)
    | ((with_reducible refine endx_go ?_); first | (exact endx rfl; done) | (exact endx (congrArg D.bool (decide_eq_true (by (try rw [List.length_map]); omega))); done))
    | (refine ⟨rfl, ?_⟩; conv => whnf)
    | fail
    )

theorem c5x (j : Jrn) (e : Evt) (x : Jrn) (o : Int) (hf : fewB j = true) (hs : shortB e = true) (hc : (checkJ j).2 = 0) (he : eventErr e = 0) (hm : ¬ j.most < j.next - j.first) (VX : Valid x) (hN : noted j e = (x, 0)) (ho : openR j.opens e.file = o) (E : Each j e x o) : Fn 5 [j.enc, e.enc] (.bool true) := by
  have B := bd_few hf; have V := valid_of hc; have hv := V.nums; have hF := (eventErr_ok he).1; have BX := bd_valid VX; have hbr := B.r; have hbx := BX.r; have hvx := VX.nums; have hx0 := valid_check VX; have hi := E.id; have hER := ev_bd he; have hO : 0 ≤ o ∧ o ≤ 4095 := (by rw [← ho]; exact valid_openR V _); have hnx := E.next; have hfx := E.first; have hmx : x.recs.length = 0 ∨ x.next - x.first ≤ j.most := (by rcases E.most with h | h; (exact .inl (by rw [h]; rfl)); exact .inr h)
  refine run_walkF eok Try.func5 rfl (by kernel_rfl) ?_
  conv => whnf
  repeat' (first
    | ((with_reducible refine on_dec_t (by assumption) ?_); conv => whnf)
    | ((with_reducible refine on_dec_f (by assumption) ?_); conv => whnf)
    | ((with_reducible refine onBool_t (by assumption) ?_); conv => whnf)
    | ((with_reducible refine onBool_f (by assumption) ?_); conv => whnf)
    | ((with_reducible refine on_nt (by assumption) ?_); conv => whnf)
    | ((with_reducible refine on_nf (by assumption) ?_); conv => whnf)
    | ((with_reducible refine on_ndec_t (by first | assumption | rfl) ?_); conv => whnf)
    | ((with_reducible refine on_ndec_f (by assumption) ?_); conv => whnf)
    | ((with_reducible refine on_dec_t rfl ?_); conv => whnf)
    | ((with_reducible refine refn_eq ?_ ?_); (focus (exact (E.new (x.recs[k]'(by omega)) (List.getElem_mem (by omega)) (by assumption)).1)); conv => whnf)
    | ((with_reducible refine on_ndec_t ?_ ?_); (focus (exact (E.new (x.recs[k]'(by omega)) (List.getElem_mem (by omega)) (by assumption)).2)); conv => whnf)
    | (refine on_chg (fun h => ?_) (fun h => ?_) <;> conv => whnf)
    | ((with_reducible refine on_dec_f ?_ ?_); (focus ((try simp only [List.length_map, List.length_cons, List.length_nil, List.length_append]); omega)); conv => whnf)
    | ((with_reducible refine on_dec_t ?_ ?_); (focus ((try simp only [List.length_map, List.length_cons, List.length_nil, List.length_append]); omega)); conv => whnf)
    | ((with_reducible refine on_dec (fun h => ?_) (fun h => ?_)) <;> (try simp only [List.length_map] at h) <;> conv => whnf)
    | ((with_reducible refine on_ndec (fun h => ?_) (fun h => ?_)) <;> (try simp only [List.length_map] at h) <;> conv => whnf)
    | ((with_reducible refine on_not (fun h => ?_) (fun h => ?_)) <;> conv => whnf)
    | ((with_reducible refine onBool_split (fun h => ?_) (fun h => ?_)) <;> conv => whnf)
    | ((with_reducible refine call_go ?_); (first | refine call_step (run_data (xs := []) c9 _) ?_ | refine call_step (run_data (xs := [_]) (c10g j) _) ?_ | refine call_step (run_data (xs := [_]) (c26 _) _) ?_ | refine call_step (run_data (xs := [_]) (c11 j B.r B.n B.o) _) ?_ | refine call_step (run_data (xs := [_]) (c11 x BX.r BX.n BX.o) _) ?_ | refine call_step (run_data (xs := [_]) (c27 e (short_bd hs).1 (short_bd hs).2) _) ?_ | refine call_step (run_data (xs := [_]) (c13 j B.r B.o) _) ?_ | refine call_step (run_data (xs := [_, _]) (c28n B hs hN) _) ?_ | refine call_step (run_view (c29o V hF ho) rfl (vlc rfl (vlc (view_agg (vlc rfl (vlc rfl vln))) vln))) ?_ | refine call_step (run_data (xs := [_, _]) (c30 m (x.recs[k]'(by omega)).reasons hI.2.bd (rsn_bd VX (by omega))) _) ?_ | refine call_step (run_data (xs := [_, _]) (c14 e.reasons o hER hO) _) ?_ | refine call_step (run_data (xs := [_, _]) (c14 e.reasons 2048 hER (by omega)) _) ?_ | refine call_step (run_data (xs := [_, _]) (c14 e.reasons m hER hI.2.bd) _) ?_ | refine call_step (run_data (xs := [_, _]) (c15 e.reasons 512 (by decide)) _) ?_ | refine call_step (run_data (xs := [_, _]) (c16 x.recs j.recs BX.r B.r) _) ?_); conv => whnf)
    | (refine ⟨[], [(7, 1), (7, 3), (2, 1)], (by decide +kernel), ?_⟩; conv => whnf)
    | (refine ⟨[], [(3, 1)], (by decide +kernel), ?_⟩; conv => whnf)
    | (refine ⟨[], [], (by decide +kernel), ?_⟩; conv => whnf)
    | ((with_reducible refine loop_go ?_); first | (refine loop2 (fun (n : Nat) (z : Int) => x.recs.length - n) (fun (n : Nat) (z : Int) => n ≤ x.recs.length ∧ Fd x (j.recs[q]'(by omega)) n z) (fun (n : Nat) (z : Int) => [(2, .ptr 0 0 0), (3, .ptr 1 0 0), (5, .ptr 2 0 0), (7, .d (i o)), (9, .d (i m)), (12, .d (i q)), (13, .d (i z)), (14, .d (i n))]) (fun (n : Nat) (z : Int) => [⟨[.d j.enc], 6, 0⟩, ⟨[.d e.enc], 10, 0⟩, ⟨[.d x.enc], 6, 0⟩]) (0) (-1) (by exact ⟨Nat.zero_le _, fd_0⟩) ?_ (fun n z Cc hIc hCc => ?_); (exact ⟨[.old 0, .old 1, .old 2], rfl, rfl, ⟨⟨rfl, rfl, rfl⟩, ⟨rfl, rfl, rfl⟩, ⟨rfl, rfl, rfl⟩, (by first | (show (_ : D) = _; with_reducible rfl) | exact congrArg (D.int .i64) (by omega) | exact congrArg (D.int .i64) (by simp only [List.length_map]) | exact rfl), (by first | (show (_ : D) = _; with_reducible rfl) | exact congrArg (D.int .i64) (by omega) | exact congrArg (D.int .i64) (by simp only [List.length_map]) | exact rfl), (by first | (show (_ : D) = _; with_reducible rfl) | exact congrArg (D.int .i64) (by omega) | exact congrArg (D.int .i64) (by simp only [List.length_map]) | exact rfl), (by first | (show (_ : D) = _; with_reducible rfl) | exact congrArg (D.int .i64) (by omega) | exact congrArg (D.int .i64) (by simp only [List.length_map]) | exact rfl), (by first | (show (_ : D) = _; with_reducible rfl) | exact congrArg (D.int .i64) (by omega) | exact congrArg (D.int .i64) (by simp only [List.length_map]) | exact rfl), trivial⟩, ⟨⟨rfl, rfl, .inl ⟨[_], rfl, rfl⟩⟩, ⟨rfl, rfl, .inl ⟨[_], rfl, rfl⟩⟩, ⟨rfl, rfl, .inl ⟨[_], rfl, rfl⟩⟩, trivial⟩⟩); all_goals (conv => whnf)) | (refine loop1 (fun (q : Nat) => j.recs.length - q) (fun (q : Nat) => q ≤ j.recs.length) (fun (q : Nat) => [(2, .ptr 0 0 0), (3, .ptr 1 0 0), (5, .ptr 2 0 0), (7, .d (i o)), (9, .d (i m)), (12, .d (i q))]) (fun (q : Nat) => [⟨[.d j.enc], 6, 0⟩, ⟨[.d e.enc], 10, 0⟩, ⟨[.d x.enc], 6, 0⟩]) (0) (by exact Nat.zero_le _) ?_ (fun q Cb hIb hCb => ?_); (exact ⟨[.old 0, .old 1, .old 2], rfl, rfl, ⟨⟨rfl, rfl, rfl⟩, ⟨rfl, rfl, rfl⟩, ⟨rfl, rfl, rfl⟩, (by first | (show (_ : D) = _; with_reducible rfl) | exact congrArg (D.int .i64) (by omega) | exact congrArg (D.int .i64) (by simp only [List.length_map]) | exact rfl), (by first | (show (_ : D) = _; with_reducible rfl) | exact congrArg (D.int .i64) (by omega) | exact congrArg (D.int .i64) (by simp only [List.length_map]) | exact rfl), (by first | (show (_ : D) = _; with_reducible rfl) | exact congrArg (D.int .i64) (by omega) | exact congrArg (D.int .i64) (by simp only [List.length_map]) | exact rfl), trivial⟩, ⟨⟨rfl, rfl, .inl ⟨[_], rfl, rfl⟩⟩, ⟨rfl, rfl, .inl ⟨[_], rfl, rfl⟩⟩, ⟨rfl, rfl, .inl ⟨[_], rfl, rfl⟩⟩, trivial⟩⟩); all_goals (conv => whnf)) | (refine loop2 (fun (k : Nat) (m : Int) => x.recs.length - k) (fun (k : Nat) (m : Int) => k ≤ x.recs.length ∧ Nt j x o k m) (fun (k : Nat) (m : Int) => [(2, .ptr 0 0 0), (3, .ptr 1 0 0), (5, .ptr 2 0 0), (7, .d (i o)), (9, .d (i m)), (10, .d (i k))]) (fun (k : Nat) (m : Int) => [⟨[.d j.enc], 6, 0⟩, ⟨[.d e.enc], 10, 0⟩, ⟨[.d x.enc], 6, 0⟩]) (0) (o) (by exact ⟨Nat.zero_le _, nt_0 hO⟩) ?_ (fun k m C hI hC => ?_); (exact ⟨[.old 0, .old 1, .old 2], rfl, rfl, ⟨⟨rfl, rfl, rfl⟩, ⟨rfl, rfl, rfl⟩, ⟨rfl, rfl, rfl⟩, (by first | (show (_ : D) = _; with_reducible rfl) | exact congrArg (D.int .i64) (by omega) | exact congrArg (D.int .i64) (by simp only [List.length_map]) | exact rfl), (by first | (show (_ : D) = _; with_reducible rfl) | exact congrArg (D.int .i64) (by omega) | exact congrArg (D.int .i64) (by simp only [List.length_map]) | exact rfl), (by first | (show (_ : D) = _; with_reducible rfl) | exact congrArg (D.int .i64) (by omega) | exact congrArg (D.int .i64) (by simp only [List.length_map]) | exact rfl), trivial⟩, ⟨⟨rfl, rfl, .inl ⟨[_], rfl, rfl⟩⟩, ⟨rfl, rfl, .inl ⟨[_], rfl, rfl⟩⟩, ⟨rfl, rfl, .inl ⟨[_], rfl, rfl⟩⟩, trivial⟩⟩); all_goals (conv => whnf)))
    | ((with_reducible show C _ _); first | (refine hC (k + 1) (withI m (x.recs[k]'(by omega)).reasons) _ _ ?_ (by omega) ?_; clear hC; rotate_left; (exact ⟨[.old 0, .old 1, .old 2], rfl, rfl, ⟨⟨rfl, rfl, rfl⟩, ⟨rfl, rfl, rfl⟩, ⟨rfl, rfl, rfl⟩, (by first | (show (_ : D) = _; with_reducible rfl) | exact congrArg (D.int .i64) (by omega) | exact congrArg (D.int .i64) (by simp only [List.length_map]) | exact rfl), (by first | (show (_ : D) = _; with_reducible rfl) | exact congrArg (D.int .i64) (by omega) | exact congrArg (D.int .i64) (by simp only [List.length_map]) | exact rfl), (by first | (show (_ : D) = _; with_reducible rfl) | exact congrArg (D.int .i64) (by omega) | exact congrArg (D.int .i64) (by simp only [List.length_map]) | exact rfl), trivial⟩, ⟨⟨rfl, rfl, .inl ⟨[_], rfl, rfl⟩⟩, ⟨rfl, rfl, .inl ⟨[_], rfl, rfl⟩⟩, ⟨rfl, rfl, .inl ⟨[_], rfl, rfl⟩⟩, trivial⟩⟩); (exact ⟨by omega, nt_with hI.2 (by omega) (rsn_bd VX (by omega))⟩)) | (refine hC (k + 1) (m) _ _ ?_ (by omega) ?_; clear hC; rotate_left; (exact ⟨[.old 0, .old 1, .old 2], rfl, rfl, ⟨⟨rfl, rfl, rfl⟩, ⟨rfl, rfl, rfl⟩, ⟨rfl, rfl, rfl⟩, (by first | (show (_ : D) = _; with_reducible rfl) | exact congrArg (D.int .i64) (by omega) | exact congrArg (D.int .i64) (by simp only [List.length_map]) | exact rfl), (by first | (show (_ : D) = _; with_reducible rfl) | exact congrArg (D.int .i64) (by omega) | exact congrArg (D.int .i64) (by simp only [List.length_map]) | exact rfl), (by first | (show (_ : D) = _; with_reducible rfl) | exact congrArg (D.int .i64) (by omega) | exact congrArg (D.int .i64) (by simp only [List.length_map]) | exact rfl), trivial⟩, ⟨⟨rfl, rfl, .inl ⟨[_], rfl, rfl⟩⟩, ⟨rfl, rfl, .inl ⟨[_], rfl, rfl⟩⟩, ⟨rfl, rfl, .inl ⟨[_], rfl, rfl⟩⟩, trivial⟩⟩); (exact ⟨by omega, nt_skip hI.2 (by omega) (by assumption)⟩)))
    | ((with_reducible show Cb _ _); first | (refine hCb (q + 1) _ _ ?_ (by omega) ?_; clear hCb; rotate_left; (exact ⟨[.old 0, .old 1, .old 2], rfl, rfl, ⟨⟨rfl, rfl, rfl⟩, ⟨rfl, rfl, rfl⟩, ⟨rfl, rfl, rfl⟩, (by first | (show (_ : D) = _; with_reducible rfl) | exact congrArg (D.int .i64) (by omega) | exact congrArg (D.int .i64) (by simp only [List.length_map]) | exact rfl), (by first | (show (_ : D) = _; with_reducible rfl) | exact congrArg (D.int .i64) (by omega) | exact congrArg (D.int .i64) (by simp only [List.length_map]) | exact rfl), (by first | (show (_ : D) = _; with_reducible rfl) | exact congrArg (D.int .i64) (by omega) | exact congrArg (D.int .i64) (by simp only [List.length_map]) | exact rfl), trivial⟩, ⟨⟨rfl, rfl, .inl ⟨[_], rfl, rfl⟩⟩, ⟨rfl, rfl, .inl ⟨[_], rfl, rfl⟩⟩, ⟨rfl, rfl, .inl ⟨[_], rfl, rfl⟩⟩, trivial⟩⟩); (exact (by omega : q + 1 ≤ j.recs.length))))
    | ((with_reducible show Cc _ _); first | (refine hCc (n + 1) ((n : Int)) _ _ ?_ (by omega) ?_; clear hCc; rotate_left; (exact ⟨[.old 0, .old 1, .old 2], rfl, rfl, ⟨⟨rfl, rfl, rfl⟩, ⟨rfl, rfl, rfl⟩, ⟨rfl, rfl, rfl⟩, (by first | (show (_ : D) = _; with_reducible rfl) | exact congrArg (D.int .i64) (by omega) | exact congrArg (D.int .i64) (by simp only [List.length_map]) | exact rfl), (by first | (show (_ : D) = _; with_reducible rfl) | exact congrArg (D.int .i64) (by omega) | exact congrArg (D.int .i64) (by simp only [List.length_map]) | exact rfl), (by first | (show (_ : D) = _; with_reducible rfl) | exact congrArg (D.int .i64) (by omega) | exact congrArg (D.int .i64) (by simp only [List.length_map]) | exact rfl), (by first | (show (_ : D) = _; with_reducible rfl) | exact congrArg (D.int .i64) (by omega) | exact congrArg (D.int .i64) (by simp only [List.length_map]) | exact rfl), (by first | (show (_ : D) = _; with_reducible rfl) | exact congrArg (D.int .i64) (by omega) | exact congrArg (D.int .i64) (by simp only [List.length_map]) | exact rfl), trivial⟩, ⟨⟨rfl, rfl, .inl ⟨[_], rfl, rfl⟩⟩, ⟨rfl, rfl, .inl ⟨[_], rfl, rfl⟩⟩, ⟨rfl, rfl, .inl ⟨[_], rfl, rfl⟩⟩, trivial⟩⟩); (exact ⟨by omega, fd_eq (by omega)⟩)) | (refine hCc (n + 1) (z) _ _ ?_ (by omega) ?_; clear hCc; rotate_left; (exact ⟨[.old 0, .old 1, .old 2], rfl, rfl, ⟨⟨rfl, rfl, rfl⟩, ⟨rfl, rfl, rfl⟩, ⟨rfl, rfl, rfl⟩, (by first | (show (_ : D) = _; with_reducible rfl) | exact congrArg (D.int .i64) (by omega) | exact congrArg (D.int .i64) (by simp only [List.length_map]) | exact rfl), (by first | (show (_ : D) = _; with_reducible rfl) | exact congrArg (D.int .i64) (by omega) | exact congrArg (D.int .i64) (by simp only [List.length_map]) | exact rfl), (by first | (show (_ : D) = _; with_reducible rfl) | exact congrArg (D.int .i64) (by omega) | exact congrArg (D.int .i64) (by simp only [List.length_map]) | exact rfl), (by first | (show (_ : D) = _; with_reducible rfl) | exact congrArg (D.int .i64) (by omega) | exact congrArg (D.int .i64) (by simp only [List.length_map]) | exact rfl), (by first | (show (_ : D) = _; with_reducible rfl) | exact congrArg (D.int .i64) (by omega) | exact congrArg (D.int .i64) (by simp only [List.length_map]) | exact rfl), trivial⟩, ⟨⟨rfl, rfl, .inl ⟨[_], rfl, rfl⟩⟩, ⟨rfl, rfl, .inl ⟨[_], rfl, rfl⟩⟩, ⟨rfl, rfl, .inl ⟨[_], rfl, rfl⟩⟩, trivial⟩⟩); (exact ⟨by omega, fd_ne hIc.2 (by omega) (by assumption)⟩)))
    | (refine ⟨⟨(by first | rfl | (simp; done)), cap_ok (by simp only [List.length_map, List.length_cons, List.length_nil, List.length_append]; omega) rfl⟩, ?_⟩; conv => whnf)
    | (refine ⟨mem_one ⟨rfl, rfl⟩, ?_⟩; conv => whnf)
    | (refine ⟨(by intro y hy; obtain ⟨x, _, rfl⟩ := List.mem_map.1 hy; first | rfl | exact ⟨rfl, rfl⟩), ?_⟩; conv => whnf)
    | (refine ⟨cap_ok (by first | omega | (simp only [List.length_map]; omega)) rfl, ?_⟩; conv => whnf)
    | (refine ix_map (by omega) ?_; conv => whnf)
    | (refine ix_str (by omega) ?_; conv => whnf)
    | (refine wrap64 (by omega) ?_; conv => whnf)
    | (refine wrap64 (by omega) ?_; conv => whnf)
    | (refine wrap64 (by have hv := V.nums; omega) ?_; conv => whnf)
    | (exfalso; have hz := fd_end E (by omega) (by omega) (by omega) hIc.2; omega)
    | (exfalso; have hz := E.quiet (by assumption) (by assumption); omega)
    | (exfalso; simp only [List.length_map, List.length_cons, List.length_nil, List.length_append] at h; omega)
    | ((with_reducible refine endx_go ?_); first | (exact endx rfl; done) | (exact endx (congrArg D.bool (decide_eq_true (nt_end hI.2 (by omega) E (by assumption) (by first | assumption | (intro hh; omega))))); done) | (exact endx (congrArg D.bool (decide_eq_true (E.quiet (by assumption) (by assumption)).2)); done))
    | (refine ⟨rfl, ?_⟩; conv => whnf)
    | fail
    )

theorem c5 (j : Jrn) (e : Evt) : Fn 5 [j.enc, e.enc] (.bool true) := by
  cases hf : fewB j with
  | false => exact c5f j e hf
  | true =>
    cases hs : shortB e with
    | false => exact c5s j e hf hs
    | true =>
      by_cases hc : (checkJ j).2 = 0
      · by_cases he : eventErr e = 0
        · by_cases hm : j.most < j.next - j.first
          · exact c5m j e hf hs hc he hm
          · have V := valid_of hc
            cases hl : full (after j e) with
            | true => exact c5l j e hf hs hc he hm hl
            | false => exact c5x j e (after j e) _ hf hs hc he hm (after_valid V he hl) (noted_ok V he hl) rfl (after_each V he (by omega))
        · exact c5e j e hf hs hc he
      · exact c5c j e hf hs hc

end Go.Proofs.Ytjbipdppgoldlaa

/-! Lf -/
namespace Go.Proofs.Ytjbipdppgoldlaa
open Go Dw Go.ChangeShapes Go.RowKit
theorem own5 : ownKnob Try.prog.godebug = none := by kernel_rfl
theorem laidOut5 : laidOutB Try.prog = true := by kernel_rfl

section
attribute [local irreducible] Run
theorem hrun5 : ∀ xs, shps E 5 Try.f5.params.toList xs → Run Try.prog 5 (xs.map .d) [] (.d (.bool true)) [] := by
  intro xs h
  obtain ⟨x1, r1, rfl, h1, x2, r2, rfl, h2, rfl⟩ := h
  obtain ⟨j, rfl⟩ := shpJrn h1
  obtain ⟨e, rfl⟩ := shpEvt h2
  exact c5 j e
end

set_option maxRecDepth 100000 in
theorem lifted5 (os : Os) (started : os.Started) (H : Type) (enc : TypeId × Value → H) :
    ReturnsInHanded {} Try.checked os 5 .any (Rows.changesEachSpec.pre6 enc Try.prog Try.f5 Rows.changesEachRow.domain false) (Rows.changesEachSpec.post enc Try.prog Try.f5 false true false false) := by
  refine returnsInHanded_of_change (C := Try.checked) own5 started (by kernel_rfl) Try.func5
    (ChangeSpec.witness6 (enc := enc) (C := Try.checked) false ⟨#[], #[.agg #[.int .i64 0, .int .i64 0, .int .i64 0, .int .i64 0, .slice none 0 0, .slice none 0 0], .agg #[.int .i64 0, .int .i64 0, .int .i64 0, .int .i64 0, .int .i64 0, .int .i64 0, .string ⟨#[]⟩, .int .i64 0, .int .i64 0, .string ⟨#[]⟩]], []⟩ 8 (by kernel_rfl) (by kernel_rfl) (by kernel_rfl) (by kernel_rfl)) ?_
  intro W base args ds gs before hval hW _ _
  refine law_lift (n := 5) (t4 := 4) eok Try.func5 (by kernel_rfl) rfl laidOut5 rfl ?_ rfl Try.underlying4 (by kernel_rfl) hrun5 W base args ds gs before hval hW
  intro H ds hds
  match ds, hds with
  | [a, b], _ => rfl

theorem over5 : Rows.changesEachRow.holds Try.pinned (OpenSpec.ofChange Rows.changesEachSpec) :=
  OpenClaim.holds_of_wide 5 Try.f5 rfl rfl rfl rfl rfl rfl rfl ⟨rfl, rfl, rfl, rfl, rfl⟩ rfl rfl rfl rfl rfl (by kernel_rfl) Try.func5 (by kernel_rfl)
    (of_decide_eq_true (by kernel_rfl)) (by unfold Func.isWrapper; first | (rw [if_pos (by decide +kernel)]; kernel_rfl) | (rw [if_neg (by decide +kernel)]; exact ⟨rfl, rfl⟩))
    (fun os started H enc _ => lifted5 os started H enc)
theorem changesEach_proved : Rows.ChangesEachSaid := over5
end Go.Proofs.Ytjbipdppgoldlaa
