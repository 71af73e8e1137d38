/-
  Chapter 19: QuotaLooks holds at every input: no condition of ours.
-/
import Derived.Test.YtolfkcmdfgakkaaGrpF
set_option linter.unusedVariables false
set_option linter.unusedSimpArgs false

/-! Pe -/
namespace Go.Proofs.Ytolfkcmdfgakkaa
open Go Dw

theorem isQ_aft (x : Quo) (a : Act) : isQ (aftQ x a).1 (aftQ x a).2 (aftQ x a).1 (aftQ x a).2 = true := by
  unfold isQ
  by_cases h : (aftQ x a).2 = 0 ∨ (aftQ x a).2 = 33
  · rcases h with h | h <;> simp [h]
  · have he : (aftQ x a).1 = emp := by
      unfold aftQ at *
      split at h
      · rename_i hq
        rw [if_pos hq]
        unfold resQ at *
        split at h
        · rename_i h2; exact absurd h2 h
        · rename_i h2; rw [if_neg h2]
      · rename_i hq; rw [if_neg hq]
    simp [he]
theorem res_len {r : Quo × Int} (h : VQ r.1) : (resQ r).1.os.length < 1000 := by
  have := h.len
  unfold resQ
  split
  · omega
  · exact Nat.zero_lt_succ _
theorem aft_len {x : Quo} {a : Act} (hk : kindOk a) : (aftQ x a).1.os.length < 1000 := by
  unfold aftQ
  split
  · rename_i hq
    exact res_len (doA_ok ((checkQ_iff x).1 hq) hk)
  · exact Nat.zero_lt_succ _
theorem kC (w b : Int) : kindOk (actC w b) := .inl rfl
theorem kR (w b : Int) : kindOk (actR w b) := .inr (.inl rfl)
theorem kM (f t b : Int) : kindOk (actM f t b) := .inr (.inr (.inl rfl))
theorem kL (l : Lim) : kindOk (actL l) := .inr (.inr (.inr rfl))
/-- A charge that fits. -/
theorem actErr_of {x : Quo} {w b : Int} (hv : VQ x) (hw : whoE w = 0) (hb : 0 ≤ b ∧ b ≤ 2147483647) : actErr x w b = 0 := by
  unfold actErr
  rw [firstE_z]
  intro e he
  simp only [List.mem_cons, List.not_mem_nil, or_false] at he
  rcases he with rfl | rfl | rfl
  · exact (checkQ_iff x).2 hv
  · exact hw
  · exact numE_iff.2 hb
theorem room_rng {x : Quo} (hv : VQ x) (w : Int) : 0 ≤ roomQ x w ∧ roomQ x w ≤ 2147483647 := by
  obtain ⟨h1, h2, h3⟩ := hv.nums w
  unfold roomQ goMax
  split
  · omega
  · split <;> omega
theorem res_2 (r : Quo × Int) : (resQ r).2 = r.2 := by unfold resQ; split <;> rfl
theorem room_ok {x : Quo} (hv : VQ x) {w : Int} (hw : whoE w = 0) : (aftQ x (actC w (roomQ x w))).2 = 0 ∨ (aftQ x (actC w (roomQ x w))).2 = 16 := by
  rw [aftC_0 (actErr_of hv hw (room_rng hv w)), res_2]
  obtain ⟨h1, h2, h3⟩ := hv.nums w
  have hr := room_rng hv w
  unfold chg
  by_cases c0 : roomQ x w = 0
  · rw [if_pos c0]; exact .inl rfl
  rw [if_neg c0]
  by_cases c1 : fullQ x w = true
  · rw [if_pos c1]; exact .inr rfl
  rw [if_neg c1]
  unfold roomQ goMax at *
  by_cases c2 : (!x.enf || decide ((ownR x.os w).lim = -1)) = true
  · rw [if_pos c2] at *
    rw [if_neg (by intro h; simp only [Bool.and_eq_true, Bool.or_eq_true, Bool.not_eq_true', decide_eq_true_eq, decide_eq_false_iff_not] at h c2; rcases c2 with c2 | c2
                   · rw [h.1] at c2; cases c2
                   · exact h.2.1 c2), if_neg (by omega)]
    exact .inl rfl
  · rw [if_neg c2] at *
    have hu : (ownR x.os w).used + (if (0 : Int) < (ownR x.os w).lim - (ownR x.os w).used then (ownR x.os w).lim - (ownR x.os w).used else 0) = (ownR x.os w).lim := by
      split
      · omega
      · rename_i h; rw [if_neg h] at c0; exact absurd rfl c0
    rw [hu, if_neg (by simp), if_neg (by omega)]
    exact .inl rfl
theorem room_more {x : Quo} (hv : VQ x) {w : Int} (hw : whoE w = 0) (hm : ¬ roomQ x w = 2147483647) :
    (aftQ x (actC w (roomQ x w + 1))).2 = 33 ∨ (aftQ x (actC w (roomQ x w + 1))).2 = 8 ∨ (aftQ x (actC w (roomQ x w + 1))).2 = 16 := by
  have hr := room_rng hv w
  rw [aftC_0 (actErr_of hv hw (by omega)), res_2]
  obtain ⟨h1, h2, h3⟩ := hv.nums w
  unfold chg
  rw [if_neg (by omega)]
  by_cases c1 : fullQ x w = true
  · rw [if_pos c1]; exact .inr (.inr rfl)
  rw [if_neg c1]
  by_cases c3 : (x.enf && (!decide ((ownR x.os w).lim = -1) && decide ((ownR x.os w).lim < (ownR x.os w).used + (roomQ x w + 1)))) = true
  · rw [if_pos c3]; exact .inl rfl
  rw [if_neg c3]
  have : 2147483647 < (ownR x.os w).used + (roomQ x w + 1) := by
    by_cases c2 : (!x.enf || decide ((ownR x.os w).lim = -1)) = true
    · unfold roomQ
      rw [if_pos c2]; omega
    · exfalso
      simp only [Bool.or_eq_true, Bool.not_eq_true', decide_eq_true_eq, not_or, Bool.not_eq_false] at c2
      apply c3
      have hl : (ownR x.os w).lim < (ownR x.os w).used + (roomQ x w + 1) := by
        unfold roomQ goMax
        rw [if_neg (by simp [c2])]
        split <;> omega
      simp [c2, hl]
  rw [if_pos this]
  exact .inr (.inl rfl)
/-- A release behind a charge. -/
theorem rel_back {x : Quo} {w b : Int} (h : (aftQ x (actC w b)).2 = 0) : (aftQ (aftQ x (actC w b)).1 (actR w b)).2 = 0 ∧ (ownR (aftQ (aftQ x (actC w b)).1 (actR w b)).1.os w).used = (ownR x.os w).used := by
  have h0 : actErr x w b = 0 := by
    by_cases h0 : actErr x w b = 0
    · exact h0
    · rw [aftC_e h0] at h; exact absurd h h0
  obtain ⟨hv, hw, hb⟩ := actErr_0 h0
  rw [aftC_0 h0] at h ⊢
  rw [res_2] at h
  have hc := chg_ok hv hw hb.1 (w := w) (b := b)
  have hres : resQ (chg x w b) = chg x w b := by unfold resQ; rw [if_pos (.inl h)]
  rw [hres, aftR_0 (actErr_of hc hw hb), res_2]
  obtain ⟨h1, h2, h3⟩ := hv.nums w
  unfold chg at h hc ⊢
  by_cases c0 : b = 0
  · rw [if_pos c0] at *
    subst c0
    have hr : rls x w 0 = (x, 0) := by unfold rls; rw [if_neg (by omega), if_neg (by decide)]
    rw [hr]
    exact ⟨rfl, rfl⟩
  rw [if_neg c0] at *
  by_cases c1 : fullQ x w = true
  · rw [if_pos c1] at h; exact absurd h (show ¬ (16 : Int) = 0 by decide)
  rw [if_neg c1] at *
  by_cases c3 : (x.enf && (!decide ((ownR x.os w).lim = -1) && decide ((ownR x.os w).lim < (ownR x.os w).used + b))) = true
  · rw [if_pos c3] at h; exact absurd h (show ¬ (33 : Int) = 0 by decide)
  rw [if_neg c3] at *
  by_cases c4 : 2147483647 < (ownR x.os w).used + b
  · rw [if_pos c4] at h; exact absurd h (show ¬ (8 : Int) = 0 by decide)
  rw [if_neg c4] at *
  have hwho : (ownR x.os w).who = w := ownR_who _ _
  have ho : ownR (put1 x { ownR x.os w with used := (ownR x.os w).used + b }).os w = { ownR x.os w with used := (ownR x.os w).used + b } := by
    show ownR (withR x.os _) w = _
    rw [ownR_withR _ _ _ hv.srt, if_pos hwho]
  have hr : rls (put1 x { ownR x.os w with used := (ownR x.os w).used + b }) w b = (put1 (put1 x { ownR x.os w with used := (ownR x.os w).used + b }) { ownR x.os w with used := (ownR x.os w).used + b - b }, 0) := by
    unfold rls
    rw [ho, if_neg (by show ¬ (ownR x.os w).used + b < b; omega), if_pos (by omega)]
  show (rls (put1 x { ownR x.os w with used := (ownR x.os w).used + b }) w b).2 = 0 ∧ (ownR (resQ (rls (put1 x { ownR x.os w with used := (ownR x.os w).used + b }) w b)).1.os w).used = (ownR x.os w).used
  rw [hr, resQ_0]
  refine ⟨rfl, ?_⟩
  show (ownR (withR (put1 x { ownR x.os w with used := (ownR x.os w).used + b }).os _) w).used = _
  rw [ownR_withR _ _ _ hc.srt, if_pos hwho]
  show (ownR x.os w).used + b - b = _
  omega
end Go.Proofs.Ytolfkcmdfgakkaa

/-! Wn -/
namespace Go.Proofs.Ytolfkcmdfgakkaa
open Go Dw
set_option maxRecDepth 10000
set_option linter.unusedVariables false
set_option linter.unusedSimpArgs false
attribute [local irreducible] Run
set_option maxHeartbeats 4000000

attribute [local irreducible] oE checkQ cnt isR ownR withR bsR fullQ put1 chg rls mov limErr limF actE doA resQ aftQ whoE limE numE goMin goMax actErr movErr filE iget iput upto eF srt isQ roomQ warned

theorem c3 (x : Quo) (w b : Int) : Fn 3 [x.enc, i w, i b] (.bool true) := by
  refine run_walkF eok Try.func3 rfl (by kernel_rfl) ?_
  conv => whnf
  repeat' (first
    | ((with_reducible refine on_dec_t (by assumption) ?_); conv => whnf)
    | ((with_reducible refine on_dec_f (by assumption) ?_); conv => whnf)
    | ((with_reducible refine onBool_t (by assumption) ?_); conv => whnf)
    | ((with_reducible refine onBool_f (by assumption) ?_); conv => whnf)
    | ((with_reducible refine on_nt (by assumption) ?_); conv => whnf)
    | ((with_reducible refine on_nf (by assumption) ?_); conv => whnf)
    | ((with_reducible refine on_ndec_t (by first | assumption | rfl) ?_); conv => whnf)
    | ((with_reducible refine on_ndec_f (by assumption) ?_); conv => whnf)
    | ((with_reducible refine on_dec_t rfl ?_); conv => whnf)
    | ((with_reducible refine on_ndec (fun h => ?_) (fun h => ?_)) <;> conv => whnf)
    | ((with_reducible refine on_dec_f ?_ ?_); (focus ((try simp only [List.length_map, List.length_cons, List.length_nil, List.length_append]); omega)); conv => whnf)
    | ((with_reducible refine on_dec_t ?_ ?_); (focus ((try simp only [List.length_map, List.length_cons, List.length_nil, List.length_append]); omega)); conv => whnf)
    | ((with_reducible refine on_dec (fun h => ?_) (fun h => ?_)) <;> (try simp only [List.length_map] at h) <;> conv => whnf)
    | ((with_reducible refine on_ndec (fun h => ?_) (fun h => ?_)) <;> (try simp only [List.length_map] at h) <;> conv => whnf)
    | ((with_reducible refine on_not (fun h => ?_) (fun h => ?_)) <;> conv => whnf)
    | ((with_reducible refine onBool_split (fun h => ?_) (fun h => ?_)) <;> conv => whnf)
    | ((with_reducible refine call_go ?_); (first | refine call_step (run_data c12 _) ?_ | refine call_step (run_data (c13 x) _) ?_ | refine call_step (run_data (c15 x (by omega)) _) ?_ | refine call_step (run_data (c14 x (by omega)) _) ?_ | refine call_step (run_data (c16 x (by omega) w b) _) ?_ | refine call_step (run_data (c16 x (by omega) w (roomQ x w)) _) ?_ | refine call_step (run_data (c16 x (by omega) w (roomQ x w + 1)) _) ?_ | refine call_step (run_data (c17 x (by omega)) _) ?_ | refine call_step (run_data (c18 x (by omega) w b) _) ?_ | refine call_step (run_data (c19 _ _ (aft_len (kC w b)) (aft_len (kC w b)) _ _) _) ?_ | refine call_step (run_view (c20 _) rfl rfl) ?_ | refine call_step (run_data (c21 x (by omega) ((checkQ_iff x).1 (by assumption)) w) _) ?_); conv => whnf)
    | (refine ⟨⟨(by first | rfl | (simp; done)), cap_ok (by simp only [List.length_map, List.length_cons, List.length_nil, List.length_append]; omega) rfl⟩, ?_⟩; conv => whnf)
    | (refine ⟨mem_one ⟨rfl, rfl⟩, ?_⟩; conv => whnf)
    | (refine ⟨(by intro y hy; obtain ⟨x, _, rfl⟩ := List.mem_map.1 hy; first | rfl | exact ⟨rfl, rfl⟩), ?_⟩; conv => whnf)
    | (refine ⟨cap_ok (by first | omega | (simp only [List.length_map]; omega)) rfl, ?_⟩; conv => whnf)
    | (refine ix_map (by omega) ?_; conv => whnf)
    | (refine ix_str (by omega) ?_; conv => whnf)
    | (refine wrap64 (by omega) ?_; conv => whnf)
    | (exfalso; have hq := isQ_aft x (actC w b); simp_all; done)
    | (refine wrap64 (by have hr := room_rng ((checkQ_iff x).1 (by assumption)) w; omega) ?_; conv => whnf)
    | (exfalso; simp only [List.length_map, List.length_cons, List.length_nil, List.length_append] at h; omega)
    | ((with_reducible refine endx_go ?_); first | (exact endx rfl; done) | (refine endx (congrArg D.bool (decide_eq_true ?_)); have hr := room_more ((checkQ_iff x).1 (by assumption)) (by assumption) (by assumption) (w := w); omega; done) | (exfalso; have hr := room_ok ((checkQ_iff x).1 (by assumption)) (by assumption) (w := w); omega; done) | (exfalso; have hr := room_more ((checkQ_iff x).1 (by assumption)) (by assumption) (by assumption) (w := w); omega; done))
    | (refine ⟨rfl, ?_⟩; conv => whnf)
    | fail
    )

theorem c4 (x : Quo) (w b : Int) : Fn 4 [x.enc, i w, i b] (.bool true) := by
  refine run_walkF eok Try.func4 rfl (by kernel_rfl) ?_
  conv => whnf
  repeat' (first
    | ((with_reducible refine on_dec_t (by assumption) ?_); conv => whnf)
    | ((with_reducible refine on_dec_f (by assumption) ?_); conv => whnf)
    | ((with_reducible refine onBool_t (by assumption) ?_); conv => whnf)
    | ((with_reducible refine onBool_f (by assumption) ?_); conv => whnf)
    | ((with_reducible refine on_nt (by assumption) ?_); conv => whnf)
    | ((with_reducible refine on_nf (by assumption) ?_); conv => whnf)
    | ((with_reducible refine on_ndec_t (by first | assumption | rfl) ?_); conv => whnf)
    | ((with_reducible refine on_ndec_f (by assumption) ?_); conv => whnf)
    | ((with_reducible refine on_dec_t rfl ?_); conv => whnf)
    | ((with_reducible refine on_ndec (fun h => ?_) (fun h => ?_)) <;> conv => whnf)
    | ((with_reducible refine on_dec_f ?_ ?_); (focus ((try simp only [List.length_map, List.length_cons, List.length_nil, List.length_append]); omega)); conv => whnf)
    | ((with_reducible refine on_dec_t ?_ ?_); (focus ((try simp only [List.length_map, List.length_cons, List.length_nil, List.length_append]); omega)); conv => whnf)
    | ((with_reducible refine on_dec (fun h => ?_) (fun h => ?_)) <;> (try simp only [List.length_map] at h) <;> conv => whnf)
    | ((with_reducible refine on_ndec (fun h => ?_) (fun h => ?_)) <;> (try simp only [List.length_map] at h) <;> conv => whnf)
    | ((with_reducible refine on_not (fun h => ?_) (fun h => ?_)) <;> conv => whnf)
    | ((with_reducible refine onBool_split (fun h => ?_) (fun h => ?_)) <;> conv => whnf)
    | ((with_reducible refine call_go ?_); (first | refine call_step (run_data c12 _) ?_ | refine call_step (run_data (c13 x) _) ?_ | refine call_step (run_data (c15 x (by omega)) _) ?_ | refine call_step (run_data (c22 x (by omega) w b) _) ?_ | refine call_step (run_data (c22 (aftQ x (actC w b)).1 (aft_len (kC w b)) w b) _) ?_ | refine call_step (run_data (c23 x (by omega) w b) _) ?_ | refine call_step (run_data (c19 _ _ (aft_len (kR w b)) (aft_len (kR w b)) _ _) _) ?_ | refine call_step (run_data (c16 x (by omega) w b) _) ?_ | refine call_step (run_view (c24 x (by omega) w) rfl rfl) ?_ | refine call_step (run_view (c24 _ (Nat.lt_of_lt_of_le (aft_len (kR w b)) (by omega)) w) rfl rfl) ?_); conv => whnf)
    | (refine ⟨⟨(by first | rfl | (simp; done)), cap_ok (by simp only [List.length_map, List.length_cons, List.length_nil, List.length_append]; omega) rfl⟩, ?_⟩; conv => whnf)
    | (refine ⟨mem_one ⟨rfl, rfl⟩, ?_⟩; conv => whnf)
    | (refine ⟨(by intro y hy; obtain ⟨x, _, rfl⟩ := List.mem_map.1 hy; first | rfl | exact ⟨rfl, rfl⟩), ?_⟩; conv => whnf)
    | (refine ⟨cap_ok (by first | omega | (simp only [List.length_map]; omega)) rfl, ?_⟩; conv => whnf)
    | (refine ix_map (by omega) ?_; conv => whnf)
    | (refine ix_str (by omega) ?_; conv => whnf)
    | (refine wrap64 (by omega) ?_; conv => whnf)
    | (exfalso; have hq := isQ_aft x (actR w b); simp_all; done)
    | (exfalso; simp only [List.length_map, List.length_cons, List.length_nil, List.length_append] at h; omega)
    | ((with_reducible refine endx_go ?_); first | (exact endx rfl; done) | (refine endx (congrArg D.bool (decide_eq_true ?_)); exact (rel_back (by assumption)).2.symm; done) | (exfalso; have hr := (rel_back (x := x) (w := w) (b := b) (by assumption)).1; omega; done))
    | (refine ⟨rfl, ?_⟩; conv => whnf)
    | fail
    )

theorem c5 (x : Quo) (f t b : Int) (l : Lim) : Fn 5 [x.enc, .agg [i f, i t, i b], l.enc] (.bool true) := by
  refine run_walkF eok Try.func5 rfl (by kernel_rfl) ?_
  conv => whnf
  repeat' (first
    | ((with_reducible refine on_dec_t (by assumption) ?_); conv => whnf)
    | ((with_reducible refine on_dec_f (by assumption) ?_); conv => whnf)
    | ((with_reducible refine onBool_t (by assumption) ?_); conv => whnf)
    | ((with_reducible refine onBool_f (by assumption) ?_); conv => whnf)
    | ((with_reducible refine on_nt (by assumption) ?_); conv => whnf)
    | ((with_reducible refine on_nf (by assumption) ?_); conv => whnf)
    | ((with_reducible refine on_ndec_t (by first | assumption | rfl) ?_); conv => whnf)
    | ((with_reducible refine on_ndec_f (by assumption) ?_); conv => whnf)
    | ((with_reducible refine on_dec_t rfl ?_); conv => whnf)
    | ((with_reducible refine on_ndec (fun h => ?_) (fun h => ?_)) <;> conv => whnf)
    | ((with_reducible refine on_dec_f ?_ ?_); (focus ((try simp only [List.length_map, List.length_cons, List.length_nil, List.length_append]); omega)); conv => whnf)
    | ((with_reducible refine on_dec_t ?_ ?_); (focus ((try simp only [List.length_map, List.length_cons, List.length_nil, List.length_append]); omega)); conv => whnf)
    | ((with_reducible refine on_dec (fun h => ?_) (fun h => ?_)) <;> (try simp only [List.length_map] at h) <;> conv => whnf)
    | ((with_reducible refine on_ndec (fun h => ?_) (fun h => ?_)) <;> (try simp only [List.length_map] at h) <;> conv => whnf)
    | ((with_reducible refine on_not (fun h => ?_) (fun h => ?_)) <;> conv => whnf)
    | ((with_reducible refine onBool_split (fun h => ?_) (fun h => ?_)) <;> conv => whnf)
    | ((with_reducible refine call_go ?_); (first | refine call_step (run_data c12 _) ?_ | refine call_step (run_data (c13 x) _) ?_ | refine call_step (run_data (c15 x (by omega)) _) ?_ | refine call_step (run_data (c25 x (by omega) f t b) _) ?_ | refine call_step (run_data (c26 x (by omega) l) _) ?_ | refine call_step (run_data (c27 x (by omega) f t b) _) ?_ | refine call_step (run_data (c19 _ _ (aft_len (kM f t b)) (aft_len (kM f t b)) _ _) _) ?_ | refine call_step (run_data (c19 _ _ (aft_len (kL l)) (aft_len (kL l)) _ _) _) ?_ | refine call_step (run_data (c28 x (by omega) l) _) ?_); conv => whnf)
    | (refine ⟨[], [(12, 1), (12, 8), (3, 1), (5, 1), (7, 1)], (by decide +kernel), ?_⟩; conv => whnf)
    | (refine ⟨[], [(7, 1), (7, 3), (2, 1)], (by decide +kernel), ?_⟩; conv => whnf)
    | (refine ⟨⟨(by first | rfl | (simp; done)), cap_ok (by simp only [List.length_map, List.length_cons, List.length_nil, List.length_append]; omega) rfl⟩, ?_⟩; conv => whnf)
    | (refine ⟨mem_one ⟨rfl, rfl⟩, ?_⟩; conv => whnf)
    | (refine ⟨(by intro y hy; obtain ⟨x, _, rfl⟩ := List.mem_map.1 hy; first | rfl | exact ⟨rfl, rfl⟩), ?_⟩; conv => whnf)
    | (refine ⟨cap_ok (by first | omega | (simp only [List.length_map]; omega)) rfl, ?_⟩; conv => whnf)
    | (refine ix_map (by omega) ?_; conv => whnf)
    | (refine ix_str (by omega) ?_; conv => whnf)
    | (refine wrap64 (by omega) ?_; conv => whnf)
    | (exfalso; have hq := isQ_aft x (actM f t b); simp_all; done)
    | (refine ⟨by decide, ?_⟩; conv => whnf)
    | (exfalso; simp only [List.length_map, List.length_cons, List.length_nil, List.length_append] at h; omega)
    | ((with_reducible refine endx_go ?_); first | (exact endx rfl; done) | (exact endx (congrArg D.bool (isQ_aft x (actL l))); done))
    | (refine ⟨rfl, ?_⟩; conv => whnf)
    | fail
    )

theorem c32s (a : List Int) (h : a.length < 1000) : Fn 32 [.fs (a.map i), .fs (a.map i)] (.bool true) := by
  have := c32 a a (by omega) (by omega); rw [decide_eq_true rfl] at this; exact this
theorem c29a (x : Quo) (hx : x.os.length < 1000) (w : Int) (h : ¬ (checkQ x).2 = 0) : Fn 29 [x.enc, i w] (.tup [i 0, i (checkQ x).2]) := by
  have := c29 x hx w
  rw [room_e (by rw [firstE_cons, if_neg h]; exact h), firstE_cons, if_neg h] at this
  exact this
theorem c29b (x : Quo) (hx : x.os.length < 1000) (w : Int) (h : (checkQ x).2 = 0) (h2 : ¬ whoE w = 0) : Fn 29 [x.enc, i w] (.tup [i 0, i (whoE w)]) := by
  have := c29 x hx w
  rw [room_e (by rw [firstE_cons, if_pos h, firstE_cons, if_neg h2]; exact h2), firstE_cons, if_pos h, firstE_cons, if_neg h2] at this
  exact this
theorem c29c (x : Quo) (hx : x.os.length < 1000) (w : Int) (h : (checkQ x).2 = 0) (h2 : whoE w = 0) : Fn 29 [x.enc, i w] (.tup [i (roomQ x w), i 0]) := by
  have := c29 x hx w
  rw [room_0 (by rw [firstE_cons, if_pos h, firstE_cons, if_pos h2]; rfl)] at this
  exact this
theorem c30a (x : Quo) (hx : x.os.length < 1000) (h : ¬ (checkQ x).2 = 0) : Fn 30 [x.enc] (.tup [.fs [], i (checkQ x).2]) := by
  have := c30e x hx h
  unfold warnE at this
  rw [if_neg h] at this
  exact this
theorem c30b (x : Quo) (hx : x.os.length < 1000) (h : (checkQ x).2 = 0) : Fn 30 [x.enc] (.tup [.fs ((warned x.os).map i), i 0]) := by
  have := c30o x hx h
  unfold warnE at this
  rw [if_pos h] at this
  exact this

theorem c6a (x : Quo) (w : Int) (hq : ¬ (checkQ x).2 = 0) : Fn 6 [x.enc, i w] (.bool true) := by
  refine run_walkF eok Try.func6 rfl (by kernel_rfl) ?_
  conv => whnf
  repeat' (first
    | ((with_reducible refine on_dec_t (by assumption) ?_); conv => whnf)
    | ((with_reducible refine on_dec_f (by assumption) ?_); conv => whnf)
    | ((with_reducible refine onBool_t (by assumption) ?_); conv => whnf)
    | ((with_reducible refine onBool_f (by assumption) ?_); conv => whnf)
    | ((with_reducible refine on_nt (by assumption) ?_); conv => whnf)
    | ((with_reducible refine on_nf (by assumption) ?_); conv => whnf)
    | ((with_reducible refine on_ndec_t (by first | assumption | rfl) ?_); conv => whnf)
    | ((with_reducible refine on_ndec_f (by assumption) ?_); conv => whnf)
    | ((with_reducible refine on_dec_t rfl ?_); conv => whnf)
    | ((with_reducible refine on_ndec (fun h => ?_) (fun h => ?_)) <;> conv => whnf)
    | ((with_reducible refine on_dec_f ?_ ?_); (focus ((try simp only [List.length_map, List.length_cons, List.length_nil, List.length_append]); omega)); conv => whnf)
    | ((with_reducible refine on_dec_t ?_ ?_); (focus ((try simp only [List.length_map, List.length_cons, List.length_nil, List.length_append]); omega)); conv => whnf)
    | ((with_reducible refine on_dec (fun h => ?_) (fun h => ?_)) <;> (try simp only [List.length_map] at h) <;> conv => whnf)
    | ((with_reducible refine on_ndec (fun h => ?_) (fun h => ?_)) <;> (try simp only [List.length_map] at h) <;> conv => whnf)
    | ((with_reducible refine on_not (fun h => ?_) (fun h => ?_)) <;> conv => whnf)
    | ((with_reducible refine onBool_split (fun h => ?_) (fun h => ?_)) <;> conv => whnf)
    | ((with_reducible refine call_go ?_); (first | refine call_step (run_data c12 _) ?_ | refine call_step (run_data (c13 x) _) ?_ | refine call_step (run_data (c15 x (by omega)) _) ?_ | refine call_step (run_data (c29a x (by omega) w hq) _) ?_ | refine call_step (run_data (c29b x (by omega) w hq hw) _) ?_ | refine call_step (run_data (c29c x (by omega) w hq hw) _) ?_ | refine call_step (run_data (c30a x (by omega) hq) _) ?_ | refine call_step (run_data (c30b x (by omega) hq) _) ?_ | refine call_step (run_data (c31 x (by omega)) _) ?_ | refine call_step (run_data (c33 x (by omega)) _) ?_ | refine call_step (run_data (c32s _ (by have := warned_le x.os; omega)) _) ?_ | refine call_step (run_view (c20 _) rfl rfl) ?_ | refine call_step (run_data (c21 x (by omega) ((checkQ_iff x).1 hq) w) _) ?_); conv => whnf)
    | (refine ⟨⟨(by first | rfl | (simp; done)), cap_ok (by simp only [List.length_map, List.length_cons, List.length_nil, List.length_append]; omega) rfl⟩, ?_⟩; conv => whnf)
    | (refine ⟨mem_one ⟨rfl, rfl⟩, ?_⟩; conv => whnf)
    | (refine ⟨(by intro y hy; obtain ⟨x, _, rfl⟩ := List.mem_map.1 hy; first | rfl | exact ⟨rfl, rfl⟩), ?_⟩; conv => whnf)
    | (refine ⟨cap_ok (by first | omega | (simp only [List.length_map]; omega)) rfl, ?_⟩; conv => whnf)
    | (refine ix_map (by omega) ?_; conv => whnf)
    | (refine ix_str (by omega) ?_; conv => whnf)
    | (refine wrap64 (by omega) ?_; conv => whnf)
    | (exfalso; simp_all; done)
    | (exfalso; simp only [List.length_map, List.length_cons, List.length_nil, List.length_append] at h; omega)
    | ((with_reducible refine endx_go ?_); first | (exact endx rfl; done) | (refine endx (congrArg D.bool (decide_eq_true ?_)); rfl; done))
    | (refine ⟨rfl, ?_⟩; conv => whnf)
    | fail
    )

theorem c6b (x : Quo) (w : Int) (hq : (checkQ x).2 = 0) (hw : ¬ whoE w = 0) : Fn 6 [x.enc, i w] (.bool true) := by
  refine run_walkF eok Try.func6 rfl (by kernel_rfl) ?_
  conv => whnf
  repeat' (first
    | ((with_reducible refine on_dec_t (by assumption) ?_); conv => whnf)
    | ((with_reducible refine on_dec_f (by assumption) ?_); conv => whnf)
    | ((with_reducible refine onBool_t (by assumption) ?_); conv => whnf)
    | ((with_reducible refine onBool_f (by assumption) ?_); conv => whnf)
    | ((with_reducible refine on_nt (by assumption) ?_); conv => whnf)
    | ((with_reducible refine on_nf (by assumption) ?_); conv => whnf)
    | ((with_reducible refine on_ndec_t (by first | assumption | rfl) ?_); conv => whnf)
    | ((with_reducible refine on_ndec_f (by assumption) ?_); conv => whnf)
    | ((with_reducible refine on_dec_t rfl ?_); conv => whnf)
    | ((with_reducible refine on_ndec (fun h => ?_) (fun h => ?_)) <;> conv => whnf)
    | ((with_reducible refine on_dec_f ?_ ?_); (focus ((try simp only [List.length_map, List.length_cons, List.length_nil, List.length_append]); omega)); conv => whnf)
    | ((with_reducible refine on_dec_t ?_ ?_); (focus ((try simp only [List.length_map, List.length_cons, List.length_nil, List.length_append]); omega)); conv => whnf)
    | ((with_reducible refine on_dec (fun h => ?_) (fun h => ?_)) <;> (try simp only [List.length_map] at h) <;> conv => whnf)
    | ((with_reducible refine on_ndec (fun h => ?_) (fun h => ?_)) <;> (try simp only [List.length_map] at h) <;> conv => whnf)
    | ((with_reducible refine on_not (fun h => ?_) (fun h => ?_)) <;> conv => whnf)
    | ((with_reducible refine onBool_split (fun h => ?_) (fun h => ?_)) <;> conv => whnf)
    | ((with_reducible refine call_go ?_); (first | refine call_step (run_data c12 _) ?_ | refine call_step (run_data (c13 x) _) ?_ | refine call_step (run_data (c15 x (by omega)) _) ?_ | refine call_step (run_data (c29a x (by omega) w hq) _) ?_ | refine call_step (run_data (c29b x (by omega) w hq hw) _) ?_ | refine call_step (run_data (c29c x (by omega) w hq hw) _) ?_ | refine call_step (run_data (c30a x (by omega) hq) _) ?_ | refine call_step (run_data (c30b x (by omega) hq) _) ?_ | refine call_step (run_data (c31 x (by omega)) _) ?_ | refine call_step (run_data (c33 x (by omega)) _) ?_ | refine call_step (run_data (c32s _ (by have := warned_le x.os; omega)) _) ?_ | refine call_step (run_view (c20 _) rfl rfl) ?_ | refine call_step (run_data (c21 x (by omega) ((checkQ_iff x).1 hq) w) _) ?_); conv => whnf)
    | (refine ⟨⟨(by first | rfl | (simp; done)), cap_ok (by simp only [List.length_map, List.length_cons, List.length_nil, List.length_append]; omega) rfl⟩, ?_⟩; conv => whnf)
    | (refine ⟨mem_one ⟨rfl, rfl⟩, ?_⟩; conv => whnf)
    | (refine ⟨(by intro y hy; obtain ⟨x, _, rfl⟩ := List.mem_map.1 hy; first | rfl | exact ⟨rfl, rfl⟩), ?_⟩; conv => whnf)
    | (refine ⟨cap_ok (by first | omega | (simp only [List.length_map]; omega)) rfl, ?_⟩; conv => whnf)
    | (refine ix_map (by omega) ?_; conv => whnf)
    | (refine ix_str (by omega) ?_; conv => whnf)
    | (refine wrap64 (by omega) ?_; conv => whnf)
    | (exfalso; simp_all; done)
    | (exfalso; simp only [List.length_map, List.length_cons, List.length_nil, List.length_append] at h; omega)
    | ((with_reducible refine endx_go ?_); first | (exact endx rfl; done) | (refine endx (congrArg D.bool (decide_eq_true ?_)); rfl; done))
    | (refine ⟨rfl, ?_⟩; conv => whnf)
    | fail
    )

theorem c6c (x : Quo) (w : Int) (hq : (checkQ x).2 = 0) (hw : whoE w = 0) : Fn 6 [x.enc, i w] (.bool true) := by
  refine run_walkF eok Try.func6 rfl (by kernel_rfl) ?_
  conv => whnf
  repeat' (first
    | ((with_reducible refine on_dec_t (by assumption) ?_); conv => whnf)
    | ((with_reducible refine on_dec_f (by assumption) ?_); conv => whnf)
    | ((with_reducible refine onBool_t (by assumption) ?_); conv => whnf)
    | ((with_reducible refine onBool_f (by assumption) ?_); conv => whnf)
    | ((with_reducible refine on_nt (by assumption) ?_); conv => whnf)
    | ((with_reducible refine on_nf (by assumption) ?_); conv => whnf)
    | ((with_reducible refine on_ndec_t (by first | assumption | rfl) ?_); conv => whnf)
    | ((with_reducible refine on_ndec_f (by assumption) ?_); conv => whnf)
    | ((with_reducible refine on_dec_t rfl ?_); conv => whnf)
    | ((with_reducible refine on_ndec (fun h => ?_) (fun h => ?_)) <;> conv => whnf)
    | ((with_reducible refine on_dec_f ?_ ?_); (focus ((try simp only [List.length_map, List.length_cons, List.length_nil, List.length_append]); omega)); conv => whnf)
    | ((with_reducible refine on_dec_t ?_ ?_); (focus ((try simp only [List.length_map, List.length_cons, List.length_nil, List.length_append]); omega)); conv => whnf)
    | ((with_reducible refine on_dec (fun h => ?_) (fun h => ?_)) <;> (try simp only [List.length_map] at h) <;> conv => whnf)
    | ((with_reducible refine on_ndec (fun h => ?_) (fun h => ?_)) <;> (try simp only [List.length_map] at h) <;> conv => whnf)
    | ((with_reducible refine on_not (fun h => ?_) (fun h => ?_)) <;> conv => whnf)
    | ((with_reducible refine onBool_split (fun h => ?_) (fun h => ?_)) <;> conv => whnf)
    | ((with_reducible refine call_go ?_); (first | refine call_step (run_data c12 _) ?_ | refine call_step (run_data (c13 x) _) ?_ | refine call_step (run_data (c15 x (by omega)) _) ?_ | refine call_step (run_data (c29a x (by omega) w hq) _) ?_ | refine call_step (run_data (c29b x (by omega) w hq hw) _) ?_ | refine call_step (run_data (c29c x (by omega) w hq hw) _) ?_ | refine call_step (run_data (c30a x (by omega) hq) _) ?_ | refine call_step (run_data (c30b x (by omega) hq) _) ?_ | refine call_step (run_data (c31 x (by omega)) _) ?_ | refine call_step (run_data (c33 x (by omega)) _) ?_ | refine call_step (run_data (c32s _ (by have := warned_le x.os; omega)) _) ?_ | refine call_step (run_view (c20 _) rfl rfl) ?_ | refine call_step (run_data (c21 x (by omega) ((checkQ_iff x).1 hq) w) _) ?_); conv => whnf)
    | (refine ⟨⟨(by first | rfl | (simp; done)), cap_ok (by simp only [List.length_map, List.length_cons, List.length_nil, List.length_append]; omega) rfl⟩, ?_⟩; conv => whnf)
    | (refine ⟨mem_one ⟨rfl, rfl⟩, ?_⟩; conv => whnf)
    | (refine ⟨(by intro y hy; obtain ⟨x, _, rfl⟩ := List.mem_map.1 hy; first | rfl | exact ⟨rfl, rfl⟩), ?_⟩; conv => whnf)
    | (refine ⟨cap_ok (by first | omega | (simp only [List.length_map]; omega)) rfl, ?_⟩; conv => whnf)
    | (refine ix_map (by omega) ?_; conv => whnf)
    | (refine ix_str (by omega) ?_; conv => whnf)
    | (refine wrap64 (by omega) ?_; conv => whnf)
    | (exfalso; simp_all; done)
    | (exfalso; simp only [List.length_map, List.length_cons, List.length_nil, List.length_append] at h; omega)
    | ((with_reducible refine endx_go ?_); first | (exact endx rfl; done) | (refine endx (congrArg D.bool (decide_eq_true ?_)); rfl; done))
    | (refine ⟨rfl, ?_⟩; conv => whnf)
    | fail
    )

theorem c6 (x : Quo) (w : Int) : Fn 6 [x.enc, i w] (.bool true) := by
  by_cases hq : (checkQ x).2 = 0
  · by_cases hw : whoE w = 0
    · exact c6c x w hq hw
    · exact c6b x w hq hw
  · exact c6a x w hq

end Go.Proofs.Ytolfkcmdfgakkaa

/-! Ld -/
namespace Go.Proofs.Ytolfkcmdfgakkaa
open Go Dw Go.ChangeShapes Go.RowKit
theorem own6 : ownKnob Try.prog.godebug = none := by kernel_rfl
theorem laidOut6 : laidOutB Try.prog = true := by kernel_rfl

section
attribute [local irreducible] Run
theorem hrun6 : ∀ xs, shps E 5 Try.f6.params.toList xs → Run Try.prog 6 (xs.map .d) [] (.d (.bool true)) [] := by
  intro xs h
  obtain ⟨x1, r1, rfl, h1, x2, r2, rfl, ⟨w, rfl, _⟩, rfl⟩ := h
  obtain ⟨q, rfl⟩ := shpQuo h1
  exact c6 q w
end

set_option maxRecDepth 100000 in
theorem lifted6 (os : Os) (started : os.Started) (H : Type) (enc : TypeId × Value → H) :
    ReturnsInHanded {} Try.checked os 6 .any (Rows.quotaLooksSpec.pre6 enc Try.prog Try.f6 Rows.quotaLooksRow.domain false) (Rows.quotaLooksSpec.post enc Try.prog Try.f6 false true false false) := by
  refine returnsInHanded_of_change (C := Try.checked) own6 started (by kernel_rfl) Try.func6
    (ChangeSpec.witness6 (enc := enc) (C := Try.checked) false ⟨#[], #[.agg #[.slice none 0 0, .bool false], .int .i64 0], []⟩ 8 (by kernel_rfl) (by kernel_rfl) (by kernel_rfl) (by kernel_rfl)) ?_
  intro W base args ds gs before hval hW _ _
  refine law_lift (n := 5) (t4 := 4) eok Try.func6 (by kernel_rfl) rfl laidOut6 rfl ?_ rfl Try.underlying4 (by kernel_rfl) hrun6 W base args ds gs before hval hW
  intro H ds hds
  match ds, hds with
  | [a, b], _ => rfl

theorem over6 : Rows.quotaLooksRow.holds Try.pinned (OpenSpec.ofChange Rows.quotaLooksSpec) :=
  OpenClaim.holds_of_wide 6 Try.f6 rfl rfl rfl rfl rfl rfl rfl ⟨rfl, rfl, rfl, rfl, rfl⟩ rfl rfl rfl rfl rfl (by kernel_rfl) Try.func6 (by kernel_rfl)
    (of_decide_eq_true (by kernel_rfl)) (by unfold Func.isWrapper; first | (rw [if_pos (by decide +kernel)]; kernel_rfl) | (rw [if_neg (by decide +kernel)]; exact ⟨rfl, rfl⟩))
    (fun os started H enc _ => lifted6 os started H enc)
theorem quotaLooks_proved : Rows.QuotaLooksSaid := over6
end Go.Proofs.Ytolfkcmdfgakkaa
