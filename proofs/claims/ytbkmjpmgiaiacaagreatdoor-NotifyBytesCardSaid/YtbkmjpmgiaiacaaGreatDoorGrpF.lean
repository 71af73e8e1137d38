/-
  Own lemmas, no conditions: Wh, Wi, Aw.
-/
import Derived.Test.YtbkmjpmgiaiacaaGreatDoorGrpE
set_option linter.unusedVariables false
set_option linter.unusedSimpArgs false

/-! Wh -/
namespace Go.Proofs.YtbkmjpmgiaiacaaGreatDoor
open Go Dw
set_option maxRecDepth 10000
set_option linter.unusedVariables false
set_option linter.unusedSimpArgs false
attribute [local irreducible] Run
set_option maxHeartbeats 4000000

open Paths
attribute [local irreducible] nameErr cut normal dots partErr parse text
structure Wt where
  path : Bs
  deep : Bool
  filter : Int
  room : Int
deriving DecidableEq
structure Rec where
  act : Int
  path : Bs
deriving DecidableEq
def Wt.enc (w : Wt) : D := .agg [.str w.path, .bool w.deep, i w.filter, i w.room]
def Rec.enc (x : Rec) : D := .agg [i x.act, .str x.path]
theorem normI_err0 {s : Bs} {a : Bool} (h : ¬ (parse s).2 = 0) : normI s a = ([], (parse s).2) := by unfold normI; rw [if_neg h]
theorem normI_ok0 {s : Bs} {a : Bool} (h : (parse s).2 = 0) : normI s a = ((parse s).1.parts, if text (normal (parse s).1) = s ∧ (parse s).1.abs = a ∧ (parse s).1.stream = [] then 0 else 3) := by unfold normI; rw [if_pos h]

theorem c53f (s : Bs) (a : Bool) (h0 : ¬ (parse s).2 = 0) : Fn 53 [.str s, .bool a] (.tup [.fs ((normI s a).1.map .str), i (normI s a).2]) := by
  refine run_walkF eok Tryz.func53 rfl (by kernel_rfl) ?_
  conv => whnf
  repeat' (first
    | ((with_reducible refine on_dec_t (by assumption) ?_); conv => whnf)
    | ((with_reducible refine on_dec_f (by assumption) ?_); conv => whnf)
    | ((with_reducible refine onBool_t (by assumption) ?_); conv => whnf)
    | ((with_reducible refine onBool_f (by assumption) ?_); conv => whnf)
    | ((with_reducible refine on_nt (by assumption) ?_); conv => whnf)
    | ((with_reducible refine on_nf (by assumption) ?_); conv => whnf)
    | ((with_reducible refine on_ndec_t (by first | assumption | rfl) ?_); conv => whnf)
    | ((with_reducible refine on_ndec_f (by assumption) ?_); conv => whnf)
    | ((with_reducible refine on_dec_t rfl ?_); conv => whnf)
    | (exact absurd (by assumption) (of_decide_eq_false h))
    | (exact absurd (of_decide_eq_true h) (by assumption))
    | ((with_reducible refine on_dec_f ?_ ?_); (focus ((try simp only [List.length_map, List.length_cons, List.length_nil, List.length_append]); omega)); conv => whnf)
    | ((with_reducible refine on_dec_t ?_ ?_); (focus ((try simp only [List.length_map, List.length_cons, List.length_nil, List.length_append]); omega)); conv => whnf)
    | ((with_reducible refine on_dec (fun h => ?_) (fun h => ?_)) <;> (try simp only [List.length_map] at h) <;> conv => whnf)
    | ((with_reducible refine on_ndec (fun h => ?_) (fun h => ?_)) <;> (try simp only [List.length_map] at h) <;> conv => whnf)
    | ((with_reducible refine on_not (fun h => ?_) (fun h => ?_)) <;> conv => whnf)
    | ((with_reducible refine onBool_split (fun h => ?_) (fun h => ?_)) <;> conv => whnf)
    | ((with_reducible refine call_go ?_); (first | refine call_step (run_viewF (c92 s) rfl) ?_ | refine call_step (run_view (c93t s h0) rfl rfl) ?_ | refine call_step (run_view (c55 _ _) rfl rfl) ?_); conv => whnf)
    | (refine ⟨[], [(1, 20)], (by decide +kernel), ?_⟩; conv => whnf)
    | (refine ⟨⟨(by first | rfl | (simp; done)), cap_ok (by simp only [List.length_map, List.length_cons, List.length_nil, List.length_append]; omega) rfl⟩, ?_⟩; conv => whnf)
    | (refine ⟨mem_one ⟨rfl, rfl⟩, ?_⟩; conv => whnf)
    | (refine ⟨(by intro y hy; obtain ⟨x, _, rfl⟩ := List.mem_map.1 hy; first | rfl | exact ⟨rfl, rfl⟩), ?_⟩; conv => whnf)
    | (refine ⟨cap_ok (by first | omega | (simp only [List.length_map]; omega)) rfl, ?_⟩; conv => whnf)
    | (refine ix_map (by omega) ?_; conv => whnf)
    | (refine ix_str (by omega) ?_; conv => whnf)
    | (refine wrap64 (by omega) ?_; conv => whnf)
    | (exfalso; simp only [List.length_map, List.length_cons, List.length_nil, List.length_append] at h; omega)
    | ((with_reducible refine endx_go ?_); first | (refine endxv (view_tup (vlc rfl (vlc rfl vln))) ?_; (rw [normI_err0 h0]) <;> rfl; done))
    | (refine ⟨rfl, ?_⟩; conv => whnf)
    | fail
    )

theorem c53t (s : Bs) (a : Bool) (h0 : (parse s).2 = 0) : Fn 53 [.str s, .bool a] (.tup [.fs ((normI s a).1.map .str), i (normI s a).2]) := by
  refine run_walkF eok Tryz.func53 rfl (by kernel_rfl) ?_
  conv => whnf
  repeat' (first
    | ((with_reducible refine on_dec_t (by assumption) ?_); conv => whnf)
    | ((with_reducible refine on_dec_f (by assumption) ?_); conv => whnf)
    | ((with_reducible refine onBool_t (by assumption) ?_); conv => whnf)
    | ((with_reducible refine onBool_f (by assumption) ?_); conv => whnf)
    | ((with_reducible refine on_nt (by assumption) ?_); conv => whnf)
    | ((with_reducible refine on_nf (by assumption) ?_); conv => whnf)
    | ((with_reducible refine on_ndec_t (by first | assumption | rfl) ?_); conv => whnf)
    | ((with_reducible refine on_ndec_f (by assumption) ?_); conv => whnf)
    | ((with_reducible refine on_dec_t rfl ?_); conv => whnf)
    | (exact absurd (by assumption) (of_decide_eq_false h))
    | (exact absurd (of_decide_eq_true h) (by assumption))
    | ((with_reducible refine on_dec_f ?_ ?_); (focus ((try simp only [List.length_map, List.length_cons, List.length_nil, List.length_append]); omega)); conv => whnf)
    | ((with_reducible refine on_dec_t ?_ ?_); (focus ((try simp only [List.length_map, List.length_cons, List.length_nil, List.length_append]); omega)); conv => whnf)
    | ((with_reducible refine on_dec (fun h => ?_) (fun h => ?_)) <;> (try simp only [List.length_map] at h) <;> conv => whnf)
    | ((with_reducible refine on_ndec (fun h => ?_) (fun h => ?_)) <;> (try simp only [List.length_map] at h) <;> conv => whnf)
    | ((with_reducible refine on_not (fun h => ?_) (fun h => ?_)) <;> conv => whnf)
    | ((with_reducible refine onBool_split (fun h => ?_) (fun h => ?_)) <;> conv => whnf)
    | ((with_reducible refine call_go ?_); (first | refine call_step (run_viewF (c92 s) rfl) ?_ | refine call_step (run_view (c93t s h0) rfl rfl) ?_ | refine call_step (run_view (c55 _ _) rfl rfl) ?_); conv => whnf)
    | (refine ⟨[], [(1, 20)], (by decide +kernel), ?_⟩; conv => whnf)
    | (refine ⟨⟨(by first | rfl | (simp; done)), cap_ok (by simp only [List.length_map, List.length_cons, List.length_nil, List.length_append]; omega) rfl⟩, ?_⟩; conv => whnf)
    | (refine ⟨mem_one ⟨rfl, rfl⟩, ?_⟩; conv => whnf)
    | (refine ⟨(by intro y hy; obtain ⟨x, _, rfl⟩ := List.mem_map.1 hy; first | rfl | exact ⟨rfl, rfl⟩), ?_⟩; conv => whnf)
    | (refine ⟨cap_ok (by first | omega | (simp only [List.length_map]; omega)) rfl, ?_⟩; conv => whnf)
    | (refine ix_map (by omega) ?_; conv => whnf)
    | (refine ix_str (by omega) ?_; conv => whnf)
    | (refine wrap64 (by omega) ?_; conv => whnf)
    | (exfalso; simp only [List.length_map, List.length_cons, List.length_nil, List.length_append] at h; omega)
    | ((with_reducible refine endx_go ?_); first | (refine endxv (view_tup (vlc rfl (vlc rfl vln))) ?_; rw [normI_ok0 h0]; simp_all; done; done))
    | (refine ⟨rfl, ?_⟩; conv => whnf)
    | fail
    )

theorem c53 (s : Bs) (a : Bool) : Fn 53 [.str s, .bool a] (.tup [.fs ((normI s a).1.map .str), i (normI s a).2]) := by
  by_cases h : (parse s).2 = 0
  · exact c53t s a h
  · exact c53f s a h
theorem normI_len (s : Bs) (a : Bool) : (normI s a).1.length ≤ 1000 := by
  unfold normI
  split
  · exact parse_parts s
  · exact Nat.zero_le _
def actB (n f : Int) : Bool := decide (0 < n) && (decide ((n.toNat &&& (n - 1).toNat : Nat) = (0 : Int)) && decide (((n.toNat &&& f.toNat : Nat) : Int) = n))
theorem act_tab : ∀ n f : Fin 64, (decide ((0 : Int) < n.val) && (decide (((n.val &&& (n.val - 1) : Nat) : Int) = (0 : Int)) && decide (((n.val &&& f.val : Nat) : Int) = n.val))) = (isAct n.val && hasBit f.val n.val) := by decide +kernel
theorem actB_eq {n f : Int} (hf : 0 ≤ f ∧ f ≤ 63) : actB n f = (isAct n && hasBit f n) := by
  by_cases h : 0 ≤ n ∧ n < 64
  · have := act_tab ⟨n.toNat, by omega⟩ ⟨f.toNat, by omega⟩
    simp only at this
    rw [show ((n.toNat : Nat) : Int) = n by omega, show ((f.toNat : Nat) : Int) = f by omega] at this
    rw [← this]
    unfold actB
    rw [show (n - 1).toNat = n.toNat - 1 by omega]
  · have h1 : isAct n = false := by
      unfold isAct
      simp only [Bool.or_eq_false_iff, decide_eq_false_iff_not]
      omega
    rw [h1, Bool.false_and]
    unfold actB
    by_cases h2 : 0 < n
    · have h3 : ¬ ((n.toNat &&& f.toNat : Nat) : Int) = n := by
        intro e
        have := Nat.and_le_right (n := n.toNat) (m := f.toNat)
        omega
      simp [h3]
    · simp [h2]
theorem act63 (n : Int) : actB n 63 = isAct n := by
  rw [actB_eq (by omega)]
  by_cases h : isAct n = true
  · have : hasBit 63 n = true := by
      rcases isAct_iff.1 h with rfl | rfl | rfl | rfl | rfl | rfl <;> decide
    rw [h, this]; rfl
  · have h1 : isAct n = false := by simpa using h
    rw [h1]; rfl
attribute [local irreducible] normI isAct hasBit

theorem c59 (n f : Int) (hn : n < 9223372036854775808) (hf : 0 ≤ f ∧ f ≤ 63) : Fn 59 [i n, i f] (.bool (actB n f)) := by
  refine run_walkF eok Tryz.func59 rfl (by kernel_rfl) ?_
  conv => whnf
  repeat' (first
    | ((with_reducible refine on_dec_f ?_ ?_); (focus ((try simp only [List.length_map, List.length_cons, List.length_nil, List.length_append]); omega)); conv => whnf)
    | ((with_reducible refine on_dec_t ?_ ?_); (focus ((try simp only [List.length_map, List.length_cons, List.length_nil, List.length_append]); omega)); conv => whnf)
    | ((with_reducible refine on_dec (fun h => ?_) (fun h => ?_)) <;> (try simp only [List.length_map] at h) <;> conv => whnf)
    | ((with_reducible refine on_ndec (fun h => ?_) (fun h => ?_)) <;> (try simp only [List.length_map] at h) <;> conv => whnf)
    | ((with_reducible refine on_not (fun h => ?_) (fun h => ?_)) <;> conv => whnf)
    | ((with_reducible refine onBool_split (fun h => ?_) (fun h => ?_)) <;> conv => whnf)
    | (refine ⟨⟨(by first | rfl | (simp; done)), cap_ok (by simp only [List.length_map, List.length_cons, List.length_nil, List.length_append]; omega) rfl⟩, ?_⟩; conv => whnf)
    | (refine ⟨mem_one ⟨rfl, rfl⟩, ?_⟩; conv => whnf)
    | (refine ⟨(by intro y hy; obtain ⟨x, _, rfl⟩ := List.mem_map.1 hy; first | rfl | exact ⟨rfl, rfl⟩), ?_⟩; conv => whnf)
    | (refine ⟨cap_ok (by first | omega | (simp only [List.length_map]; omega)) rfl, ?_⟩; conv => whnf)
    | (refine ix_map (by omega) ?_; conv => whnf)
    | (refine ix_str (by omega) ?_; conv => whnf)
    | (refine wrap64 (by omega) ?_; conv => whnf)
    | (refine bit_and (by omega) ?_; conv => whnf)
    | (refine wrap64 (by omega) ?_; conv => whnf)
    | (exfalso; simp only [List.length_map, List.length_cons, List.length_nil, List.length_append] at h; omega)
    | ((with_reducible refine endx_go ?_); first | (refine endx (congrArg D.bool ?_); unfold actB; (simp_all; done); done) | (refine endx (congrArg D.bool ?_); unfold actB; rw [decide_eq_false h]; rfl; done))
    | (refine ⟨rfl, ?_⟩; conv => whnf)
    | fail
    )

theorem watch_eq (p : Bs) (f r : Int) : watchErr p f r = firstE [(normI p true).2, if (within f 1 63 && within r 0 400) = true then 0 else 2] := by
  rw [normI_err]
  unfold watchErr
  rw [firstE_cons, firstE_cons, firstE_nil]
  by_cases h : pathErr p = 0
  · rw [if_pos h, if_pos h]
    by_cases h2 : 1 ≤ f ∧ f ≤ 63 ∧ 0 ≤ r ∧ r ≤ 400
    · rw [if_pos h2]; simp [within, h2]
    · rw [if_neg h2]
      have h3 : ¬ (within f 1 63 && within r 0 400) = true := by
        intro e
        simp only [within, Bool.and_eq_true, decide_eq_true_eq] at e
        exact h2 ⟨e.1.1, e.1.2, e.2.1, e.2.2⟩
      rw [if_neg h3, if_neg (by decide)]
  · rw [if_neg h, if_neg h]
theorem event_eq (a : Int) (p : Bs) : eventErr a p = firstE [if isAct a = true then 0 else 15, (normI p true).2, if decide ((0 : Int) < (normI p true).1.length) = true then 0 else 3] := by
  rw [normI_err]
  unfold eventErr
  rw [firstE_cons, firstE_cons, firstE_cons, firstE_nil]
  by_cases h0 : isAct a = true
  · rw [if_pos h0, if_pos h0, if_pos rfl]
    by_cases h : pathErr p = 0
    · rw [if_pos h, if_pos h, normI_ok h]
      have hr := root_iff h
      by_cases h2 : p = [47]
      · have h3 := hr.1 h2
        rw [if_pos h2]; simp [h3]
      · have h3 : partsOf p ≠ [] := fun e => h2 (hr.2 e)
        have h4 := List.length_pos_iff.2 h3
        have h5 : decide ((0 : Int) < (partsOf p).length) = true := decide_eq_true (by omega)
        rw [if_neg h2]; simp only [h5]; rfl
    · rw [if_neg h, if_neg h]
  · rw [if_neg h0, if_neg h0, if_neg (by decide)]
attribute [local irreducible] watchErr eventErr pathErr within

theorem c12 (w : Wt) : Fn 12 [w.enc] (i (watchErr w.path w.filter w.room)) := by
  refine run_walkF eok Tryz.func12 rfl (by kernel_rfl) ?_
  conv => whnf
  repeat' (first
    | ((with_reducible refine on_dec_f ?_ ?_); (focus ((try simp only [List.length_map, List.length_cons, List.length_nil, List.length_append]); omega)); conv => whnf)
    | ((with_reducible refine on_dec_t ?_ ?_); (focus ((try simp only [List.length_map, List.length_cons, List.length_nil, List.length_append]); omega)); conv => whnf)
    | ((with_reducible refine on_dec (fun h => ?_) (fun h => ?_)) <;> (try simp only [List.length_map] at h) <;> conv => whnf)
    | ((with_reducible refine on_ndec (fun h => ?_) (fun h => ?_)) <;> (try simp only [List.length_map] at h) <;> conv => whnf)
    | ((with_reducible refine on_not (fun h => ?_) (fun h => ?_)) <;> conv => whnf)
    | ((with_reducible refine onBool_split (fun h => ?_) (fun h => ?_)) <;> conv => whnf)
    | ((with_reducible refine call_go ?_); (first | refine call_step (run_viewF (c53 _ _) rfl) ?_ | refine call_step (run_view (c56 _ _ _) rfl rfl) ?_ | refine call_step (run_view (c55 _ _) rfl rfl) ?_ | refine call_step (run_view (c54 [_, _] (by simp)) rfl rfl) ?_ | refine call_step (run_view (c54 [_, _, _] (by simp)) rfl rfl) ?_ | refine call_step (run_view (c54 [_, _, _, _] (by simp)) rfl rfl) ?_); conv => whnf)
    | (refine ⟨⟨(by first | rfl | (simp; done)), cap_ok (by simp only [List.length_map, List.length_cons, List.length_nil, List.length_append]; omega) rfl⟩, ?_⟩; conv => whnf)
    | (refine ⟨mem_one ⟨rfl, rfl⟩, ?_⟩; conv => whnf)
    | (refine ⟨(by intro y hy; obtain ⟨x, _, rfl⟩ := List.mem_map.1 hy; first | rfl | exact ⟨rfl, rfl⟩), ?_⟩; conv => whnf)
    | (refine ⟨cap_ok (by first | omega | (simp only [List.length_map]; omega)) rfl, ?_⟩; conv => whnf)
    | (refine ix_map (by omega) ?_; conv => whnf)
    | (refine ix_str (by omega) ?_; conv => whnf)
    | (refine wrap64 (by omega) ?_; conv => whnf)
    | (refine wrap64 (by omega) ?_; conv => whnf)
    | (exfalso; simp only [List.length_map, List.length_cons, List.length_nil, List.length_append] at h; omega)
    | ((with_reducible refine endx_go ?_); first | (refine endx (congrArg i ?_); rw [watch_eq]; (simp_all; done); done))
    | (refine ⟨rfl, ?_⟩; conv => whnf)
    | fail
    )

theorem c14 (x : Rec) (hx : x.act < 9223372036854775808) : Fn 14 [x.enc] (i (eventErr x.act x.path)) := by
  have hl := normI_len x.path true
  refine run_walkF eok Tryz.func14 rfl (by kernel_rfl) ?_
  conv => whnf
  repeat' (first
    | ((with_reducible refine on_dec_f ?_ ?_); (focus ((try simp only [List.length_map, List.length_cons, List.length_nil, List.length_append]); omega)); conv => whnf)
    | ((with_reducible refine on_dec_t ?_ ?_); (focus ((try simp only [List.length_map, List.length_cons, List.length_nil, List.length_append]); omega)); conv => whnf)
    | ((with_reducible refine on_dec (fun h => ?_) (fun h => ?_)) <;> (try simp only [List.length_map] at h) <;> conv => whnf)
    | ((with_reducible refine on_ndec (fun h => ?_) (fun h => ?_)) <;> (try simp only [List.length_map] at h) <;> conv => whnf)
    | ((with_reducible refine on_not (fun h => ?_) (fun h => ?_)) <;> conv => whnf)
    | ((with_reducible refine onBool_split (fun h => ?_) (fun h => ?_)) <;> conv => whnf)
    | ((with_reducible refine call_go ?_); (first | refine call_step (run_viewF (c53 _ _) rfl) ?_ | refine call_step (run_view (c59 x.act 63 hx (by omega)) rfl rfl) ?_ | refine call_step (run_view (c55 _ _) rfl rfl) ?_ | refine call_step (run_view (c54 [_, _] (by simp)) rfl rfl) ?_ | refine call_step (run_view (c54 [_, _, _] (by simp)) rfl rfl) ?_ | refine call_step (run_view (c54 [_, _, _, _] (by simp)) rfl rfl) ?_); conv => whnf)
    | (refine ⟨⟨(by first | rfl | (simp; done)), cap_ok (by simp only [List.length_map, List.length_cons, List.length_nil, List.length_append]; omega) rfl⟩, ?_⟩; conv => whnf)
    | (refine ⟨mem_one ⟨rfl, rfl⟩, ?_⟩; conv => whnf)
    | (refine ⟨(by intro y hy; obtain ⟨x, _, rfl⟩ := List.mem_map.1 hy; first | rfl | exact ⟨rfl, rfl⟩), ?_⟩; conv => whnf)
    | (refine ⟨cap_ok (by first | omega | (simp only [List.length_map]; omega)) rfl, ?_⟩; conv => whnf)
    | (refine ix_map (by omega) ?_; conv => whnf)
    | (refine ix_str (by omega) ?_; conv => whnf)
    | (refine wrap64 (by omega) ?_; conv => whnf)
    | (refine wrap64 (by omega) ?_; conv => whnf)
    | (exfalso; simp only [List.length_map, List.length_cons, List.length_nil, List.length_append] at h; omega)
    | ((with_reducible refine endx_go ?_); first | (refine endx (congrArg i ?_); rw [event_eq, ← act63]; (simp_all; done); done))
    | (refine ⟨rfl, ?_⟩; conv => whnf)
    | fail
    )

theorem c95 (s : Bs) (hs : s.length < 1000000) (h0 : nameErr s = 0) : Fn 95 [.str s] (.str (fold s)) := by
  refine run_walkF eok Tryz.func95 rfl (by kernel_rfl) ?_
  conv => whnf
  repeat' (first
    | ((with_reducible refine on_dec_f ?_ ?_); (focus ((try simp only [List.length_map, List.length_cons, List.length_nil, List.length_append]); omega)); conv => whnf)
    | ((with_reducible refine on_dec_t ?_ ?_); (focus ((try simp only [List.length_map, List.length_cons, List.length_nil, List.length_append]); omega)); conv => whnf)
    | ((with_reducible refine on_dec (fun h => ?_) (fun h => ?_)) <;> (try simp only [List.length_map] at h) <;> conv => whnf)
    | ((with_reducible refine on_ndec (fun h => ?_) (fun h => ?_)) <;> (try simp only [List.length_map] at h) <;> conv => whnf)
    | ((with_reducible refine on_not (fun h => ?_) (fun h => ?_)) <;> conv => whnf)
    | ((with_reducible refine onBool_split (fun h => ?_) (fun h => ?_)) <;> conv => whnf)
    | ((with_reducible refine call_go ?_); (first | refine call_step (run_view (c127 s hs h0) rfl rfl) ?_); conv => whnf)
    | (refine ⟨⟨(by first | rfl | (simp; done)), cap_ok (by simp only [List.length_map, List.length_cons, List.length_nil, List.length_append]; omega) rfl⟩, ?_⟩; conv => whnf)
    | (refine ⟨mem_one ⟨rfl, rfl⟩, ?_⟩; conv => whnf)
    | (refine ⟨(by intro y hy; obtain ⟨x, _, rfl⟩ := List.mem_map.1 hy; first | rfl | exact ⟨rfl, rfl⟩), ?_⟩; conv => whnf)
    | (refine ⟨cap_ok (by first | omega | (simp only [List.length_map]; omega)) rfl, ?_⟩; conv => whnf)
    | (refine ix_map (by omega) ?_; conv => whnf)
    | (refine ix_str (by omega) ?_; conv => whnf)
    | (refine wrap64 (by omega) ?_; conv => whnf)
    | (exfalso; simp only [List.length_map, List.length_cons, List.length_nil, List.length_append] at h; omega)
    | ((with_reducible refine endx_go ?_); first | (exact endx rfl; done))
    | (refine ⟨rfl, ?_⟩; conv => whnf)
    | fail
    )

def belowI (bit deep : Bool) (a b : List Bs) : Bs × Bool :=
  if bit = false ∨ b.length ≤ a.length ∨ (deep = false ∧ a.length + 1 < b.length) then ([], false)
  else if sameHead a b = true then (glue 47 (b.drop a.length), true) else ([], false)
theorem below_eq (w : Wt) (x : Rec) : below w.path w.deep w.filter x.act x.path = belowI (hasBit w.filter x.act) w.deep (partsOf w.path) (partsOf x.path) := rfl
theorem bel_1 {bit deep : Bool} {a b : List Bs} (h : bit = false) : belowI bit deep a b = ([], false) := if_pos (.inl h)
theorem bel_2 {bit deep : Bool} {a b : List Bs} (h : (b.length : Int) ≤ a.length) : belowI bit deep a b = ([], false) := if_pos (.inr (.inl (by omega)))
theorem bel_3 {bit deep : Bool} {a b : List Bs} (h : deep = false) (h2 : (a.length : Int) + 1 < b.length) : belowI bit deep a b = ([], false) := if_pos (.inr (.inr ⟨h, by omega⟩))
theorem bel_4 {bit deep : Bool} {a b : List Bs} {k : Nat} (hk : k < a.length) (hkb : k < b.length) (h : ¬ fold a[k] = fold b[k]) : belowI bit deep a b = ([], false) := by
  unfold belowI
  split
  · rfl
  · rw [if_neg]
    unfold sameHead
    intro e
    have e := of_decide_eq_true e
    have e2 : (a.map fold)[k]? = ((b.take a.length).map fold)[k]? := by rw [e]
    rw [List.getElem?_map, List.getElem?_map, List.getElem?_take_of_lt hk, List.getElem?_eq_getElem hk, List.getElem?_eq_getElem hkb] at e2
    exact h (Option.some.inj e2)
theorem bel_5 {bit deep : Bool} {a b : List Bs} (h1 : ¬ bit = false) (h2 : ¬ (b.length : Int) ≤ a.length) (h3 : ¬ (deep = false ∧ (a.length : Int) + 1 < b.length)) (h : a.map fold = (b.take a.length).map fold) : belowI bit deep a b = (glue 47 (b.drop a.length), true) := by
  unfold belowI
  rw [if_neg, if_pos (show sameHead a b = true from decide_eq_true h)]
  rintro (e | e | ⟨e1, e2⟩)
  · exact h1 e
  · omega
  · exact h3 ⟨e1, by omega⟩
theorem fold_take {a b : List Bs} {k : Nat} (h : (a.take k).map fold = (b.take k).map fold) (hk : k < a.length) (hkb : k < b.length) (e : fold a[k] = fold b[k]) : (a.take (k + 1)).map fold = (b.take (k + 1)).map fold := by
  rw [List.take_succ_eq_append_getElem hk, List.take_succ_eq_append_getElem hkb, List.map_append, List.map_append, h]
  simp [e]
theorem and_tab : ∀ f n : Fin 64, isAct n.val = true → decide (((f.val &&& n.val : Nat) : Int) = 0) = !hasBit f.val n.val := by unfold isAct hasBit; decide +kernel
theorem and_bit {f n : Int} (hf : 0 ≤ f ∧ f ≤ 63) (hn : isAct n = true) : decide (((f.toNat &&& n.toNat : Nat) : Int) = 0) = !hasBit f n := by
  have h := isAct_iff.1 hn
  have := and_tab ⟨f.toNat, by omega⟩ ⟨n.toNat, by omega⟩ (by simp only; rw [show ((n.toNat : Nat) : Int) = n by omega]; exact hn)
  simp only at this
  rwa [show ((n.toNat : Nat) : Int) = n by omega, show ((f.toNat : Nat) : Int) = f by omega] at this
theorem plain_small {s : Bs} (h : pathErr s = 0) : (partsOf s).length ≤ 16 ∧ ∀ x ∈ partsOf s, nameErr x = 0 ∧ x.length ≤ 32 :=
  ⟨(parse_good (pathErr_ok h).1).2, fun x hx => ⟨plain_legal h x hx, (legal_no (plain_legal h x hx)).2.2.2⟩⟩
theorem glue_drop {l : List Bs} (h1 : l.length ≤ 16) (h2 : ∀ x ∈ l, nameErr x = 0 ∧ x.length ≤ 32) (n : Nat) : (glue 47 (l.drop n)).length < 1000 := by
  have h3 := glue_bound 47 32 (l.drop n) (fun x hx => (h2 x (List.mem_of_mem_drop hx)).2)
  have h4 : (l.drop n).length ≤ 16 := by rw [List.length_drop]; omega
  have h5 : (l.drop n).length * (32 + 1) ≤ 16 * 33 := Nat.mul_le_mul h4 (Nat.le_refl _)
  omega
attribute [local irreducible] belowI

theorem c61 (w : Wt) (x : Rec) (a b : List Bs) (hw : pathErr w.path = 0) (hx : pathErr x.path = 0) (hf : 0 ≤ w.filter ∧ w.filter ≤ 63) (ha : isAct x.act = true) (ea : partsOf w.path = a) (eb : partsOf x.path = b) : Fn 61 [w.enc, x.enc] (.tup [.str (belowI (hasBit w.filter x.act) w.deep a b).1, .bool (belowI (hasBit w.filter x.act) w.deep a b).2]) := by
  have hbit := and_bit hf ha; have hact := isAct_iff.1 ha; obtain ⟨ha1, ha2⟩ := plain_small hw; obtain ⟨hb1, hb2⟩ := plain_small hx; rw [ea] at ha1 ha2; rw [eb] at hb1 hb2; have h53w : Fn 53 [.str w.path, .bool true] (.tup [.fs (a.map .str), i 0]) := (by have := c53 w.path true; rw [normI_ok hw, ea] at this; exact this); have h53x : Fn 53 [.str x.path, .bool true] (.tup [.fs (b.map .str), i 0]) := (by have := c53 x.path true; rw [normI_ok hx, eb] at this; exact this); have h96 : Fn 96 [.fs ((List.drop a.length (List.take b.length b)).map .str), .str [47]] (.str (glue 47 (b.drop a.length))) := (by rw [List.take_length]; exact c96' _ (by rw [List.length_drop]; omega) (by have := glue_drop hb1 hb2 a.length; omega)); have hbn : ¬ ((w.filter.toNat &&& x.act.toNat : Nat) : Int) = 0 → ¬ hasBit w.filter x.act = false := (fun e e2 => e (of_decide_eq_true (by rw [hbit, e2]; rfl)))
  refine run_walkF eok Tryz.func61 rfl (by kernel_rfl) ?_
  conv => whnf
  repeat' (first
    | ((with_reducible refine on_dec_t (by assumption) ?_); conv => whnf)
    | ((with_reducible refine on_dec_f (by assumption) ?_); conv => whnf)
    | ((with_reducible refine onBool_t (by assumption) ?_); conv => whnf)
    | ((with_reducible refine onBool_f (by assumption) ?_); conv => whnf)
    | ((with_reducible refine on_nt (by assumption) ?_); conv => whnf)
    | ((with_reducible refine on_nf (by assumption) ?_); conv => whnf)
    | ((with_reducible refine on_ndec_t (by first | assumption | rfl) ?_); conv => whnf)
    | ((with_reducible refine on_ndec_f (by assumption) ?_); conv => whnf)
    | ((with_reducible refine on_dec_t rfl ?_); conv => whnf)
    | (exact absurd (by assumption) (of_decide_eq_false h))
    | (exact absurd (of_decide_eq_true h) (by assumption))
    | ((with_reducible refine on_dec_f ?_ ?_); (focus ((try simp only [List.length_map, List.length_cons, List.length_nil, List.length_append]); omega)); conv => whnf)
    | ((with_reducible refine on_dec_t ?_ ?_); (focus ((try simp only [List.length_map, List.length_cons, List.length_nil, List.length_append]); omega)); conv => whnf)
    | ((with_reducible refine on_dec (fun h => ?_) (fun h => ?_)) <;> (try simp only [List.length_map] at h) <;> conv => whnf)
    | ((with_reducible refine on_ndec (fun h => ?_) (fun h => ?_)) <;> (try simp only [List.length_map] at h) <;> conv => whnf)
    | ((with_reducible refine on_not (fun h => ?_) (fun h => ?_)) <;> conv => whnf)
    | ((with_reducible refine onBool_split (fun h => ?_) (fun h => ?_)) <;> conv => whnf)
    | ((with_reducible refine call_go ?_); (first | refine call_step (run_viewF h53w rfl) ?_ | refine call_step (run_viewF h53x rfl) ?_ | refine call_step (run_view (c95 (a[k]'(by omega)) (by have := (ha2 _ (List.getElem_mem (l := a) (n := k) (by omega))).2; omega) (ha2 _ (List.getElem_mem (l := a) (n := k) (by omega))).1) rfl rfl) ?_ | refine call_step (run_view (c95 (b[k]'(by omega)) (by have := (hb2 _ (List.getElem_mem (l := b) (n := k) (by omega))).2; omega) (hb2 _ (List.getElem_mem (l := b) (n := k) (by omega))).1) rfl rfl) ?_ | refine call_step (run_view h96 rfl rfl) ?_); conv => whnf)
    | (refine ⟨[], [(5, 1)], (by decide +kernel), ?_⟩; conv => whnf)
    | ((with_reducible refine loop_go ?_); first | (refine loop1 (fun (k : Nat) => a.length - k) (fun (k : Nat) => k ≤ a.length ∧ (a.take k).map fold = (b.take k).map fold) (fun (k : Nat) => [(6, .d (.fs (a.map .str))), (8, .d (.fs (b.map .str))), (50, .d (.fs (a.map .str))), (51, .d (i a.length)), (52, .d (i k))]) (fun (k : Nat) => []) (0) (by first | (simp; done) | (constructor <;> simp; done) | omega) ?_ (fun k C hI hC => ?_); (exact ⟨[], rfl, rfl, ⟨(by first | (show (_ : D) = _; with_reducible rfl) | exact rfl), (by first | (show (_ : D) = _; with_reducible rfl) | exact rfl), (by first | (show (_ : D) = _; with_reducible rfl) | exact rfl), (by first | (show (_ : D) = _; with_reducible rfl) | exact congrArg (D.int .i64) (by omega) | exact congrArg (D.int .i64) (by simp only [List.length_map]) | exact rfl), (by first | (show (_ : D) = _; with_reducible rfl) | exact congrArg (D.int .i64) (by omega) | exact congrArg (D.int .i64) (by simp only [List.length_map]) | exact rfl), trivial⟩, trivial⟩); all_goals (conv => whnf)))
    | ((with_reducible show C _ _); first | (refine hC (k + 1) _ _ ?_ (by omega) ?_; clear hC; rotate_left; (exact ⟨[], rfl, rfl, ⟨(by first | (show (_ : D) = _; with_reducible rfl) | exact rfl), (by first | (show (_ : D) = _; with_reducible rfl) | exact rfl), (by first | (show (_ : D) = _; with_reducible rfl) | exact rfl), (by first | (show (_ : D) = _; with_reducible rfl) | exact congrArg (D.int .i64) (by omega) | exact congrArg (D.int .i64) (by simp only [List.length_map]) | exact rfl), (by first | (show (_ : D) = _; with_reducible rfl) | exact congrArg (D.int .i64) (by omega) | exact congrArg (D.int .i64) (by simp only [List.length_map]) | exact rfl), trivial⟩, trivial⟩); (exact ⟨by omega, fold_take hI.2 (by omega) (by omega) (by assumption)⟩)))
    | (refine ⟨⟨(by first | rfl | (simp; done)), cap_ok (by simp only [List.length_map, List.length_cons, List.length_nil, List.length_append]; omega) rfl⟩, ?_⟩; conv => whnf)
    | (refine ⟨mem_one ⟨rfl, rfl⟩, ?_⟩; conv => whnf)
    | (refine ⟨(by intro y hy; obtain ⟨x, _, rfl⟩ := List.mem_map.1 hy; first | rfl | exact ⟨rfl, rfl⟩), ?_⟩; conv => whnf)
    | (refine ⟨cap_ok (by first | omega | (simp only [List.length_map]; omega)) rfl, ?_⟩; conv => whnf)
    | (refine ix_map (by omega) ?_; conv => whnf)
    | (refine ix_str (by omega) ?_; conv => whnf)
    | (refine wrap64 (by omega) ?_; conv => whnf)
    | (refine bit_and (by omega) ?_; conv => whnf)
    | (refine wrap64 (by simp only [List.length_map]; omega) ?_; conv => whnf)
    | (refine sl_map (f := D.str) (l := b) a.length b.length (by simp only [List.length_map]) (by simp only [List.length_map]) (by omega) (fun x => rfl) ?_; conv => whnf)
    | (refine wrap64 (by omega) ?_; conv => whnf)
    | (exfalso; simp only [List.length_map, List.length_cons, List.length_nil, List.length_append] at h; omega)
    | ((with_reducible refine endx_go ?_); first | (exact endx2 (by rw [bel_1 (by simpa using hbit.symm.trans (decide_eq_true h))]); done) | (exact endx2 (by rw [bel_2 (by assumption)]); done) | (exact endx2 (by rw [bel_3 (by assumption) (by omega)]); done) | (exact endx2 (by rw [bel_4 (k := k) (by omega) (by omega) (by assumption)]); done) | (exact endx2 (by have h9 := hI.2; rw [List.take_of_length_le (by omega), show k = a.length by omega] at h9; rw [bel_5 (hbn (by assumption)) (by assumption) (by rintro ⟨e1, e2⟩; first | omega | simp_all) h9]); done))
    | (refine ⟨rfl, ?_⟩; conv => whnf)
    | fail
    )

theorem watchErr_ok {p : Bs} {f r : Int} (h : watchErr p f r = 0) : pathErr p = 0 ∧ 1 ≤ f ∧ f ≤ 63 ∧ 0 ≤ r ∧ r ≤ 400 := by
  unfold watchErr at h
  split at h
  · rename_i h1
    split at h
    · rename_i h2; exact ⟨h1, h2⟩
    · cases h
  · rename_i h1; exact absurd h h1
theorem eventErr_ok {a : Int} {p : Bs} (h : eventErr a p = 0) : isAct a = true ∧ pathErr p = 0 ∧ p ≠ [47] := by
  unfold eventErr at h
  split at h
  · rename_i h1
    split at h
    · rename_i h2
      split at h
      · cases h
      · rename_i h3; exact ⟨h1, h2, h3⟩
    · rename_i h2; exact absurd h h2
  · cases h
/-- What a watch sees, for the program and the document alike. -/
def seesW (w : Wt) (x : Rec) : Bs × Bool := belowI (hasBit w.filter x.act) w.deep (partsOf w.path) (partsOf x.path)
attribute [local irreducible] seesW
def bothErr (w : Wt) (x : Rec) : Int := if watchErr w.path w.filter w.room = 0 then eventErr x.act x.path else watchErr w.path w.filter w.room
theorem both_eq (w : Wt) (x : Rec) : firstE [watchErr w.path w.filter w.room, eventErr x.act x.path] = bothErr w x := by
  unfold bothErr
  rw [firstE_cons, firstE_cons, firstE_nil]
  split
  · split <;> simp_all
  · rfl
theorem both_ok {w : Wt} {x : Rec} (h : bothErr w x = 0) : watchErr w.path w.filter w.room = 0 ∧ eventErr x.act x.path = 0 := by
  unfold bothErr at h
  split at h
  · rename_i h1; exact ⟨h1, h⟩
  · rename_i h1; exact absurd h h1
theorem c61' (w : Wt) (x : Rec) (hw : watchErr w.path w.filter w.room = 0) (hx : eventErr x.act x.path = 0) : Fn 61 [w.enc, x.enc] (.tup [.str (seesW w x).1, .bool (seesW w x).2]) := by
  obtain ⟨h1, h2, h3, _, _⟩ := watchErr_ok hw
  obtain ⟨h4, h5, _⟩ := eventErr_ok hx
  unfold seesW
  exact c61 w x _ _ h1 h5 (by omega) h4 rfl rfl

theorem c16o (w : Wt) (x : Rec) (hxa : x.act < 9223372036854775808) (h0 : bothErr w x = 0) : Fn 16 [w.enc, x.enc] (.tup [.bool (seesW w x).2, .str (seesW w x).1, i 0]) := by
  refine run_walkF eok Tryz.func16 rfl (by kernel_rfl) ?_
  conv => whnf
  repeat' (first
    | ((rw [both_eq]; with_reducible refine on_ndec_t (by first | assumption | rfl) ?_); conv => whnf)
    | ((rw [both_eq]; with_reducible refine on_ndec_f (by assumption) ?_); conv => whnf)
    | ((with_reducible refine on_dec_t (by assumption) ?_); conv => whnf)
    | ((with_reducible refine on_dec_f (by assumption) ?_); conv => whnf)
    | ((with_reducible refine onBool_t (by assumption) ?_); conv => whnf)
    | ((with_reducible refine onBool_f (by assumption) ?_); conv => whnf)
    | ((with_reducible refine on_nt (by assumption) ?_); conv => whnf)
    | ((with_reducible refine on_nf (by assumption) ?_); conv => whnf)
    | ((with_reducible refine on_ndec_t (by first | assumption | rfl) ?_); conv => whnf)
    | ((with_reducible refine on_ndec_f (by assumption) ?_); conv => whnf)
    | ((with_reducible refine on_dec_t rfl ?_); conv => whnf)
    | ((with_reducible refine on_dec_f ?_ ?_); (focus ((try simp only [List.length_map, List.length_cons, List.length_nil, List.length_append]); omega)); conv => whnf)
    | ((with_reducible refine on_dec_t ?_ ?_); (focus ((try simp only [List.length_map, List.length_cons, List.length_nil, List.length_append]); omega)); conv => whnf)
    | ((with_reducible refine on_dec (fun h => ?_) (fun h => ?_)) <;> (try simp only [List.length_map] at h) <;> conv => whnf)
    | ((with_reducible refine on_ndec (fun h => ?_) (fun h => ?_)) <;> (try simp only [List.length_map] at h) <;> conv => whnf)
    | ((with_reducible refine on_not (fun h => ?_) (fun h => ?_)) <;> conv => whnf)
    | ((with_reducible refine onBool_split (fun h => ?_) (fun h => ?_)) <;> conv => whnf)
    | ((with_reducible refine call_go ?_); (first | refine call_step (run_view (c12 w) rfl rfl) ?_ | refine call_step (run_view (c14 x hxa) rfl rfl) ?_ | refine call_step (run_view (c54 [watchErr w.path w.filter w.room, eventErr x.act x.path] (by simp)) rfl rfl) ?_ | refine call_step (run_view (c61' w x (both_ok h0).1 (both_ok h0).2) rfl rfl) ?_); conv => whnf)
    | (refine ⟨[], [(2, 1)], (by decide +kernel), ?_⟩; conv => whnf)
    | (refine ⟨⟨(by first | rfl | (simp; done)), cap_ok (by simp only [List.length_map, List.length_cons, List.length_nil, List.length_append]; omega) rfl⟩, ?_⟩; conv => whnf)
    | (refine ⟨mem_one ⟨rfl, rfl⟩, ?_⟩; conv => whnf)
    | (refine ⟨(by intro y hy; obtain ⟨x, _, rfl⟩ := List.mem_map.1 hy; first | rfl | exact ⟨rfl, rfl⟩), ?_⟩; conv => whnf)
    | (refine ⟨cap_ok (by first | omega | (simp only [List.length_map]; omega)) rfl, ?_⟩; conv => whnf)
    | (refine ix_map (by omega) ?_; conv => whnf)
    | (refine ix_str (by omega) ?_; conv => whnf)
    | (refine wrap64 (by omega) ?_; conv => whnf)
    | (exfalso; simp only [List.length_map, List.length_cons, List.length_nil, List.length_append] at h; omega)
    | ((with_reducible refine endx_go ?_); first | (exact endx3 rfl; done))
    | (refine ⟨rfl, ?_⟩; conv => whnf)
    | fail
    )

theorem c16e (w : Wt) (x : Rec) (hxa : x.act < 9223372036854775808) (h0 : ¬ bothErr w x = 0) : Fn 16 [w.enc, x.enc] (.tup [.bool false, .str [], i (bothErr w x)]) := by
  refine run_walkF eok Tryz.func16 rfl (by kernel_rfl) ?_
  conv => whnf
  repeat' (first
    | ((rw [both_eq]; with_reducible refine on_ndec_t (by first | assumption | rfl) ?_); conv => whnf)
    | ((rw [both_eq]; with_reducible refine on_ndec_f (by assumption) ?_); conv => whnf)
    | ((with_reducible refine on_dec_t (by assumption) ?_); conv => whnf)
    | ((with_reducible refine on_dec_f (by assumption) ?_); conv => whnf)
    | ((with_reducible refine onBool_t (by assumption) ?_); conv => whnf)
    | ((with_reducible refine onBool_f (by assumption) ?_); conv => whnf)
    | ((with_reducible refine on_nt (by assumption) ?_); conv => whnf)
    | ((with_reducible refine on_nf (by assumption) ?_); conv => whnf)
    | ((with_reducible refine on_ndec_t (by first | assumption | rfl) ?_); conv => whnf)
    | ((with_reducible refine on_ndec_f (by assumption) ?_); conv => whnf)
    | ((with_reducible refine on_dec_t rfl ?_); conv => whnf)
    | ((with_reducible refine on_dec_f ?_ ?_); (focus ((try simp only [List.length_map, List.length_cons, List.length_nil, List.length_append]); omega)); conv => whnf)
    | ((with_reducible refine on_dec_t ?_ ?_); (focus ((try simp only [List.length_map, List.length_cons, List.length_nil, List.length_append]); omega)); conv => whnf)
    | ((with_reducible refine on_dec (fun h => ?_) (fun h => ?_)) <;> (try simp only [List.length_map] at h) <;> conv => whnf)
    | ((with_reducible refine on_ndec (fun h => ?_) (fun h => ?_)) <;> (try simp only [List.length_map] at h) <;> conv => whnf)
    | ((with_reducible refine on_not (fun h => ?_) (fun h => ?_)) <;> conv => whnf)
    | ((with_reducible refine onBool_split (fun h => ?_) (fun h => ?_)) <;> conv => whnf)
    | ((with_reducible refine call_go ?_); (first | refine call_step (run_view (c12 w) rfl rfl) ?_ | refine call_step (run_view (c14 x hxa) rfl rfl) ?_ | refine call_step (run_view (c54 [watchErr w.path w.filter w.room, eventErr x.act x.path] (by simp)) rfl rfl) ?_ | refine call_step (run_view (c61' w x (both_ok h0).1 (both_ok h0).2) rfl rfl) ?_); conv => whnf)
    | (refine ⟨[], [(2, 1)], (by decide +kernel), ?_⟩; conv => whnf)
    | (refine ⟨⟨(by first | rfl | (simp; done)), cap_ok (by simp only [List.length_map, List.length_cons, List.length_nil, List.length_append]; omega) rfl⟩, ?_⟩; conv => whnf)
    | (refine ⟨mem_one ⟨rfl, rfl⟩, ?_⟩; conv => whnf)
    | (refine ⟨(by intro y hy; obtain ⟨x, _, rfl⟩ := List.mem_map.1 hy; first | rfl | exact ⟨rfl, rfl⟩), ?_⟩; conv => whnf)
    | (refine ⟨cap_ok (by first | omega | (simp only [List.length_map]; omega)) rfl, ?_⟩; conv => whnf)
    | (refine ix_map (by omega) ?_; conv => whnf)
    | (refine ix_str (by omega) ?_; conv => whnf)
    | (refine wrap64 (by omega) ?_; conv => whnf)
    | (exfalso; simp only [List.length_map, List.length_cons, List.length_nil, List.length_append] at h; omega)
    | ((with_reducible refine endx_go ?_); first | (exact endx3 (by rw [← both_eq]); done))
    | (refine ⟨rfl, ?_⟩; conv => whnf)
    | fail
    )

end Go.Proofs.YtbkmjpmgiaiacaaGreatDoor

/-! Wi -/
namespace Go.Proofs.YtbkmjpmgiaiacaaGreatDoor
open Go Dw
set_option maxRecDepth 10000
set_option linter.unusedVariables false
set_option linter.unusedSimpArgs false
attribute [local irreducible] Run
set_option maxHeartbeats 4000000

open Paths
attribute [local irreducible] nameErr cut normal dots partErr parse text watchErr eventErr pathErr within isAct hasBit seesW belowI
def bitL (n : Int) : List Nat → Int
  | [] => -1
  | j :: l => if n = ((2 ^ j : Nat) : Int) then (j : Int) else bitL n l
def bits6 : List Nat := [0, 1, 2, 3, 4, 5]
def bitI (n : Int) : Int := bitL n bits6
theorem bits_drop {n : Int} {k : Nat} (h : k < 6) : bitL n (bits6.drop k) = if n = ((2 ^ k : Nat) : Int) then (k : Int) else bitL n (bits6.drop (k + 1)) := by
  have : k = 0 ∨ k = 1 ∨ k = 2 ∨ k = 3 ∨ k = 4 ∨ k = 5 := by omega
  rcases this with rfl | rfl | rfl | rfl | rfl | rfl <;> rfl
theorem bits_end {n : Int} {k : Nat} (h : ¬ ((k : Int) < 6)) : bitL n (bits6.drop k) = -1 := by
  rw [List.drop_eq_nil_of_le (show bits6.length ≤ k by show 6 ≤ k; omega)]; rfl
theorem bit_act (n : Int) : decide (0 ≤ bitI n) = isAct n := by
  unfold bitI bits6 isAct
  simp only [bitL]
  by_cases h1 : n = 1
  · subst h1; decide
  by_cases h2 : n = 2
  · subst h2; decide
  by_cases h3 : n = 4
  · subst h3; decide
  by_cases h4 : n = 8
  · subst h4; decide
  by_cases h5 : n = 16
  · subst h5; decide
  by_cases h6 : n = 32
  · subst h6; decide
  simp [h1, h2, h3, h4, h5, h6]
theorem p2 {k : Nat} (h : k < 7) : (2 : Int) ^ (min ((k : Int)).toNat 64) = ((2 ^ k : Nat) : Int) := by
  rw [Int.toNat_natCast, Nat.min_eq_left (by omega)]; simp
theorem p2_le {k : Nat} (h : k < 7) : (2 ^ k : Nat) ≤ 64 := Nat.pow_le_pow_right (by decide) (show k ≤ 6 by omega)

theorem c88 (k : Nat) (h : k < 7) : Fn 88 [i k] (i ((2 ^ k : Nat) : Int)) := by
  refine run_walkF eok Tryz.func88 rfl (by kernel_rfl) ?_
  conv => whnf
  repeat' (first
    | ((with_reducible refine on_dec_f ?_ ?_); (focus ((try simp only [List.length_map, List.length_cons, List.length_nil, List.length_append]); omega)); conv => whnf)
    | ((with_reducible refine on_dec_t ?_ ?_); (focus ((try simp only [List.length_map, List.length_cons, List.length_nil, List.length_append]); omega)); conv => whnf)
    | ((with_reducible refine on_dec (fun h => ?_) (fun h => ?_)) <;> (try simp only [List.length_map] at h) <;> conv => whnf)
    | ((with_reducible refine on_ndec (fun h => ?_) (fun h => ?_)) <;> (try simp only [List.length_map] at h) <;> conv => whnf)
    | ((with_reducible refine on_not (fun h => ?_) (fun h => ?_)) <;> conv => whnf)
    | ((with_reducible refine onBool_split (fun h => ?_) (fun h => ?_)) <;> conv => whnf)
    | (refine ⟨⟨(by first | rfl | (simp; done)), cap_ok (by simp only [List.length_map, List.length_cons, List.length_nil, List.length_append]; omega) rfl⟩, ?_⟩; conv => whnf)
    | (refine ⟨mem_one ⟨rfl, rfl⟩, ?_⟩; conv => whnf)
    | (refine ⟨(by intro y hy; obtain ⟨x, _, rfl⟩ := List.mem_map.1 hy; first | rfl | exact ⟨rfl, rfl⟩), ?_⟩; conv => whnf)
    | (refine ⟨cap_ok (by first | omega | (simp only [List.length_map]; omega)) rfl, ?_⟩; conv => whnf)
    | (refine ix_map (by omega) ?_; conv => whnf)
    | (refine ix_str (by omega) ?_; conv => whnf)
    | (refine wrap64 (by omega) ?_; conv => whnf)
    | (refine shl_at ((2 ^ k : Nat) : Int) (by simp) (p2 h) ?_; conv => whnf)
    | (refine wrap64 (by have := p2_le h; generalize (2 ^ k : Nat) = q at *; omega) ?_; conv => whnf)
    | (exfalso; simp only [List.length_map, List.length_cons, List.length_nil, List.length_append] at h; omega)
    | ((with_reducible refine endx_go ?_); first | (exact endx (congrArg i (Int.one_mul _)); done))
    | (refine ⟨rfl, ?_⟩; conv => whnf)
    | fail
    )

theorem c90 (n : Int) : Fn 90 [i n] (i (bitI n)) := by
  refine run_walkF eok Tryz.func90 rfl (by kernel_rfl) ?_
  conv => whnf
  repeat' (first
    | ((with_reducible refine on_dec_f ?_ ?_); (focus ((try simp only [List.length_map, List.length_cons, List.length_nil, List.length_append]); omega)); conv => whnf)
    | ((with_reducible refine on_dec_t ?_ ?_); (focus ((try simp only [List.length_map, List.length_cons, List.length_nil, List.length_append]); omega)); conv => whnf)
    | ((with_reducible refine on_dec (fun h => ?_) (fun h => ?_)) <;> (try simp only [List.length_map] at h) <;> conv => whnf)
    | ((with_reducible refine on_ndec (fun h => ?_) (fun h => ?_)) <;> (try simp only [List.length_map] at h) <;> conv => whnf)
    | ((with_reducible refine on_not (fun h => ?_) (fun h => ?_)) <;> conv => whnf)
    | ((with_reducible refine onBool_split (fun h => ?_) (fun h => ?_)) <;> conv => whnf)
    | ((with_reducible refine call_go ?_); (first | refine call_step (run_view (c88 k (by omega)) rfl rfl) ?_); conv => whnf)
    | ((with_reducible refine loop_go ?_); first | (refine loop1 (fun (k : Nat) => 6 - k) (fun (k : Nat) => k ≤ 6 ∧ bitL n bits6 = bitL n (bits6.drop k)) (fun (k : Nat) => [(0, .d (i n)), (3, .d (i k))]) (fun (k : Nat) => []) (0) (by first | (simp; done) | (constructor <;> simp; done) | omega) ?_ (fun k C hI hC => ?_); (exact ⟨[], rfl, rfl, ⟨(by first | (show (_ : D) = _; with_reducible rfl) | exact congrArg (D.int .i64) (by omega) | exact congrArg (D.int .i64) (by simp only [List.length_map]) | exact rfl), (by first | (show (_ : D) = _; with_reducible rfl) | exact congrArg (D.int .i64) (by omega) | exact congrArg (D.int .i64) (by simp only [List.length_map]) | exact rfl), trivial⟩, trivial⟩); all_goals (conv => whnf)))
    | ((with_reducible show C _ _); first | (refine hC (k + 1) _ _ ?_ (by omega) ?_; clear hC; rotate_left; (exact ⟨[], rfl, rfl, ⟨(by first | (show (_ : D) = _; with_reducible rfl) | exact congrArg (D.int .i64) (by omega) | exact congrArg (D.int .i64) (by simp only [List.length_map]) | exact rfl), (by first | (show (_ : D) = _; with_reducible rfl) | exact congrArg (D.int .i64) (by omega) | exact congrArg (D.int .i64) (by simp only [List.length_map]) | exact rfl), trivial⟩, trivial⟩); (exact ⟨by omega, by rw [hI.2, bits_drop (by omega), if_neg (by assumption)]⟩)))
    | (refine ⟨⟨(by first | rfl | (simp; done)), cap_ok (by simp only [List.length_map, List.length_cons, List.length_nil, List.length_append]; omega) rfl⟩, ?_⟩; conv => whnf)
    | (refine ⟨mem_one ⟨rfl, rfl⟩, ?_⟩; conv => whnf)
    | (refine ⟨(by intro y hy; obtain ⟨x, _, rfl⟩ := List.mem_map.1 hy; first | rfl | exact ⟨rfl, rfl⟩), ?_⟩; conv => whnf)
    | (refine ⟨cap_ok (by first | omega | (simp only [List.length_map]; omega)) rfl, ?_⟩; conv => whnf)
    | (refine ix_map (by omega) ?_; conv => whnf)
    | (refine ix_str (by omega) ?_; conv => whnf)
    | (refine wrap64 (by omega) ?_; conv => whnf)
    | (refine wrap64 (by omega) ?_; conv => whnf)
    | (exfalso; simp only [List.length_map, List.length_cons, List.length_nil, List.length_append] at h; omega)
    | ((with_reducible refine endx_go ?_); first | (exact endx (congrArg i (by unfold bitI; rw [hI.2, bits_drop (by omega), if_pos (by assumption)])); done) | (exact endx (congrArg i (by unfold bitI; rw [hI.2, bits_end (by assumption)])); done))
    | (refine ⟨rfl, ?_⟩; conv => whnf)
    | fail
    )

theorem c60 (n : Int) : Fn 60 [i n] (.bool (isAct n)) := by
  refine run_walkF eok Tryz.func60 rfl (by kernel_rfl) ?_
  conv => whnf
  repeat' (first
    | ((with_reducible refine on_dec_f ?_ ?_); (focus ((try simp only [List.length_map, List.length_cons, List.length_nil, List.length_append]); omega)); conv => whnf)
    | ((with_reducible refine on_dec_t ?_ ?_); (focus ((try simp only [List.length_map, List.length_cons, List.length_nil, List.length_append]); omega)); conv => whnf)
    | ((with_reducible refine on_dec (fun h => ?_) (fun h => ?_)) <;> (try simp only [List.length_map] at h) <;> conv => whnf)
    | ((with_reducible refine on_ndec (fun h => ?_) (fun h => ?_)) <;> (try simp only [List.length_map] at h) <;> conv => whnf)
    | ((with_reducible refine on_not (fun h => ?_) (fun h => ?_)) <;> conv => whnf)
    | ((with_reducible refine onBool_split (fun h => ?_) (fun h => ?_)) <;> conv => whnf)
    | ((with_reducible refine call_go ?_); (first | refine call_step (run_view (c90 _) rfl rfl) ?_); conv => whnf)
    | (refine ⟨⟨(by first | rfl | (simp; done)), cap_ok (by simp only [List.length_map, List.length_cons, List.length_nil, List.length_append]; omega) rfl⟩, ?_⟩; conv => whnf)
    | (refine ⟨mem_one ⟨rfl, rfl⟩, ?_⟩; conv => whnf)
    | (refine ⟨(by intro y hy; obtain ⟨x, _, rfl⟩ := List.mem_map.1 hy; first | rfl | exact ⟨rfl, rfl⟩), ?_⟩; conv => whnf)
    | (refine ⟨cap_ok (by first | omega | (simp only [List.length_map]; omega)) rfl, ?_⟩; conv => whnf)
    | (refine ix_map (by omega) ?_; conv => whnf)
    | (refine ix_str (by omega) ?_; conv => whnf)
    | (refine wrap64 (by omega) ?_; conv => whnf)
    | (exfalso; simp only [List.length_map, List.length_cons, List.length_nil, List.length_append] at h; omega)
    | ((with_reducible refine endx_go ?_); first | (exact endx (congrArg D.bool (bit_act n)); done))
    | (refine ⟨rfl, ?_⟩; conv => whnf)
    | fail
    )

theorem watch_a {p : Bs} {f r : Int} (h : ¬ pathErr p = 0) : watchErr p f r = pathErr p := by unfold watchErr; rw [if_neg h]
theorem watch_b {p : Bs} {f r : Int} (h : pathErr p = 0) (h2 : within f 1 63 = false ∨ within r 0 400 = false) : watchErr p f r = 2 := by
  unfold watchErr
  rw [if_pos h, if_neg]
  rintro ⟨a1, a2, a3, a4⟩
  unfold within at h2
  simp only [Bool.and_eq_false_iff, decide_eq_false_iff_not] at h2
  omega
theorem watch_c {p : Bs} {f r : Int} (h : pathErr p = 0) (h2 : within f 1 63 = true) (h3 : within r 0 400 = true) : watchErr p f r = 0 := by
  unfold watchErr
  unfold within at h2 h3
  simp only [Bool.and_eq_true, decide_eq_true_eq] at h2 h3
  rw [if_pos h, if_pos (by omega)]
theorem event_a {a : Int} {p : Bs} (h : isAct a = false) : eventErr a p = 15 := by unfold eventErr; rw [if_neg (by rw [h]; decide)]
theorem event_b {a : Int} {p : Bs} (h : isAct a = true) (h2 : ¬ pathErr p = 0) : eventErr a p = pathErr p := by unfold eventErr; rw [if_pos h, if_neg h2]
theorem event_c {a : Int} {p : Bs} (h : isAct a = true) (h2 : pathErr p = 0) (h3 : p = [47]) : eventErr a p = 3 := by unfold eventErr; rw [if_pos h, if_pos h2, if_pos h3]
theorem event_d {a : Int} {p : Bs} (h : isAct a = true) (h2 : pathErr p = 0) (h3 : ¬ p = [47]) : eventErr a p = 0 := by unfold eventErr; rw [if_pos h, if_pos h2, if_neg h3]

theorem c13 (w : Wt) : Fn 13 [w.enc] (i (watchErr w.path w.filter w.room)) := by
  refine run_walkF eok Tryz.func13 rfl (by kernel_rfl) ?_
  conv => whnf
  repeat' (first
    | ((with_reducible refine on_dec_f ?_ ?_); (focus ((try simp only [List.length_map, List.length_cons, List.length_nil, List.length_append]); omega)); conv => whnf)
    | ((with_reducible refine on_dec_t ?_ ?_); (focus ((try simp only [List.length_map, List.length_cons, List.length_nil, List.length_append]); omega)); conv => whnf)
    | ((with_reducible refine on_dec (fun h => ?_) (fun h => ?_)) <;> (try simp only [List.length_map] at h) <;> conv => whnf)
    | ((with_reducible refine on_ndec (fun h => ?_) (fun h => ?_)) <;> (try simp only [List.length_map] at h) <;> conv => whnf)
    | ((with_reducible refine on_not (fun h => ?_) (fun h => ?_)) <;> conv => whnf)
    | ((with_reducible refine onBool_split (fun h => ?_) (fun h => ?_)) <;> conv => whnf)
    | ((with_reducible refine call_go ?_); (first | refine call_step (run_view (c57 _) rfl rfl) ?_ | refine call_step (run_view (c58 _ _ _) rfl rfl) ?_); conv => whnf)
    | (refine ⟨⟨(by first | rfl | (simp; done)), cap_ok (by simp only [List.length_map, List.length_cons, List.length_nil, List.length_append]; omega) rfl⟩, ?_⟩; conv => whnf)
    | (refine ⟨mem_one ⟨rfl, rfl⟩, ?_⟩; conv => whnf)
    | (refine ⟨(by intro y hy; obtain ⟨x, _, rfl⟩ := List.mem_map.1 hy; first | rfl | exact ⟨rfl, rfl⟩), ?_⟩; conv => whnf)
    | (refine ⟨cap_ok (by first | omega | (simp only [List.length_map]; omega)) rfl, ?_⟩; conv => whnf)
    | (refine ix_map (by omega) ?_; conv => whnf)
    | (refine ix_str (by omega) ?_; conv => whnf)
    | (refine wrap64 (by omega) ?_; conv => whnf)
    | (exfalso; simp only [List.length_map, List.length_cons, List.length_nil, List.length_append] at h; omega)
    | ((with_reducible refine endx_go ?_); first | (exact endx (congrArg i (watch_a (by assumption)).symm); done) | (exact endx (congrArg i (watch_b (by assumption) (by first | exact .inl (by assumption) | exact .inr (by assumption))).symm); done) | (exact endx (congrArg i (watch_c (by assumption) (by assumption) (by assumption)).symm); done))
    | (refine ⟨rfl, ?_⟩; conv => whnf)
    | fail
    )

theorem c15 (x : Rec) : Fn 15 [x.enc] (i (eventErr x.act x.path)) := by
  refine run_walkF eok Tryz.func15 rfl (by kernel_rfl) ?_
  conv => whnf
  repeat' (first
    | ((with_reducible refine on_dec_f ?_ ?_); (focus ((try simp only [List.length_map, List.length_cons, List.length_nil, List.length_append]); omega)); conv => whnf)
    | ((with_reducible refine on_dec_t ?_ ?_); (focus ((try simp only [List.length_map, List.length_cons, List.length_nil, List.length_append]); omega)); conv => whnf)
    | ((with_reducible refine on_dec (fun h => ?_) (fun h => ?_)) <;> (try simp only [List.length_map] at h) <;> conv => whnf)
    | ((with_reducible refine on_ndec (fun h => ?_) (fun h => ?_)) <;> (try simp only [List.length_map] at h) <;> conv => whnf)
    | ((with_reducible refine on_not (fun h => ?_) (fun h => ?_)) <;> conv => whnf)
    | ((with_reducible refine onBool_split (fun h => ?_) (fun h => ?_)) <;> conv => whnf)
    | ((with_reducible refine call_go ?_); (first | refine call_step (run_view (c60 _) rfl rfl) ?_ | refine call_step (run_view (c57 _) rfl rfl) ?_); conv => whnf)
    | (refine ⟨⟨(by first | rfl | (simp; done)), cap_ok (by simp only [List.length_map, List.length_cons, List.length_nil, List.length_append]; omega) rfl⟩, ?_⟩; conv => whnf)
    | (refine ⟨mem_one ⟨rfl, rfl⟩, ?_⟩; conv => whnf)
    | (refine ⟨(by intro y hy; obtain ⟨x, _, rfl⟩ := List.mem_map.1 hy; first | rfl | exact ⟨rfl, rfl⟩), ?_⟩; conv => whnf)
    | (refine ⟨cap_ok (by first | omega | (simp only [List.length_map]; omega)) rfl, ?_⟩; conv => whnf)
    | (refine ix_map (by omega) ?_; conv => whnf)
    | (refine ix_str (by omega) ?_; conv => whnf)
    | (refine wrap64 (by omega) ?_; conv => whnf)
    | (exfalso; simp only [List.length_map, List.length_cons, List.length_nil, List.length_append] at h; omega)
    | ((with_reducible refine endx_go ?_); first | (exact endx (congrArg i (event_a (by assumption)).symm); done) | (exact endx (congrArg i (event_b (by assumption) (by assumption)).symm); done) | (exact endx (congrArg i (event_c (by assumption) (by assumption) (by assumption)).symm); done) | (exact endx (congrArg i (event_d (by assumption) (by assumption) (by assumption)).symm); done))
    | (refine ⟨rfl, ?_⟩; conv => whnf)
    | fail
    )

attribute [local irreducible] glue
theorem div_tab : ∀ f n : Fin 64, isAct n.val = true → decide ((f.val : Int) / n.val % 2 = 0) = !hasBit f.val n.val := by unfold isAct hasBit; decide +kernel
theorem div_bit {f n : Int} (hf : 0 ≤ f ∧ f ≤ 63) (hn : isAct n = true) : decide (f / n % 2 = 0) = !hasBit f n := by
  have h := isAct_iff.1 hn
  have := div_tab ⟨f.toNat, by omega⟩ ⟨n.toNat, by omega⟩ (by simp only; rw [show ((n.toNat : Nat) : Int) = n by omega]; exact hn)
  simp only at this
  rwa [show ((n.toNat : Nat) : Int) = n by omega, show ((f.toNat : Nat) : Int) = f by omega] at this
theorem parse_pair {s : Bs} (h : pathErr s = 0) : parse s = ((parse s).1, 0) := by
  have := (pathErr_ok h).1
  rw [← this]

theorem text_plain (l : List Bs) : text ⟨false, l, []⟩ = glue 47 l := by unfold text; simp

theorem c17 (w : Wt) (x : Rec) (a b : List Bs) (hw : pathErr w.path = 0) (hx : pathErr x.path = 0) (hf : 0 ≤ w.filter ∧ w.filter ≤ 63) (ha : isAct x.act = true) (ea : partsOf w.path = a) (eb : partsOf x.path = b) (s1 s2 : Bs) (b1 b2 : Bool) (e1 : (parse w.path).1 = ⟨b1, a, s1⟩) (e2 : (parse x.path).1 = ⟨b2, b, s2⟩) : Fn 17 [w.enc, x.enc] (.tup [.str (belowI (hasBit w.filter x.act) w.deep a b).1, .bool (belowI (hasBit w.filter x.act) w.deep a b).2]) := by
  have hbit := div_bit hf ha; have hact := isAct_iff.1 ha; have hdn : 0 ≤ w.filter / x.act := Int.ediv_nonneg (by omega) (by omega); obtain ⟨ha1, ha2⟩ := plain_small hw; obtain ⟨hb1, hb2⟩ := plain_small hx; rw [ea] at ha1 ha2; rw [eb] at hb1 hb2; have h62w : Fn 62 [.str w.path] (.tup [PPe ⟨b1, a, s1⟩, i 0]) := (by have := c62 w.path; rw [(pathErr_ok hw).1, e1] at this; exact this); have h62x : Fn 62 [.str x.path] (.tup [PPe ⟨b2, b, s2⟩, i 0]) := (by have := c62 x.path; rw [(pathErr_ok hx).1, e2] at this; exact this); have hgd := glue_drop hb1 hb2 a.length; have h64 : Fn 64 [PPe ⟨false, List.drop a.length (List.take b.length b), []⟩] (.str (glue 47 (b.drop a.length))) := (by rw [List.take_length]; have := c64 ⟨false, b.drop a.length, []⟩ (by rw [text_plain]; omega) (by show (b.drop a.length).length < 1000000; rw [List.length_drop]; omega); rw [text_plain] at this; exact this); have hbn : ¬ w.filter / x.act % 2 = 0 → ¬ hasBit w.filter x.act = false := (fun e e2 => e (of_decide_eq_true (by rw [hbit, e2]; rfl)))
  refine run_walkF eok Tryz.func17 rfl (by kernel_rfl) ?_
  conv => whnf
  repeat' (first
    | ((with_reducible refine on_dec_t (by assumption) ?_); conv => whnf)
    | ((with_reducible refine on_dec_f (by assumption) ?_); conv => whnf)
    | ((with_reducible refine onBool_t (by assumption) ?_); conv => whnf)
    | ((with_reducible refine onBool_f (by assumption) ?_); conv => whnf)
    | ((with_reducible refine on_nt (by assumption) ?_); conv => whnf)
    | ((with_reducible refine on_nf (by assumption) ?_); conv => whnf)
    | ((with_reducible refine on_ndec_t (by first | assumption | rfl) ?_); conv => whnf)
    | ((with_reducible refine on_ndec_f (by assumption) ?_); conv => whnf)
    | ((with_reducible refine on_dec_t rfl ?_); conv => whnf)
    | (exact absurd (by assumption) (of_decide_eq_false h))
    | (exact absurd (of_decide_eq_true h) (by assumption))
    | ((with_reducible refine on_dec_f ?_ ?_); (focus ((try simp only [List.length_map, List.length_cons, List.length_nil, List.length_append]); omega)); conv => whnf)
    | ((with_reducible refine on_dec_t ?_ ?_); (focus ((try simp only [List.length_map, List.length_cons, List.length_nil, List.length_append]); omega)); conv => whnf)
    | ((with_reducible refine on_dec (fun h => ?_) (fun h => ?_)) <;> (try simp only [List.length_map] at h) <;> conv => whnf)
    | ((with_reducible refine on_ndec (fun h => ?_) (fun h => ?_)) <;> (try simp only [List.length_map] at h) <;> conv => whnf)
    | ((with_reducible refine on_not (fun h => ?_) (fun h => ?_)) <;> conv => whnf)
    | ((with_reducible refine onBool_split (fun h => ?_) (fun h => ?_)) <;> conv => whnf)
    | ((with_reducible refine call_go ?_); (first | refine call_step (run_viewF h62w rfl) ?_ | refine call_step (run_viewF h62x rfl) ?_ | refine call_step (run_view (c63 (a[k]'(by omega)) (b[k]'(by omega)) (by have := (ha2 _ (List.getElem_mem (l := a) (n := k) (by omega))).2; omega) (by have := (hb2 _ (List.getElem_mem (l := b) (n := k) (by omega))).2; omega)) rfl rfl) ?_ | refine call_step (run_view h64 rfl rfl) ?_); conv => whnf)
    | (refine ⟨[], [], (by decide +kernel), ?_⟩; conv => whnf)
    | ((with_reducible refine loop_go ?_); first | (refine loop1 (fun (k : Nat) => a.length - k) (fun (k : Nat) => k ≤ a.length ∧ (a.take k).map fold = (b.take k).map fold) (fun (k : Nat) => [(6, .ptr 2 0 0), (8, .ptr 3 0 0), (10, .d (i a.length)), (11, .d (i k))]) (fun (k : Nat) => [⟨[.d w.enc], 4, 0⟩, ⟨[.d x.enc], 2, 0⟩, ⟨[.d (PPe ⟨b1, a, s1⟩)], 3, 0⟩, ⟨[.d (PPe ⟨b2, b, s2⟩)], 3, 0⟩]) (0) (by first | (simp; done) | (constructor <;> simp; done) | omega) ?_ (fun k C hI hC => ?_); (exact ⟨[.old 0, .old 1, .old 2, .old 3], rfl, rfl, ⟨⟨rfl, rfl, rfl⟩, ⟨rfl, rfl, rfl⟩, (by first | (show (_ : D) = _; with_reducible rfl) | exact congrArg (D.int .i64) (by omega) | exact congrArg (D.int .i64) (by simp only [List.length_map]) | exact rfl), (by first | (show (_ : D) = _; with_reducible rfl) | exact congrArg (D.int .i64) (by omega) | exact congrArg (D.int .i64) (by simp only [List.length_map]) | exact rfl), trivial⟩, ⟨⟨rfl, rfl, .inl ⟨[_], rfl, rfl⟩⟩, ⟨rfl, rfl, .inl ⟨[_], rfl, rfl⟩⟩, ⟨rfl, rfl, .inl ⟨[_], rfl, rfl⟩⟩, ⟨rfl, rfl, .inl ⟨[_], rfl, rfl⟩⟩, trivial⟩⟩); all_goals (conv => whnf)))
    | ((with_reducible show C _ _); first | (refine hC (k + 1) _ _ ?_ (by omega) ?_; clear hC; rotate_left; (exact ⟨[.old 0, .old 1, .old 2, .old 3], rfl, rfl, ⟨⟨rfl, rfl, rfl⟩, ⟨rfl, rfl, rfl⟩, (by first | (show (_ : D) = _; with_reducible rfl) | exact congrArg (D.int .i64) (by omega) | exact congrArg (D.int .i64) (by simp only [List.length_map]) | exact rfl), (by first | (show (_ : D) = _; with_reducible rfl) | exact congrArg (D.int .i64) (by omega) | exact congrArg (D.int .i64) (by simp only [List.length_map]) | exact rfl), trivial⟩, ⟨⟨rfl, rfl, .inl ⟨[_], rfl, rfl⟩⟩, ⟨rfl, rfl, .inl ⟨[_], rfl, rfl⟩⟩, ⟨rfl, rfl, .inl ⟨[_], rfl, rfl⟩⟩, ⟨rfl, rfl, .inl ⟨[_], rfl, rfl⟩⟩, trivial⟩⟩); (exact ⟨by omega, fold_take hI.2 (by omega) (by omega) (by assumption)⟩)))
    | (refine ⟨⟨(by first | rfl | (simp; done)), cap_ok (by simp only [List.length_map, List.length_cons, List.length_nil, List.length_append]; omega) rfl⟩, ?_⟩; conv => whnf)
    | (refine ⟨mem_one ⟨rfl, rfl⟩, ?_⟩; conv => whnf)
    | (refine ⟨(by intro y hy; obtain ⟨x, _, rfl⟩ := List.mem_map.1 hy; first | rfl | exact ⟨rfl, rfl⟩), ?_⟩; conv => whnf)
    | (refine ⟨cap_ok (by first | omega | (simp only [List.length_map]; omega)) rfl, ?_⟩; conv => whnf)
    | (refine ix_map (by omega) ?_; conv => whnf)
    | (refine ix_str (by omega) ?_; conv => whnf)
    | (refine wrap64 (by omega) ?_; conv => whnf)
    | (refine ix_map (l := a) (f := D.str) (by omega) ?_; conv => whnf)
    | (refine ix_map (l := b) (f := D.str) (by omega) ?_; conv => whnf)
    | (refine div64 (by omega) ?_; conv => whnf)
    | (refine rem_nn (by omega) ?_; conv => whnf)
    | (refine wrap64 (by simp only [List.length_map]; omega) ?_; conv => whnf)
    | (refine sl_map (f := D.str) (l := b) a.length b.length (by simp only [List.length_map]) (by simp only [List.length_map]) (by omega) (fun x => rfl) ?_; conv => whnf)
    | (refine wrap64 (by omega) ?_; conv => whnf)
    | (exfalso; simp only [List.length_map, List.length_cons, List.length_nil, List.length_append] at h; omega)
    | ((with_reducible refine endx_go ?_); first | (exact endx2 (by rw [bel_1 (by simpa using hbit.symm.trans (decide_eq_true h))]); done) | (exact endx2 (by rw [bel_2 (by assumption)]); done) | (exact endx2 (by rw [bel_3 (by assumption) (by omega)]); done) | (exact endx2 (by rw [bel_4 (k := k) (by omega) (by omega) (by assumption)]); done) | (exact endx2 (by have h9 := hI.2; rw [List.take_of_length_le (by omega), show k = a.length by omega] at h9; rw [bel_5 (hbn (by assumption)) (by assumption) (by rintro ⟨e1, e2⟩; first | omega | simp_all) h9]); done))
    | (refine ⟨rfl, ?_⟩; conv => whnf)
    | fail
    )

theorem c17' (w : Wt) (x : Rec) (hw : watchErr w.path w.filter w.room = 0) (hx : eventErr x.act x.path = 0) : Fn 17 [w.enc, x.enc] (.tup [.str (seesW w x).1, .bool (seesW w x).2]) := by
  obtain ⟨h1, h2, h3, _, _⟩ := watchErr_ok hw
  obtain ⟨h4, h5, _⟩ := eventErr_ok hx
  unfold seesW
  exact c17 w x _ _ h1 h5 (by omega) h4 rfl rfl _ _ _ _ rfl rfl

end Go.Proofs.YtbkmjpmgiaiacaaGreatDoor

/-! Aw -/
namespace Go.Proofs.YtbkmjpmgiaiacaaGreatDoor
open Go Dw Paths
set_option maxRecDepth 100000
def g12 : List D → Option D
  | [.agg [.str p, .bool _, .int .i64 f, .int .i64 r]] => frcI (watchErr p f r) fun n => some (i n)
  | _ => none
def g14 : List D → Option D
  | [.agg [.int .i64 a, .str p]] => if decide (a < 9223372036854775808) then frcI (eventErr a p) fun n => some (i n) else none
  | _ => none
def g61 : List D → Option D
  | [.agg [.str p, .bool d, .int .i64 f, .int .i64 r], .agg [.int .i64 a, .str q]] =>
    if decide (watchErr p f r = 0) && decide (eventErr a q = 0) then some (.tup [.str (seesW ⟨p, d, f, r⟩ ⟨a, q⟩).1, .bool (seesW ⟨p, d, f, r⟩ ⟨a, q⟩).2]) else none
  | _ => none
def g149 : List D → Option D
  | [.str s] => if decide (s.length < 1000000) then frcI (nameErr s) fun n => some (i n) else none
  | _ => none
def orcA (f : Nat) : Option Orc := if Nat.beq f 12 then some (.fn g12) else if Nat.beq f 14 then some (.fn g14) else if Nat.beq f 61 then some (.fn g61) else if Nat.beq f 149 then some (.fn g149) else orc28 f
theorem horcA : OrcOk Tryz.prog orcA := by
  intro f o h
  unfold orcA at h
  split at h
  · rename_i h1; cases h; rw [Nat.eq_of_beq_eq_true h1]
    intro xs y e
    unfold g12 at e
    split at e
    · rename_i p d f r
      rw [frcI_eq] at e; cases e; exact c12 ⟨p, d, f, r⟩
    · cases e
  split at h
  · rename_i h1; cases h; rw [Nat.eq_of_beq_eq_true h1]
    intro xs y e
    unfold g14 at e
    split at e
    · split at e
      · rename_i a p h2
        rw [frcI_eq] at e; cases e; exact c14 ⟨a, p⟩ (of_decide_eq_true h2)
      · cases e
    · cases e
  split at h
  · rename_i h1; cases h; rw [Nat.eq_of_beq_eq_true h1]
    intro xs y e
    unfold g61 at e
    split at e
    · rename_i p d f r a q
      split at e
      · rename_i h2
        rw [Bool.and_eq_true] at h2
        cases e; exact c61' ⟨p, d, f, r⟩ ⟨a, q⟩ (of_decide_eq_true h2.1) (of_decide_eq_true h2.2)
      · cases e
    · cases e
  split at h
  · rename_i h1; cases h; rw [Nat.eq_of_beq_eq_true h1]
    intro xs y e
    unfold g149 at e
    split at e
    · split at e
      · rename_i h2
        rw [frcI_eq] at e; cases e; exact c149 _ (of_decide_eq_true h2)
      · cases e
    · cases e
  · exact horc28 f o h
def dmA (f : Nat) : Bool := [45, 54, 55, 56, 59, 84, 93, 120, 121, 122, 123, 124, 146, 148, 165, 166, 33, 107, 77, 140, 160, 174, 187, 180].any (Nat.beq f)
theorem c11 : Fn 11 [] (.bool true) :=
  run_ev2 (fs := Tryz.prog.funcs.toList) (orc := orcA) eok horcA (xs := []) rfl names_ok dmA 300 60 (by kernel_rfl) rfl rfl
end Go.Proofs.YtbkmjpmgiaiacaaGreatDoor
