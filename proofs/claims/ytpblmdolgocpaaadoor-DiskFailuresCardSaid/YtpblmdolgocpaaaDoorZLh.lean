/-
  Chapter 2: DiskFailures holds at every input: no condition of ours (its card lists two tables of the library, tied to the text).
-/
import Derived.Test.YtpblmdolgocpaaaDoorGrpG
set_option linter.unusedVariables false
set_option linter.unusedSimpArgs false

/-! Wt -/
namespace Go.Proofs.YtpblmdolgocpaaaDoor
open Go Dw
set_option maxRecDepth 10000
set_option linter.unusedVariables false
set_option linter.unusedSimpArgs false
attribute [local irreducible] Run
set_option maxHeartbeats 4000000

attribute [local irreducible] sec stK put patch wrote pat wr

theorem readR_err {s : Bs} {a c : Int} (h : ¬ readErr s a c = 0) : readR s a c = [] := if_neg h
theorem readR_ok {s : Bs} {a c : Int} (h : readErr s a c = 0) : readR s a c = readB s a c := if_pos h
attribute [local irreducible] readR readErr diskErr evsErr written smallB

theorem c8g (s : Bs) (a c : Int) (h1 : (2560 : Int) < s.length) : Fn 8 [.str s, i a, i c] (.bool true) := by
  refine run_walkF eok Tryd.func8 rfl (by kernel_rfl) ?_
  conv => whnf
  repeat' (first
    | ((with_reducible refine on_dec_t (by assumption) ?_); conv => whnf)
    | ((with_reducible refine on_dec_f (by assumption) ?_); conv => whnf)
    | ((with_reducible refine onBool_t (by assumption) ?_); conv => whnf)
    | ((with_reducible refine onBool_f (by assumption) ?_); conv => whnf)
    | ((with_reducible refine on_nt (by assumption) ?_); conv => whnf)
    | ((with_reducible refine on_nf (by assumption) ?_); conv => whnf)
    | ((with_reducible refine on_ndec_t (by first | assumption | rfl) ?_); conv => whnf)
    | ((with_reducible refine on_ndec_f (by assumption) ?_); conv => whnf)
    | ((with_reducible refine on_dec_t rfl ?_); conv => whnf)
    | ((with_reducible refine on_dec_f ?_ ?_); (focus ((try simp only [List.length_map, List.length_cons, List.length_nil, List.length_append]); omega)); conv => whnf)
    | ((with_reducible refine on_dec_t ?_ ?_); (focus ((try simp only [List.length_map, List.length_cons, List.length_nil, List.length_append]); omega)); conv => whnf)
    | ((with_reducible refine on_dec (fun h => ?_) (fun h => ?_)) <;> (try simp only [List.length_map] at h) <;> conv => whnf)
    | ((with_reducible refine on_ndec (fun h => ?_) (fun h => ?_)) <;> (try simp only [List.length_map] at h) <;> conv => whnf)
    | ((with_reducible refine on_not (fun h => ?_) (fun h => ?_)) <;> conv => whnf)
    | ((with_reducible refine onBool_split (fun h => ?_) (fun h => ?_)) <;> conv => whnf)
    | ((with_reducible refine call_go ?_); (first | refine call_step (run_data (xs := []) c11 _) ?_ | refine call_step (run_view (c36 _ (by omega)) rfl rfl) ?_ | refine call_step (run_view (c20 _ (by omega)) rfl rfl) ?_ | refine call_step (run_view (c37 s a c (by omega)) rfl rfl) ?_ | refine call_step (run_view (c38 s a c (by omega)) rfl rfl) ?_); conv => whnf)
    | (refine ⟨⟨(by first | rfl | (simp; done)), cap_ok (by simp only [List.length_map, List.length_cons, List.length_nil, List.length_append]; omega) rfl⟩, ?_⟩; conv => whnf)
    | (refine ⟨mem_one ⟨rfl, rfl⟩, ?_⟩; conv => whnf)
    | (refine ⟨(by intro y hy; obtain ⟨x, _, rfl⟩ := List.mem_map.1 hy; first | rfl | exact ⟨rfl, rfl⟩), ?_⟩; conv => whnf)
    | (refine ⟨cap_ok (by first | omega | (simp only [List.length_map]; omega)) rfl, ?_⟩; conv => whnf)
    | (refine ix_map (by omega) ?_; conv => whnf)
    | (refine ix_str (by omega) ?_; conv => whnf)
    | (refine wrap64 (by omega) ?_; conv => whnf)
    | (exfalso; simp only [List.length_map, List.length_cons, List.length_nil, List.length_append] at h; omega)
    | ((with_reducible refine endx_go ?_); first | (exact endx rfl; done))
    | (refine ⟨rfl, ?_⟩; conv => whnf)
    | fail
    )

theorem c8e (s : Bs) (a c : Int) (h1 : ¬ (2560 : Int) < s.length) (h2 : ¬ readErr s a c = 0) : Fn 8 [.str s, i a, i c] (.bool true) := by
  refine run_walkF eok Tryd.func8 rfl (by kernel_rfl) ?_
  conv => whnf
  repeat' (first
    | ((with_reducible refine on_dec_t (by assumption) ?_); conv => whnf)
    | ((with_reducible refine on_dec_f (by assumption) ?_); conv => whnf)
    | ((with_reducible refine onBool_t (by assumption) ?_); conv => whnf)
    | ((with_reducible refine onBool_f (by assumption) ?_); conv => whnf)
    | ((with_reducible refine on_nt (by assumption) ?_); conv => whnf)
    | ((with_reducible refine on_nf (by assumption) ?_); conv => whnf)
    | ((with_reducible refine on_ndec_t (by first | assumption | rfl) ?_); conv => whnf)
    | ((with_reducible refine on_ndec_f (by assumption) ?_); conv => whnf)
    | ((with_reducible refine on_dec_t rfl ?_); conv => whnf)
    | ((with_reducible refine on_dec_f ?_ ?_); (focus ((try simp only [List.length_map, List.length_cons, List.length_nil, List.length_append]); omega)); conv => whnf)
    | ((with_reducible refine on_dec_t ?_ ?_); (focus ((try simp only [List.length_map, List.length_cons, List.length_nil, List.length_append]); omega)); conv => whnf)
    | ((with_reducible refine on_dec (fun h => ?_) (fun h => ?_)) <;> (try simp only [List.length_map] at h) <;> conv => whnf)
    | ((with_reducible refine on_ndec (fun h => ?_) (fun h => ?_)) <;> (try simp only [List.length_map] at h) <;> conv => whnf)
    | ((with_reducible refine on_not (fun h => ?_) (fun h => ?_)) <;> conv => whnf)
    | ((with_reducible refine onBool_split (fun h => ?_) (fun h => ?_)) <;> conv => whnf)
    | ((with_reducible refine call_go ?_); (first | refine call_step (run_data (xs := []) c11 _) ?_ | refine call_step (run_view (c36 _ (by omega)) rfl rfl) ?_ | refine call_step (run_view (c20 _ (by omega)) rfl rfl) ?_ | refine call_step (run_view (c37 s a c (by omega)) rfl rfl) ?_ | refine call_step (run_view (c38 s a c (by omega)) rfl rfl) ?_); conv => whnf)
    | (refine ⟨⟨(by first | rfl | (simp; done)), cap_ok (by simp only [List.length_map, List.length_cons, List.length_nil, List.length_append]; omega) rfl⟩, ?_⟩; conv => whnf)
    | (refine ⟨mem_one ⟨rfl, rfl⟩, ?_⟩; conv => whnf)
    | (refine ⟨(by intro y hy; obtain ⟨x, _, rfl⟩ := List.mem_map.1 hy; first | rfl | exact ⟨rfl, rfl⟩), ?_⟩; conv => whnf)
    | (refine ⟨cap_ok (by first | omega | (simp only [List.length_map]; omega)) rfl, ?_⟩; conv => whnf)
    | (refine ix_map (by omega) ?_; conv => whnf)
    | (refine ix_str (by omega) ?_; conv => whnf)
    | (refine wrap64 (by omega) ?_; conv => whnf)
    | (exfalso; simp only [List.length_map, List.length_cons, List.length_nil, List.length_append] at h; omega)
    | ((with_reducible refine endx_go ?_); first | (exact endx (congrArg D.bool (by rw [readR_err h2]; simp)); done))
    | (refine ⟨rfl, ?_⟩; conv => whnf)
    | fail
    )

theorem c8o (s : Bs) (a c : Int) (h1 : ¬ (2560 : Int) < s.length) (h2 : readErr s a c = 0) : Fn 8 [.str s, i a, i c] (.bool true) := by
  have hro := readErr_ok h2; have hsa : sc s = ((s.length / 64 : Nat) : Int) := rfl
  refine run_walkF eok Tryd.func8 rfl (by kernel_rfl) ?_
  conv => whnf
  repeat' (first
    | ((with_reducible refine on_dec_t (by assumption) ?_); conv => whnf)
    | ((with_reducible refine on_dec_f (by assumption) ?_); conv => whnf)
    | ((with_reducible refine onBool_t (by assumption) ?_); conv => whnf)
    | ((with_reducible refine onBool_f (by assumption) ?_); conv => whnf)
    | ((with_reducible refine on_nt (by assumption) ?_); conv => whnf)
    | ((with_reducible refine on_nf (by assumption) ?_); conv => whnf)
    | ((with_reducible refine on_ndec_t (by first | assumption | rfl) ?_); conv => whnf)
    | ((with_reducible refine on_ndec_f (by assumption) ?_); conv => whnf)
    | ((with_reducible refine on_dec_t rfl ?_); conv => whnf)
    | ((with_reducible refine on_dec_f ?_ ?_); (focus ((try simp only [List.length_map, List.length_cons, List.length_nil, List.length_append]); omega)); conv => whnf)
    | ((with_reducible refine on_dec_t ?_ ?_); (focus ((try simp only [List.length_map, List.length_cons, List.length_nil, List.length_append]); omega)); conv => whnf)
    | ((with_reducible refine on_dec (fun h => ?_) (fun h => ?_)) <;> (try simp only [List.length_map] at h) <;> conv => whnf)
    | ((with_reducible refine on_ndec (fun h => ?_) (fun h => ?_)) <;> (try simp only [List.length_map] at h) <;> conv => whnf)
    | ((with_reducible refine on_not (fun h => ?_) (fun h => ?_)) <;> conv => whnf)
    | ((with_reducible refine onBool_split (fun h => ?_) (fun h => ?_)) <;> conv => whnf)
    | ((with_reducible refine call_go ?_); (first | refine call_step (run_data (xs := []) c11 _) ?_ | refine call_step (run_view (c36 _ (by omega)) rfl rfl) ?_ | refine call_step (run_view (c20 _ (by omega)) rfl rfl) ?_ | refine call_step (run_view (c37 s a c (by omega)) rfl rfl) ?_ | refine call_step (run_view (c38 s a c (by omega)) rfl rfl) ?_); conv => whnf)
    | (refine ⟨⟨(by first | rfl | (simp; done)), cap_ok (by simp only [List.length_map, List.length_cons, List.length_nil, List.length_append]; omega) rfl⟩, ?_⟩; conv => whnf)
    | (refine ⟨mem_one ⟨rfl, rfl⟩, ?_⟩; conv => whnf)
    | (refine ⟨(by intro y hy; obtain ⟨x, _, rfl⟩ := List.mem_map.1 hy; first | rfl | exact ⟨rfl, rfl⟩), ?_⟩; conv => whnf)
    | (refine ⟨cap_ok (by first | omega | (simp only [List.length_map]; omega)) rfl, ?_⟩; conv => whnf)
    | (refine ix_map (by omega) ?_; conv => whnf)
    | (refine ix_str (by omega) ?_; conv => whnf)
    | (refine wrap64 (by omega) ?_; conv => whnf)
    | (refine sl_str (a.toNat * 64) ((a.toNat + c.toNat) * 64) (by omega) (by omega) (by omega) ?_; conv => whnf)
    | (refine wrap64 (by omega) ?_; conv => whnf)
    | (exfalso; simp only [List.length_map, List.length_cons, List.length_nil, List.length_append] at h; omega)
    | ((with_reducible refine endx_go ?_); first | (exact endx (congrArg D.bool (by rw [readR_ok h2, readB, List.drop_take, show (a.toNat + c.toNat) * 64 - a.toNat * 64 = c.toNat * 64 by omega]; exact decide_eq_true rfl)); done))
    | (refine ⟨rfl, ?_⟩; conv => whnf)
    | fail
    )

theorem c8 (s : Bs) (a c : Int) : Fn 8 [.str s, i a, i c] (.bool true) := by
  by_cases h1 : (2560 : Int) < s.length
  · exact c8g s a c h1
  · by_cases h2 : readErr s a c = 0
    · exact c8o s a c h1 h2
    · exact c8e s a c h1 h2

theorem c3n (s : Bs) (l : List Wr) (hsm : smallB s l = false) : Fn 3 [.str s, .fs (l.map Wr.enc)] (.bool true) := by
  refine run_walkF eok Tryd.func3 rfl (by kernel_rfl) ?_
  conv => whnf
  repeat' (first
    | ((with_reducible refine on_dec_t (by assumption) ?_); conv => whnf)
    | ((with_reducible refine on_dec_f (by assumption) ?_); conv => whnf)
    | ((with_reducible refine onBool_t (by assumption) ?_); conv => whnf)
    | ((with_reducible refine onBool_f (by assumption) ?_); conv => whnf)
    | ((with_reducible refine on_nt (by assumption) ?_); conv => whnf)
    | ((with_reducible refine on_nf (by assumption) ?_); conv => whnf)
    | ((with_reducible refine on_ndec_t (by first | assumption | rfl) ?_); conv => whnf)
    | ((with_reducible refine on_ndec_f (by assumption) ?_); conv => whnf)
    | ((with_reducible refine on_dec_t rfl ?_); conv => whnf)
    | ((with_reducible refine on_dec_f ?_ ?_); (focus ((try simp only [List.length_map, List.length_cons, List.length_nil, List.length_append]); omega)); conv => whnf)
    | ((with_reducible refine on_dec_t ?_ ?_); (focus ((try simp only [List.length_map, List.length_cons, List.length_nil, List.length_append]); omega)); conv => whnf)
    | ((with_reducible refine on_dec (fun h => ?_) (fun h => ?_)) <;> (try simp only [List.length_map] at h) <;> conv => whnf)
    | ((with_reducible refine on_ndec (fun h => ?_) (fun h => ?_)) <;> (try simp only [List.length_map] at h) <;> conv => whnf)
    | ((with_reducible refine on_not (fun h => ?_) (fun h => ?_)) <;> conv => whnf)
    | ((with_reducible refine onBool_split (fun h => ?_) (fun h => ?_)) <;> conv => whnf)
    | ((with_reducible refine call_go ?_); (first | refine call_step (run_data (xs := []) c11 _) ?_ | refine call_step (run_view (c12 s l) rfl rfl) ?_ | refine call_step (run_viewF (c14 l (by omega)) rfl) ?_ | refine call_step (run_view (c13 s l (by omega) (by omega) hb6) rfl rfl) ?_ | refine call_step (run_view (c15 s l (by omega) (by omega) hb6) rfl rfl) ?_ | refine call_step (run_view (c16 s l (by omega) (by omega) hb6) rfl rfl) ?_ | refine call_step (run_view (c17 s l (by omega) (by omega) (wr_in h2)) rfl rfl) ?_); conv => whnf)
    | (refine ⟨⟨(by first | rfl | (simp; done)), cap_ok (by simp only [List.length_map, List.length_cons, List.length_nil, List.length_append]; omega) rfl⟩, ?_⟩; conv => whnf)
    | (refine ⟨mem_one ⟨rfl, rfl⟩, ?_⟩; conv => whnf)
    | (refine ⟨(by intro y hy; obtain ⟨x, _, rfl⟩ := List.mem_map.1 hy; first | rfl | exact ⟨rfl, rfl⟩), ?_⟩; conv => whnf)
    | (refine ⟨cap_ok (by first | omega | (simp only [List.length_map]; omega)) rfl, ?_⟩; conv => whnf)
    | (refine ix_map (by omega) ?_; conv => whnf)
    | (refine ix_str (by omega) ?_; conv => whnf)
    | (refine wrap64 (by omega) ?_; conv => whnf)
    | (exfalso; simp only [List.length_map, List.length_cons, List.length_nil, List.length_append] at h; omega)
    | ((with_reducible refine endx_go ?_); first | (exact endx rfl; done))
    | (refine ⟨rfl, ?_⟩; conv => whnf)
    | fail
    )

theorem c3e (s : Bs) (l : List Wr) (hsm : smallB s l = true) (h2 : ¬ (evsErr s l).2 = 0) : Fn 3 [.str s, .fs (l.map Wr.enc)] (.bool true) := by
  obtain ⟨hs1, hs2, hs3⟩ := smallB_ok hsm; have hb6 : ∀ x ∈ l, x.bytes.length < 1000000 := fun x hx => (by have := hs3 x hx; omega); have hw2 : (written s l).2 = (evsErr s l).2 := (by rw [written_err h2])
  refine run_walkF eok Tryd.func3 rfl (by kernel_rfl) ?_
  conv => whnf
  repeat' (first
    | ((with_reducible refine on_dec_t (by assumption) ?_); conv => whnf)
    | ((with_reducible refine on_dec_f (by assumption) ?_); conv => whnf)
    | ((with_reducible refine onBool_t (by assumption) ?_); conv => whnf)
    | ((with_reducible refine onBool_f (by assumption) ?_); conv => whnf)
    | ((with_reducible refine on_nt (by assumption) ?_); conv => whnf)
    | ((with_reducible refine on_nf (by assumption) ?_); conv => whnf)
    | ((with_reducible refine on_ndec_t (by first | assumption | rfl) ?_); conv => whnf)
    | ((with_reducible refine on_ndec_f (by assumption) ?_); conv => whnf)
    | ((with_reducible refine on_dec_t rfl ?_); conv => whnf)
    | ((with_reducible refine on_dec_f ?_ ?_); (focus ((try simp only [List.length_map, List.length_cons, List.length_nil, List.length_append]); omega)); conv => whnf)
    | ((with_reducible refine on_dec_t ?_ ?_); (focus ((try simp only [List.length_map, List.length_cons, List.length_nil, List.length_append]); omega)); conv => whnf)
    | ((with_reducible refine on_dec (fun h => ?_) (fun h => ?_)) <;> (try simp only [List.length_map] at h) <;> conv => whnf)
    | ((with_reducible refine on_ndec (fun h => ?_) (fun h => ?_)) <;> (try simp only [List.length_map] at h) <;> conv => whnf)
    | ((with_reducible refine on_not (fun h => ?_) (fun h => ?_)) <;> conv => whnf)
    | ((with_reducible refine onBool_split (fun h => ?_) (fun h => ?_)) <;> conv => whnf)
    | ((with_reducible refine call_go ?_); (first | refine call_step (run_data (xs := []) c11 _) ?_ | refine call_step (run_view (c12 s l) rfl rfl) ?_ | refine call_step (run_viewF (c14 l (by omega)) rfl) ?_ | refine call_step (run_view (c13 s l (by omega) (by omega) hb6) rfl rfl) ?_ | refine call_step (run_view (c15 s l (by omega) (by omega) hb6) rfl rfl) ?_ | refine call_step (run_view (c16 s l (by omega) (by omega) hb6) rfl rfl) ?_ | refine call_step (run_view (c17 s l (by omega) (by omega) (wr_in h2)) rfl rfl) ?_); conv => whnf)
    | (refine ⟨⟨(by first | rfl | (simp; done)), cap_ok (by simp only [List.length_map, List.length_cons, List.length_nil, List.length_append]; omega) rfl⟩, ?_⟩; conv => whnf)
    | (refine ⟨mem_one ⟨rfl, rfl⟩, ?_⟩; conv => whnf)
    | (refine ⟨(by intro y hy; obtain ⟨x, _, rfl⟩ := List.mem_map.1 hy; first | rfl | exact ⟨rfl, rfl⟩), ?_⟩; conv => whnf)
    | (refine ⟨cap_ok (by first | omega | (simp only [List.length_map]; omega)) rfl, ?_⟩; conv => whnf)
    | (refine ix_map (by omega) ?_; conv => whnf)
    | (refine ix_str (by omega) ?_; conv => whnf)
    | (refine wrap64 (by omega) ?_; conv => whnf)
    | (exfalso; simp only [List.length_map, List.length_cons, List.length_nil, List.length_append] at h; omega)
    | ((with_reducible refine endx_go ?_); first | (exact endx (congrArg D.bool (by rw [written_err h2]; simp)); done))
    | (refine ⟨rfl, ?_⟩; conv => whnf)
    | fail
    )

theorem c3o (s : Bs) (l : List Wr) (hsm : smallB s l = true) (h2 : (evsErr s l).2 = 0) : Fn 3 [.str s, .fs (l.map Wr.enc)] (.bool true) := by
  obtain ⟨hs1, hs2, hs3⟩ := smallB_ok hsm; have hb6 : ∀ x ∈ l, x.bytes.length < 1000000 := fun x hx => (by have := hs3 x hx; omega); have hw2 : (written s l).2 = 0 := (by rw [written_ok h2])
  refine run_walkF eok Tryd.func3 rfl (by kernel_rfl) ?_
  conv => whnf
  repeat' (first
    | ((with_reducible refine on_dec_t (by assumption) ?_); conv => whnf)
    | ((with_reducible refine on_dec_f (by assumption) ?_); conv => whnf)
    | ((with_reducible refine onBool_t (by assumption) ?_); conv => whnf)
    | ((with_reducible refine onBool_f (by assumption) ?_); conv => whnf)
    | ((with_reducible refine on_nt (by assumption) ?_); conv => whnf)
    | ((with_reducible refine on_nf (by assumption) ?_); conv => whnf)
    | ((with_reducible refine on_ndec_t (by first | assumption | rfl) ?_); conv => whnf)
    | ((with_reducible refine on_ndec_f (by assumption) ?_); conv => whnf)
    | ((with_reducible refine on_dec_t rfl ?_); conv => whnf)
    | ((with_reducible refine on_dec_f ?_ ?_); (focus ((try simp only [List.length_map, List.length_cons, List.length_nil, List.length_append]); omega)); conv => whnf)
    | ((with_reducible refine on_dec_t ?_ ?_); (focus ((try simp only [List.length_map, List.length_cons, List.length_nil, List.length_append]); omega)); conv => whnf)
    | ((with_reducible refine on_dec (fun h => ?_) (fun h => ?_)) <;> (try simp only [List.length_map] at h) <;> conv => whnf)
    | ((with_reducible refine on_ndec (fun h => ?_) (fun h => ?_)) <;> (try simp only [List.length_map] at h) <;> conv => whnf)
    | ((with_reducible refine on_not (fun h => ?_) (fun h => ?_)) <;> conv => whnf)
    | ((with_reducible refine onBool_split (fun h => ?_) (fun h => ?_)) <;> conv => whnf)
    | ((with_reducible refine call_go ?_); (first | refine call_step (run_data (xs := []) c11 _) ?_ | refine call_step (run_view (c12 s l) rfl rfl) ?_ | refine call_step (run_viewF (c14 l (by omega)) rfl) ?_ | refine call_step (run_view (c13 s l (by omega) (by omega) hb6) rfl rfl) ?_ | refine call_step (run_view (c15 s l (by omega) (by omega) hb6) rfl rfl) ?_ | refine call_step (run_view (c16 s l (by omega) (by omega) hb6) rfl rfl) ?_ | refine call_step (run_view (c17 s l (by omega) (by omega) (wr_in h2)) rfl rfl) ?_); conv => whnf)
    | (refine ⟨⟨(by first | rfl | (simp; done)), cap_ok (by simp only [List.length_map, List.length_cons, List.length_nil, List.length_append]; omega) rfl⟩, ?_⟩; conv => whnf)
    | (refine ⟨mem_one ⟨rfl, rfl⟩, ?_⟩; conv => whnf)
    | (refine ⟨(by intro y hy; obtain ⟨x, _, rfl⟩ := List.mem_map.1 hy; first | rfl | exact ⟨rfl, rfl⟩), ?_⟩; conv => whnf)
    | (refine ⟨cap_ok (by first | omega | (simp only [List.length_map]; omega)) rfl, ?_⟩; conv => whnf)
    | (refine ix_map (by omega) ?_; conv => whnf)
    | (refine ix_str (by omega) ?_; conv => whnf)
    | (refine wrap64 (by omega) ?_; conv => whnf)
    | (exfalso; simp only [List.length_map, List.length_cons, List.length_nil, List.length_append] at h; omega)
    | ((with_reducible refine endx_go ?_); first | (exact endx (congrArg D.bool (by rw [written_ok h2]; simp)); done))
    | (refine ⟨rfl, ?_⟩; conv => whnf)
    | fail
    )

theorem c3 (s : Bs) (l : List Wr) : Fn 3 [.str s, .fs (l.map Wr.enc)] (.bool true) := by
  cases hsm : smallB s l with
  | false => exact c3n s l hsm
  | true =>
    by_cases h2 : (evsErr s l).2 = 0
    · exact c3o s l hsm h2
    · exact c3e s l hsm h2

end Go.Proofs.YtpblmdolgocpaaaDoor

/-! Ps -/
namespace Go.Proofs.YtpblmdolgocpaaaDoor
open Go Dw

theorem lenK_of {α : Type} {l : List α} {n m : Nat} {K : Nat → Prop} (h : n + l.length = m) (k : K m) : lenK l n K := by
  rw [lenK_eq, h]; exact k
theorem snocK_of {α : Type} {l : List α} {v : α} {K : List α → Prop} (k : K (l ++ [v])) : snocK l v K := by
  rw [snocK_eq]; exact k
theorem nthK_last {α : Type} {l : List α} {n : Nat} {x : α} {K : α → Prop} (h : l.length = n) (k : K x) : nthK (l ++ [x]) n K :=
  nthK_of (by subst h; simp) k
theorem setK_last {α : Type} {l : List α} {n : Nat} {x y : α} {K : List α → Prop} (h : l.length = n) (k : K (l ++ [y])) : setK (l ++ [x]) n y K := by
  rw [setK_eq]; subst h; simpa using k
theorem wks_of {μ : List Mu} : ∀ {A B : List AV}, A.length = B.length → (∀ (k : Nat) (a b : AV), A[k]? = some a → B[k]? = some b → wk μ a b) → wks μ A B
  | [], [], _, _ => trivial
  | a :: A, b :: B, h, k => ⟨k 0 a b rfl rfl, wks_of (by simpa using h) fun n x y hx hy => k (n + 1) x y hx hy⟩
  | [], _ :: _, h, _ => by cases h
  | _ :: _, [], h, _ => by cases h
theorem wkH_of {μ : List Mu} {h : Heap} : ∀ {M : List Mu} {r : List AO}, M.length = r.length → (∀ (k : Nat) (m : Mu) (o : AO), M[k]? = some m → r[k]? = some o → wkO μ h m o) → wkH μ h M r
  | [], [], _, _ => trivial
  | a :: A, b :: B, h, k => ⟨k 0 a b rfl rfl, wkH_of (by simpa using h) fun n x y hx hy => k (n + 1) x y hx hy⟩
  | [], _ :: _, h, _ => by cases h
  | _ :: _, [], h, _ => by cases h
theorem nodupB_of : ∀ {l : List Nat}, l.Nodup → nodupB l = true
  | [], _ => rfl
  | x :: l, h => by
    rw [List.nodup_cons] at h
    rw [nodupB, nodupB_of h.2, Bool.and_true, Bool.not_eq_true', List.any_eq_false]
    exact fun y hy e => h.1 (by rw [Nat.eq_of_beq_eq_true e]; exact hy)
theorem olds_app : ∀ (l r : List Mu), olds (l ++ r) = olds l ++ olds r
  | [], _ => rfl
  | .old j :: l, r => by simp only [List.cons_append, olds, olds_app l r]
  | .void _ :: l, r => by simp only [List.cons_append, olds, olds_app l r]
  | .dead :: l, r => by simp only [List.cons_append, olds, olds_app l r]
  | .cut j _ :: l, r => by simp only [List.cons_append, olds, olds_app l r]
theorem olds_map (f : Nat → Nat) : ∀ (l : List Nat), olds (l.map fun j => Mu.old (f j)) = l.map f
  | [] => rfl
  | x :: l => by simp only [List.map_cons, olds, olds_map f l]
theorem olds_void (k : Nat) : ∀ n, olds (List.replicate n (Mu.void k)) = []
  | 0 => rfl
  | n + 1 => by simp only [List.replicate_succ, olds, olds_void k n]

/-- What the rows hold after the first m loose sectors. -/
def rowM (l : List Wr) (lo : List Lo) (m j : Nat) : List Bs := ((lo.take m).filter fun x => decide (x.sec = (j : Int))).map (gotS l)
theorem rowM_zero (l : List Wr) (lo : List Lo) (j : Nat) : rowM l lo 0 j = [] := rfl
theorem rowM_succ {l : List Wr} {lo : List Lo} {m : Nat} (h : m < lo.length) (j : Nat) : rowM l lo (m + 1) j = if lo[m].sec = (j : Int) then rowM l lo m j ++ [gotS l lo[m]] else rowM l lo m j := by
  unfold rowM
  rw [List.take_succ_eq_append_getElem h, List.filter_append]
  by_cases c : lo[m].sec = (j : Int)
  · rw [if_pos c, List.filter_cons_of_pos (by simpa using c), List.filter_nil, List.map_append]; rfl
  · rw [if_neg c, List.filter_cons_of_neg (by simpa using c), List.filter_nil, List.append_nil]
theorem rowM_len (l : List Wr) (lo : List Lo) (m j : Nat) : (rowM l lo m j).length ≤ lo.length := by
  unfold rowM
  rw [List.length_map]
  exact Nat.le_trans (List.length_filter_le ..) (by rw [List.length_take]; omega)
theorem rowM_any (l : List Wr) (lo : List Lo) (j : Nat) (v : Bs) : (rowM l lo lo.length j).any (fun x => decide (v = x)) = mayAt l lo v j := by
  unfold rowM mayAt
  rw [List.take_length, List.any_map, List.any_filter]
  congr 1; funext x
  simp only [Function.comp_apply]
  congr 1
  rw [decide_eq_decide]; exact eq_comm
def rowO (l : List Wr) (lo : List Lo) (m j : Nat) : AO := ⟨((rowM l lo m j).map D.str).map .d, 1, 0⟩
def rows (l : List Wr) (lo : List Lo) (m n : Nat) : List AO := (List.range n).map (rowO l lo m)
def rowA (l : List Wr) (lo : List Lo) (m j : Nat) : AV := .sl (j + 4) 0 (rowM l lo m j).length 1 none
def mayC (l : List Wr) (lo : List Lo) (m n : Nat) : List AV := (List.range n).map (rowA l lo m)
theorem rows_len (l : List Wr) (lo : List Lo) (m n : Nat) : (rows l lo m n).length = n := by simp [rows]
theorem mayC_len (l : List Wr) (lo : List Lo) (m n : Nat) : (mayC l lo m n).length = n := by simp [mayC]
theorem rows_get {l : List Wr} {lo : List Lo} {m n a : Nat} (h : a < n) : (rows l lo m n)[a]? = some (rowO l lo m a) := by simp [rows, h]
theorem mayC_get {l : List Wr} {lo : List Lo} {m n a : Nat} (h : a < n) : (mayC l lo m n)[a]? = some (rowA l lo m a) := by simp [mayC, h]
theorem nth_row {l : List Wr} {lo : List Lo} {m n a : Nat} {K : AO → Prop} (h : a < n) (t : List AO) (k : K ⟨((rowM l lo m a).map D.str).map .d, 1, 0⟩) : nthK (rows l lo m n ++ t) a K :=
  nthK_of (x := rowO l lo m a) (by rw [List.getElem?_append_left (by rw [rows_len]; exact h)]; exact rows_get h) k
theorem nth_may {l : List Wr} {lo : List Lo} {m n a : Nat} {K : AV → Prop} (h : a < n) (k : K (.sl (a + 4) 0 (rowM l lo m a).length 1 none)) : nthK (mayC l lo m n) (0 + a) K := by
  rw [Nat.zero_add]; exact nthK_of (mayC_get h) k

/-- One row was put at the end, under a new name. -/
def muM (n a : Nat) : List Mu := [.old 0, .old 1, .old 2, .old 3] ++ (List.range n).map fun j => Mu.old (if j = a then n + 5 else j + 4)
def mu0 (n : Nat) : List Mu := [.old 0, .old 1, .old 2, .old 4] ++ List.replicate n (.void 1)
def muI (n : Nat) : List Mu := [.old 0, .old 1, .old 2, .old 3] ++ (List.range n).map fun j => Mu.old (j + 4)
theorem mu0_ok (n : Nat) : nodupB (olds (mu0 n)) = true := by
  rw [mu0, olds_app, olds_void]; rfl
theorem muM_ok (n a : Nat) : nodupB (olds (muM n a)) = true := by
  refine nodupB_of ?_
  rw [muM, olds_app, olds_map fun j => if j = a then n + 5 else j + 4]
  refine List.nodup_append.2 ⟨by decide, ?_, ?_⟩
  · rw [List.Nodup, List.pairwise_map]
    refine List.nodup_range.imp_of_mem fun {x y} hx hy h => ?_
    rw [List.mem_range] at hx hy
    by_cases c : x = a <;> by_cases d : y = a <;> simp only [c, d, if_true, if_false] <;> omega
  · intro x hx y hy e
    obtain ⟨j, hj, rfl⟩ := List.mem_map.1 hy
    subst e
    by_cases c : j = a
    · rw [if_pos c] at hx; simp [olds] at hx
    · rw [if_neg c] at hx; simp [olds] at hx
theorem muM_at {n a j : Nat} (h : j < n) : (muM n a)[j + 4]? = some (.old (if j = a then n + 5 else j + 4)) := by
  show ((List.range n).map fun j => Mu.old (if j = a then n + 5 else j + 4))[j]? = _
  simp [h]
theorem mu0_at {n j : Nat} (h : j < n) : (mu0 n)[j + 4]? = some (.void 1) := by
  show (List.replicate n (Mu.void 1))[j]? = _
  simp [h]
theorem may_zero (l : List Wr) (lo : List Lo) (n : Nat) : wks (mu0 n) (List.replicate n .nilS) (mayC l lo 0 n) := by
  refine wks_of (by rw [List.length_replicate, mayC_len]) fun k a b ha hb => ?_
  obtain ⟨h1, h2⟩ := List.getElem?_eq_some_iff.1 ha
  rw [List.length_replicate] at h1
  rw [mayC_get h1] at hb; cases hb
  rw [List.getElem_replicate] at h2; subst h2
  exact ⟨mu0_at h1, rfl, rfl, rfl⟩
theorem rows_zero (l : List Wr) (lo : List Lo) (n : Nat) (h : Heap) : wkH (mu0 n) h (List.replicate n (.void 1)) (rows l lo 0 n) := by
  refine wkH_of (by rw [List.length_replicate, rows_len]) fun k a b ha hb => ?_
  obtain ⟨h1, h2⟩ := List.getElem?_eq_some_iff.1 ha
  rw [List.length_replicate] at h1
  rw [rows_get h1] at hb; cases hb
  rw [List.getElem_replicate] at h2; subst h2
  exact ⟨rfl, rfl, Nat.one_pos, rfl⟩
theorem may_succ {l : List Wr} {lo : List Lo} {m n a : Nat} (h : m < lo.length) (ha : lo[m].sec = (a : Int)) {q : Nat} (hq : q = (rowM l lo m a).length + 1) (han : a < n) : wks (muM n a) ((mayC l lo m n).set (0 + a) (.sl (n + 5) 0 q 1 none)) (mayC l lo (m + 1) n) := by
  rw [Nat.zero_add]; subst hq
  refine wks_of (by rw [List.length_set, mayC_len, mayC_len]) fun k x y hx hy => ?_
  have h1 : k < n := by have := (List.getElem?_eq_some_iff.1 hy).1; rwa [mayC_len] at this
  rw [mayC_get h1] at hy; cases hy
  have hm := muM_at (a := a) h1
  by_cases c : k = a
  · subst c
    rw [List.getElem?_set_self (by rw [mayC_len]; exact han)] at hx; cases hx
    rw [if_pos rfl] at hm
    refine ⟨by unfold muSl; rw [hm], rfl, ?_, rfl, rfl⟩
    rw [rowM_succ h, if_pos ha, List.length_append]; rfl
  · rw [List.getElem?_set_ne (by omega), mayC_get h1] at hx; cases hx
    rw [if_neg c] at hm
    refine ⟨by unfold muSl; rw [hm], rfl, ?_, rfl, rfl⟩
    rw [rowM_succ h, if_neg (by rw [ha]; omega)]
theorem rows_succ {l : List Wr} {lo : List Lo} {m n a : Nat} (h : m < lo.length) (ha : lo[m].sec = (a : Int)) (han : a < n) (o0 o1 o2 o3 d y z : AO) (hz : z = ⟨((rowM l lo m a).map D.str).map .d ++ [.d (.str (gotS l lo[m]))], 1, 0⟩) :
    wkH (muM n a) (o0 :: o1 :: o2 :: o3 :: (((rows l lo m n ++ [y]).set a d) ++ [z])) ((List.range n).map fun j => Mu.old (if j = a then n + 5 else j + 4)) (rows l lo (m + 1) n) := by
  subst hz
  refine wkH_of (by rw [rows_len]; simp) fun k x o hx hy => ?_
  have h1 : k < n := by have := (List.getElem?_eq_some_iff.1 hy).1; rwa [rows_len] at this
  rw [rows_get h1] at hy; cases hy
  rw [List.getElem?_map, List.getElem?_range h1] at hx; cases hx
  show wkO _ _ (Mu.old (if k = a then n + 5 else k + 4)) _
  by_cases c : k = a
  · subst c
    rw [if_pos rfl]
    refine (nthK_iff _ _).2 ⟨⟨((rowM l lo m k).map D.str).map .d ++ [.d (.str (gotS l lo[m]))], 1, 0⟩, ?_, rfl, rfl, .inl ⟨(rowM l lo (m + 1) k).map D.str, ?_, rfl⟩⟩
    · show (((rows l lo m n ++ [y]).set k d) ++ [_])[n + 1]? = _
      rw [List.getElem?_append_right (by simp [rows_len])]; simp [rows_len]
    · rw [rowM_succ h, if_pos ha, List.map_append, List.map_append]; rfl
  · rw [if_neg c]
    refine (nthK_iff _ _).2 ⟨rowO l lo m k, ?_, rfl, rfl, .inl ⟨(rowM l lo (m + 1) k).map D.str, ?_, rfl⟩⟩
    · show (((rows l lo m n ++ [y]).set a d) ++ [_])[k]? = _
      rw [List.getElem?_append_left (by simp [rows_len]; omega), List.getElem?_set_ne (by omega), List.getElem?_append_left (by rw [rows_len]; exact h1)]
      exact rows_get h1
    · rw [rowM_succ h, if_neg (by rw [ha]; omega)]; rfl
theorem vis_y {R : List AO} {n a : Nat} (hR : R.length = n) (han : a < n) (o0 o1 o2 o3 o3' d y z : AO) : Option.map AO.vis (o0 :: o1 :: o2 :: o3 :: (R ++ [y]))[n + 4]? = Option.map AO.vis (o0 :: o1 :: o2 :: o3' :: (((R ++ [y]).set a d) ++ [z]))[n + 4]? := by
  show Option.map AO.vis (R ++ [y])[n]? = Option.map AO.vis (((R ++ [y]).set a d) ++ [z])[n]?
  rw [List.getElem?_append_left (l₁ := (R ++ [y]).set a d) (by simp; omega), List.getElem?_set_ne (by omega)]

/-- The heap as it is, one more row at its end. -/
def muQ (n : Nat) : List Mu := [.old 0, .old 1, .old 2, .old 3] ++ ((List.range n).map (fun j => Mu.old (j + 4)) ++ [.old (n + 4)])
theorem muQ_ok (n : Nat) : nodupB (olds (muQ n)) = true := by
  refine nodupB_of ?_
  rw [muQ, olds_app, olds_app, olds_map fun j => j + 4]
  refine List.nodup_append.2 ⟨by decide, List.nodup_append.2 ⟨?_, by simp [olds], ?_⟩, ?_⟩
  · rw [List.Nodup, List.pairwise_map]
    exact List.nodup_range.imp fun {x y} h => by omega
  · intro x hx y hy e
    obtain ⟨j, hj, rfl⟩ := List.mem_map.1 hx
    rw [List.mem_range] at hj
    simp only [olds, List.mem_singleton] at hy
    omega
  · intro x hx y hy e
    have h1 : 4 ≤ y := by
      rcases List.mem_append.1 hy with h | h
      · obtain ⟨j, _, rfl⟩ := List.mem_map.1 h; omega
      · simp only [olds, List.mem_singleton] at h; omega
    simp only [olds, List.mem_cons, List.not_mem_nil, or_false] at hx
    omega
theorem muQ_at {n j : Nat} (h : j < n) : (muQ n)[j + 4]? = some (.old (j + 4)) := by
  show ((List.range n).map (fun j => Mu.old (j + 4)) ++ [.old (n + 4)])[j]? = _
  rw [List.getElem?_append_left (by simpa using h)]
  simp [h]
theorem muQ_last (n : Nat) : (muQ n)[n + 4]? = some (.old (n + 4)) := by
  show ((List.range n).map (fun j => Mu.old (j + 4)) ++ [.old (n + 4)])[n]? = _
  rw [List.getElem?_append_right (by simp)]
  simp
theorem muSl_last (n s l : Nat) (c : Option Nat) : muSl (muQ n)[n + 4]? (n + 4) s l c := by
  unfold muSl; rw [muQ_last]
theorem may_same (l : List Wr) (lo : List Lo) (m n : Nat) : wks (muQ n) (mayC l lo m n) (mayC l lo m n) := by
  refine wks_of rfl fun k x y hx hy => ?_
  have h1 : k < n := by have := (List.getElem?_eq_some_iff.1 hy).1; rwa [mayC_len] at this
  rw [hx] at hy; cases hy
  rw [mayC_get h1] at hx; cases hx
  exact ⟨by unfold muSl; rw [muQ_at h1], rfl, rfl, rfl, rfl⟩
theorem rows_same (l : List Wr) (lo : List Lo) (m n : Nat) (o0 o1 o2 o3 : AO) (d : List D) (k : Nat) :
    wkH (muQ n) (o0 :: o1 :: o2 :: o3 :: (rows l lo m n ++ [⟨d.map .d, k, 0⟩])) ((List.range n).map (fun j => Mu.old (j + 4)) ++ [.old (n + 4)]) (rows l lo m n ++ [⟨d.map .d, k, 0⟩]) := by
  refine wkH_of (by simp [rows_len]) fun j x o hx hy => ?_
  by_cases h1 : j < n
  · rw [List.getElem?_append_left (by simpa using h1), List.getElem?_map, List.getElem?_range h1] at hx; cases hx
    have hy' := hy
    rw [List.getElem?_append_left (by rw [rows_len]; exact h1), rows_get h1] at hy'; cases hy'
    exact (nthK_iff _ _).2 ⟨_, hy, rfl, rfl, .inl ⟨(rowM l lo m j).map D.str, rfl, rfl⟩⟩
  · have h2 : j = n := by have := (List.getElem?_eq_some_iff.1 hx).1; simp at this; omega
    subst h2
    rw [List.getElem?_append_right (by simp)] at hx
    simp at hx; subst hx
    have hy' := hy
    rw [List.getElem?_append_right (by rw [rows_len]; omega)] at hy'
    simp [rows_len] at hy'; subst hy'
    exact (nthK_iff _ _).2 ⟨_, hy, rfl, rfl, .inl ⟨d, rfl, rfl⟩⟩
theorem rows_at {l : List Wr} {lo : List Lo} {m n j : Nat} (h : j < n) (o0 o1 o2 o3 : AO) (t : List AO) : (o0 :: o1 :: o2 :: o3 :: (rows l lo m n ++ t))[j + 4]? = some ⟨((rowM l lo m j).map D.str).map .d, 1, 0⟩ := by
  show (rows l lo m n ++ t)[j]? = _
  rw [List.getElem?_append_left (by rw [rows_len]; exact h)]; exact rows_get h
theorem new_3 {a b c o : AO} {K : Nat → Heap → Prop} (k : K 3 [a, b, c, o]) : newD [a, b, c] o K := k
theorem new_4 {a b c d o : AO} {K : Nat → Heap → Prop} (k : K 4 [a, b, c, d, o]) : newD [a, b, c, d] o K := k
theorem new_h4 {o0 o1 o2 o3 o : AO} {l : List Wr} {lo : List Lo} {m n : Nat} {K : Nat → Heap → Prop} (k : K (n + 4) (o0 :: o1 :: o2 :: o3 :: (rows l lo m n ++ [o]))) : newD (o0 :: o1 :: o2 :: o3 :: rows l lo m n) o K := by
  rw [newD, lenK_eq, snocK_eq, show 0 + (o0 :: o1 :: o2 :: o3 :: rows l lo m n).length = n + 4 by simp only [List.length_cons, rows_len]; omega]
  exact k
theorem new_h5 {o0 o1 o2 o3 o y d : AO} {l : List Wr} {lo : List Lo} {m n a : Nat} {K : Nat → Heap → Prop} (k : K (n + 5) (o0 :: o1 :: o2 :: o3 :: (((rows l lo m n ++ [y]).set a d) ++ [o]))) : newD (o0 :: o1 :: o2 :: o3 :: ((rows l lo m n ++ [y]).set a d)) o K := by
  rw [newD, lenK_eq, snocK_eq, show 0 + (o0 :: o1 :: o2 :: o3 :: ((rows l lo m n ++ [y]).set a d)).length = n + 5 by simp only [List.length_cons, List.length_set, List.length_append, rows_len, List.length_nil]; omega]
  exact k
theorem set_h3 {o0 o1 o2 o3 v : AO} {R : List AO} {K : Heap → Prop} (k : K (o0 :: o1 :: o2 :: v :: R)) : setK (o0 :: o1 :: o2 :: o3 :: R) 3 v K := k
theorem set_hy {o0 o1 o2 o3 z y : AO} {l : List Wr} {lo : List Lo} {m n : Nat} {K : Heap → Prop} (k : K (o0 :: o1 :: o2 :: o3 :: (rows l lo m n ++ [y]))) : setK (o0 :: o1 :: o2 :: o3 :: (rows l lo m n ++ [z])) (n + 4) y K := by
  rw [setK_eq]
  show K (o0 :: o1 :: o2 :: o3 :: ((rows l lo m n ++ [z]).set n y))
  rw [show (rows l lo m n ++ [z]).set n y = rows l lo m n ++ [y] by rw [List.set_append_right _ _ (by rw [rows_len]; omega), rows_len, Nat.sub_self]; rfl]
  exact k
theorem set_h4 {o0 o1 o2 o3 v : AO} {R : List AO} {a : Nat} {K : Heap → Prop} (k : K (o0 :: o1 :: o2 :: o3 :: R.set a v)) : setK (o0 :: o1 :: o2 :: o3 :: R) (a + 4) v K := by
  rw [setK_eq]; exact k
theorem setK_0 {α : Type} {x y : α} {K : List α → Prop} (k : K [y]) : setK [x] 0 y K := k
theorem mayR_zero (l : List Wr) (lo : List Lo) (a b : Bs) : mayR l lo a b 0 = some 0 := rfl
def mayE (o : Option Nat) : Int × Int := match o with
  | some n => ((n : Int), 0)
  | none => (0, 19)
theorem stOf_at {t : Bs} {j : Nat} (h : j < (stOf t).length) : (stOf t)[j] = sec t j := by
  have h2 : j < t.length / 64 := by rwa [stOf_len] at h
  have := stK_get (s := t) h2
  rw [← stOf, List.getElem?_eq_getElem h] at this
  exact Option.some.inj this
theorem wrS_at {s : Bs} {l : List Wr} {k j : Nat} (hl : ∀ x ∈ l, x.In (s.length / 64)) (h64 : s.length % 64 = 0) (h : j < (wrS s l k).length) : (wrS s l k)[j] = sec (wrote s (l.take k)) j := by
  obtain ⟨h1, h2, h3⟩ := wrS_ok hl k
  rw [stOf_flat h64] at h1
  rw [← h1, sec_flat h2 h]
attribute [local irreducible] Run stOf in
set_option maxRecDepth 10000 in
theorem c64q (t : Bs) (ht : t.length < 1000000) (H : Heap) (N : Nat) (hN : H.length = N) : Run Tryd.prog 64 [.d (.str t)] H (.sl N 0 (stOf t).length 1 none) (H ++ [⟨((stOf t).map D.str).map .d, 1, 0⟩]) := by
  subst hN
  exact run_new (xs := [.str t]) (g := D.str) (l := stOf t) (c64 t ht) (fun _ => rfl) rfl
end Go.Proofs.YtpblmdolgocpaaaDoor

/-! Wx -/
namespace Go.Proofs.YtpblmdolgocpaaaDoor
open Go Dw
set_option maxRecDepth 10000
set_option linter.unusedVariables false
set_option linter.unusedSimpArgs false
attribute [local irreducible] Run
set_option maxHeartbeats 4000000

attribute [local irreducible] sec stK put patch wrote pat wr

def mErr (s : Bs) (l : List Wr) (r : Int) (t : Bs) : Int := first [reachErr s l r, diskErr t, if decide ((t.length : Int) = s.length) = true then 0 else 10]
theorem mErr_r {s : Bs} {l : List Wr} {r : Int} {t : Bs} (h : ¬ reachErr s l r = 0) : mErr s l r t = reachErr s l r := by
  unfold mErr; rw [first_cons, if_neg h]
theorem mErr_d {s : Bs} {l : List Wr} {r : Int} {t : Bs} (h : reachErr s l r = 0) (hd : ¬ diskErr t = 0) : mErr s l r t = diskErr t := by
  unfold mErr; rw [first_cons, if_pos h, first_cons, if_neg hd]
theorem mErr_l {s : Bs} {l : List Wr} {r : Int} {t : Bs} (h : reachErr s l r = 0) (hd : diskErr t = 0) (hl : ¬ (t.length : Int) = s.length) : mErr s l r t = 10 := by
  unfold mErr; rw [first_cons, if_pos h, first_cons, if_pos hd, decide_eq_false hl]; rfl
theorem mErr_o {s : Bs} {l : List Wr} {r : Int} {t : Bs} (h : reachErr s l r = 0) (hd : diskErr t = 0) (hl : (t.length : Int) = s.length) : mErr s l r t = 0 := by
  unfold mErr; rw [first_cons, if_pos h, first_cons, if_pos hd, decide_eq_true hl]; rfl
theorem mErr_ok {s : Bs} {l : List Wr} {r : Int} {t : Bs} (h : mErr s l r t = 0) : reachErr s l r = 0 ∧ diskErr t = 0 ∧ t.length = s.length := by
  by_cases h1 : reachErr s l r = 0
  · by_cases h2 : diskErr t = 0
    · by_cases h3 : (t.length : Int) = s.length
      · exact ⟨h1, h2, by omega⟩
      · rw [mErr_l h1 h2 h3] at h; cases h
    · rw [mErr_d h1 h2] at h; exact absurd h h2
  · rw [mErr_r h1] at h; exact absurd h h1
attribute [local irreducible] first diskErr reachErr loose settled wrS gotS asc mayR mayAt rowM rows mayC

theorem c18e (s t : Bs) (l : List Wr) (r : Int) (hsm : smallB s l = true) (ht : t.length < 1000000) (h0 : ¬ reachErr s l r = 0) (h1 : ¬ first [reachErr s l r, diskErr t, if decide ((t.length : Int) = s.length) = true then 0 else 10] = 0) : Fn 18 [.str s, .fs (l.map Wr.enc), i r, .str t] (.tup [i 0, i (mErr s l r t)]) := by
  obtain ⟨hs1, hs2, hs3⟩ := smallB_ok hsm
  refine run_walkF eok Tryd.func18 rfl (by kernel_rfl) ?_
  conv => whnf
  repeat' (first
    | ((with_reducible refine on_dec_t (by assumption) ?_); conv => whnf)
    | ((with_reducible refine on_dec_f (by assumption) ?_); conv => whnf)
    | ((with_reducible refine onBool_t (by assumption) ?_); conv => whnf)
    | ((with_reducible refine onBool_f (by assumption) ?_); conv => whnf)
    | ((with_reducible refine on_nt (by assumption) ?_); conv => whnf)
    | ((with_reducible refine on_nf (by assumption) ?_); conv => whnf)
    | ((with_reducible refine on_ndec_t (by first | assumption | rfl) ?_); conv => whnf)
    | ((with_reducible refine on_ndec_f (by assumption) ?_); conv => whnf)
    | ((with_reducible refine on_dec_f ?_ ?_); (focus ((try simp only [List.length_map, List.length_cons, List.length_nil, List.length_append]); omega)); conv => whnf)
    | ((with_reducible refine on_dec_t ?_ ?_); (focus ((try simp only [List.length_map, List.length_cons, List.length_nil, List.length_append]); omega)); conv => whnf)
    | ((with_reducible refine on_dec (fun h => ?_) (fun h => ?_)) <;> (try simp only [List.length_map] at h) <;> conv => whnf)
    | ((with_reducible refine on_ndec (fun h => ?_) (fun h => ?_)) <;> (try simp only [List.length_map] at h) <;> conv => whnf)
    | ((with_reducible refine on_not (fun h => ?_) (fun h => ?_)) <;> conv => whnf)
    | ((with_reducible refine onBool_split (fun h => ?_) (fun h => ?_)) <;> conv => whnf)
    | ((with_reducible refine call_go ?_); (first | refine call_step (c69eq s l r hsm h0 _) ?_ | refine call_step (run_view (c36 _ (by omega)) rfl rfl) ?_ | refine call_step (run_view (c59 _ _) rfl rfl) ?_ | refine call_step (run_view (c58 [_, _] (by simp)) rfl rfl) ?_ | refine call_step (run_view (c58 [_, _, _] (by simp)) rfl rfl) ?_ | refine call_step (run_view (c58 [_, _, _, _] (by simp)) rfl rfl) ?_); conv => whnf)
    | (refine ⟨[], [(2, 10), (2, 11), (2, 12), (5, 10), (5, 11), (7, 10), (7, 11)], (by decide +kernel), ?_⟩; conv => whnf)
    | (refine ⟨⟨(by first | rfl | (simp; done)), cap_ok (by simp only [List.length_map, List.length_cons, List.length_nil, List.length_append]; omega) rfl⟩, ?_⟩; conv => whnf)
    | (refine ⟨mem_one ⟨rfl, rfl⟩, ?_⟩; conv => whnf)
    | (refine ⟨(by intro y hy; obtain ⟨x, _, rfl⟩ := List.mem_map.1 hy; first | rfl | exact ⟨rfl, rfl⟩), ?_⟩; conv => whnf)
    | (refine ⟨cap_ok (by first | omega | (simp only [List.length_map]; omega)) rfl, ?_⟩; conv => whnf)
    | (refine ix_map (by omega) ?_; conv => whnf)
    | (refine ix_str (by omega) ?_; conv => whnf)
    | (refine wrap64 (by omega) ?_; conv => whnf)
    | (exfalso; simp only [List.length_map, List.length_cons, List.length_nil, List.length_append] at h; omega)
    | ((with_reducible refine endx_go ?_); first | (exact endx2 rfl; done))
    | (refine ⟨rfl, ?_⟩; conv => whnf)
    | fail
    )

theorem c18f (s t : Bs) (l : List Wr) (r : Int) (hsm : smallB s l = true) (ht : t.length < 1000000) (h0 : reachErr s l r = 0) (h1 : ¬ first [0, diskErr t, if decide ((t.length : Int) = s.length) = true then 0 else 10] = 0) : Fn 18 [.str s, .fs (l.map Wr.enc), i r, .str t] (.tup [i 0, i (mErr s l r t)]) := by
  obtain ⟨hs1, hs2, hs3⟩ := smallB_ok hsm
  refine run_walkF eok Tryd.func18 rfl (by kernel_rfl) ?_
  conv => whnf
  repeat' (first
    | ((with_reducible refine on_dec_t (by assumption) ?_); conv => whnf)
    | ((with_reducible refine on_dec_f (by assumption) ?_); conv => whnf)
    | ((with_reducible refine onBool_t (by assumption) ?_); conv => whnf)
    | ((with_reducible refine onBool_f (by assumption) ?_); conv => whnf)
    | ((with_reducible refine on_nt (by assumption) ?_); conv => whnf)
    | ((with_reducible refine on_nf (by assumption) ?_); conv => whnf)
    | ((with_reducible refine on_ndec_t (by first | assumption | rfl) ?_); conv => whnf)
    | ((with_reducible refine on_ndec_f (by assumption) ?_); conv => whnf)
    | ((with_reducible refine on_dec_f ?_ ?_); (focus ((try simp only [List.length_map, List.length_cons, List.length_nil, List.length_append]); omega)); conv => whnf)
    | ((with_reducible refine on_dec_t ?_ ?_); (focus ((try simp only [List.length_map, List.length_cons, List.length_nil, List.length_append]); omega)); conv => whnf)
    | ((with_reducible refine on_dec (fun h => ?_) (fun h => ?_)) <;> (try simp only [List.length_map] at h) <;> conv => whnf)
    | ((with_reducible refine on_ndec (fun h => ?_) (fun h => ?_)) <;> (try simp only [List.length_map] at h) <;> conv => whnf)
    | ((with_reducible refine on_not (fun h => ?_) (fun h => ?_)) <;> conv => whnf)
    | ((with_reducible refine onBool_split (fun h => ?_) (fun h => ?_)) <;> conv => whnf)
    | ((with_reducible refine call_go ?_); (first | refine call_step (c69q s l r hsm h0 _) ?_ | refine call_step (run_view (c36 _ (by omega)) rfl rfl) ?_ | refine call_step (run_view (c59 _ _) rfl rfl) ?_ | refine call_step (run_view (c58 [_, _] (by simp)) rfl rfl) ?_ | refine call_step (run_view (c58 [_, _, _] (by simp)) rfl rfl) ?_ | refine call_step (run_view (c58 [_, _, _, _] (by simp)) rfl rfl) ?_); conv => whnf)
    | (refine ⟨[], [(2, 10), (2, 11), (2, 12), (5, 10), (5, 11), (7, 10), (7, 11)], (by decide +kernel), ?_⟩; conv => whnf)
    | (refine ⟨⟨(by first | rfl | (simp; done)), cap_ok (by simp only [List.length_map, List.length_cons, List.length_nil, List.length_append]; omega) rfl⟩, ?_⟩; conv => whnf)
    | (refine ⟨mem_one ⟨rfl, rfl⟩, ?_⟩; conv => whnf)
    | (refine ⟨(by intro y hy; obtain ⟨x, _, rfl⟩ := List.mem_map.1 hy; first | rfl | exact ⟨rfl, rfl⟩), ?_⟩; conv => whnf)
    | (refine ⟨cap_ok (by first | omega | (simp only [List.length_map]; omega)) rfl, ?_⟩; conv => whnf)
    | (refine ix_map (by omega) ?_; conv => whnf)
    | (refine ix_str (by omega) ?_; conv => whnf)
    | (refine wrap64 (by omega) ?_; conv => whnf)
    | (exfalso; simp only [List.length_map, List.length_cons, List.length_nil, List.length_append] at h; omega)
    | ((with_reducible refine endx_go ?_); first | (exact endx2 (by rw [mErr, h0]); done))
    | (refine ⟨rfl, ?_⟩; conv => whnf)
    | fail
    )

attribute [local irreducible] newD setK

theorem c18g (s t : Bs) (l : List Wr) (r : Int) (ST : List Bs) (LO : List Lo) (SET : Bs) (hs1 : s.length < 1000000) (ht : t.length < 1000000) (h1 : first [0, diskErr t, if decide ((t.length : Int) = s.length) = true then 0 else 10] = 0)
  (h69 : Run Tryd.prog 69 [.d (.str s), .d (.fs (l.map Wr.enc)), .d (i r)] [] (.tup [.ptr 0 0 0, .d (i 0)]) [flO ST LO l 1 2, ⟨(ST.map D.str).map .d, 1, 0⟩, ⟨(LO.map Lo.enc).map .d, 2, 0⟩])
  (hN : ST.length ≤ 40) (hM : LO.length ≤ 240) (hlo : ∀ x ∈ LO, LoOk l ST.length x) (h70 : ∀ x, LoOk l ST.length x → Fn 70 [.fp (flD ST LO l) 0, x.enc] (.str (gotS l x))) (hT : (stOf t).length = ST.length) (hS : ∀ j (h : j < ST.length), ST[j] = sec SET j) : Fn 18 [.str s, .fs (l.map Wr.enc), i r, .str t] (.tup [i (mayE (mayR l LO SET t ST.length)).1, i (mayE (mayR l LO SET t ST.length)).2]) := by
  refine run_walkF eok Tryd.func18 rfl (by kernel_rfl) ?_
  conv => whnf
  repeat' (first
    | ((with_reducible refine on_dec_t (by assumption) ?_); conv => whnf)
    | ((with_reducible refine on_dec_f (by assumption) ?_); conv => whnf)
    | ((with_reducible refine onBool_t (by assumption) ?_); conv => whnf)
    | ((with_reducible refine onBool_f (by assumption) ?_); conv => whnf)
    | ((with_reducible refine on_nt (by assumption) ?_); conv => whnf)
    | ((with_reducible refine on_nf (by assumption) ?_); conv => whnf)
    | ((with_reducible refine on_ndec_t (by first | assumption | rfl) ?_); conv => whnf)
    | ((with_reducible refine on_ndec_f (by assumption) ?_); conv => whnf)
    | (refine ⟨[99], [(2, 10), (2, 12), (5, 10), (7, 10)], (by decide +kernel), ?_⟩; conv => whnf)
    | ((with_reducible refine on_dec_f ?_ ?_); (focus ((try simp only [List.length_map, List.length_cons, List.length_nil, List.length_append]); omega)); conv => whnf)
    | ((with_reducible refine on_dec_t ?_ ?_); (focus ((try simp only [List.length_map, List.length_cons, List.length_nil, List.length_append]); omega)); conv => whnf)
    | ((with_reducible refine on_dec (fun h => ?_) (fun h => ?_)) <;> (try simp only [List.length_map] at h) <;> conv => whnf)
    | ((with_reducible refine on_ndec (fun h => ?_) (fun h => ?_)) <;> (try simp only [List.length_map] at h) <;> conv => whnf)
    | ((with_reducible refine on_not (fun h => ?_) (fun h => ?_)) <;> conv => whnf)
    | ((with_reducible refine onBool_split (fun h => ?_) (fun h => ?_)) <;> conv => whnf)
    | ((with_reducible refine call_go ?_); (first | refine call_step (h69) ?_ | refine call_step (run_view (c36 _ (by omega)) rfl rfl) ?_ | refine call_step (run_view (c59 _ _) rfl rfl) ?_ | refine call_step (run_view (c58 [_, _] (by simp)) rfl rfl) ?_ | refine call_step (run_view (c58 [_, _, _] (by simp)) rfl rfl) ?_ | refine call_step (run_view (c58 [_, _, _, _] (by simp)) rfl rfl) ?_ | refine call_step (run_view (h70 (LO[k]'(by omega)) (hlk (by omega))) rfl (vlc (view_ptr rfl Nat.two_pos rfl (view_agg (vlc (view_map rfl Nat.two_pos) (vlc (view_map rfl Nat.two_pos) (vlc rfl vln))))) (vlc rfl vln))) ?_ | refine call_step (c64q t ht _ (ST.length + 4) (by simp only [List.length_cons, rows_len])) ?_ | refine call_step (run_view (c71 (rowM l LO k j) ((stOf t)[j]'(by omega)) (by have := rowM_len l LO k j; omega)) rfl (vlc (view_map (rows_at (by omega) _ _ _ _ _) Nat.two_pos) (vlc rfl vln))) ?_); conv => whnf)
    | (refine ⟨[], [(2, 10), (2, 11), (2, 12), (5, 10), (5, 11), (7, 10), (7, 11)], (by decide +kernel), ?_⟩; conv => whnf)
    | ((with_reducible refine loop_go ?_); first | (refine loop1 (fun (k : Nat) => LO.length - k) (fun (k : Nat) => k ≤ LO.length) (fun (k : Nat) => [(3, .d (.str t)), (10, .ptr 0 0 0), (12, .sl 3 0 ST.length 1 (some ST.length)), (48, .sl 2 0 LO.length 2 none), (49, .d (i LO.length)), (50, .d (i k))]) (fun (k : Nat) => flO ST LO l 1 2 :: ⟨(ST.map D.str).map .d, 1, 0⟩ :: ⟨(LO.map Lo.enc).map .d, 2, 0⟩ :: ⟨mayC l LO k ST.length, 1, 0⟩ :: rows l LO k ST.length) (0) (by exact Nat.zero_le _) ?_ (fun k C hI hC => ?_); (exact ⟨mu0 ST.length, rfl, mu0_ok _, ⟨(by first | (show (_ : D) = _; with_reducible rfl) | exact rfl), ⟨rfl, rfl, rfl⟩, (by first | exact congrArg (D.int .i64) (by omega) | exact ⟨rfl, rfl, rfl⟩ | exact ⟨rfl, rfl, rfl, rfl, rfl⟩ | (show (_ : D) = _; with_reducible rfl)), (by first | exact congrArg (D.int .i64) (by omega) | exact ⟨rfl, rfl, rfl⟩ | exact ⟨rfl, rfl, rfl, rfl, rfl⟩ | (show (_ : D) = _; with_reducible rfl)), (by first | (show (_ : D) = _; with_reducible rfl) | exact congrArg (D.int .i64) (by omega) | exact congrArg (D.int .i64) (by simp only [List.length_map]) | exact rfl), (by first | (show (_ : D) = _; with_reducible rfl) | exact congrArg (D.int .i64) (by omega) | exact congrArg (D.int .i64) (by simp only [List.length_map]) | exact rfl), trivial⟩, ⟨⟨rfl, rfl, .inr ⟨⟨⟨rfl, rfl, rfl, rfl, rfl⟩, ⟨rfl, rfl, rfl, rfl, rfl⟩, rfl, trivial⟩, trivial⟩⟩, ⟨rfl, rfl, .inl ⟨_, rfl, rfl⟩⟩, ⟨rfl, rfl, .inl ⟨_, rfl, rfl⟩⟩, ⟨rfl, rfl, .inr (may_zero _ _ _)⟩, rows_zero _ _ _ _⟩⟩); have hsa := fun (h : k < LO.length) => (show (LO[k]).sec = ((LO[k]).sec.toNat : Int) by have := (hlo _ (List.getElem_mem h)).sec0; omega); have hsn := fun (h : k < LO.length) => (show (LO[k]).sec.toNat < ST.length from (hlo _ (List.getElem_mem h)).secn); have hlk := fun (h : k < LO.length) => hlo _ (List.getElem_mem h); all_goals (conv => whnf)) | (refine loop2 (fun (j : Nat) (c : Nat) => ST.length - j) (fun (j : Nat) (c : Nat) => j ≤ ST.length ∧ c ≤ j ∧ mayR l LO SET t j = some c) (fun (j : Nat) (c : Nat) => [(10, .ptr 0 0 0), (12, .sl 3 0 ST.length 1 (some ST.length)), (15, .d (i c)), (70, .sl (ST.length + 4) 0 (stOf t).length 1 none), (71, .d (i (stOf t).length)), (72, .d (i j))]) (fun (j : Nat) (c : Nat) => flO ST LO l 1 2 :: ⟨(ST.map D.str).map .d, 1, 0⟩ :: ⟨(LO.map Lo.enc).map .d, 2, 0⟩ :: ⟨mayC l LO k ST.length, 1, 0⟩ :: (rows l LO k ST.length ++ [⟨((stOf t).map D.str).map .d, 1, 0⟩])) (0) (0) (by exact ⟨Nat.zero_le _, Nat.zero_le _, mayR_zero _ _ _ _⟩) ?_ (fun j c C2 hI2 hC2 => ?_); (exact ⟨muQ ST.length, rfl, muQ_ok _, ⟨⟨rfl, rfl, rfl⟩, ⟨rfl, rfl, rfl, rfl, rfl⟩, rfl, ⟨muSl_last _ _ _ _, rfl, rfl, rfl, rfl⟩, rfl, rfl, trivial⟩, ⟨⟨rfl, rfl, .inr ⟨⟨⟨rfl, rfl, rfl, rfl, rfl⟩, ⟨rfl, rfl, rfl, rfl, rfl⟩, rfl, trivial⟩, trivial⟩⟩, ⟨rfl, rfl, .inl ⟨_, rfl, rfl⟩⟩, ⟨rfl, rfl, .inl ⟨_, rfl, rfl⟩⟩, ⟨rfl, rfl, .inr (may_same _ _ _ _)⟩, rows_same _ _ _ _ _ _ _ _ _ _⟩⟩); have heq := fun (h : j < ST.length) (e : (stOf t)[j]'(by omega) = ST[j]) => (show sec t j = sec SET j by rw [← hS j h, ← e, stOf_at]); have hne := fun (h : j < ST.length) (e : sec t j = sec SET j) => (show (stOf t)[j]'(by omega) = ST[j] by rw [hS j h, ← e, stOf_at]); have hany := fun (j : Nat) (v : Bs) => (show (rowM l LO k j).any (fun x => decide (v = x)) = mayAt l LO v j by rw [show k = LO.length by omega]; exact rowM_any ..); have hm := fun (h : j < ST.length) => (show mayAt l LO (sec t j) j = (rowM l LO k j).any (fun x => decide ((stOf t)[j]'(by omega) = x)) by rw [hany, stOf_at]); all_goals (conv => whnf)))
    | ((with_reducible show C _ _); first | (refine hC (k + 1) _ _ ?_ (by omega) ?_; clear hC; rotate_left; (exact ⟨muM ST.length (LO[k]'(by omega)).sec.toNat, rfl, muM_ok _ _, ⟨(by first | (show (_ : D) = _; with_reducible rfl) | exact rfl), ⟨rfl, rfl, rfl⟩, (by first | exact congrArg (D.int .i64) (by omega) | exact ⟨rfl, rfl, rfl⟩ | exact ⟨rfl, rfl, rfl, rfl, rfl⟩ | (show (_ : D) = _; with_reducible rfl)), (by first | exact congrArg (D.int .i64) (by omega) | exact ⟨rfl, rfl, rfl⟩ | exact ⟨rfl, rfl, rfl, rfl, rfl⟩ | (show (_ : D) = _; with_reducible rfl)), (by first | (show (_ : D) = _; with_reducible rfl) | exact congrArg (D.int .i64) (by omega) | exact congrArg (D.int .i64) (by simp only [List.length_map]) | exact rfl), (by first | (show (_ : D) = _; with_reducible rfl) | exact congrArg (D.int .i64) (by omega) | exact congrArg (D.int .i64) (by simp only [List.length_map]) | exact rfl), trivial⟩, ⟨⟨rfl, rfl, .inr ⟨⟨⟨rfl, rfl, rfl, rfl, rfl⟩, ⟨rfl, rfl, rfl, rfl, rfl⟩, rfl, trivial⟩, trivial⟩⟩, ⟨rfl, rfl, .inl ⟨_, rfl, rfl⟩⟩, ⟨rfl, rfl, .inl ⟨_, rfl, rfl⟩⟩, ⟨rfl, rfl, .inr (may_succ (by omega) (hsa (by omega)) rfl (hsn (by omega)))⟩, rows_succ (by omega) (hsa (by omega)) (hsn (by omega)) _ _ _ _ _ _ _ rfl⟩⟩); (exact (by omega : k + 1 ≤ LO.length))))
    | ((with_reducible show C2 _ _); first | (refine hC2 (j + 1) (c) _ _ ?_ (by omega) ?_; clear hC2; rotate_left; (exact ⟨muQ ST.length, rfl, muQ_ok _, ⟨⟨rfl, rfl, rfl⟩, (by first | exact congrArg (D.int .i64) (by omega) | exact ⟨rfl, rfl, rfl⟩ | exact ⟨rfl, rfl, rfl, rfl, rfl⟩ | (show (_ : D) = _; with_reducible rfl)), (by first | (show (_ : D) = _; with_reducible rfl) | exact congrArg (D.int .i64) (by omega) | exact congrArg (D.int .i64) (by simp only [List.length_map]) | exact rfl), ⟨muSl_last _ _ _ _, rfl, rfl, rfl, rfl⟩, (by first | (show (_ : D) = _; with_reducible rfl) | exact congrArg (D.int .i64) (by omega) | exact congrArg (D.int .i64) (by simp only [List.length_map]) | exact rfl), (by first | (show (_ : D) = _; with_reducible rfl) | exact congrArg (D.int .i64) (by omega) | exact congrArg (D.int .i64) (by simp only [List.length_map]) | exact rfl), trivial⟩, ⟨⟨rfl, rfl, .inr ⟨⟨⟨rfl, rfl, rfl, rfl, rfl⟩, ⟨rfl, rfl, rfl, rfl, rfl⟩, rfl, trivial⟩, trivial⟩⟩, ⟨rfl, rfl, .inl ⟨_, rfl, rfl⟩⟩, ⟨rfl, rfl, .inl ⟨_, rfl, rfl⟩⟩, ⟨rfl, rfl, .inr (may_same _ _ _ _)⟩, rows_same _ _ _ _ _ _ _ _ _ _⟩⟩); (exact ⟨by omega, by omega, mayR_same hI2.2.2 (heq (by omega) (by assumption))⟩)) | (refine hC2 (j + 1) (c + 1) _ _ ?_ (by omega) ?_; clear hC2; rotate_left; (exact ⟨muQ ST.length, rfl, muQ_ok _, ⟨⟨rfl, rfl, rfl⟩, (by first | exact congrArg (D.int .i64) (by omega) | exact ⟨rfl, rfl, rfl⟩ | exact ⟨rfl, rfl, rfl, rfl, rfl⟩ | (show (_ : D) = _; with_reducible rfl)), (by first | (show (_ : D) = _; with_reducible rfl) | exact congrArg (D.int .i64) (by omega) | exact congrArg (D.int .i64) (by simp only [List.length_map]) | exact rfl), ⟨muSl_last _ _ _ _, rfl, rfl, rfl, rfl⟩, (by first | (show (_ : D) = _; with_reducible rfl) | exact congrArg (D.int .i64) (by omega) | exact congrArg (D.int .i64) (by simp only [List.length_map]) | exact rfl), (by first | (show (_ : D) = _; with_reducible rfl) | exact congrArg (D.int .i64) (by omega) | exact congrArg (D.int .i64) (by simp only [List.length_map]) | exact rfl), trivial⟩, ⟨⟨rfl, rfl, .inr ⟨⟨⟨rfl, rfl, rfl, rfl, rfl⟩, ⟨rfl, rfl, rfl, rfl, rfl⟩, rfl, trivial⟩, trivial⟩⟩, ⟨rfl, rfl, .inl ⟨_, rfl, rfl⟩⟩, ⟨rfl, rfl, .inl ⟨_, rfl, rfl⟩⟩, ⟨rfl, rfl, .inr (may_same _ _ _ _)⟩, rows_same _ _ _ _ _ _ _ _ _ _⟩⟩); (exact ⟨by omega, by omega, mayR_more hI2.2.2 (fun e => absurd (hne (by omega) e) (by assumption)) ((hm (by omega)).trans (by assumption))⟩)))
    | (refine ⟨⟨(by first | rfl | (simp; done)), cap_ok (by simp only [List.length_map, List.length_cons, List.length_nil, List.length_append]; omega) rfl⟩, ?_⟩; conv => whnf)
    | (refine ⟨mem_one ⟨rfl, rfl⟩, ?_⟩; conv => whnf)
    | (refine ⟨(by intro y hy; obtain ⟨x, _, rfl⟩ := List.mem_map.1 hy; first | rfl | exact ⟨rfl, rfl⟩), ?_⟩; conv => whnf)
    | (refine ⟨cap_ok (by first | omega | (simp only [List.length_map]; omega)) rfl, ?_⟩; conv => whnf)
    | (refine ix_map (by omega) ?_; conv => whnf)
    | (refine ix_str (by omega) ?_; conv => whnf)
    | (refine wrap64 (by omega) ?_; conv => whnf)
    | (refine nthK_last (rows_len _ _ _ _) ?_; conv => whnf)
    | (refine nthK_rowi (l := LO) k (by omega) (by omega) ?_; conv => whnf)
    | (refine nthK_rowi (l := stOf t) j (by omega) (by omega) ?_; conv => whnf)
    | (refine nthK_rowi (l := ST) j (by omega) (by omega) ?_; conv => whnf)
    | (refine ⟨⟨by omega, by omega⟩, ?_⟩; conv => whnf)
    | (refine new_3 ?_; conv => whnf)
    | (refine new_4 ?_; conv => whnf)
    | (refine new_h4 ?_; conv => whnf)
    | (refine new_h5 ?_; conv => whnf)
    | (refine set_hy ?_; conv => whnf)
    | (refine set_h3 ?_; conv => whnf)
    | (refine set_h4 ?_; conv => whnf)
    | (refine setK_0 ?_; conv => whnf)
    | (refine nthK_last (rows_len _ _ _ _) ?_; conv => whnf)
    | (refine nth_may (hsn (by omega)) ?_; conv => whnf)
    | (refine nth_may (a := j) (by omega) ?_; conv => whnf)
    | (refine nth_row (hsn (by omega)) _ ?_; conv => whnf)
    | (refine setK_of ?_; conv => whnf)
    | (refine ⟨vis_y (rows_len _ _ _ _) (hsn (by omega)) _ _ _ _ _ _ _ _, ?_⟩; conv => whnf)
    | (refine ⟨⟨(hlk (by omega)).sec0, by have := hsn (by omega); have := hsa (by omega); omega⟩, ?_⟩; conv => whnf)
    | (refine ⟨⟨by omega, by omega, by omega, by (first | omega | (show _ * ((24 : Nat) : Int) ≤ _; omega))⟩, ?_⟩; conv => whnf)
    | (refine ⟨⟨(by simp only [List.length_map]; omega), cap_ok (by have := rowM_len l LO k LO[k].sec.toNat; simp only [List.length_map, List.length_cons, List.length_nil]; omega) rfl⟩, ?_⟩; conv => whnf)
    | (refine ⟨Nat.le_refl _, ?_⟩; conv => whnf)
    | (refine ⟨⟨(by simp only [List.length_map, List.length_append]; omega), cap_ok (by skip; simp only [List.length_map, List.length_cons, List.length_nil, List.length_append]; omega) rfl⟩, ?_⟩; conv => whnf)
    | (refine ⟨cap_ok (by skip; simp only [List.length_map, List.length_cons, List.length_nil, List.length_append]; omega) rfl, ?_⟩; conv => whnf)
    | (refine wrap64 (by omega) ?_; conv => whnf)
    | (exfalso; simp only [List.length_map, List.length_cons, List.length_nil, List.length_append] at h; omega)
    | ((with_reducible refine endx_go ?_); first | (have he : mayR l LO SET t ST.length = some c := (by rw [show ST.length = j by omega]; exact hI2.2.2); refine endx2 ?_; rw [he]; rfl; done) | (have he : mayR l LO SET t ST.length = none := mayR_stop hI2.2.2 (fun e => absurd (hne (by omega) e) (by assumption)) ((hm (by omega)).trans (by assumption)) (by omega); refine endx2 ?_; rw [he]; rfl; done))
    | (refine ⟨rfl, ?_⟩; conv => whnf)
    | fail
    )

theorem c18x (s t : Bs) (l : List Wr) (r : Int) (hsm : smallB s l = true) (ht : t.length < 1000000) (h : ¬ mErr s l r t = 0) : Fn 18 [.str s, .fs (l.map Wr.enc), i r, .str t] (.tup [i 0, i (mErr s l r t)]) := by
  by_cases h0 : reachErr s l r = 0
  · exact c18f s t l r hsm ht h0 (by unfold mErr at h; rw [h0] at h; exact h)
  · exact c18e s t l r hsm ht h0 h
/-- What MayBe counts. -/
def mayC2 (s : Bs) (l : List Wr) (r : Int) (t : Bs) : Option Nat := mayR l (loose l r.toNat) (wrote s (l.take (settled l r.toNat))) t (s.length / 64)
theorem c18o (s t : Bs) (l : List Wr) (r : Int) (hsm : smallB s l = true) (h : mErr s l r t = 0) : Fn 18 [.str s, .fs (l.map Wr.enc), i r, .str t] (.tup [i (mayE (mayC2 s l r t)).1, i (mayE (mayC2 s l r t)).2]) := by
  obtain ⟨hs1, hs2, hs3⟩ := smallB_ok hsm
  obtain ⟨h1, h2, h3⟩ := mErr_ok h
  have hro := reachErr_ok h1
  have hE := ev_of hsm hro.1
  have hwl : (wrS s l (settled l r.toNat)).length = s.length / 64 := (wrS_ok hE.hi _).2.2
  have h64 := (diskErr_ok (evsErr_ok hro.1).1).2.1
  have hlo := lo_okE hE (r := r.toNat)
  have := c18g s t l r (wrS s l (settled l r.toNat)) (loose l r.toNat) (wrote s (l.take (settled l r.toNat))) (by omega) (by omega) (by unfold mErr at h; rw [h1] at h; exact h)
    (c69m s l r hsm h1) (by omega) (loose_bd hE.hb hE.hl (r := r.toNat) (by omega)) (by rw [hwl]; exact hlo) (by rw [hwl]; exact fun x hx => c70q hE _ _ x hx) (by rw [hwl, stOf_len, h3]) (fun j hj => wrS_at hE.hi h64 hj)
  rw [hwl] at this
  exact this
theorem c21o (s t : Bs) (l : List Wr) (r : Int) (hsm : smallB s l = true) (h : mErr s l r t = 0) : Fn 21 [.str s, .fs (l.map Wr.enc), i r, .str t] (.tup [i (mayN (mayC2 s l r t)).1, .bool (mayN (mayC2 s l r t)).2]) := by
  obtain ⟨h1, h2, h3⟩ := mErr_ok h
  have hro := reachErr_ok h1
  exact c21 s t l r (ev_of hsm hro.1) ⟨hro.2.1, hro.2.2⟩ h3
attribute [local irreducible] mayC2 mErr smallB

end Go.Proofs.YtpblmdolgocpaaaDoor

/-! Wy -/
namespace Go.Proofs.YtpblmdolgocpaaaDoor
open Go Dw
set_option maxRecDepth 10000
set_option linter.unusedVariables false
set_option linter.unusedSimpArgs false
attribute [local irreducible] Run
set_option maxHeartbeats 4000000

attribute [local irreducible] sec stK put patch wrote pat wr

theorem smallB_nl {s : Bs} (h : smallB s [] = true) : s.length ≤ 2560 := (smallB_ok h).1
theorem c18s {s t : Bs} {l : List Wr} {r : Int} {n : Nat} (hsm : smallB s l = true) (h : mErr s l r t = 0) (hm : mayC2 s l r t = some n) : Fn 18 [.str s, .fs (l.map Wr.enc), i r, .str t] (.tup [i n, i 0]) := by
  have := c18o s t l r hsm h; rw [hm] at this; exact this
theorem c18n {s t : Bs} {l : List Wr} {r : Int} (hsm : smallB s l = true) (h : mErr s l r t = 0) (hm : mayC2 s l r t = none) : Fn 18 [.str s, .fs (l.map Wr.enc), i r, .str t] (.tup [i 0, i 19]) := by
  have := c18o s t l r hsm h; rw [hm] at this; exact this
theorem c21s {s t : Bs} {l : List Wr} {r : Int} {n : Nat} (hsm : smallB s l = true) (h : mErr s l r t = 0) (hm : mayC2 s l r t = some n) : Fn 21 [.str s, .fs (l.map Wr.enc), i r, .str t] (.tup [i n, .bool true]) := by
  have := c21o s t l r hsm h; rw [hm] at this; exact this
theorem c21n {s t : Bs} {l : List Wr} {r : Int} (hsm : smallB s l = true) (h : mErr s l r t = 0) (hm : mayC2 s l r t = none) : Fn 21 [.str s, .fs (l.map Wr.enc), i r, .str t] (.tup [i 0, .bool false]) := by
  have := c21o s t l r hsm h; rw [hm] at this; exact this
attribute [local irreducible] reachErr diskErr mErr mayC2 smallB

theorem c4n1 (s t : Bs) (l : List Wr) (r : Int) (h1 : smallB s l = false) : Fn 4 [.str s, .fs (l.map Wr.enc), .agg [i r, .str t]] (.bool true) := by
  refine run_walkF eok Tryd.func4 rfl (by kernel_rfl) ?_
  conv => whnf
  repeat' (first
    | ((with_reducible refine on_dec_t (by assumption) ?_); conv => whnf)
    | ((with_reducible refine on_dec_f (by assumption) ?_); conv => whnf)
    | ((with_reducible refine onBool_t (by assumption) ?_); conv => whnf)
    | ((with_reducible refine onBool_f (by assumption) ?_); conv => whnf)
    | ((with_reducible refine on_nt (by assumption) ?_); conv => whnf)
    | ((with_reducible refine on_nf (by assumption) ?_); conv => whnf)
    | ((with_reducible refine on_ndec_t (by first | assumption | rfl) ?_); conv => whnf)
    | ((with_reducible refine on_ndec_f (by assumption) ?_); conv => whnf)
    | ((with_reducible refine on_dec_t rfl ?_); conv => whnf)
    | ((with_reducible refine on_dec_f ?_ ?_); (focus ((try simp only [List.length_map, List.length_cons, List.length_nil, List.length_append]); omega)); conv => whnf)
    | ((with_reducible refine on_dec_t ?_ ?_); (focus ((try simp only [List.length_map, List.length_cons, List.length_nil, List.length_append]); omega)); conv => whnf)
    | ((with_reducible refine on_dec (fun h => ?_) (fun h => ?_)) <;> (try simp only [List.length_map] at h) <;> conv => whnf)
    | ((with_reducible refine on_ndec (fun h => ?_) (fun h => ?_)) <;> (try simp only [List.length_map] at h) <;> conv => whnf)
    | ((with_reducible refine on_not (fun h => ?_) (fun h => ?_)) <;> conv => whnf)
    | ((with_reducible refine onBool_split (fun h => ?_) (fun h => ?_)) <;> conv => whnf)
    | ((with_reducible refine call_go ?_); (first | refine call_step (run_data (xs := []) c11 _) ?_ | refine call_step (run_view (c12 s l) rfl rfl) ?_ | refine call_step (run_view (c12 t []) rfl rfl) ?_ | refine call_step (run_viewF (c14 l (by omega)) rfl) ?_ | refine call_step (run_view (c19q h1 r) rfl rfl) ?_ | refine call_step (run_view (c20 t (by omega)) rfl rfl) ?_); conv => whnf)
    | (refine ⟨[], [(4, 2), (6, 2)], (by decide +kernel), ?_⟩; conv => whnf)
    | (refine ⟨⟨(by first | rfl | (simp; done)), cap_ok (by simp only [List.length_map, List.length_cons, List.length_nil, List.length_append]; omega) rfl⟩, ?_⟩; conv => whnf)
    | (refine ⟨mem_one ⟨rfl, rfl⟩, ?_⟩; conv => whnf)
    | (refine ⟨(by intro y hy; obtain ⟨x, _, rfl⟩ := List.mem_map.1 hy; first | rfl | exact ⟨rfl, rfl⟩), ?_⟩; conv => whnf)
    | (refine ⟨cap_ok (by first | omega | (simp only [List.length_map]; omega)) rfl, ?_⟩; conv => whnf)
    | (refine ix_map (by omega) ?_; conv => whnf)
    | (refine ix_str (by omega) ?_; conv => whnf)
    | (refine wrap64 (by omega) ?_; conv => whnf)
    | (exfalso; simp only [List.length_map, List.length_cons, List.length_nil, List.length_append] at h; omega)
    | ((with_reducible refine endx_go ?_); first | (exact endx rfl; done) | (exact endx (congrArg D.bool (decide_eq_true (by omega))); done))
    | (refine ⟨rfl, ?_⟩; conv => whnf)
    | fail
    )

theorem c4n2 (s t : Bs) (l : List Wr) (r : Int) (h1 : smallB s l = true) (h2 : smallB t [] = false) : Fn 4 [.str s, .fs (l.map Wr.enc), .agg [i r, .str t]] (.bool true) := by
  refine run_walkF eok Tryd.func4 rfl (by kernel_rfl) ?_
  conv => whnf
  repeat' (first
    | ((with_reducible refine on_dec_t (by assumption) ?_); conv => whnf)
    | ((with_reducible refine on_dec_f (by assumption) ?_); conv => whnf)
    | ((with_reducible refine onBool_t (by assumption) ?_); conv => whnf)
    | ((with_reducible refine onBool_f (by assumption) ?_); conv => whnf)
    | ((with_reducible refine on_nt (by assumption) ?_); conv => whnf)
    | ((with_reducible refine on_nf (by assumption) ?_); conv => whnf)
    | ((with_reducible refine on_ndec_t (by first | assumption | rfl) ?_); conv => whnf)
    | ((with_reducible refine on_ndec_f (by assumption) ?_); conv => whnf)
    | ((with_reducible refine on_dec_t rfl ?_); conv => whnf)
    | ((with_reducible refine on_dec_f ?_ ?_); (focus ((try simp only [List.length_map, List.length_cons, List.length_nil, List.length_append]); omega)); conv => whnf)
    | ((with_reducible refine on_dec_t ?_ ?_); (focus ((try simp only [List.length_map, List.length_cons, List.length_nil, List.length_append]); omega)); conv => whnf)
    | ((with_reducible refine on_dec (fun h => ?_) (fun h => ?_)) <;> (try simp only [List.length_map] at h) <;> conv => whnf)
    | ((with_reducible refine on_ndec (fun h => ?_) (fun h => ?_)) <;> (try simp only [List.length_map] at h) <;> conv => whnf)
    | ((with_reducible refine on_not (fun h => ?_) (fun h => ?_)) <;> conv => whnf)
    | ((with_reducible refine onBool_split (fun h => ?_) (fun h => ?_)) <;> conv => whnf)
    | ((with_reducible refine call_go ?_); (first | refine call_step (run_data (xs := []) c11 _) ?_ | refine call_step (run_view (c12 s l) rfl rfl) ?_ | refine call_step (run_view (c12 t []) rfl rfl) ?_ | refine call_step (run_viewF (c14 l (by omega)) rfl) ?_ | refine call_step (run_view (c19q h1 r) rfl rfl) ?_ | refine call_step (run_view (c20 t (by omega)) rfl rfl) ?_); conv => whnf)
    | (refine ⟨[], [(4, 2), (6, 2)], (by decide +kernel), ?_⟩; conv => whnf)
    | (refine ⟨⟨(by first | rfl | (simp; done)), cap_ok (by simp only [List.length_map, List.length_cons, List.length_nil, List.length_append]; omega) rfl⟩, ?_⟩; conv => whnf)
    | (refine ⟨mem_one ⟨rfl, rfl⟩, ?_⟩; conv => whnf)
    | (refine ⟨(by intro y hy; obtain ⟨x, _, rfl⟩ := List.mem_map.1 hy; first | rfl | exact ⟨rfl, rfl⟩), ?_⟩; conv => whnf)
    | (refine ⟨cap_ok (by first | omega | (simp only [List.length_map]; omega)) rfl, ?_⟩; conv => whnf)
    | (refine ix_map (by omega) ?_; conv => whnf)
    | (refine ix_str (by omega) ?_; conv => whnf)
    | (refine wrap64 (by omega) ?_; conv => whnf)
    | (exfalso; simp only [List.length_map, List.length_cons, List.length_nil, List.length_append] at h; omega)
    | ((with_reducible refine endx_go ?_); first | (exact endx rfl; done) | (exact endx (congrArg D.bool (decide_eq_true (by omega))); done))
    | (refine ⟨rfl, ?_⟩; conv => whnf)
    | fail
    )

theorem c4a (s t : Bs) (l : List Wr) (r : Int) (h1 : smallB s l = true) (h2 : smallB t [] = true) (h3 : ¬ reachErr s l r = 0) : Fn 4 [.str s, .fs (l.map Wr.enc), .agg [i r, .str t]] (.bool true) := by
  obtain ⟨hs1, hs2, hs3⟩ := smallB_ok h1; have ht := smallB_nl h2; have he := mErr_r (t := t) h3; have hm : ¬ mErr s l r t = 0 := (by rw [he]; exact h3)
  refine run_walkF eok Tryd.func4 rfl (by kernel_rfl) ?_
  conv => whnf
  repeat' (first
    | ((with_reducible refine on_dec_t (by assumption) ?_); conv => whnf)
    | ((with_reducible refine on_dec_f (by assumption) ?_); conv => whnf)
    | ((with_reducible refine onBool_t (by assumption) ?_); conv => whnf)
    | ((with_reducible refine onBool_f (by assumption) ?_); conv => whnf)
    | ((with_reducible refine on_nt (by assumption) ?_); conv => whnf)
    | ((with_reducible refine on_nf (by assumption) ?_); conv => whnf)
    | ((with_reducible refine on_ndec_t (by first | assumption | rfl) ?_); conv => whnf)
    | ((with_reducible refine on_ndec_f (by assumption) ?_); conv => whnf)
    | ((with_reducible refine on_dec_t rfl ?_); conv => whnf)
    | ((with_reducible refine on_dec_f ?_ ?_); (focus ((try simp only [List.length_map, List.length_cons, List.length_nil, List.length_append]); omega)); conv => whnf)
    | ((with_reducible refine on_dec_t ?_ ?_); (focus ((try simp only [List.length_map, List.length_cons, List.length_nil, List.length_append]); omega)); conv => whnf)
    | ((with_reducible refine on_dec (fun h => ?_) (fun h => ?_)) <;> (try simp only [List.length_map] at h) <;> conv => whnf)
    | ((with_reducible refine on_ndec (fun h => ?_) (fun h => ?_)) <;> (try simp only [List.length_map] at h) <;> conv => whnf)
    | ((with_reducible refine on_not (fun h => ?_) (fun h => ?_)) <;> conv => whnf)
    | ((with_reducible refine onBool_split (fun h => ?_) (fun h => ?_)) <;> conv => whnf)
    | ((with_reducible refine call_go ?_); (first | refine call_step (run_data (xs := []) c11 _) ?_ | refine call_step (run_view (c12 s l) rfl rfl) ?_ | refine call_step (run_view (c12 t []) rfl rfl) ?_ | refine call_step (run_viewF (c14 l (by omega)) rfl) ?_ | refine call_step (run_view (c18x s t l r h1 (by omega) hm) rfl rfl) ?_ | refine call_step (run_view (c19q h1 r) rfl rfl) ?_ | refine call_step (run_view (c20 t (by omega)) rfl rfl) ?_); conv => whnf)
    | (refine ⟨[], [(4, 2), (6, 2)], (by decide +kernel), ?_⟩; conv => whnf)
    | (refine ⟨⟨(by first | rfl | (simp; done)), cap_ok (by simp only [List.length_map, List.length_cons, List.length_nil, List.length_append]; omega) rfl⟩, ?_⟩; conv => whnf)
    | (refine ⟨mem_one ⟨rfl, rfl⟩, ?_⟩; conv => whnf)
    | (refine ⟨(by intro y hy; obtain ⟨x, _, rfl⟩ := List.mem_map.1 hy; first | rfl | exact ⟨rfl, rfl⟩), ?_⟩; conv => whnf)
    | (refine ⟨cap_ok (by first | omega | (simp only [List.length_map]; omega)) rfl, ?_⟩; conv => whnf)
    | (refine ix_map (by omega) ?_; conv => whnf)
    | (refine ix_str (by omega) ?_; conv => whnf)
    | (refine wrap64 (by omega) ?_; conv => whnf)
    | (exfalso; simp only [List.length_map, List.length_cons, List.length_nil, List.length_append] at h; omega)
    | ((with_reducible refine endx_go ?_); first | (exact endx rfl; done) | (exact endx (congrArg D.bool (decide_eq_true (by omega))); done))
    | (refine ⟨rfl, ?_⟩; conv => whnf)
    | fail
    )

theorem c4b (s t : Bs) (l : List Wr) (r : Int) (h1 : smallB s l = true) (h2 : smallB t [] = true) (h3 : reachErr s l r = 0) (h4 : ¬ diskErr t = 0) : Fn 4 [.str s, .fs (l.map Wr.enc), .agg [i r, .str t]] (.bool true) := by
  obtain ⟨hs1, hs2, hs3⟩ := smallB_ok h1; have ht := smallB_nl h2; have he := mErr_d h3 h4; have hm : ¬ mErr s l r t = 0 := (by rw [he]; exact h4)
  refine run_walkF eok Tryd.func4 rfl (by kernel_rfl) ?_
  conv => whnf
  repeat' (first
    | ((with_reducible refine on_dec_t (by assumption) ?_); conv => whnf)
    | ((with_reducible refine on_dec_f (by assumption) ?_); conv => whnf)
    | ((with_reducible refine onBool_t (by assumption) ?_); conv => whnf)
    | ((with_reducible refine onBool_f (by assumption) ?_); conv => whnf)
    | ((with_reducible refine on_nt (by assumption) ?_); conv => whnf)
    | ((with_reducible refine on_nf (by assumption) ?_); conv => whnf)
    | ((with_reducible refine on_ndec_t (by first | assumption | rfl) ?_); conv => whnf)
    | ((with_reducible refine on_ndec_f (by assumption) ?_); conv => whnf)
    | ((with_reducible refine on_dec_t rfl ?_); conv => whnf)
    | ((with_reducible refine on_dec_f ?_ ?_); (focus ((try simp only [List.length_map, List.length_cons, List.length_nil, List.length_append]); omega)); conv => whnf)
    | ((with_reducible refine on_dec_t ?_ ?_); (focus ((try simp only [List.length_map, List.length_cons, List.length_nil, List.length_append]); omega)); conv => whnf)
    | ((with_reducible refine on_dec (fun h => ?_) (fun h => ?_)) <;> (try simp only [List.length_map] at h) <;> conv => whnf)
    | ((with_reducible refine on_ndec (fun h => ?_) (fun h => ?_)) <;> (try simp only [List.length_map] at h) <;> conv => whnf)
    | ((with_reducible refine on_not (fun h => ?_) (fun h => ?_)) <;> conv => whnf)
    | ((with_reducible refine onBool_split (fun h => ?_) (fun h => ?_)) <;> conv => whnf)
    | ((with_reducible refine call_go ?_); (first | refine call_step (run_data (xs := []) c11 _) ?_ | refine call_step (run_view (c12 s l) rfl rfl) ?_ | refine call_step (run_view (c12 t []) rfl rfl) ?_ | refine call_step (run_viewF (c14 l (by omega)) rfl) ?_ | refine call_step (run_view (c18x s t l r h1 (by omega) hm) rfl rfl) ?_ | refine call_step (run_view (c19q h1 r) rfl rfl) ?_ | refine call_step (run_view (c20 t (by omega)) rfl rfl) ?_); conv => whnf)
    | (refine ⟨[], [(4, 2), (6, 2)], (by decide +kernel), ?_⟩; conv => whnf)
    | (refine ⟨⟨(by first | rfl | (simp; done)), cap_ok (by simp only [List.length_map, List.length_cons, List.length_nil, List.length_append]; omega) rfl⟩, ?_⟩; conv => whnf)
    | (refine ⟨mem_one ⟨rfl, rfl⟩, ?_⟩; conv => whnf)
    | (refine ⟨(by intro y hy; obtain ⟨x, _, rfl⟩ := List.mem_map.1 hy; first | rfl | exact ⟨rfl, rfl⟩), ?_⟩; conv => whnf)
    | (refine ⟨cap_ok (by first | omega | (simp only [List.length_map]; omega)) rfl, ?_⟩; conv => whnf)
    | (refine ix_map (by omega) ?_; conv => whnf)
    | (refine ix_str (by omega) ?_; conv => whnf)
    | (refine wrap64 (by omega) ?_; conv => whnf)
    | (exfalso; simp only [List.length_map, List.length_cons, List.length_nil, List.length_append] at h; omega)
    | ((with_reducible refine endx_go ?_); first | (exact endx rfl; done) | (exact endx (congrArg D.bool (decide_eq_true (by omega))); done))
    | (refine ⟨rfl, ?_⟩; conv => whnf)
    | fail
    )

theorem c4c (s t : Bs) (l : List Wr) (r : Int) (h1 : smallB s l = true) (h2 : smallB t [] = true) (h3 : reachErr s l r = 0) (h4 : diskErr t = 0) (h5 : ¬ (t.length : Int) = s.length) : Fn 4 [.str s, .fs (l.map Wr.enc), .agg [i r, .str t]] (.bool true) := by
  obtain ⟨hs1, hs2, hs3⟩ := smallB_ok h1; have ht := smallB_nl h2; have he := mErr_l h3 h4 h5; have hm : ¬ mErr s l r t = 0 := (by rw [he]; decide)
  refine run_walkF eok Tryd.func4 rfl (by kernel_rfl) ?_
  conv => whnf
  repeat' (first
    | ((with_reducible refine on_dec_t (by assumption) ?_); conv => whnf)
    | ((with_reducible refine on_dec_f (by assumption) ?_); conv => whnf)
    | ((with_reducible refine onBool_t (by assumption) ?_); conv => whnf)
    | ((with_reducible refine onBool_f (by assumption) ?_); conv => whnf)
    | ((with_reducible refine on_nt (by assumption) ?_); conv => whnf)
    | ((with_reducible refine on_nf (by assumption) ?_); conv => whnf)
    | ((with_reducible refine on_ndec_t (by first | assumption | rfl) ?_); conv => whnf)
    | ((with_reducible refine on_ndec_f (by assumption) ?_); conv => whnf)
    | ((with_reducible refine on_dec_t rfl ?_); conv => whnf)
    | ((with_reducible refine on_dec_f ?_ ?_); (focus ((try simp only [List.length_map, List.length_cons, List.length_nil, List.length_append]); omega)); conv => whnf)
    | ((with_reducible refine on_dec_t ?_ ?_); (focus ((try simp only [List.length_map, List.length_cons, List.length_nil, List.length_append]); omega)); conv => whnf)
    | ((with_reducible refine on_dec (fun h => ?_) (fun h => ?_)) <;> (try simp only [List.length_map] at h) <;> conv => whnf)
    | ((with_reducible refine on_ndec (fun h => ?_) (fun h => ?_)) <;> (try simp only [List.length_map] at h) <;> conv => whnf)
    | ((with_reducible refine on_not (fun h => ?_) (fun h => ?_)) <;> conv => whnf)
    | ((with_reducible refine onBool_split (fun h => ?_) (fun h => ?_)) <;> conv => whnf)
    | ((with_reducible refine call_go ?_); (first | refine call_step (run_data (xs := []) c11 _) ?_ | refine call_step (run_view (c12 s l) rfl rfl) ?_ | refine call_step (run_view (c12 t []) rfl rfl) ?_ | refine call_step (run_viewF (c14 l (by omega)) rfl) ?_ | refine call_step (run_view (c18x s t l r h1 (by omega) hm) rfl rfl) ?_ | refine call_step (run_view (c19q h1 r) rfl rfl) ?_ | refine call_step (run_view (c20 t (by omega)) rfl rfl) ?_); conv => whnf)
    | (refine ⟨[], [(4, 2), (6, 2)], (by decide +kernel), ?_⟩; conv => whnf)
    | (refine ⟨⟨(by first | rfl | (simp; done)), cap_ok (by simp only [List.length_map, List.length_cons, List.length_nil, List.length_append]; omega) rfl⟩, ?_⟩; conv => whnf)
    | (refine ⟨mem_one ⟨rfl, rfl⟩, ?_⟩; conv => whnf)
    | (refine ⟨(by intro y hy; obtain ⟨x, _, rfl⟩ := List.mem_map.1 hy; first | rfl | exact ⟨rfl, rfl⟩), ?_⟩; conv => whnf)
    | (refine ⟨cap_ok (by first | omega | (simp only [List.length_map]; omega)) rfl, ?_⟩; conv => whnf)
    | (refine ix_map (by omega) ?_; conv => whnf)
    | (refine ix_str (by omega) ?_; conv => whnf)
    | (refine wrap64 (by omega) ?_; conv => whnf)
    | (exfalso; simp only [List.length_map, List.length_cons, List.length_nil, List.length_append] at h; omega)
    | ((with_reducible refine endx_go ?_); first | (exact endx rfl; done) | (exact endx (congrArg D.bool (decide_eq_true (by omega))); done))
    | (refine ⟨rfl, ?_⟩; conv => whnf)
    | fail
    )

theorem c4d (s t : Bs) (l : List Wr) (r : Int) (h1 : smallB s l = true) (h2 : smallB t [] = true) (h3 : reachErr s l r = 0) (h4 : diskErr t = 0) (h5 : (t.length : Int) = s.length) (h6 : mayC2 s l r t = none) : Fn 4 [.str s, .fs (l.map Wr.enc), .agg [i r, .str t]] (.bool true) := by
  obtain ⟨hs1, hs2, hs3⟩ := smallB_ok h1; have ht := smallB_nl h2; have hm := mErr_o h3 h4 h5
  refine run_walkF eok Tryd.func4 rfl (by kernel_rfl) ?_
  conv => whnf
  repeat' (first
    | ((with_reducible refine on_dec_t (by assumption) ?_); conv => whnf)
    | ((with_reducible refine on_dec_f (by assumption) ?_); conv => whnf)
    | ((with_reducible refine onBool_t (by assumption) ?_); conv => whnf)
    | ((with_reducible refine onBool_f (by assumption) ?_); conv => whnf)
    | ((with_reducible refine on_nt (by assumption) ?_); conv => whnf)
    | ((with_reducible refine on_nf (by assumption) ?_); conv => whnf)
    | ((with_reducible refine on_ndec_t (by first | assumption | rfl) ?_); conv => whnf)
    | ((with_reducible refine on_ndec_f (by assumption) ?_); conv => whnf)
    | ((with_reducible refine on_dec_t rfl ?_); conv => whnf)
    | ((with_reducible refine on_dec_f ?_ ?_); (focus ((try simp only [List.length_map, List.length_cons, List.length_nil, List.length_append]); omega)); conv => whnf)
    | ((with_reducible refine on_dec_t ?_ ?_); (focus ((try simp only [List.length_map, List.length_cons, List.length_nil, List.length_append]); omega)); conv => whnf)
    | ((with_reducible refine on_dec (fun h => ?_) (fun h => ?_)) <;> (try simp only [List.length_map] at h) <;> conv => whnf)
    | ((with_reducible refine on_ndec (fun h => ?_) (fun h => ?_)) <;> (try simp only [List.length_map] at h) <;> conv => whnf)
    | ((with_reducible refine on_not (fun h => ?_) (fun h => ?_)) <;> conv => whnf)
    | ((with_reducible refine onBool_split (fun h => ?_) (fun h => ?_)) <;> conv => whnf)
    | ((with_reducible refine call_go ?_); (first | refine call_step (run_data (xs := []) c11 _) ?_ | refine call_step (run_view (c12 s l) rfl rfl) ?_ | refine call_step (run_view (c12 t []) rfl rfl) ?_ | refine call_step (run_viewF (c14 l (by omega)) rfl) ?_ | refine call_step (run_view (c18n h1 hm h6) rfl rfl) ?_ | refine call_step (run_view (c19q h1 r) rfl rfl) ?_ | refine call_step (run_view (c20 t (by omega)) rfl rfl) ?_ | refine call_step (run_view (c21n h1 hm h6) rfl rfl) ?_); conv => whnf)
    | (refine ⟨[], [(4, 2), (6, 2)], (by decide +kernel), ?_⟩; conv => whnf)
    | (refine ⟨⟨(by first | rfl | (simp; done)), cap_ok (by simp only [List.length_map, List.length_cons, List.length_nil, List.length_append]; omega) rfl⟩, ?_⟩; conv => whnf)
    | (refine ⟨mem_one ⟨rfl, rfl⟩, ?_⟩; conv => whnf)
    | (refine ⟨(by intro y hy; obtain ⟨x, _, rfl⟩ := List.mem_map.1 hy; first | rfl | exact ⟨rfl, rfl⟩), ?_⟩; conv => whnf)
    | (refine ⟨cap_ok (by first | omega | (simp only [List.length_map]; omega)) rfl, ?_⟩; conv => whnf)
    | (refine ix_map (by omega) ?_; conv => whnf)
    | (refine ix_str (by omega) ?_; conv => whnf)
    | (refine wrap64 (by omega) ?_; conv => whnf)
    | (exfalso; simp only [List.length_map, List.length_cons, List.length_nil, List.length_append] at h; omega)
    | ((with_reducible refine endx_go ?_); first | (exact endx rfl; done) | (exact endx (congrArg D.bool (decide_eq_true (by omega))); done))
    | (refine ⟨rfl, ?_⟩; conv => whnf)
    | fail
    )

theorem c4e (s t : Bs) (l : List Wr) (r : Int) (h1 : smallB s l = true) (h2 : smallB t [] = true) (n : Nat) (h3 : reachErr s l r = 0) (h4 : diskErr t = 0) (h5 : (t.length : Int) = s.length) (h6 : mayC2 s l r t = some n) : Fn 4 [.str s, .fs (l.map Wr.enc), .agg [i r, .str t]] (.bool true) := by
  obtain ⟨hs1, hs2, hs3⟩ := smallB_ok h1; have ht := smallB_nl h2; have hm := mErr_o h3 h4 h5
  refine run_walkF eok Tryd.func4 rfl (by kernel_rfl) ?_
  conv => whnf
  repeat' (first
    | ((with_reducible refine on_dec_t (by assumption) ?_); conv => whnf)
    | ((with_reducible refine on_dec_f (by assumption) ?_); conv => whnf)
    | ((with_reducible refine onBool_t (by assumption) ?_); conv => whnf)
    | ((with_reducible refine onBool_f (by assumption) ?_); conv => whnf)
    | ((with_reducible refine on_nt (by assumption) ?_); conv => whnf)
    | ((with_reducible refine on_nf (by assumption) ?_); conv => whnf)
    | ((with_reducible refine on_ndec_t (by first | assumption | rfl) ?_); conv => whnf)
    | ((with_reducible refine on_ndec_f (by assumption) ?_); conv => whnf)
    | ((with_reducible refine on_dec_t rfl ?_); conv => whnf)
    | ((with_reducible refine on_dec_f ?_ ?_); (focus ((try simp only [List.length_map, List.length_cons, List.length_nil, List.length_append]); omega)); conv => whnf)
    | ((with_reducible refine on_dec_t ?_ ?_); (focus ((try simp only [List.length_map, List.length_cons, List.length_nil, List.length_append]); omega)); conv => whnf)
    | ((with_reducible refine on_dec (fun h => ?_) (fun h => ?_)) <;> (try simp only [List.length_map] at h) <;> conv => whnf)
    | ((with_reducible refine on_ndec (fun h => ?_) (fun h => ?_)) <;> (try simp only [List.length_map] at h) <;> conv => whnf)
    | ((with_reducible refine on_not (fun h => ?_) (fun h => ?_)) <;> conv => whnf)
    | ((with_reducible refine onBool_split (fun h => ?_) (fun h => ?_)) <;> conv => whnf)
    | ((with_reducible refine call_go ?_); (first | refine call_step (run_data (xs := []) c11 _) ?_ | refine call_step (run_view (c12 s l) rfl rfl) ?_ | refine call_step (run_view (c12 t []) rfl rfl) ?_ | refine call_step (run_viewF (c14 l (by omega)) rfl) ?_ | refine call_step (run_view (c18s h1 hm h6) rfl rfl) ?_ | refine call_step (run_view (c19q h1 r) rfl rfl) ?_ | refine call_step (run_view (c20 t (by omega)) rfl rfl) ?_ | refine call_step (run_view (c21s h1 hm h6) rfl rfl) ?_); conv => whnf)
    | (refine ⟨[], [(4, 2), (6, 2)], (by decide +kernel), ?_⟩; conv => whnf)
    | (refine ⟨⟨(by first | rfl | (simp; done)), cap_ok (by simp only [List.length_map, List.length_cons, List.length_nil, List.length_append]; omega) rfl⟩, ?_⟩; conv => whnf)
    | (refine ⟨mem_one ⟨rfl, rfl⟩, ?_⟩; conv => whnf)
    | (refine ⟨(by intro y hy; obtain ⟨x, _, rfl⟩ := List.mem_map.1 hy; first | rfl | exact ⟨rfl, rfl⟩), ?_⟩; conv => whnf)
    | (refine ⟨cap_ok (by first | omega | (simp only [List.length_map]; omega)) rfl, ?_⟩; conv => whnf)
    | (refine ix_map (by omega) ?_; conv => whnf)
    | (refine ix_str (by omega) ?_; conv => whnf)
    | (refine wrap64 (by omega) ?_; conv => whnf)
    | (exfalso; simp only [List.length_map, List.length_cons, List.length_nil, List.length_append] at h; omega)
    | ((with_reducible refine endx_go ?_); first | (exact endx rfl; done) | (exact endx (congrArg D.bool (decide_eq_true (by omega))); done))
    | (refine ⟨rfl, ?_⟩; conv => whnf)
    | fail
    )

theorem c4 (s t : Bs) (l : List Wr) (r : Int) : Fn 4 [.str s, .fs (l.map Wr.enc), .agg [i r, .str t]] (.bool true) := by
  cases h1 : smallB s l with
  | false => exact c4n1 s t l r h1
  | true =>
    cases h2 : smallB t [] with
    | false => exact c4n2 s t l r h1 h2
    | true =>
      by_cases h3 : reachErr s l r = 0
      · by_cases h4 : diskErr t = 0
        · by_cases h5 : (t.length : Int) = s.length
          · cases h6 : mayC2 s l r t with
            | none => exact c4d s t l r h1 h2 h3 h4 h5 h6
            | some n => exact c4e s t l r h1 h2 n h3 h4 h5 h6
          · exact c4c s t l r h1 h2 h3 h4 h5
        · exact c4b s t l r h1 h2 h3 h4
      · exact c4a s t l r h1 h2 h3

end Go.Proofs.YtpblmdolgocpaaaDoor

/-! Wz -/
namespace Go.Proofs.YtpblmdolgocpaaaDoor
open Go Dw
set_option maxRecDepth 10000
set_option linter.unusedVariables false
set_option linter.unusedSimpArgs false
attribute [local irreducible] Run
set_option maxHeartbeats 4000000

attribute [local irreducible] sec stK put patch wrote pat wr

theorem looseR_ok {s : Bs} {l : List Wr} {r : Int} (h : reachErr s l r = 0) : looseR s l r = loose l r.toNat := if_pos h
theorem looseR_no {s : Bs} {l : List Wr} {r : Int} (h : ¬ reachErr s l r = 0) : looseR s l r = [] := if_neg h
theorem failR_ok {s : Bs} {l : List Wr} {x : Fl} (h : failErr s l x = 0) : failR s l x = failP l (loose l x.reached.toNat) x.kept (wrote s (l.take (settled l x.reached.toNat))) := if_pos h
theorem failR_no {s : Bs} {l : List Wr} {x : Fl} (h : ¬ failErr s l x = 0) : failR s l x = [] := if_neg h
theorem c30 (s : Bs) (l : List Wr) (x : Fl) (hsm : smallB s l = true) (hk : x.kept.length < 1000000) : Fn 30 [.str s, .fs (l.map Wr.enc), x.enc] (.tup [.str (failR s l x), i (failErr s l x)]) := by
  by_cases h0 : reachErr s l x.reached = 0
  · by_cases h1 : asc (loose l x.reached.toNat).length x.kept = 0
    · exact c30m s l x hsm h0 hk h1
    · exact c30a s l x hsm h0 hk h1
  · exact c30e s l x hsm h0
theorem failErr_ok {s : Bs} {l : List Wr} {x : Fl} (h : failErr s l x = 0) : reachErr s l x.reached = 0 ∧ asc (loose l x.reached.toNat).length x.kept = 0 := by
  by_cases h0 : reachErr s l x.reached = 0
  · rw [failErr_a h0] at h; exact ⟨h0, h⟩
  · rw [failErr_r h0] at h; exact absurd h h0
/-- The disk after a failure may be. -/
theorem fail_mayC {s : Bs} {l : List Wr} {x : Fl} (hsm : smallB s l = true) (h : failErr s l x = 0) : mErr s l x.reached (failR s l x) = 0 ∧ ∃ n, mayC2 s l x.reached (failR s l x) = some n := by
  obtain ⟨h0, h1⟩ := failErr_ok h
  have hro := reachErr_ok h0
  have hE := ev_of hsm hro.1
  have h64 := (diskErr_ok (evsErr_ok hro.1).1).2.1
  obtain ⟨w1, w2, w3⟩ := wrS_ok hE.hi (settled l x.reached.toNat)
  rw [stOf_flat h64] at w1
  have hlo := lo_okE hE (r := x.reached.toNat)
  have hf := fS_ok (x := x) hE h64 x.kept.length
  rw [List.take_length] at hf
  have hlen : (failR s l x).length = s.length := by
    rw [failR_ok h, ← hf.1, flat_len hf.2.1, hf.2.2]; omega
  have hs := diskErr_ok (evsErr_ok hro.1).1
  have hd : diskErr (failR s l x) = 0 := by
    unfold diskErr
    rw [hlen, if_neg (by rintro (c | c); exact hs.1 (List.length_eq_zero_iff.1 (by rw [← hlen, c]; rfl)); exact c h64), if_neg (by omega)]
  refine ⟨mErr_o h0 hd (by omega), ?_⟩
  obtain ⟨n, hn⟩ := fail_may (l := l) (lo := loose l x.reached.toNat) (kept := x.kept) w2 (by rw [w3]; exact hlo)
  refine ⟨n, ?_⟩
  rw [mayC2, failR_ok h, ← w1, ← hn, w3]
theorem c29n {s : Bs} {l : List Wr} {r : Int} (hsm : smallB s l = true) (h : ¬ reachErr s l r = 0) : Fn 29 [.str s, .fs (l.map Wr.enc), i r] (.tup [.fs (([] : List Lo).map Lo.enc), i (reachErr s l r)]) := by
  have := c29 s l r hsm; rw [looseR_no h] at this; exact this
theorem c29o {s : Bs} {l : List Wr} {r : Int} (hsm : smallB s l = true) (h : reachErr s l r = 0) : Fn 29 [.str s, .fs (l.map Wr.enc), i r] (.tup [.fs ((loose l r.toNat).map Lo.enc), i 0]) := by
  have := c29 s l r hsm; rw [looseR_ok h, h] at this; exact this
theorem c30n {s : Bs} {l : List Wr} {x : Fl} (hsm : smallB s l = true) (hk : x.kept.length < 1000000) (h : ¬ failErr s l x = 0) : Fn 30 [.str s, .fs (l.map Wr.enc), x.enc] (.tup [.str [], i (failErr s l x)]) := by
  have := c30 s l x hsm hk; rw [failR_no h] at this; exact this
theorem c30o {s : Bs} {l : List Wr} {x : Fl} (hsm : smallB s l = true) (hk : x.kept.length < 1000000) (h : failErr s l x = 0) : Fn 30 [.str s, .fs (l.map Wr.enc), x.enc] (.tup [.str (failR s l x), i 0]) := by
  have := c30 s l x hsm hk; rw [h] at this; exact this
theorem c19z {s : Bs} {l : List Wr} {r : Int} (hsm : smallB s l = true) (h : reachErr s l r = 0) : Fn 19 [.str s, .fs (l.map Wr.enc), i r] (i 0) := by
  have := c19q hsm r; rw [h] at this; exact this
theorem c33z {s : Bs} {l : List Wr} {x : Fl} (hsm : smallB s l = true) (hk : x.kept.length < 1000000) (h : failErr s l x = 0) : Fn 33 [.str s, .fs (l.map Wr.enc), x.enc] (i 0) := by
  have := c33 s l x hsm hk; rw [h] at this; exact this
theorem c34z {s : Bs} {l : List Wr} {x : Fl} (hsm : smallB s l = true) (hk : x.kept.length < 1000000) (h : failErr s l x = 0) : Fn 34 [.str s, .fs (l.map Wr.enc), x.enc] (.str (failR s l x)) := by
  obtain ⟨h0, h1⟩ := failErr_ok h
  have hro := reachErr_ok h0
  rw [failR_ok h]
  exact c34 s l x (ev_of hsm hro.1) (diskErr_ok (evsErr_ok hro.1).1).2.1 ⟨hro.2.1, hro.2.2⟩ (fun y hy => by have := (asc_ok h1).1 y hy; omega) hk
theorem c35z {s : Bs} {l : List Wr} {r : Int} (hsm : smallB s l = true) (h : reachErr s l r = 0) : Fn 35 [.fs (l.map Wr.enc), i r] (i (settled l r.toNat : Nat)) := by
  have hro := reachErr_ok h
  exact c35q (ev_of hsm hro.1) r r.toNat (by omega) (by omega)
theorem c32z {s : Bs} {l : List Wr} {r : Int} (hsm : smallB s l = true) (h : reachErr s l r = 0) : Fn 32 [.fs (l.map Wr.enc), i r] (.fs ((loose l r.toNat).map Lo.enc)) := by
  have hro := reachErr_ok h
  exact c32q (ev_of hsm hro.1) r r.toNat (by omega) (by omega)
attribute [local irreducible] reachErr diskErr mErr mayC2 smallB failErr failR loose settled written asc failP

theorem c6n1 (s : Bs) (l : List Wr) (x : Fl) (h1 : smallB s l = false) : Fn 6 [.str s, .fs (l.map Wr.enc), x.enc] (.bool true) := by
  refine run_walkF eok Tryd.func6 rfl (by kernel_rfl) ?_
  conv => whnf
  repeat' (first
    | ((with_reducible refine on_dec_t (by assumption) ?_); conv => whnf)
    | ((with_reducible refine on_dec_f (by assumption) ?_); conv => whnf)
    | ((with_reducible refine onBool_t (by assumption) ?_); conv => whnf)
    | ((with_reducible refine onBool_f (by assumption) ?_); conv => whnf)
    | ((with_reducible refine on_nt (by assumption) ?_); conv => whnf)
    | ((with_reducible refine on_nf (by assumption) ?_); conv => whnf)
    | ((with_reducible refine on_ndec_t (by first | assumption | rfl) ?_); conv => whnf)
    | ((with_reducible refine on_ndec_f (by assumption) ?_); conv => whnf)
    | ((with_reducible refine on_dec_t rfl ?_); conv => whnf)
    | ((with_reducible refine on_dec_f ?_ ?_); (focus ((try simp only [List.length_map, List.length_cons, List.length_nil, List.length_append]); omega)); conv => whnf)
    | ((with_reducible refine on_dec_t ?_ ?_); (focus ((try simp only [List.length_map, List.length_cons, List.length_nil, List.length_append]); omega)); conv => whnf)
    | ((with_reducible refine on_dec (fun h => ?_) (fun h => ?_)) <;> (try simp only [List.length_map] at h) <;> conv => whnf)
    | ((with_reducible refine on_ndec (fun h => ?_) (fun h => ?_)) <;> (try simp only [List.length_map] at h) <;> conv => whnf)
    | ((with_reducible refine on_not (fun h => ?_) (fun h => ?_)) <;> conv => whnf)
    | ((with_reducible refine onBool_split (fun h => ?_) (fun h => ?_)) <;> conv => whnf)
    | ((with_reducible refine call_go ?_); (first | refine call_step (run_data (xs := []) c11 _) ?_ | refine call_step (run_view (c12 s l) rfl rfl) ?_ | refine call_step (run_viewF (c14 l (by omega)) rfl) ?_ | refine call_step (run_viewF (c31 x.kept (by omega)) rfl) ?_); conv => whnf)
    | (refine ⟨[], [(4, 2)], (by decide +kernel), ?_⟩; conv => whnf)
    | (refine ⟨[], [(4, 2), (6, 2), (4, 7)], (by decide +kernel), ?_⟩; conv => whnf)
    | (refine ⟨[], [], (by decide +kernel), ?_⟩; conv => whnf)
    | (refine ⟨⟨(by first | rfl | (simp; done)), cap_ok (by simp only [List.length_map, List.length_cons, List.length_nil, List.length_append]; omega) rfl⟩, ?_⟩; conv => whnf)
    | (refine ⟨mem_one ⟨rfl, rfl⟩, ?_⟩; conv => whnf)
    | (refine ⟨(by intro y hy; obtain ⟨x, _, rfl⟩ := List.mem_map.1 hy; first | rfl | exact ⟨rfl, rfl⟩), ?_⟩; conv => whnf)
    | (refine ⟨cap_ok (by first | omega | (simp only [List.length_map]; omega)) rfl, ?_⟩; conv => whnf)
    | (refine ix_map (by omega) ?_; conv => whnf)
    | (refine ix_str (by omega) ?_; conv => whnf)
    | (refine wrap64 (by omega) ?_; conv => whnf)
    | (exfalso; simp only [List.length_map, List.length_cons, List.length_nil, List.length_append] at h; omega)
    | ((with_reducible refine endx_go ?_); first | (exact endx rfl; done) | ((simp [cellsEq, cellEq] at h); done))
    | (refine ⟨rfl, ?_⟩; conv => whnf)
    | fail
    )

theorem c6n2 (s : Bs) (l : List Wr) (x : Fl) (h1 : smallB s l = true) (h2 : (300 : Int) < (x.kept.map i).length) : Fn 6 [.str s, .fs (l.map Wr.enc), x.enc] (.bool true) := by
  refine run_walkF eok Tryd.func6 rfl (by kernel_rfl) ?_
  conv => whnf
  repeat' (first
    | ((with_reducible refine on_dec_t (by assumption) ?_); conv => whnf)
    | ((with_reducible refine on_dec_f (by assumption) ?_); conv => whnf)
    | ((with_reducible refine onBool_t (by assumption) ?_); conv => whnf)
    | ((with_reducible refine onBool_f (by assumption) ?_); conv => whnf)
    | ((with_reducible refine on_nt (by assumption) ?_); conv => whnf)
    | ((with_reducible refine on_nf (by assumption) ?_); conv => whnf)
    | ((with_reducible refine on_ndec_t (by first | assumption | rfl) ?_); conv => whnf)
    | ((with_reducible refine on_ndec_f (by assumption) ?_); conv => whnf)
    | ((with_reducible refine on_dec_t rfl ?_); conv => whnf)
    | ((with_reducible refine on_dec_f ?_ ?_); (focus ((try simp only [List.length_map, List.length_cons, List.length_nil, List.length_append]); omega)); conv => whnf)
    | ((with_reducible refine on_dec_t ?_ ?_); (focus ((try simp only [List.length_map, List.length_cons, List.length_nil, List.length_append]); omega)); conv => whnf)
    | ((with_reducible refine on_dec (fun h => ?_) (fun h => ?_)) <;> (try simp only [List.length_map] at h) <;> conv => whnf)
    | ((with_reducible refine on_ndec (fun h => ?_) (fun h => ?_)) <;> (try simp only [List.length_map] at h) <;> conv => whnf)
    | ((with_reducible refine on_not (fun h => ?_) (fun h => ?_)) <;> conv => whnf)
    | ((with_reducible refine onBool_split (fun h => ?_) (fun h => ?_)) <;> conv => whnf)
    | ((with_reducible refine call_go ?_); (first | refine call_step (run_data (xs := []) c11 _) ?_ | refine call_step (run_view (c12 s l) rfl rfl) ?_ | refine call_step (run_viewF (c14 l (by omega)) rfl) ?_ | refine call_step (run_viewF (c31 x.kept (by omega)) rfl) ?_); conv => whnf)
    | (refine ⟨[], [(4, 2)], (by decide +kernel), ?_⟩; conv => whnf)
    | (refine ⟨[], [(4, 2), (6, 2), (4, 7)], (by decide +kernel), ?_⟩; conv => whnf)
    | (refine ⟨[], [], (by decide +kernel), ?_⟩; conv => whnf)
    | (refine ⟨⟨(by first | rfl | (simp; done)), cap_ok (by simp only [List.length_map, List.length_cons, List.length_nil, List.length_append]; omega) rfl⟩, ?_⟩; conv => whnf)
    | (refine ⟨mem_one ⟨rfl, rfl⟩, ?_⟩; conv => whnf)
    | (refine ⟨(by intro y hy; obtain ⟨x, _, rfl⟩ := List.mem_map.1 hy; first | rfl | exact ⟨rfl, rfl⟩), ?_⟩; conv => whnf)
    | (refine ⟨cap_ok (by first | omega | (simp only [List.length_map]; omega)) rfl, ?_⟩; conv => whnf)
    | (refine ix_map (by omega) ?_; conv => whnf)
    | (refine ix_str (by omega) ?_; conv => whnf)
    | (refine wrap64 (by omega) ?_; conv => whnf)
    | (exfalso; simp only [List.length_map, List.length_cons, List.length_nil, List.length_append] at h; omega)
    | ((with_reducible refine endx_go ?_); first | (exact endx rfl; done) | ((simp [cellsEq, cellEq] at h); done))
    | (refine ⟨rfl, ?_⟩; conv => whnf)
    | fail
    )

theorem c6r (s : Bs) (l : List Wr) (x : Fl) (h1 : smallB s l = true) (h2 : ¬ (300 : Int) < (x.kept.map i).length) (h3 : ¬ reachErr s l x.reached = 0) : Fn 6 [.str s, .fs (l.map Wr.enc), x.enc] (.bool true) := by
  obtain ⟨hs1, hs2, hs3⟩ := smallB_ok h1; have hk : x.kept.length < 1000000 := (by rw [List.length_map] at h2; omega); have he := failErr_r h3; have hf : ¬ failErr s l x = 0 := (by rw [he]; exact h3)
  refine run_walkF eok Tryd.func6 rfl (by kernel_rfl) ?_
  conv => whnf
  repeat' (first
    | ((with_reducible refine on_dec_t (by assumption) ?_); conv => whnf)
    | ((with_reducible refine on_dec_f (by assumption) ?_); conv => whnf)
    | ((with_reducible refine onBool_t (by assumption) ?_); conv => whnf)
    | ((with_reducible refine onBool_f (by assumption) ?_); conv => whnf)
    | ((with_reducible refine on_nt (by assumption) ?_); conv => whnf)
    | ((with_reducible refine on_nf (by assumption) ?_); conv => whnf)
    | ((with_reducible refine on_ndec_t (by first | assumption | rfl) ?_); conv => whnf)
    | ((with_reducible refine on_ndec_f (by assumption) ?_); conv => whnf)
    | ((with_reducible refine on_dec_t rfl ?_); conv => whnf)
    | ((with_reducible refine on_dec_f ?_ ?_); (focus ((try simp only [List.length_map, List.length_cons, List.length_nil, List.length_append]); omega)); conv => whnf)
    | ((with_reducible refine on_dec_t ?_ ?_); (focus ((try simp only [List.length_map, List.length_cons, List.length_nil, List.length_append]); omega)); conv => whnf)
    | ((with_reducible refine on_dec (fun h => ?_) (fun h => ?_)) <;> (try simp only [List.length_map] at h) <;> conv => whnf)
    | ((with_reducible refine on_ndec (fun h => ?_) (fun h => ?_)) <;> (try simp only [List.length_map] at h) <;> conv => whnf)
    | ((with_reducible refine on_not (fun h => ?_) (fun h => ?_)) <;> conv => whnf)
    | ((with_reducible refine onBool_split (fun h => ?_) (fun h => ?_)) <;> conv => whnf)
    | ((with_reducible refine call_go ?_); (first | refine call_step (run_data (xs := []) c11 _) ?_ | refine call_step (run_view (c12 s l) rfl rfl) ?_ | refine call_step (run_viewF (c14 l (by omega)) rfl) ?_ | refine call_step (run_viewF (c29n h1 h3) rfl) ?_ | refine call_step (run_viewF (c31 x.kept (by omega)) rfl) ?_ | refine call_step (run_view (c30n h1 hk hf) rfl rfl) ?_ | refine call_step (run_view (c19q h1 x.reached) rfl rfl) ?_); conv => whnf)
    | (refine ⟨[], [(4, 2)], (by decide +kernel), ?_⟩; conv => whnf)
    | (refine ⟨[], [(4, 2), (6, 2), (4, 7)], (by decide +kernel), ?_⟩; conv => whnf)
    | (refine ⟨[], [], (by decide +kernel), ?_⟩; conv => whnf)
    | (refine ⟨⟨(by first | rfl | (simp; done)), cap_ok (by simp only [List.length_map, List.length_cons, List.length_nil, List.length_append]; omega) rfl⟩, ?_⟩; conv => whnf)
    | (refine ⟨mem_one ⟨rfl, rfl⟩, ?_⟩; conv => whnf)
    | (refine ⟨(by intro y hy; obtain ⟨x, _, rfl⟩ := List.mem_map.1 hy; first | rfl | exact ⟨rfl, rfl⟩), ?_⟩; conv => whnf)
    | (refine ⟨cap_ok (by first | omega | (simp only [List.length_map]; omega)) rfl, ?_⟩; conv => whnf)
    | (refine ix_map (by omega) ?_; conv => whnf)
    | (refine ix_str (by omega) ?_; conv => whnf)
    | (refine wrap64 (by omega) ?_; conv => whnf)
    | (exfalso; simp only [List.length_map, List.length_cons, List.length_nil, List.length_append] at h; omega)
    | ((with_reducible refine endx_go ?_); first | (exact endx rfl; done) | ((simp [cellsEq, cellEq] at h); done))
    | (refine ⟨rfl, ?_⟩; conv => whnf)
    | fail
    )

theorem c6f (s : Bs) (l : List Wr) (x : Fl) (h1 : smallB s l = true) (h2 : ¬ (300 : Int) < (x.kept.map i).length) (h3 : reachErr s l x.reached = 0) (hf : ¬ failErr s l x = 0) : Fn 6 [.str s, .fs (l.map Wr.enc), x.enc] (.bool true) := by
  obtain ⟨hs1, hs2, hs3⟩ := smallB_ok h1; have hk : x.kept.length < 1000000 := (by rw [List.length_map] at h2; omega); have hlb := loose_bd hs3 (r := x.reached.toNat) (by omega) (by have := reachErr_ok h3; omega)
  refine run_walkF eok Tryd.func6 rfl (by kernel_rfl) ?_
  conv => whnf
  repeat' (first
    | ((with_reducible refine on_dec_t (by assumption) ?_); conv => whnf)
    | ((with_reducible refine on_dec_f (by assumption) ?_); conv => whnf)
    | ((with_reducible refine onBool_t (by assumption) ?_); conv => whnf)
    | ((with_reducible refine onBool_f (by assumption) ?_); conv => whnf)
    | ((with_reducible refine on_nt (by assumption) ?_); conv => whnf)
    | ((with_reducible refine on_nf (by assumption) ?_); conv => whnf)
    | ((with_reducible refine on_ndec_t (by first | assumption | rfl) ?_); conv => whnf)
    | ((with_reducible refine on_ndec_f (by assumption) ?_); conv => whnf)
    | ((with_reducible refine on_dec_t rfl ?_); conv => whnf)
    | ((with_reducible refine on_dec_f ?_ ?_); (focus ((try simp only [List.length_map, List.length_cons, List.length_nil, List.length_append]); omega)); conv => whnf)
    | ((with_reducible refine on_dec_t ?_ ?_); (focus ((try simp only [List.length_map, List.length_cons, List.length_nil, List.length_append]); omega)); conv => whnf)
    | ((with_reducible refine on_dec (fun h => ?_) (fun h => ?_)) <;> (try simp only [List.length_map] at h) <;> conv => whnf)
    | ((with_reducible refine on_ndec (fun h => ?_) (fun h => ?_)) <;> (try simp only [List.length_map] at h) <;> conv => whnf)
    | ((with_reducible refine on_not (fun h => ?_) (fun h => ?_)) <;> conv => whnf)
    | ((with_reducible refine onBool_split (fun h => ?_) (fun h => ?_)) <;> conv => whnf)
    | ((with_reducible refine call_go ?_); (first | refine call_step (run_data (xs := []) c11 _) ?_ | refine call_step (run_view (c12 s l) rfl rfl) ?_ | refine call_step (run_viewF (c14 l (by omega)) rfl) ?_ | refine call_step (run_viewF (c29o h1 h3) rfl) ?_ | refine call_step (run_viewF (c31 x.kept (by omega)) rfl) ?_ | refine call_step (run_view (c30n h1 hk hf) rfl rfl) ?_ | refine call_step (run_view (c19z h1 h3) rfl rfl) ?_ | refine call_step (run_viewF (c32z h1 h3) rfl) ?_ | refine call_step (run_view (c33 s l x h1 hk) rfl rfl) ?_); conv => whnf)
    | (refine ⟨[], [(4, 2)], (by decide +kernel), ?_⟩; conv => whnf)
    | (refine ⟨[], [(4, 2), (6, 2), (4, 7)], (by decide +kernel), ?_⟩; conv => whnf)
    | (refine ⟨[], [], (by decide +kernel), ?_⟩; conv => whnf)
    | ((with_reducible refine loop_go ?_); first | (refine loop1 (fun (k : Nat) => (loose l x.reached.toNat).length - k) (fun (k : Nat) => k ≤ (loose l x.reached.toNat).length) (fun (k : Nat) => [(0, .d (.str s)), (1, .d (.fs (l.map Wr.enc))), (5, .ptr 0 0 0), (7, .d (.fs ((loose l x.reached.toNat).map Lo.enc))), (9, .d (.str [])), (10, .d (i (failErr s l x))), (12, .d (.fs ((loose l x.reached.toNat).map Lo.enc))), (13, .d (i k))]) (fun (k : Nat) => [⟨[.d x.enc], 2, 0⟩]) (0) (by exact Nat.zero_le _) ?_ (fun k C hI hC => ?_); (exact ⟨[.old 0], rfl, rfl, ⟨(by first | (show (_ : D) = _; with_reducible rfl) | exact rfl), (by first | (show (_ : D) = _; with_reducible rfl) | exact rfl), ⟨rfl, rfl, rfl⟩, (by first | (show (_ : D) = _; with_reducible rfl) | exact rfl), (by first | (show (_ : D) = _; with_reducible rfl) | exact rfl), (by first | (show (_ : D) = _; with_reducible rfl) | exact congrArg (D.int .i64) (by omega) | exact congrArg (D.int .i64) (by simp only [List.length_map]) | exact rfl), (by first | (show (_ : D) = _; with_reducible rfl) | exact rfl), (by first | (show (_ : D) = _; with_reducible rfl) | exact congrArg (D.int .i64) (by omega) | exact congrArg (D.int .i64) (by simp only [List.length_map]) | exact rfl), trivial⟩, ⟨⟨rfl, rfl, .inl ⟨[_], rfl, rfl⟩⟩, trivial⟩⟩); all_goals (conv => whnf)))
    | ((with_reducible show C _ _); first | (refine hC (k + 1) _ _ ?_ (by omega) ?_; clear hC; rotate_left; (exact ⟨[.old 0], rfl, rfl, ⟨(by first | (show (_ : D) = _; with_reducible rfl) | exact rfl), (by first | (show (_ : D) = _; with_reducible rfl) | exact rfl), ⟨rfl, rfl, rfl⟩, (by first | (show (_ : D) = _; with_reducible rfl) | exact rfl), (by first | (show (_ : D) = _; with_reducible rfl) | exact rfl), (by first | (show (_ : D) = _; with_reducible rfl) | exact congrArg (D.int .i64) (by omega) | exact congrArg (D.int .i64) (by simp only [List.length_map]) | exact rfl), (by first | (show (_ : D) = _; with_reducible rfl) | exact rfl), (by first | (show (_ : D) = _; with_reducible rfl) | exact congrArg (D.int .i64) (by omega) | exact congrArg (D.int .i64) (by simp only [List.length_map]) | exact rfl), trivial⟩, ⟨⟨rfl, rfl, .inl ⟨[_], rfl, rfl⟩⟩, trivial⟩⟩); (exact (by omega : k + 1 ≤ (loose l x.reached.toNat).length))))
    | (refine ⟨⟨(by first | rfl | (simp; done)), cap_ok (by simp only [List.length_map, List.length_cons, List.length_nil, List.length_append]; omega) rfl⟩, ?_⟩; conv => whnf)
    | (refine ⟨mem_one ⟨rfl, rfl⟩, ?_⟩; conv => whnf)
    | (refine ⟨(by intro y hy; obtain ⟨x, _, rfl⟩ := List.mem_map.1 hy; first | rfl | exact ⟨rfl, rfl⟩), ?_⟩; conv => whnf)
    | (refine ⟨cap_ok (by first | omega | (simp only [List.length_map]; omega)) rfl, ?_⟩; conv => whnf)
    | (refine ix_map (by omega) ?_; conv => whnf)
    | (refine ix_str (by omega) ?_; conv => whnf)
    | (refine wrap64 (by omega) ?_; conv => whnf)
    | (refine onBool_f (by simp [cellsEq, cellEq]) ?_; conv => whnf)
    | (refine nthK_rowi (l := (loose l x.reached.toNat)) k (by omega) (by omega) ?_; conv => whnf)
    | (refine wrap64 (by omega) ?_; conv => whnf)
    | (exfalso; simp only [List.length_map, List.length_cons, List.length_nil, List.length_append] at h; omega)
    | ((with_reducible refine endx_go ?_); first | (exact endx rfl; done) | ((simp [cellsEq, cellEq] at h); done))
    | (refine ⟨rfl, ?_⟩; conv => whnf)
    | fail
    )

theorem c6o (s : Bs) (l : List Wr) (x : Fl) (h1 : smallB s l = true) (h2 : ¬ (300 : Int) < (x.kept.map i).length) (h3 : reachErr s l x.reached = 0) (hf : failErr s l x = 0) : Fn 6 [.str s, .fs (l.map Wr.enc), x.enc] (.bool true) := by
  obtain ⟨hs1, hs2, hs3⟩ := smallB_ok h1; have hk : x.kept.length < 1000000 := (by rw [List.length_map] at h2; omega); obtain ⟨hm, n, hn⟩ := fail_mayC h1 hf; have hlb := loose_bd hs3 (r := x.reached.toNat) (by omega) (by have := reachErr_ok h3; omega)
  refine run_walkF eok Tryd.func6 rfl (by kernel_rfl) ?_
  conv => whnf
  repeat' (first
    | ((with_reducible refine on_dec_t (by assumption) ?_); conv => whnf)
    | ((with_reducible refine on_dec_f (by assumption) ?_); conv => whnf)
    | ((with_reducible refine onBool_t (by assumption) ?_); conv => whnf)
    | ((with_reducible refine onBool_f (by assumption) ?_); conv => whnf)
    | ((with_reducible refine on_nt (by assumption) ?_); conv => whnf)
    | ((with_reducible refine on_nf (by assumption) ?_); conv => whnf)
    | ((with_reducible refine on_ndec_t (by first | assumption | rfl) ?_); conv => whnf)
    | ((with_reducible refine on_ndec_f (by assumption) ?_); conv => whnf)
    | ((with_reducible refine on_dec_t rfl ?_); conv => whnf)
    | ((with_reducible refine on_dec_f ?_ ?_); (focus ((try simp only [List.length_map, List.length_cons, List.length_nil, List.length_append]); omega)); conv => whnf)
    | ((with_reducible refine on_dec_t ?_ ?_); (focus ((try simp only [List.length_map, List.length_cons, List.length_nil, List.length_append]); omega)); conv => whnf)
    | ((with_reducible refine on_dec (fun h => ?_) (fun h => ?_)) <;> (try simp only [List.length_map] at h) <;> conv => whnf)
    | ((with_reducible refine on_ndec (fun h => ?_) (fun h => ?_)) <;> (try simp only [List.length_map] at h) <;> conv => whnf)
    | ((with_reducible refine on_not (fun h => ?_) (fun h => ?_)) <;> conv => whnf)
    | ((with_reducible refine onBool_split (fun h => ?_) (fun h => ?_)) <;> conv => whnf)
    | ((with_reducible refine call_go ?_); (first | refine call_step (run_data (xs := []) c11 _) ?_ | refine call_step (run_view (c12 s l) rfl rfl) ?_ | refine call_step (run_viewF (c14 l (by omega)) rfl) ?_ | refine call_step (run_viewF (c29o h1 h3) rfl) ?_ | refine call_step (run_viewF (c31 x.kept (by omega)) rfl) ?_ | refine call_step (run_view (c30o h1 hk hf) rfl rfl) ?_ | refine call_step (run_view (c19z h1 h3) rfl rfl) ?_ | refine call_step (run_viewF (c32z h1 h3) rfl) ?_ | refine call_step (run_view (c33z h1 hk hf) rfl rfl) ?_ | refine call_step (run_view (c34z h1 hk hf) rfl rfl) ?_ | refine call_step (run_view (c18s h1 hm hn) rfl rfl) ?_); conv => whnf)
    | (refine ⟨[], [(4, 2)], (by decide +kernel), ?_⟩; conv => whnf)
    | (refine ⟨[], [(4, 2), (6, 2), (4, 7)], (by decide +kernel), ?_⟩; conv => whnf)
    | (refine ⟨[], [], (by decide +kernel), ?_⟩; conv => whnf)
    | ((with_reducible refine loop_go ?_); first | (refine loop1 (fun (k : Nat) => (loose l x.reached.toNat).length - k) (fun (k : Nat) => k ≤ (loose l x.reached.toNat).length) (fun (k : Nat) => [(0, .d (.str s)), (1, .d (.fs (l.map Wr.enc))), (5, .ptr 0 0 0), (7, .d (.fs ((loose l x.reached.toNat).map Lo.enc))), (9, .d (.str (failR s l x))), (10, .d (i 0)), (12, .d (.fs ((loose l x.reached.toNat).map Lo.enc))), (13, .d (i k))]) (fun (k : Nat) => [⟨[.d x.enc], 2, 0⟩]) (0) (by exact Nat.zero_le _) ?_ (fun k C hI hC => ?_); (exact ⟨[.old 0], rfl, rfl, ⟨(by first | (show (_ : D) = _; with_reducible rfl) | exact rfl), (by first | (show (_ : D) = _; with_reducible rfl) | exact rfl), ⟨rfl, rfl, rfl⟩, (by first | (show (_ : D) = _; with_reducible rfl) | exact rfl), (by first | (show (_ : D) = _; with_reducible rfl) | exact rfl), (by first | (show (_ : D) = _; with_reducible rfl) | exact congrArg (D.int .i64) (by omega) | exact congrArg (D.int .i64) (by simp only [List.length_map]) | exact rfl), (by first | (show (_ : D) = _; with_reducible rfl) | exact rfl), (by first | (show (_ : D) = _; with_reducible rfl) | exact congrArg (D.int .i64) (by omega) | exact congrArg (D.int .i64) (by simp only [List.length_map]) | exact rfl), trivial⟩, ⟨⟨rfl, rfl, .inl ⟨[_], rfl, rfl⟩⟩, trivial⟩⟩); all_goals (conv => whnf)))
    | ((with_reducible show C _ _); first | (refine hC (k + 1) _ _ ?_ (by omega) ?_; clear hC; rotate_left; (exact ⟨[.old 0], rfl, rfl, ⟨(by first | (show (_ : D) = _; with_reducible rfl) | exact rfl), (by first | (show (_ : D) = _; with_reducible rfl) | exact rfl), ⟨rfl, rfl, rfl⟩, (by first | (show (_ : D) = _; with_reducible rfl) | exact rfl), (by first | (show (_ : D) = _; with_reducible rfl) | exact rfl), (by first | (show (_ : D) = _; with_reducible rfl) | exact congrArg (D.int .i64) (by omega) | exact congrArg (D.int .i64) (by simp only [List.length_map]) | exact rfl), (by first | (show (_ : D) = _; with_reducible rfl) | exact rfl), (by first | (show (_ : D) = _; with_reducible rfl) | exact congrArg (D.int .i64) (by omega) | exact congrArg (D.int .i64) (by simp only [List.length_map]) | exact rfl), trivial⟩, ⟨⟨rfl, rfl, .inl ⟨[_], rfl, rfl⟩⟩, trivial⟩⟩); (exact (by omega : k + 1 ≤ (loose l x.reached.toNat).length))))
    | (refine ⟨⟨(by first | rfl | (simp; done)), cap_ok (by simp only [List.length_map, List.length_cons, List.length_nil, List.length_append]; omega) rfl⟩, ?_⟩; conv => whnf)
    | (refine ⟨mem_one ⟨rfl, rfl⟩, ?_⟩; conv => whnf)
    | (refine ⟨(by intro y hy; obtain ⟨x, _, rfl⟩ := List.mem_map.1 hy; first | rfl | exact ⟨rfl, rfl⟩), ?_⟩; conv => whnf)
    | (refine ⟨cap_ok (by first | omega | (simp only [List.length_map]; omega)) rfl, ?_⟩; conv => whnf)
    | (refine ix_map (by omega) ?_; conv => whnf)
    | (refine ix_str (by omega) ?_; conv => whnf)
    | (refine wrap64 (by omega) ?_; conv => whnf)
    | (refine onBool_f (by simp [cellsEq, cellEq]) ?_; conv => whnf)
    | (refine nthK_rowi (l := (loose l x.reached.toNat)) k (by omega) (by omega) ?_; conv => whnf)
    | (refine wrap64 (by omega) ?_; conv => whnf)
    | (exfalso; simp only [List.length_map, List.length_cons, List.length_nil, List.length_append] at h; omega)
    | ((with_reducible refine endx_go ?_); first | (exact endx rfl; done) | ((simp [cellsEq, cellEq] at h); done))
    | (refine ⟨rfl, ?_⟩; conv => whnf)
    | fail
    )

theorem c6 (s : Bs) (l : List Wr) (x : Fl) : Fn 6 [.str s, .fs (l.map Wr.enc), x.enc] (.bool true) := by
  cases h1 : smallB s l with
  | false => exact c6n1 s l x h1
  | true =>
    by_cases h2 : (300 : Int) < (x.kept.map i).length
    · exact c6n2 s l x h1 h2
    · by_cases h3 : reachErr s l x.reached = 0
      · by_cases hf : failErr s l x = 0
        · exact c6o s l x h1 h2 h3 hf
        · exact c6f s l x h1 h2 h3 hf
      · exact c6r s l x h1 h2 h3

end Go.Proofs.YtpblmdolgocpaaaDoor

/-! Lh -/
namespace Go.Proofs.YtpblmdolgocpaaaDoor
open Go Dw Go.ChangeShapes Go.WideShapes Go.RowKit

section
attribute [local irreducible] Run
theorem hrun6 : ∀ xs, shps E 5 Tryd.f6.params.toList xs → Run Tryd.prog 6 (xs.map .d) [] (.d (.bool true)) [] := by
  intro xs h
  obtain ⟨x1, r1, rfl, ⟨s, rfl, _⟩, x2, r2, rfl, h2, x3, r3, rfl, h3, rfl⟩ := h
  obtain ⟨l, rfl⟩ := shpWrs h2
  obtain ⟨x, rfl⟩ := shpFl h3
  exact c6 s l x
end

set_option maxRecDepth 100000 in
theorem lifted6 (os : Os) (started : os.Started) (H : Type) (enc : TypeId × Value → H) :
    ReturnsInHanded {} Tryd.checked os 6 .any (fun w args => (Rows.diskFailuresSpec.pre enc Tryd.prog Tryd.f6 [] false w args ∧ laidMetH Tryd.prog laid02 w) ∧ sizedMet enc Tryd.prog Tryd.f6 (OpenSpec.ofChange Rows.diskFailuresSpec) false w args)
      (Rows.diskFailuresSpec.post enc Tryd.prog Tryd.f6 false true false false) := by
  refine returnsInHanded_of_change_and (C := Tryd.checked) (X := fun w _ => laidMetH Tryd.prog laid02 w) (fun _ _ _ hh h => h.of_heap hh) own02 started (by kernel_rfl) Tryd.func6
    (ChangeSpec.witness_shaped (enc := enc) (C := Tryd.checked) (os := os) (X := fun w _ => laidMetH Tryd.prog laid02 w) false (wit02 os) #[.string ⟨#[]⟩, .slice none 0 0, .agg #[.int .i64 0, .slice none 0 0]] 8 rfl (shaped02 os _) (by kernel_rfl) (by kernel_rfl) (by kernel_rfl) (door_met02 os _)) ?_
  intro W base args ds gs before hval hW _ _ _ _
  refine law_lift (n := 5) (t4 := 4) eok Tryd.func6 (by kernel_rfl) rfl laidOut02 rfl ?_ rfl Tryd.underlying4 (by kernel_rfl) hrun6 W base args ds gs before hval hW
  intro H ds hds
  match ds, hds with
  | [a, b, c], _ => rfl

theorem over6 : Rows.DiskFailuresSaid :=
  OpenClaim.holds_of_wide 6 Tryd.f6 rfl rfl rfl rfl rfl rfl rfl ⟨rfl, rfl, rfl, rfl, rfl⟩ rfl rfl rfl rfl rfl (by kernel_rfl) Tryd.func6 (by kernel_rfl)
    (of_decide_eq_true (by kernel_rfl)) (by unfold Func.isWrapper; first | (rw [if_pos (by decide +kernel)]; kernel_rfl) | (rw [if_neg (by decide +kernel)]; exact ⟨rfl, rfl⟩))
    (fun os started H enc _ => lifted6 os started H enc)

theorem diskFailures_proved : Rows.DiskFailuresCardSaid :=
  Claim7.holds_tied_plain_at .later [] [.data, .pinned] true (true, "687066918dee5d74383946f45575ea29590729c4e1dda89224b6bf73c7b9600f") false
    over6 (fun _ h => by cases h) (by kernel_rfl) (fun _ h => by cases h) diskFailures_row_tie rfl ⟨rfl, rfl⟩ (by kernel_rfl) rfl
    (card_hl (f0 := 6) (fn0 := Tryd.f6) (by kernel_rfl) Tryd.func6 (by kernel_rfl) (by kernel_rfl)) (by kernel_rfl)
end Go.Proofs.YtpblmdolgocpaaaDoor
