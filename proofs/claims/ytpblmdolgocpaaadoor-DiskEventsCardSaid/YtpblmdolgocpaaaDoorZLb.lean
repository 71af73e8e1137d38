/-
  Chapter 2: DiskEvents holds at every input: no condition of ours (its card lists two tables of the library, tied to the text).
-/
import Derived.Test.YtpblmdolgocpaaaDoorGrpG
set_option linter.unusedVariables false
set_option linter.unusedSimpArgs false

/-! Wt -/
namespace Go.Proofs.YtpblmdolgocpaaaDoor
open Go Dw
set_option maxRecDepth 10000
set_option linter.unusedVariables false
set_option linter.unusedSimpArgs false
attribute [local irreducible] Run
set_option maxHeartbeats 4000000

attribute [local irreducible] sec stK put patch wrote pat wr

theorem readR_err {s : Bs} {a c : Int} (h : ¬ readErr s a c = 0) : readR s a c = [] := if_neg h
theorem readR_ok {s : Bs} {a c : Int} (h : readErr s a c = 0) : readR s a c = readB s a c := if_pos h
attribute [local irreducible] readR readErr diskErr evsErr written smallB

theorem c8g (s : Bs) (a c : Int) (h1 : (2560 : Int) < s.length) : Fn 8 [.str s, i a, i c] (.bool true) := by
  refine run_walkF eok Tryd.func8 rfl (by kernel_rfl) ?_
  conv => whnf
  repeat' (first
    | ((with_reducible refine on_dec_t (by assumption) ?_); conv => whnf)
    | ((with_reducible refine on_dec_f (by assumption) ?_); conv => whnf)
    | ((with_reducible refine onBool_t (by assumption) ?_); conv => whnf)
    | ((with_reducible refine onBool_f (by assumption) ?_); conv => whnf)
    | ((with_reducible refine on_nt (by assumption) ?_); conv => whnf)
    | ((with_reducible refine on_nf (by assumption) ?_); conv => whnf)
    | ((with_reducible refine on_ndec_t (by first | assumption | rfl) ?_); conv => whnf)
    | ((with_reducible refine on_ndec_f (by assumption) ?_); conv => whnf)
    | ((with_reducible refine on_dec_t rfl ?_); conv => whnf)
    | ((with_reducible refine on_dec_f ?_ ?_); (focus ((try simp only [List.length_map, List.length_cons, List.length_nil, List.length_append]); omega)); conv => whnf)
    | ((with_reducible refine on_dec_t ?_ ?_); (focus ((try simp only [List.length_map, List.length_cons, List.length_nil, List.length_append]); omega)); conv => whnf)
    | ((with_reducible refine on_dec (fun h => ?_) (fun h => ?_)) <;> (try simp only [List.length_map] at h) <;> conv => whnf)
    | ((with_reducible refine on_ndec (fun h => ?_) (fun h => ?_)) <;> (try simp only [List.length_map] at h) <;> conv => whnf)
    | ((with_reducible refine on_not (fun h => ?_) (fun h => ?_)) <;> conv => whnf)
    | ((with_reducible refine onBool_split (fun h => ?_) (fun h => ?_)) <;> conv => whnf)
    | ((with_reducible refine call_go ?_); (first | refine call_step (run_data (xs := []) c11 _) ?_ | refine call_step (run_view (c36 _ (by omega)) rfl rfl) ?_ | refine call_step (run_view (c20 _ (by omega)) rfl rfl) ?_ | refine call_step (run_view (c37 s a c (by omega)) rfl rfl) ?_ | refine call_step (run_view (c38 s a c (by omega)) rfl rfl) ?_); conv => whnf)
    | (refine ⟨⟨(by first | rfl | (simp; done)), cap_ok (by simp only [List.length_map, List.length_cons, List.length_nil, List.length_append]; omega) rfl⟩, ?_⟩; conv => whnf)
    | (refine ⟨mem_one ⟨rfl, rfl⟩, ?_⟩; conv => whnf)
    | (refine ⟨(by intro y hy; obtain ⟨x, _, rfl⟩ := List.mem_map.1 hy; first | rfl | exact ⟨rfl, rfl⟩), ?_⟩; conv => whnf)
    | (refine ⟨cap_ok (by first | omega | (simp only [List.length_map]; omega)) rfl, ?_⟩; conv => whnf)
    | (refine ix_map (by omega) ?_; conv => whnf)
    | (refine ix_str (by omega) ?_; conv => whnf)
    | (refine wrap64 (by omega) ?_; conv => whnf)
    | (exfalso; simp only [List.length_map, List.length_cons, List.length_nil, List.length_append] at h; omega)
    | ((with_reducible refine endx_go ?_); first | (exact endx rfl; done))
    | (refine ⟨rfl, ?_⟩; conv => whnf)
    | fail
    )

theorem c8e (s : Bs) (a c : Int) (h1 : ¬ (2560 : Int) < s.length) (h2 : ¬ readErr s a c = 0) : Fn 8 [.str s, i a, i c] (.bool true) := by
  refine run_walkF eok Tryd.func8 rfl (by kernel_rfl) ?_
  conv => whnf
  repeat' (first
    | ((with_reducible refine on_dec_t (by assumption) ?_); conv => whnf)
    | ((with_reducible refine on_dec_f (by assumption) ?_); conv => whnf)
    | ((with_reducible refine onBool_t (by assumption) ?_); conv => whnf)
    | ((with_reducible refine onBool_f (by assumption) ?_); conv => whnf)
    | ((with_reducible refine on_nt (by assumption) ?_); conv => whnf)
    | ((with_reducible refine on_nf (by assumption) ?_); conv => whnf)
    | ((with_reducible refine on_ndec_t (by first | assumption | rfl) ?_); conv => whnf)
    | ((with_reducible refine on_ndec_f (by assumption) ?_); conv => whnf)
    | ((with_reducible refine on_dec_t rfl ?_); conv => whnf)
    | ((with_reducible refine on_dec_f ?_ ?_); (focus ((try simp only [List.length_map, List.length_cons, List.length_nil, List.length_append]); omega)); conv => whnf)
    | ((with_reducible refine on_dec_t ?_ ?_); (focus ((try simp only [List.length_map, List.length_cons, List.length_nil, List.length_append]); omega)); conv => whnf)
    | ((with_reducible refine on_dec (fun h => ?_) (fun h => ?_)) <;> (try simp only [List.length_map] at h) <;> conv => whnf)
    | ((with_reducible refine on_ndec (fun h => ?_) (fun h => ?_)) <;> (try simp only [List.length_map] at h) <;> conv => whnf)
    | ((with_reducible refine on_not (fun h => ?_) (fun h => ?_)) <;> conv => whnf)
    | ((with_reducible refine onBool_split (fun h => ?_) (fun h => ?_)) <;> conv => whnf)
    | ((with_reducible refine call_go ?_); (first | refine call_step (run_data (xs := []) c11 _) ?_ | refine call_step (run_view (c36 _ (by omega)) rfl rfl) ?_ | refine call_step (run_view (c20 _ (by omega)) rfl rfl) ?_ | refine call_step (run_view (c37 s a c (by omega)) rfl rfl) ?_ | refine call_step (run_view (c38 s a c (by omega)) rfl rfl) ?_); conv => whnf)
    | (refine ⟨⟨(by first | rfl | (simp; done)), cap_ok (by simp only [List.length_map, List.length_cons, List.length_nil, List.length_append]; omega) rfl⟩, ?_⟩; conv => whnf)
    | (refine ⟨mem_one ⟨rfl, rfl⟩, ?_⟩; conv => whnf)
    | (refine ⟨(by intro y hy; obtain ⟨x, _, rfl⟩ := List.mem_map.1 hy; first | rfl | exact ⟨rfl, rfl⟩), ?_⟩; conv => whnf)
    | (refine ⟨cap_ok (by first | omega | (simp only [List.length_map]; omega)) rfl, ?_⟩; conv => whnf)
    | (refine ix_map (by omega) ?_; conv => whnf)
    | (refine ix_str (by omega) ?_; conv => whnf)
    | (refine wrap64 (by omega) ?_; conv => whnf)
    | (exfalso; simp only [List.length_map, List.length_cons, List.length_nil, List.length_append] at h; omega)
    | ((with_reducible refine endx_go ?_); first | (exact endx (congrArg D.bool (by rw [readR_err h2]; simp)); done))
    | (refine ⟨rfl, ?_⟩; conv => whnf)
    | fail
    )

theorem c8o (s : Bs) (a c : Int) (h1 : ¬ (2560 : Int) < s.length) (h2 : readErr s a c = 0) : Fn 8 [.str s, i a, i c] (.bool true) := by
  have hro := readErr_ok h2; have hsa : sc s = ((s.length / 64 : Nat) : Int) := rfl
  refine run_walkF eok Tryd.func8 rfl (by kernel_rfl) ?_
  conv => whnf
  repeat' (first
    | ((with_reducible refine on_dec_t (by assumption) ?_); conv => whnf)
    | ((with_reducible refine on_dec_f (by assumption) ?_); conv => whnf)
    | ((with_reducible refine onBool_t (by assumption) ?_); conv => whnf)
    | ((with_reducible refine onBool_f (by assumption) ?_); conv => whnf)
    | ((with_reducible refine on_nt (by assumption) ?_); conv => whnf)
    | ((with_reducible refine on_nf (by assumption) ?_); conv => whnf)
    | ((with_reducible refine on_ndec_t (by first | assumption | rfl) ?_); conv => whnf)
    | ((with_reducible refine on_ndec_f (by assumption) ?_); conv => whnf)
    | ((with_reducible refine on_dec_t rfl ?_); conv => whnf)
    | ((with_reducible refine on_dec_f ?_ ?_); (focus ((try simp only [List.length_map, List.length_cons, List.length_nil, List.length_append]); omega)); conv => whnf)
    | ((with_reducible refine on_dec_t ?_ ?_); (focus ((try simp only [List.length_map, List.length_cons, List.length_nil, List.length_append]); omega)); conv => whnf)
    | ((with_reducible refine on_dec (fun h => ?_) (fun h => ?_)) <;> (try simp only [List.length_map] at h) <;> conv => whnf)
    | ((with_reducible refine on_ndec (fun h => ?_) (fun h => ?_)) <;> (try simp only [List.length_map] at h) <;> conv => whnf)
    | ((with_reducible refine on_not (fun h => ?_) (fun h => ?_)) <;> conv => whnf)
    | ((with_reducible refine onBool_split (fun h => ?_) (fun h => ?_)) <;> conv => whnf)
    | ((with_reducible refine call_go ?_); (first | refine call_step (run_data (xs := []) c11 _) ?_ | refine call_step (run_view (c36 _ (by omega)) rfl rfl) ?_ | refine call_step (run_view (c20 _ (by omega)) rfl rfl) ?_ | refine call_step (run_view (c37 s a c (by omega)) rfl rfl) ?_ | refine call_step (run_view (c38 s a c (by omega)) rfl rfl) ?_); conv => whnf)
    | (refine ⟨⟨(by first | rfl | (simp; done)), cap_ok (by simp only [List.length_map, List.length_cons, List.length_nil, List.length_append]; omega) rfl⟩, ?_⟩; conv => whnf)
    | (refine ⟨mem_one ⟨rfl, rfl⟩, ?_⟩; conv => whnf)
    | (refine ⟨(by intro y hy; obtain ⟨x, _, rfl⟩ := List.mem_map.1 hy; first | rfl | exact ⟨rfl, rfl⟩), ?_⟩; conv => whnf)
    | (refine ⟨cap_ok (by first | omega | (simp only [List.length_map]; omega)) rfl, ?_⟩; conv => whnf)
    | (refine ix_map (by omega) ?_; conv => whnf)
    | (refine ix_str (by omega) ?_; conv => whnf)
    | (refine wrap64 (by omega) ?_; conv => whnf)
    | (refine sl_str (a.toNat * 64) ((a.toNat + c.toNat) * 64) (by omega) (by omega) (by omega) ?_; conv => whnf)
    | (refine wrap64 (by omega) ?_; conv => whnf)
    | (exfalso; simp only [List.length_map, List.length_cons, List.length_nil, List.length_append] at h; omega)
    | ((with_reducible refine endx_go ?_); first | (exact endx (congrArg D.bool (by rw [readR_ok h2, readB, List.drop_take, show (a.toNat + c.toNat) * 64 - a.toNat * 64 = c.toNat * 64 by omega]; exact decide_eq_true rfl)); done))
    | (refine ⟨rfl, ?_⟩; conv => whnf)
    | fail
    )

theorem c8 (s : Bs) (a c : Int) : Fn 8 [.str s, i a, i c] (.bool true) := by
  by_cases h1 : (2560 : Int) < s.length
  · exact c8g s a c h1
  · by_cases h2 : readErr s a c = 0
    · exact c8o s a c h1 h2
    · exact c8e s a c h1 h2

theorem c3n (s : Bs) (l : List Wr) (hsm : smallB s l = false) : Fn 3 [.str s, .fs (l.map Wr.enc)] (.bool true) := by
  refine run_walkF eok Tryd.func3 rfl (by kernel_rfl) ?_
  conv => whnf
  repeat' (first
    | ((with_reducible refine on_dec_t (by assumption) ?_); conv => whnf)
    | ((with_reducible refine on_dec_f (by assumption) ?_); conv => whnf)
    | ((with_reducible refine onBool_t (by assumption) ?_); conv => whnf)
    | ((with_reducible refine onBool_f (by assumption) ?_); conv => whnf)
    | ((with_reducible refine on_nt (by assumption) ?_); conv => whnf)
    | ((with_reducible refine on_nf (by assumption) ?_); conv => whnf)
    | ((with_reducible refine on_ndec_t (by first | assumption | rfl) ?_); conv => whnf)
    | ((with_reducible refine on_ndec_f (by assumption) ?_); conv => whnf)
    | ((with_reducible refine on_dec_t rfl ?_); conv => whnf)
    | ((with_reducible refine on_dec_f ?_ ?_); (focus ((try simp only [List.length_map, List.length_cons, List.length_nil, List.length_append]); omega)); conv => whnf)
    | ((with_reducible refine on_dec_t ?_ ?_); (focus ((try simp only [List.length_map, List.length_cons, List.length_nil, List.length_append]); omega)); conv => whnf)
    | ((with_reducible refine on_dec (fun h => ?_) (fun h => ?_)) <;> (try simp only [List.length_map] at h) <;> conv => whnf)
    | ((with_reducible refine on_ndec (fun h => ?_) (fun h => ?_)) <;> (try simp only [List.length_map] at h) <;> conv => whnf)
    | ((with_reducible refine on_not (fun h => ?_) (fun h => ?_)) <;> conv => whnf)
    | ((with_reducible refine onBool_split (fun h => ?_) (fun h => ?_)) <;> conv => whnf)
    | ((with_reducible refine call_go ?_); (first | refine call_step (run_data (xs := []) c11 _) ?_ | refine call_step (run_view (c12 s l) rfl rfl) ?_ | refine call_step (run_viewF (c14 l (by omega)) rfl) ?_ | refine call_step (run_view (c13 s l (by omega) (by omega) hb6) rfl rfl) ?_ | refine call_step (run_view (c15 s l (by omega) (by omega) hb6) rfl rfl) ?_ | refine call_step (run_view (c16 s l (by omega) (by omega) hb6) rfl rfl) ?_ | refine call_step (run_view (c17 s l (by omega) (by omega) (wr_in h2)) rfl rfl) ?_); conv => whnf)
    | (refine ⟨⟨(by first | rfl | (simp; done)), cap_ok (by simp only [List.length_map, List.length_cons, List.length_nil, List.length_append]; omega) rfl⟩, ?_⟩; conv => whnf)
    | (refine ⟨mem_one ⟨rfl, rfl⟩, ?_⟩; conv => whnf)
    | (refine ⟨(by intro y hy; obtain ⟨x, _, rfl⟩ := List.mem_map.1 hy; first | rfl | exact ⟨rfl, rfl⟩), ?_⟩; conv => whnf)
    | (refine ⟨cap_ok (by first | omega | (simp only [List.length_map]; omega)) rfl, ?_⟩; conv => whnf)
    | (refine ix_map (by omega) ?_; conv => whnf)
    | (refine ix_str (by omega) ?_; conv => whnf)
    | (refine wrap64 (by omega) ?_; conv => whnf)
    | (exfalso; simp only [List.length_map, List.length_cons, List.length_nil, List.length_append] at h; omega)
    | ((with_reducible refine endx_go ?_); first | (exact endx rfl; done))
    | (refine ⟨rfl, ?_⟩; conv => whnf)
    | fail
    )

theorem c3e (s : Bs) (l : List Wr) (hsm : smallB s l = true) (h2 : ¬ (evsErr s l).2 = 0) : Fn 3 [.str s, .fs (l.map Wr.enc)] (.bool true) := by
  obtain ⟨hs1, hs2, hs3⟩ := smallB_ok hsm; have hb6 : ∀ x ∈ l, x.bytes.length < 1000000 := fun x hx => (by have := hs3 x hx; omega); have hw2 : (written s l).2 = (evsErr s l).2 := (by rw [written_err h2])
  refine run_walkF eok Tryd.func3 rfl (by kernel_rfl) ?_
  conv => whnf
  repeat' (first
    | ((with_reducible refine on_dec_t (by assumption) ?_); conv => whnf)
    | ((with_reducible refine on_dec_f (by assumption) ?_); conv => whnf)
    | ((with_reducible refine onBool_t (by assumption) ?_); conv => whnf)
    | ((with_reducible refine onBool_f (by assumption) ?_); conv => whnf)
    | ((with_reducible refine on_nt (by assumption) ?_); conv => whnf)
    | ((with_reducible refine on_nf (by assumption) ?_); conv => whnf)
    | ((with_reducible refine on_ndec_t (by first | assumption | rfl) ?_); conv => whnf)
    | ((with_reducible refine on_ndec_f (by assumption) ?_); conv => whnf)
    | ((with_reducible refine on_dec_t rfl ?_); conv => whnf)
    | ((with_reducible refine on_dec_f ?_ ?_); (focus ((try simp only [List.length_map, List.length_cons, List.length_nil, List.length_append]); omega)); conv => whnf)
    | ((with_reducible refine on_dec_t ?_ ?_); (focus ((try simp only [List.length_map, List.length_cons, List.length_nil, List.length_append]); omega)); conv => whnf)
    | ((with_reducible refine on_dec (fun h => ?_) (fun h => ?_)) <;> (try simp only [List.length_map] at h) <;> conv => whnf)
    | ((with_reducible refine on_ndec (fun h => ?_) (fun h => ?_)) <;> (try simp only [List.length_map] at h) <;> conv => whnf)
    | ((with_reducible refine on_not (fun h => ?_) (fun h => ?_)) <;> conv => whnf)
    | ((with_reducible refine onBool_split (fun h => ?_) (fun h => ?_)) <;> conv => whnf)
    | ((with_reducible refine call_go ?_); (first | refine call_step (run_data (xs := []) c11 _) ?_ | refine call_step (run_view (c12 s l) rfl rfl) ?_ | refine call_step (run_viewF (c14 l (by omega)) rfl) ?_ | refine call_step (run_view (c13 s l (by omega) (by omega) hb6) rfl rfl) ?_ | refine call_step (run_view (c15 s l (by omega) (by omega) hb6) rfl rfl) ?_ | refine call_step (run_view (c16 s l (by omega) (by omega) hb6) rfl rfl) ?_ | refine call_step (run_view (c17 s l (by omega) (by omega) (wr_in h2)) rfl rfl) ?_); conv => whnf)
    | (refine ⟨⟨(by first | rfl | (simp; done)), cap_ok (by simp only [List.length_map, List.length_cons, List.length_nil, List.length_append]; omega) rfl⟩, ?_⟩; conv => whnf)
    | (refine ⟨mem_one ⟨rfl, rfl⟩, ?_⟩; conv => whnf)
    | (refine ⟨(by intro y hy; obtain ⟨x, _, rfl⟩ := List.mem_map.1 hy; first | rfl | exact ⟨rfl, rfl⟩), ?_⟩; conv => whnf)
    | (refine ⟨cap_ok (by first | omega | (simp only [List.length_map]; omega)) rfl, ?_⟩; conv => whnf)
    | (refine ix_map (by omega) ?_; conv => whnf)
    | (refine ix_str (by omega) ?_; conv => whnf)
    | (refine wrap64 (by omega) ?_; conv => whnf)
    | (exfalso; simp only [List.length_map, List.length_cons, List.length_nil, List.length_append] at h; omega)
    | ((with_reducible refine endx_go ?_); first | (exact endx (congrArg D.bool (by rw [written_err h2]; simp)); done))
    | (refine ⟨rfl, ?_⟩; conv => whnf)
    | fail
    )

theorem c3o (s : Bs) (l : List Wr) (hsm : smallB s l = true) (h2 : (evsErr s l).2 = 0) : Fn 3 [.str s, .fs (l.map Wr.enc)] (.bool true) := by
  obtain ⟨hs1, hs2, hs3⟩ := smallB_ok hsm; have hb6 : ∀ x ∈ l, x.bytes.length < 1000000 := fun x hx => (by have := hs3 x hx; omega); have hw2 : (written s l).2 = 0 := (by rw [written_ok h2])
  refine run_walkF eok Tryd.func3 rfl (by kernel_rfl) ?_
  conv => whnf
  repeat' (first
    | ((with_reducible refine on_dec_t (by assumption) ?_); conv => whnf)
    | ((with_reducible refine on_dec_f (by assumption) ?_); conv => whnf)
    | ((with_reducible refine onBool_t (by assumption) ?_); conv => whnf)
    | ((with_reducible refine onBool_f (by assumption) ?_); conv => whnf)
    | ((with_reducible refine on_nt (by assumption) ?_); conv => whnf)
    | ((with_reducible refine on_nf (by assumption) ?_); conv => whnf)
    | ((with_reducible refine on_ndec_t (by first | assumption | rfl) ?_); conv => whnf)
    | ((with_reducible refine on_ndec_f (by assumption) ?_); conv => whnf)
    | ((with_reducible refine on_dec_t rfl ?_); conv => whnf)
    | ((with_reducible refine on_dec_f ?_ ?_); (focus ((try simp only [List.length_map, List.length_cons, List.length_nil, List.length_append]); omega)); conv => whnf)
    | ((with_reducible refine on_dec_t ?_ ?_); (focus ((try simp only [List.length_map, List.length_cons, List.length_nil, List.length_append]); omega)); conv => whnf)
    | ((with_reducible refine on_dec (fun h => ?_) (fun h => ?_)) <;> (try simp only [List.length_map] at h) <;> conv => whnf)
    | ((with_reducible refine on_ndec (fun h => ?_) (fun h => ?_)) <;> (try simp only [List.length_map] at h) <;> conv => whnf)
    | ((with_reducible refine on_not (fun h => ?_) (fun h => ?_)) <;> conv => whnf)
    | ((with_reducible refine onBool_split (fun h => ?_) (fun h => ?_)) <;> conv => whnf)
    | ((with_reducible refine call_go ?_); (first | refine call_step (run_data (xs := []) c11 _) ?_ | refine call_step (run_view (c12 s l) rfl rfl) ?_ | refine call_step (run_viewF (c14 l (by omega)) rfl) ?_ | refine call_step (run_view (c13 s l (by omega) (by omega) hb6) rfl rfl) ?_ | refine call_step (run_view (c15 s l (by omega) (by omega) hb6) rfl rfl) ?_ | refine call_step (run_view (c16 s l (by omega) (by omega) hb6) rfl rfl) ?_ | refine call_step (run_view (c17 s l (by omega) (by omega) (wr_in h2)) rfl rfl) ?_); conv => whnf)
    | (refine ⟨⟨(by first | rfl | (simp; done)), cap_ok (by simp only [List.length_map, List.length_cons, List.length_nil, List.length_append]; omega) rfl⟩, ?_⟩; conv => whnf)
    | (refine ⟨mem_one ⟨rfl, rfl⟩, ?_⟩; conv => whnf)
    | (refine ⟨(by intro y hy; obtain ⟨x, _, rfl⟩ := List.mem_map.1 hy; first | rfl | exact ⟨rfl, rfl⟩), ?_⟩; conv => whnf)
    | (refine ⟨cap_ok (by first | omega | (simp only [List.length_map]; omega)) rfl, ?_⟩; conv => whnf)
    | (refine ix_map (by omega) ?_; conv => whnf)
    | (refine ix_str (by omega) ?_; conv => whnf)
    | (refine wrap64 (by omega) ?_; conv => whnf)
    | (exfalso; simp only [List.length_map, List.length_cons, List.length_nil, List.length_append] at h; omega)
    | ((with_reducible refine endx_go ?_); first | (exact endx (congrArg D.bool (by rw [written_ok h2]; simp)); done))
    | (refine ⟨rfl, ?_⟩; conv => whnf)
    | fail
    )

theorem c3 (s : Bs) (l : List Wr) : Fn 3 [.str s, .fs (l.map Wr.enc)] (.bool true) := by
  cases hsm : smallB s l with
  | false => exact c3n s l hsm
  | true =>
    by_cases h2 : (evsErr s l).2 = 0
    · exact c3o s l hsm h2
    · exact c3e s l hsm h2

end Go.Proofs.YtpblmdolgocpaaaDoor

/-! Lb -/
namespace Go.Proofs.YtpblmdolgocpaaaDoor
open Go Dw Go.ChangeShapes Go.WideShapes Go.RowKit

section
attribute [local irreducible] Run
theorem hrun3 : ∀ xs, shps E 5 Tryd.f3.params.toList xs → Run Tryd.prog 3 (xs.map .d) [] (.d (.bool true)) [] := by
  intro xs h
  obtain ⟨x1, r1, rfl, ⟨s, rfl, _⟩, x2, r2, rfl, h2, rfl⟩ := h
  obtain ⟨l, rfl⟩ := shpWrs h2
  exact c3 s l
end

set_option maxRecDepth 100000 in
theorem lifted3 (os : Os) (started : os.Started) (H : Type) (enc : TypeId × Value → H) :
    ReturnsInHanded {} Tryd.checked os 3 .any (fun w args => (Rows.diskEventsSpec.pre enc Tryd.prog Tryd.f3 [] false w args ∧ laidMetH Tryd.prog laid02 w) ∧ sizedMet enc Tryd.prog Tryd.f3 (OpenSpec.ofChange Rows.diskEventsSpec) false w args)
      (Rows.diskEventsSpec.post enc Tryd.prog Tryd.f3 false true false false) := by
  refine returnsInHanded_of_change_and (C := Tryd.checked) (X := fun w _ => laidMetH Tryd.prog laid02 w) (fun _ _ _ hh h => h.of_heap hh) own02 started (by kernel_rfl) Tryd.func3
    (ChangeSpec.witness_shaped (enc := enc) (C := Tryd.checked) (os := os) (X := fun w _ => laidMetH Tryd.prog laid02 w) false (wit02 os) #[.string ⟨#[]⟩, .slice none 0 0] 8 rfl (shaped02 os _) (by kernel_rfl) (by kernel_rfl) (by kernel_rfl) (door_met02 os _)) ?_
  intro W base args ds gs before hval hW _ _ _ _
  refine law_lift (n := 5) (t4 := 4) eok Tryd.func3 (by kernel_rfl) rfl laidOut02 rfl ?_ rfl Tryd.underlying4 (by kernel_rfl) hrun3 W base args ds gs before hval hW
  intro H ds hds
  match ds, hds with
  | [a, b], _ => rfl

theorem over3 : Rows.DiskEventsSaid :=
  OpenClaim.holds_of_wide 3 Tryd.f3 rfl rfl rfl rfl rfl rfl rfl ⟨rfl, rfl, rfl, rfl, rfl⟩ rfl rfl rfl rfl rfl (by kernel_rfl) Tryd.func3 (by kernel_rfl)
    (of_decide_eq_true (by kernel_rfl)) (by unfold Func.isWrapper; first | (rw [if_pos (by decide +kernel)]; kernel_rfl) | (rw [if_neg (by decide +kernel)]; exact ⟨rfl, rfl⟩))
    (fun os started H enc _ => lifted3 os started H enc)

theorem diskEvents_proved : Rows.DiskEventsCardSaid :=
  Claim7.holds_tied_plain_at .later [] [.data, .pinned] true (true, "687066918dee5d74383946f45575ea29590729c4e1dda89224b6bf73c7b9600f") false
    over3 (fun _ h => by cases h) (by kernel_rfl) (fun _ h => by cases h) diskEvents_row_tie rfl ⟨rfl, rfl⟩ (by kernel_rfl) rfl
    (card_hl (f0 := 3) (fn0 := Tryd.f3) (by kernel_rfl) Tryd.func3 (by kernel_rfl) (by kernel_rfl)) (by kernel_rfl)
end Go.Proofs.YtpblmdolgocpaaaDoor
