/-
  Chapter 2: DiskBlocks holds at every input: no condition of ours (its card lists two tables of the library, tied to the text).
-/
import Derived.Test.YtpblmdolgocpaaaDoorGrpG
set_option linter.unusedVariables false
set_option linter.unusedSimpArgs false

/-! Wt -/
namespace Go.Proofs.YtpblmdolgocpaaaDoor
open Go Dw
set_option maxRecDepth 10000
set_option linter.unusedVariables false
set_option linter.unusedSimpArgs false
attribute [local irreducible] Run
set_option maxHeartbeats 4000000

attribute [local irreducible] sec stK put patch wrote pat wr

theorem readR_err {s : Bs} {a c : Int} (h : ¬ readErr s a c = 0) : readR s a c = [] := if_neg h
theorem readR_ok {s : Bs} {a c : Int} (h : readErr s a c = 0) : readR s a c = readB s a c := if_pos h
attribute [local irreducible] readR readErr diskErr evsErr written smallB

theorem c8g (s : Bs) (a c : Int) (h1 : (2560 : Int) < s.length) : Fn 8 [.str s, i a, i c] (.bool true) := by
  refine run_walkF eok Tryd.func8 rfl (by kernel_rfl) ?_
  conv => whnf
  repeat' (first
    | ((with_reducible refine on_dec_t (by assumption) ?_); conv => whnf)
    | ((with_reducible refine on_dec_f (by assumption) ?_); conv => whnf)
    | ((with_reducible refine onBool_t (by assumption) ?_); conv => whnf)
    | ((with_reducible refine onBool_f (by assumption) ?_); conv => whnf)
    | ((with_reducible refine on_nt (by assumption) ?_); conv => whnf)
    | ((with_reducible refine on_nf (by assumption) ?_); conv => whnf)
    | ((with_reducible refine on_ndec_t (by first | assumption | rfl) ?_); conv => whnf)
    | ((with_reducible refine on_ndec_f (by assumption) ?_); conv => whnf)
    | ((with_reducible refine on_dec_t rfl ?_); conv => whnf)
    | ((with_reducible refine on_dec_f ?_ ?_); (focus ((try simp only [List.length_map, List.length_cons, List.length_nil, List.length_append]); omega)); conv => whnf)
    | ((with_reducible refine on_dec_t ?_ ?_); (focus ((try simp only [List.length_map, List.length_cons, List.length_nil, List.length_append]); omega)); conv => whnf)
    | ((with_reducible refine on_dec (fun h => ?_) (fun h => ?_)) <;> (try simp only [List.length_map] at h) <;> conv => whnf)
    | ((with_reducible refine on_ndec (fun h => ?_) (fun h => ?_)) <;> (try simp only [List.length_map] at h) <;> conv => whnf)
    | ((with_reducible refine on_not (fun h => ?_) (fun h => ?_)) <;> conv => whnf)
    | ((with_reducible refine onBool_split (fun h => ?_) (fun h => ?_)) <;> conv => whnf)
    | ((with_reducible refine call_go ?_); (first | refine call_step (run_data (xs := []) c11 _) ?_ | refine call_step (run_view (c36 _ (by omega)) rfl rfl) ?_ | refine call_step (run_view (c20 _ (by omega)) rfl rfl) ?_ | refine call_step (run_view (c37 s a c (by omega)) rfl rfl) ?_ | refine call_step (run_view (c38 s a c (by omega)) rfl rfl) ?_); conv => whnf)
    | (refine ⟨⟨(by first | rfl | (simp; done)), cap_ok (by simp only [List.length_map, List.length_cons, List.length_nil, List.length_append]; omega) rfl⟩, ?_⟩; conv => whnf)
    | (refine ⟨mem_one ⟨rfl, rfl⟩, ?_⟩; conv => whnf)
    | (refine ⟨(by intro y hy; obtain ⟨x, _, rfl⟩ := List.mem_map.1 hy; first | rfl | exact ⟨rfl, rfl⟩), ?_⟩; conv => whnf)
    | (refine ⟨cap_ok (by first | omega | (simp only [List.length_map]; omega)) rfl, ?_⟩; conv => whnf)
    | (refine ix_map (by omega) ?_; conv => whnf)
    | (refine ix_str (by omega) ?_; conv => whnf)
    | (refine wrap64 (by omega) ?_; conv => whnf)
    | (exfalso; simp only [List.length_map, List.length_cons, List.length_nil, List.length_append] at h; omega)
    | ((with_reducible refine endx_go ?_); first | (exact endx rfl; done))
    | (refine ⟨rfl, ?_⟩; conv => whnf)
    | fail
    )

theorem c8e (s : Bs) (a c : Int) (h1 : ¬ (2560 : Int) < s.length) (h2 : ¬ readErr s a c = 0) : Fn 8 [.str s, i a, i c] (.bool true) := by
  refine run_walkF eok Tryd.func8 rfl (by kernel_rfl) ?_
  conv => whnf
  repeat' (first
    | ((with_reducible refine on_dec_t (by assumption) ?_); conv => whnf)
    | ((with_reducible refine on_dec_f (by assumption) ?_); conv => whnf)
    | ((with_reducible refine onBool_t (by assumption) ?_); conv => whnf)
    | ((with_reducible refine onBool_f (by assumption) ?_); conv => whnf)
    | ((with_reducible refine on_nt (by assumption) ?_); conv => whnf)
    | ((with_reducible refine on_nf (by assumption) ?_); conv => whnf)
    | ((with_reducible refine on_ndec_t (by first | assumption | rfl) ?_); conv => whnf)
    | ((with_reducible refine on_ndec_f (by assumption) ?_); conv => whnf)
    | ((with_reducible refine on_dec_t rfl ?_); conv => whnf)
    | ((with_reducible refine on_dec_f ?_ ?_); (focus ((try simp only [List.length_map, List.length_cons, List.length_nil, List.length_append]); omega)); conv => whnf)
    | ((with_reducible refine on_dec_t ?_ ?_); (focus ((try simp only [List.length_map, List.length_cons, List.length_nil, List.length_append]); omega)); conv => whnf)
    | ((with_reducible refine on_dec (fun h => ?_) (fun h => ?_)) <;> (try simp only [List.length_map] at h) <;> conv => whnf)
    | ((with_reducible refine on_ndec (fun h => ?_) (fun h => ?_)) <;> (try simp only [List.length_map] at h) <;> conv => whnf)
    | ((with_reducible refine on_not (fun h => ?_) (fun h => ?_)) <;> conv => whnf)
    | ((with_reducible refine onBool_split (fun h => ?_) (fun h => ?_)) <;> conv => whnf)
    | ((with_reducible refine call_go ?_); (first | refine call_step (run_data (xs := []) c11 _) ?_ | refine call_step (run_view (c36 _ (by omega)) rfl rfl) ?_ | refine call_step (run_view (c20 _ (by omega)) rfl rfl) ?_ | refine call_step (run_view (c37 s a c (by omega)) rfl rfl) ?_ | refine call_step (run_view (c38 s a c (by omega)) rfl rfl) ?_); conv => whnf)
    | (refine ⟨⟨(by first | rfl | (simp; done)), cap_ok (by simp only [List.length_map, List.length_cons, List.length_nil, List.length_append]; omega) rfl⟩, ?_⟩; conv => whnf)
    | (refine ⟨mem_one ⟨rfl, rfl⟩, ?_⟩; conv => whnf)
    | (refine ⟨(by intro y hy; obtain ⟨x, _, rfl⟩ := List.mem_map.1 hy; first | rfl | exact ⟨rfl, rfl⟩), ?_⟩; conv => whnf)
    | (refine ⟨cap_ok (by first | omega | (simp only [List.length_map]; omega)) rfl, ?_⟩; conv => whnf)
    | (refine ix_map (by omega) ?_; conv => whnf)
    | (refine ix_str (by omega) ?_; conv => whnf)
    | (refine wrap64 (by omega) ?_; conv => whnf)
    | (exfalso; simp only [List.length_map, List.length_cons, List.length_nil, List.length_append] at h; omega)
    | ((with_reducible refine endx_go ?_); first | (exact endx (congrArg D.bool (by rw [readR_err h2]; simp)); done))
    | (refine ⟨rfl, ?_⟩; conv => whnf)
    | fail
    )

theorem c8o (s : Bs) (a c : Int) (h1 : ¬ (2560 : Int) < s.length) (h2 : readErr s a c = 0) : Fn 8 [.str s, i a, i c] (.bool true) := by
  have hro := readErr_ok h2; have hsa : sc s = ((s.length / 64 : Nat) : Int) := rfl
  refine run_walkF eok Tryd.func8 rfl (by kernel_rfl) ?_
  conv => whnf
  repeat' (first
    | ((with_reducible refine on_dec_t (by assumption) ?_); conv => whnf)
    | ((with_reducible refine on_dec_f (by assumption) ?_); conv => whnf)
    | ((with_reducible refine onBool_t (by assumption) ?_); conv => whnf)
    | ((with_reducible refine onBool_f (by assumption) ?_); conv => whnf)
    | ((with_reducible refine on_nt (by assumption) ?_); conv => whnf)
    | ((with_reducible refine on_nf (by assumption) ?_); conv => whnf)
    | ((with_reducible refine on_ndec_t (by first | assumption | rfl) ?_); conv => whnf)
    | ((with_reducible refine on_ndec_f (by assumption) ?_); conv => whnf)
    | ((with_reducible refine on_dec_t rfl ?_); conv => whnf)
    | ((with_reducible refine on_dec_f ?_ ?_); (focus ((try simp only [List.length_map, List.length_cons, List.length_nil, List.length_append]); omega)); conv => whnf)
    | ((with_reducible refine on_dec_t ?_ ?_); (focus ((try simp only [List.length_map, List.length_cons, List.length_nil, List.length_append]); omega)); conv => whnf)
    | ((with_reducible refine on_dec (fun h => ?_) (fun h => ?_)) <;> (try simp only [List.length_map] at h) <;> conv => whnf)
    | ((with_reducible refine on_ndec (fun h => ?_) (fun h => ?_)) <;> (try simp only [List.length_map] at h) <;> conv => whnf)
    | ((with_reducible refine on_not (fun h => ?_) (fun h => ?_)) <;> conv => whnf)
    | ((with_reducible refine onBool_split (fun h => ?_) (fun h => ?_)) <;> conv => whnf)
    | ((with_reducible refine call_go ?_); (first | refine call_step (run_data (xs := []) c11 _) ?_ | refine call_step (run_view (c36 _ (by omega)) rfl rfl) ?_ | refine call_step (run_view (c20 _ (by omega)) rfl rfl) ?_ | refine call_step (run_view (c37 s a c (by omega)) rfl rfl) ?_ | refine call_step (run_view (c38 s a c (by omega)) rfl rfl) ?_); conv => whnf)
    | (refine ⟨⟨(by first | rfl | (simp; done)), cap_ok (by simp only [List.length_map, List.length_cons, List.length_nil, List.length_append]; omega) rfl⟩, ?_⟩; conv => whnf)
    | (refine ⟨mem_one ⟨rfl, rfl⟩, ?_⟩; conv => whnf)
    | (refine ⟨(by intro y hy; obtain ⟨x, _, rfl⟩ := List.mem_map.1 hy; first | rfl | exact ⟨rfl, rfl⟩), ?_⟩; conv => whnf)
    | (refine ⟨cap_ok (by first | omega | (simp only [List.length_map]; omega)) rfl, ?_⟩; conv => whnf)
    | (refine ix_map (by omega) ?_; conv => whnf)
    | (refine ix_str (by omega) ?_; conv => whnf)
    | (refine wrap64 (by omega) ?_; conv => whnf)
    | (refine sl_str (a.toNat * 64) ((a.toNat + c.toNat) * 64) (by omega) (by omega) (by omega) ?_; conv => whnf)
    | (refine wrap64 (by omega) ?_; conv => whnf)
    | (exfalso; simp only [List.length_map, List.length_cons, List.length_nil, List.length_append] at h; omega)
    | ((with_reducible refine endx_go ?_); first | (exact endx (congrArg D.bool (by rw [readR_ok h2, readB, List.drop_take, show (a.toNat + c.toNat) * 64 - a.toNat * 64 = c.toNat * 64 by omega]; exact decide_eq_true rfl)); done))
    | (refine ⟨rfl, ?_⟩; conv => whnf)
    | fail
    )

theorem c8 (s : Bs) (a c : Int) : Fn 8 [.str s, i a, i c] (.bool true) := by
  by_cases h1 : (2560 : Int) < s.length
  · exact c8g s a c h1
  · by_cases h2 : readErr s a c = 0
    · exact c8o s a c h1 h2
    · exact c8e s a c h1 h2

theorem c3n (s : Bs) (l : List Wr) (hsm : smallB s l = false) : Fn 3 [.str s, .fs (l.map Wr.enc)] (.bool true) := by
  refine run_walkF eok Tryd.func3 rfl (by kernel_rfl) ?_
  conv => whnf
  repeat' (first
    | ((with_reducible refine on_dec_t (by assumption) ?_); conv => whnf)
    | ((with_reducible refine on_dec_f (by assumption) ?_); conv => whnf)
    | ((with_reducible refine onBool_t (by assumption) ?_); conv => whnf)
    | ((with_reducible refine onBool_f (by assumption) ?_); conv => whnf)
    | ((with_reducible refine on_nt (by assumption) ?_); conv => whnf)
    | ((with_reducible refine on_nf (by assumption) ?_); conv => whnf)
    | ((with_reducible refine on_ndec_t (by first | assumption | rfl) ?_); conv => whnf)
    | ((with_reducible refine on_ndec_f (by assumption) ?_); conv => whnf)
    | ((with_reducible refine on_dec_t rfl ?_); conv => whnf)
    | ((with_reducible refine on_dec_f ?_ ?_); (focus ((try simp only [List.length_map, List.length_cons, List.length_nil, List.length_append]); omega)); conv => whnf)
    | ((with_reducible refine on_dec_t ?_ ?_); (focus ((try simp only [List.length_map, List.length_cons, List.length_nil, List.length_append]); omega)); conv => whnf)
    | ((with_reducible refine on_dec (fun h => ?_) (fun h => ?_)) <;> (try simp only [List.length_map] at h) <;> conv => whnf)
    | ((with_reducible refine on_ndec (fun h => ?_) (fun h => ?_)) <;> (try simp only [List.length_map] at h) <;> conv => whnf)
    | ((with_reducible refine on_not (fun h => ?_) (fun h => ?_)) <;> conv => whnf)
    | ((with_reducible refine onBool_split (fun h => ?_) (fun h => ?_)) <;> conv => whnf)
    | ((with_reducible refine call_go ?_); (first | refine call_step (run_data (xs := []) c11 _) ?_ | refine call_step (run_view (c12 s l) rfl rfl) ?_ | refine call_step (run_viewF (c14 l (by omega)) rfl) ?_ | refine call_step (run_view (c13 s l (by omega) (by omega) hb6) rfl rfl) ?_ | refine call_step (run_view (c15 s l (by omega) (by omega) hb6) rfl rfl) ?_ | refine call_step (run_view (c16 s l (by omega) (by omega) hb6) rfl rfl) ?_ | refine call_step (run_view (c17 s l (by omega) (by omega) (wr_in h2)) rfl rfl) ?_); conv => whnf)
    | (refine ⟨⟨(by first | rfl | (simp; done)), cap_ok (by simp only [List.length_map, List.length_cons, List.length_nil, List.length_append]; omega) rfl⟩, ?_⟩; conv => whnf)
    | (refine ⟨mem_one ⟨rfl, rfl⟩, ?_⟩; conv => whnf)
    | (refine ⟨(by intro y hy; obtain ⟨x, _, rfl⟩ := List.mem_map.1 hy; first | rfl | exact ⟨rfl, rfl⟩), ?_⟩; conv => whnf)
    | (refine ⟨cap_ok (by first | omega | (simp only [List.length_map]; omega)) rfl, ?_⟩; conv => whnf)
    | (refine ix_map (by omega) ?_; conv => whnf)
    | (refine ix_str (by omega) ?_; conv => whnf)
    | (refine wrap64 (by omega) ?_; conv => whnf)
    | (exfalso; simp only [List.length_map, List.length_cons, List.length_nil, List.length_append] at h; omega)
    | ((with_reducible refine endx_go ?_); first | (exact endx rfl; done))
    | (refine ⟨rfl, ?_⟩; conv => whnf)
    | fail
    )

theorem c3e (s : Bs) (l : List Wr) (hsm : smallB s l = true) (h2 : ¬ (evsErr s l).2 = 0) : Fn 3 [.str s, .fs (l.map Wr.enc)] (.bool true) := by
  obtain ⟨hs1, hs2, hs3⟩ := smallB_ok hsm; have hb6 : ∀ x ∈ l, x.bytes.length < 1000000 := fun x hx => (by have := hs3 x hx; omega); have hw2 : (written s l).2 = (evsErr s l).2 := (by rw [written_err h2])
  refine run_walkF eok Tryd.func3 rfl (by kernel_rfl) ?_
  conv => whnf
  repeat' (first
    | ((with_reducible refine on_dec_t (by assumption) ?_); conv => whnf)
    | ((with_reducible refine on_dec_f (by assumption) ?_); conv => whnf)
    | ((with_reducible refine onBool_t (by assumption) ?_); conv => whnf)
    | ((with_reducible refine onBool_f (by assumption) ?_); conv => whnf)
    | ((with_reducible refine on_nt (by assumption) ?_); conv => whnf)
    | ((with_reducible refine on_nf (by assumption) ?_); conv => whnf)
    | ((with_reducible refine on_ndec_t (by first | assumption | rfl) ?_); conv => whnf)
    | ((with_reducible refine on_ndec_f (by assumption) ?_); conv => whnf)
    | ((with_reducible refine on_dec_t rfl ?_); conv => whnf)
    | ((with_reducible refine on_dec_f ?_ ?_); (focus ((try simp only [List.length_map, List.length_cons, List.length_nil, List.length_append]); omega)); conv => whnf)
    | ((with_reducible refine on_dec_t ?_ ?_); (focus ((try simp only [List.length_map, List.length_cons, List.length_nil, List.length_append]); omega)); conv => whnf)
    | ((with_reducible refine on_dec (fun h => ?_) (fun h => ?_)) <;> (try simp only [List.length_map] at h) <;> conv => whnf)
    | ((with_reducible refine on_ndec (fun h => ?_) (fun h => ?_)) <;> (try simp only [List.length_map] at h) <;> conv => whnf)
    | ((with_reducible refine on_not (fun h => ?_) (fun h => ?_)) <;> conv => whnf)
    | ((with_reducible refine onBool_split (fun h => ?_) (fun h => ?_)) <;> conv => whnf)
    | ((with_reducible refine call_go ?_); (first | refine call_step (run_data (xs := []) c11 _) ?_ | refine call_step (run_view (c12 s l) rfl rfl) ?_ | refine call_step (run_viewF (c14 l (by omega)) rfl) ?_ | refine call_step (run_view (c13 s l (by omega) (by omega) hb6) rfl rfl) ?_ | refine call_step (run_view (c15 s l (by omega) (by omega) hb6) rfl rfl) ?_ | refine call_step (run_view (c16 s l (by omega) (by omega) hb6) rfl rfl) ?_ | refine call_step (run_view (c17 s l (by omega) (by omega) (wr_in h2)) rfl rfl) ?_); conv => whnf)
    | (refine ⟨⟨(by first | rfl | (simp; done)), cap_ok (by simp only [List.length_map, List.length_cons, List.length_nil, List.length_append]; omega) rfl⟩, ?_⟩; conv => whnf)
    | (refine ⟨mem_one ⟨rfl, rfl⟩, ?_⟩; conv => whnf)
    | (refine ⟨(by intro y hy; obtain ⟨x, _, rfl⟩ := List.mem_map.1 hy; first | rfl | exact ⟨rfl, rfl⟩), ?_⟩; conv => whnf)
    | (refine ⟨cap_ok (by first | omega | (simp only [List.length_map]; omega)) rfl, ?_⟩; conv => whnf)
    | (refine ix_map (by omega) ?_; conv => whnf)
    | (refine ix_str (by omega) ?_; conv => whnf)
    | (refine wrap64 (by omega) ?_; conv => whnf)
    | (exfalso; simp only [List.length_map, List.length_cons, List.length_nil, List.length_append] at h; omega)
    | ((with_reducible refine endx_go ?_); first | (exact endx (congrArg D.bool (by rw [written_err h2]; simp)); done))
    | (refine ⟨rfl, ?_⟩; conv => whnf)
    | fail
    )

theorem c3o (s : Bs) (l : List Wr) (hsm : smallB s l = true) (h2 : (evsErr s l).2 = 0) : Fn 3 [.str s, .fs (l.map Wr.enc)] (.bool true) := by
  obtain ⟨hs1, hs2, hs3⟩ := smallB_ok hsm; have hb6 : ∀ x ∈ l, x.bytes.length < 1000000 := fun x hx => (by have := hs3 x hx; omega); have hw2 : (written s l).2 = 0 := (by rw [written_ok h2])
  refine run_walkF eok Tryd.func3 rfl (by kernel_rfl) ?_
  conv => whnf
  repeat' (first
    | ((with_reducible refine on_dec_t (by assumption) ?_); conv => whnf)
    | ((with_reducible refine on_dec_f (by assumption) ?_); conv => whnf)
    | ((with_reducible refine onBool_t (by assumption) ?_); conv => whnf)
    | ((with_reducible refine onBool_f (by assumption) ?_); conv => whnf)
    | ((with_reducible refine on_nt (by assumption) ?_); conv => whnf)
    | ((with_reducible refine on_nf (by assumption) ?_); conv => whnf)
    | ((with_reducible refine on_ndec_t (by first | assumption | rfl) ?_); conv => whnf)
    | ((with_reducible refine on_ndec_f (by assumption) ?_); conv => whnf)
    | ((with_reducible refine on_dec_t rfl ?_); conv => whnf)
    | ((with_reducible refine on_dec_f ?_ ?_); (focus ((try simp only [List.length_map, List.length_cons, List.length_nil, List.length_append]); omega)); conv => whnf)
    | ((with_reducible refine on_dec_t ?_ ?_); (focus ((try simp only [List.length_map, List.length_cons, List.length_nil, List.length_append]); omega)); conv => whnf)
    | ((with_reducible refine on_dec (fun h => ?_) (fun h => ?_)) <;> (try simp only [List.length_map] at h) <;> conv => whnf)
    | ((with_reducible refine on_ndec (fun h => ?_) (fun h => ?_)) <;> (try simp only [List.length_map] at h) <;> conv => whnf)
    | ((with_reducible refine on_not (fun h => ?_) (fun h => ?_)) <;> conv => whnf)
    | ((with_reducible refine onBool_split (fun h => ?_) (fun h => ?_)) <;> conv => whnf)
    | ((with_reducible refine call_go ?_); (first | refine call_step (run_data (xs := []) c11 _) ?_ | refine call_step (run_view (c12 s l) rfl rfl) ?_ | refine call_step (run_viewF (c14 l (by omega)) rfl) ?_ | refine call_step (run_view (c13 s l (by omega) (by omega) hb6) rfl rfl) ?_ | refine call_step (run_view (c15 s l (by omega) (by omega) hb6) rfl rfl) ?_ | refine call_step (run_view (c16 s l (by omega) (by omega) hb6) rfl rfl) ?_ | refine call_step (run_view (c17 s l (by omega) (by omega) (wr_in h2)) rfl rfl) ?_); conv => whnf)
    | (refine ⟨⟨(by first | rfl | (simp; done)), cap_ok (by simp only [List.length_map, List.length_cons, List.length_nil, List.length_append]; omega) rfl⟩, ?_⟩; conv => whnf)
    | (refine ⟨mem_one ⟨rfl, rfl⟩, ?_⟩; conv => whnf)
    | (refine ⟨(by intro y hy; obtain ⟨x, _, rfl⟩ := List.mem_map.1 hy; first | rfl | exact ⟨rfl, rfl⟩), ?_⟩; conv => whnf)
    | (refine ⟨cap_ok (by first | omega | (simp only [List.length_map]; omega)) rfl, ?_⟩; conv => whnf)
    | (refine ix_map (by omega) ?_; conv => whnf)
    | (refine ix_str (by omega) ?_; conv => whnf)
    | (refine wrap64 (by omega) ?_; conv => whnf)
    | (exfalso; simp only [List.length_map, List.length_cons, List.length_nil, List.length_append] at h; omega)
    | ((with_reducible refine endx_go ?_); first | (exact endx (congrArg D.bool (by rw [written_ok h2]; simp)); done))
    | (refine ⟨rfl, ?_⟩; conv => whnf)
    | fail
    )

theorem c3 (s : Bs) (l : List Wr) : Fn 3 [.str s, .fs (l.map Wr.enc)] (.bool true) := by
  cases hsm : smallB s l with
  | false => exact c3n s l hsm
  | true =>
    by_cases h2 : (evsErr s l).2 = 0
    · exact c3o s l hsm h2
    · exact c3e s l hsm h2

end Go.Proofs.YtpblmdolgocpaaaDoor

/-! Wu -/
namespace Go.Proofs.YtpblmdolgocpaaaDoor
open Go Dw
set_option maxRecDepth 10000
set_option linter.unusedVariables false
set_option linter.unusedSimpArgs false
attribute [local irreducible] Run
set_option maxHeartbeats 4000000

attribute [local irreducible] sec stK put patch wrote pat wr

theorem natD_ints (l : List Nat) : l.map natD = (l.map fun (n : Nat) => (n : Int)).map i := by rw [List.map_map]; rfl
theorem c25n (a b : List Nat) (ha : a.length < 1000000) (hb : b.length < 1000000) : Fn 25 [.fs (a.map natD), .fs (b.map natD)] (.bool (decide (a = b))) := by
  have := c25 (a.map fun (n : Nat) => (n : Int)) (b.map fun (n : Nat) => (n : Int)) (by rw [List.length_map]; exact ha) (by rw [List.length_map]; exact hb)
  rw [← natD_ints, ← natD_ints] at this
  have e : decide (a.map (fun (n : Nat) => (n : Int)) = b.map fun (n : Nat) => (n : Int)) = decide (a = b) := by
    rw [decide_eq_decide]
    exact ⟨fun h => (List.map_inj_right (fun x y hxy => by omega)).1 h, fun h => by rw [h]⟩
  rw [e] at this
  exact this
theorem eachE_all {s : Bs} : ∀ {l : List Wr} {k : Nat}, (∀ x ∈ l, evErr s x = 0) → eachE s l k = (0, 0)
  | [], _, _ => rfl
  | x :: l, k, h => by
    rw [eachE, if_pos (h x (List.mem_cons_self ..))]
    exact eachE_all fun y hy => h y (List.mem_cons_of_mem _ hy)
theorem evErr_in {s : Bs} {x : Wr} (h : x.In (s.length / 64)) (hb : x.bytes ≠ []) : evErr s x = 0 := by
  obtain ⟨h1, h2, h3⟩ := h
  unfold evErr
  rw [if_neg (by rintro (c | c); omega; exact hb c.1), if_neg (by omega), if_neg (by simp only [sc]; omega)]
theorem written_wf {a b : Bs} (h : pairErr a b = 0) (ha : a.length ≤ 2560) : written a (wrR a b) = (b, 0) := by
  obtain ⟨h1, h2, h3⟩ := pairErr_ok h
  have h64 := (diskErr_ok h1).2.1
  obtain ⟨w1, w2, w3⟩ := wf_makes h3 h64
  have e : wrR a b = wf a b (a.length / 64) := if_pos h
  have ev : (evsErr a (wf a b (a.length / 64))).2 = 0 := by
    rw [evsErr_0 h1 (by omega), eachE_all fun x hx => evErr_in (w2 x hx).1 (w2 x hx).2]
  rw [e, written_ok ev]
  have w1' : wrote a (wf a b (a.length / 64)) = b := by unfold wrote; exact w1
  rw [w1']
theorem diffR_ok {a b : Bs} (h : pairErr a b = 0) : diffR a b = unl a b (a.length / 64) := if_pos h
theorem diffR_no {a b : Bs} (h : ¬ pairErr a b = 0) : diffR a b = [] := if_neg h
theorem wrR_ok {a b : Bs} (h : pairErr a b = 0) : wrR a b = wf a b (a.length / 64) := if_pos h
theorem wrR_no {a b : Bs} (h : ¬ pairErr a b = 0) : wrR a b = [] := if_neg h
theorem smallB_nil {s : Bs} (h : smallB s [] = true) : s.length ≤ 2560 := (smallB_ok h).1
attribute [local irreducible] diffR wrR pairErr written smallB unl wf

theorem c5n1 (a b : Bs) (h1 : smallB a [] = false) : Fn 5 [.str a, .str b] (.bool true) := by
  refine run_walkF eok Tryd.func5 rfl (by kernel_rfl) ?_
  conv => whnf
  repeat' (first
    | ((with_reducible refine on_dec_t (by assumption) ?_); conv => whnf)
    | ((with_reducible refine on_dec_f (by assumption) ?_); conv => whnf)
    | ((with_reducible refine onBool_t (by assumption) ?_); conv => whnf)
    | ((with_reducible refine onBool_f (by assumption) ?_); conv => whnf)
    | ((with_reducible refine on_nt (by assumption) ?_); conv => whnf)
    | ((with_reducible refine on_nf (by assumption) ?_); conv => whnf)
    | ((with_reducible refine on_ndec_t (by first | assumption | rfl) ?_); conv => whnf)
    | ((with_reducible refine on_ndec_f (by assumption) ?_); conv => whnf)
    | ((with_reducible refine on_dec_t rfl ?_); conv => whnf)
    | ((with_reducible refine on_dec_f ?_ ?_); (focus ((try simp only [List.length_map, List.length_cons, List.length_nil, List.length_append]); omega)); conv => whnf)
    | ((with_reducible refine on_dec_t ?_ ?_); (focus ((try simp only [List.length_map, List.length_cons, List.length_nil, List.length_append]); omega)); conv => whnf)
    | ((with_reducible refine on_dec (fun h => ?_) (fun h => ?_)) <;> (try simp only [List.length_map] at h) <;> conv => whnf)
    | ((with_reducible refine on_ndec (fun h => ?_) (fun h => ?_)) <;> (try simp only [List.length_map] at h) <;> conv => whnf)
    | ((with_reducible refine on_not (fun h => ?_) (fun h => ?_)) <;> conv => whnf)
    | ((with_reducible refine onBool_split (fun h => ?_) (fun h => ?_)) <;> conv => whnf)
    | ((with_reducible refine call_go ?_); (first | refine call_step (run_data (xs := []) c11 _) ?_ | refine call_step (run_view (c12 a []) rfl rfl) ?_ | refine call_step (run_view (c12 b []) rfl rfl) ?_ | refine call_step (run_viewF (c22 a b (by omega) (by omega)) rfl) ?_ | refine call_step (run_viewF (c23 a b (by omega) (by omega)) rfl) ?_ | refine call_step (run_view (c24 a b (by omega) (by omega)) rfl rfl) ?_ | refine call_step (run_viewF (c26 a b (by omega) hab) rfl) ?_ | refine call_step (run_view (c25n (diffR a b) (unl a b (a.length / 64)) (by omega) (by omega)) rfl rfl) ?_ | refine call_step (run_viewF (c28 a b (by omega) hab) rfl) ?_ | refine call_step (run_view (c27 (wrR a b) (wf a b (a.length / 64)) (by omega) (by omega)) rfl rfl) ?_ | refine call_step (run_view (c15 a (wrR a b) (by omega) (by omega) hwb) rfl rfl) ?_); conv => whnf)
    | (refine ⟨⟨(by first | rfl | (simp; done)), cap_ok (by simp only [List.length_map, List.length_cons, List.length_nil, List.length_append]; omega) rfl⟩, ?_⟩; conv => whnf)
    | (refine ⟨mem_one ⟨rfl, rfl⟩, ?_⟩; conv => whnf)
    | (refine ⟨(by intro y hy; obtain ⟨x, _, rfl⟩ := List.mem_map.1 hy; first | rfl | exact ⟨rfl, rfl⟩), ?_⟩; conv => whnf)
    | (refine ⟨cap_ok (by first | omega | (simp only [List.length_map]; omega)) rfl, ?_⟩; conv => whnf)
    | (refine ix_map (by omega) ?_; conv => whnf)
    | (refine ix_str (by omega) ?_; conv => whnf)
    | (refine wrap64 (by omega) ?_; conv => whnf)
    | (exfalso; simp only [List.length_map, List.length_cons, List.length_nil, List.length_append] at h; omega)
    | ((with_reducible refine endx_go ?_); first | (exact endx rfl; done))
    | (refine ⟨rfl, ?_⟩; conv => whnf)
    | fail
    )

theorem c5n2 (a b : Bs) (h1 : smallB a [] = true) (h2 : smallB b [] = false) : Fn 5 [.str a, .str b] (.bool true) := by
  refine run_walkF eok Tryd.func5 rfl (by kernel_rfl) ?_
  conv => whnf
  repeat' (first
    | ((with_reducible refine on_dec_t (by assumption) ?_); conv => whnf)
    | ((with_reducible refine on_dec_f (by assumption) ?_); conv => whnf)
    | ((with_reducible refine onBool_t (by assumption) ?_); conv => whnf)
    | ((with_reducible refine onBool_f (by assumption) ?_); conv => whnf)
    | ((with_reducible refine on_nt (by assumption) ?_); conv => whnf)
    | ((with_reducible refine on_nf (by assumption) ?_); conv => whnf)
    | ((with_reducible refine on_ndec_t (by first | assumption | rfl) ?_); conv => whnf)
    | ((with_reducible refine on_ndec_f (by assumption) ?_); conv => whnf)
    | ((with_reducible refine on_dec_t rfl ?_); conv => whnf)
    | ((with_reducible refine on_dec_f ?_ ?_); (focus ((try simp only [List.length_map, List.length_cons, List.length_nil, List.length_append]); omega)); conv => whnf)
    | ((with_reducible refine on_dec_t ?_ ?_); (focus ((try simp only [List.length_map, List.length_cons, List.length_nil, List.length_append]); omega)); conv => whnf)
    | ((with_reducible refine on_dec (fun h => ?_) (fun h => ?_)) <;> (try simp only [List.length_map] at h) <;> conv => whnf)
    | ((with_reducible refine on_ndec (fun h => ?_) (fun h => ?_)) <;> (try simp only [List.length_map] at h) <;> conv => whnf)
    | ((with_reducible refine on_not (fun h => ?_) (fun h => ?_)) <;> conv => whnf)
    | ((with_reducible refine onBool_split (fun h => ?_) (fun h => ?_)) <;> conv => whnf)
    | ((with_reducible refine call_go ?_); (first | refine call_step (run_data (xs := []) c11 _) ?_ | refine call_step (run_view (c12 a []) rfl rfl) ?_ | refine call_step (run_view (c12 b []) rfl rfl) ?_ | refine call_step (run_viewF (c22 a b (by omega) (by omega)) rfl) ?_ | refine call_step (run_viewF (c23 a b (by omega) (by omega)) rfl) ?_ | refine call_step (run_view (c24 a b (by omega) (by omega)) rfl rfl) ?_ | refine call_step (run_viewF (c26 a b (by omega) hab) rfl) ?_ | refine call_step (run_view (c25n (diffR a b) (unl a b (a.length / 64)) (by omega) (by omega)) rfl rfl) ?_ | refine call_step (run_viewF (c28 a b (by omega) hab) rfl) ?_ | refine call_step (run_view (c27 (wrR a b) (wf a b (a.length / 64)) (by omega) (by omega)) rfl rfl) ?_ | refine call_step (run_view (c15 a (wrR a b) (by omega) (by omega) hwb) rfl rfl) ?_); conv => whnf)
    | (refine ⟨⟨(by first | rfl | (simp; done)), cap_ok (by simp only [List.length_map, List.length_cons, List.length_nil, List.length_append]; omega) rfl⟩, ?_⟩; conv => whnf)
    | (refine ⟨mem_one ⟨rfl, rfl⟩, ?_⟩; conv => whnf)
    | (refine ⟨(by intro y hy; obtain ⟨x, _, rfl⟩ := List.mem_map.1 hy; first | rfl | exact ⟨rfl, rfl⟩), ?_⟩; conv => whnf)
    | (refine ⟨cap_ok (by first | omega | (simp only [List.length_map]; omega)) rfl, ?_⟩; conv => whnf)
    | (refine ix_map (by omega) ?_; conv => whnf)
    | (refine ix_str (by omega) ?_; conv => whnf)
    | (refine wrap64 (by omega) ?_; conv => whnf)
    | (exfalso; simp only [List.length_map, List.length_cons, List.length_nil, List.length_append] at h; omega)
    | ((with_reducible refine endx_go ?_); first | (exact endx rfl; done))
    | (refine ⟨rfl, ?_⟩; conv => whnf)
    | fail
    )

theorem c5e (a b : Bs) (h1 : smallB a [] = true) (h2 : smallB b [] = true) (h3 : ¬ pairErr a b = 0) : Fn 5 [.str a, .str b] (.bool true) := by
  have hs1 := smallB_nil h1; have hs2 := smallB_nil h2; have e1 : (diffR a b).length = 0 := (by rw [diffR_no h3]; rfl); have e2 : (wrR a b).length = 0 := (by rw [wrR_no h3]; rfl)
  refine run_walkF eok Tryd.func5 rfl (by kernel_rfl) ?_
  conv => whnf
  repeat' (first
    | ((with_reducible refine on_dec_t (by assumption) ?_); conv => whnf)
    | ((with_reducible refine on_dec_f (by assumption) ?_); conv => whnf)
    | ((with_reducible refine onBool_t (by assumption) ?_); conv => whnf)
    | ((with_reducible refine onBool_f (by assumption) ?_); conv => whnf)
    | ((with_reducible refine on_nt (by assumption) ?_); conv => whnf)
    | ((with_reducible refine on_nf (by assumption) ?_); conv => whnf)
    | ((with_reducible refine on_ndec_t (by first | assumption | rfl) ?_); conv => whnf)
    | ((with_reducible refine on_ndec_f (by assumption) ?_); conv => whnf)
    | ((with_reducible refine on_dec_t rfl ?_); conv => whnf)
    | ((with_reducible refine on_dec_f ?_ ?_); (focus ((try simp only [List.length_map, List.length_cons, List.length_nil, List.length_append]); omega)); conv => whnf)
    | ((with_reducible refine on_dec_t ?_ ?_); (focus ((try simp only [List.length_map, List.length_cons, List.length_nil, List.length_append]); omega)); conv => whnf)
    | ((with_reducible refine on_dec (fun h => ?_) (fun h => ?_)) <;> (try simp only [List.length_map] at h) <;> conv => whnf)
    | ((with_reducible refine on_ndec (fun h => ?_) (fun h => ?_)) <;> (try simp only [List.length_map] at h) <;> conv => whnf)
    | ((with_reducible refine on_not (fun h => ?_) (fun h => ?_)) <;> conv => whnf)
    | ((with_reducible refine onBool_split (fun h => ?_) (fun h => ?_)) <;> conv => whnf)
    | ((with_reducible refine call_go ?_); (first | refine call_step (run_data (xs := []) c11 _) ?_ | refine call_step (run_view (c12 a []) rfl rfl) ?_ | refine call_step (run_view (c12 b []) rfl rfl) ?_ | refine call_step (run_viewF (c22 a b (by omega) (by omega)) rfl) ?_ | refine call_step (run_viewF (c23 a b (by omega) (by omega)) rfl) ?_ | refine call_step (run_view (c24 a b (by omega) (by omega)) rfl rfl) ?_ | refine call_step (run_viewF (c26 a b (by omega) hab) rfl) ?_ | refine call_step (run_view (c25n (diffR a b) (unl a b (a.length / 64)) (by omega) (by omega)) rfl rfl) ?_ | refine call_step (run_viewF (c28 a b (by omega) hab) rfl) ?_ | refine call_step (run_view (c27 (wrR a b) (wf a b (a.length / 64)) (by omega) (by omega)) rfl rfl) ?_ | refine call_step (run_view (c15 a (wrR a b) (by omega) (by omega) hwb) rfl rfl) ?_); conv => whnf)
    | (refine ⟨⟨(by first | rfl | (simp; done)), cap_ok (by simp only [List.length_map, List.length_cons, List.length_nil, List.length_append]; omega) rfl⟩, ?_⟩; conv => whnf)
    | (refine ⟨mem_one ⟨rfl, rfl⟩, ?_⟩; conv => whnf)
    | (refine ⟨(by intro y hy; obtain ⟨x, _, rfl⟩ := List.mem_map.1 hy; first | rfl | exact ⟨rfl, rfl⟩), ?_⟩; conv => whnf)
    | (refine ⟨cap_ok (by first | omega | (simp only [List.length_map]; omega)) rfl, ?_⟩; conv => whnf)
    | (refine ix_map (by omega) ?_; conv => whnf)
    | (refine ix_str (by omega) ?_; conv => whnf)
    | (refine wrap64 (by omega) ?_; conv => whnf)
    | (refine wrap64 (by simp only [List.length_map]; omega) ?_; conv => whnf)
    | (exfalso; simp only [List.length_map, List.length_cons, List.length_nil, List.length_append] at h; omega)
    | ((with_reducible refine endx_go ?_); first | (exact endx (congrArg D.bool (by simp [e1, e2])); done))
    | (refine ⟨rfl, ?_⟩; conv => whnf)
    | fail
    )

theorem c5o (a b : Bs) (h1 : smallB a [] = true) (h2 : smallB b [] = true) (h3 : pairErr a b = 0) : Fn 5 [.str a, .str b] (.bool true) := by
  have hs1 := smallB_nil h1; have hs2 := smallB_nil h2; have hab := (pairErr_ok h3).2.2; have hd := diffR_ok h3; have hw := wrR_ok h3; have hww := written_wf h3 hs1; have hw1 : (written a (wrR a b)).1 = b := (by rw [hww]); have hw2 : (written a (wrR a b)).2 = 0 := (by rw [hww]); have hun := unl_le a b (a.length / 64); have hwm := wf_makes hab (diskErr_ok (pairErr_ok h3).1).2.1; have hdl : (diffR a b).length ≤ 40 := (by rw [hd]; omega); have hwl : (wrR a b).length ≤ 40 := (by rw [hw]; omega); have hwf : (wf a b (a.length / 64)).length ≤ 40 := (by omega); have hwb : ∀ x ∈ wrR a b, x.bytes.length < 1000000 := fun x hx => (by rw [hw] at hx; have := In_le (hwm.2.1 x hx).1; omega)
  refine run_walkF eok Tryd.func5 rfl (by kernel_rfl) ?_
  conv => whnf
  repeat' (first
    | ((with_reducible refine on_dec_t (by assumption) ?_); conv => whnf)
    | ((with_reducible refine on_dec_f (by assumption) ?_); conv => whnf)
    | ((with_reducible refine onBool_t (by assumption) ?_); conv => whnf)
    | ((with_reducible refine onBool_f (by assumption) ?_); conv => whnf)
    | ((with_reducible refine on_nt (by assumption) ?_); conv => whnf)
    | ((with_reducible refine on_nf (by assumption) ?_); conv => whnf)
    | ((with_reducible refine on_ndec_t (by first | assumption | rfl) ?_); conv => whnf)
    | ((with_reducible refine on_ndec_f (by assumption) ?_); conv => whnf)
    | ((with_reducible refine on_dec_t rfl ?_); conv => whnf)
    | ((with_reducible refine on_dec_f ?_ ?_); (focus ((try simp only [List.length_map, List.length_cons, List.length_nil, List.length_append]); omega)); conv => whnf)
    | ((with_reducible refine on_dec_t ?_ ?_); (focus ((try simp only [List.length_map, List.length_cons, List.length_nil, List.length_append]); omega)); conv => whnf)
    | ((with_reducible refine on_dec (fun h => ?_) (fun h => ?_)) <;> (try simp only [List.length_map] at h) <;> conv => whnf)
    | ((with_reducible refine on_ndec (fun h => ?_) (fun h => ?_)) <;> (try simp only [List.length_map] at h) <;> conv => whnf)
    | ((with_reducible refine on_not (fun h => ?_) (fun h => ?_)) <;> conv => whnf)
    | ((with_reducible refine onBool_split (fun h => ?_) (fun h => ?_)) <;> conv => whnf)
    | ((with_reducible refine call_go ?_); (first | refine call_step (run_data (xs := []) c11 _) ?_ | refine call_step (run_view (c12 a []) rfl rfl) ?_ | refine call_step (run_view (c12 b []) rfl rfl) ?_ | refine call_step (run_viewF (c22 a b (by omega) (by omega)) rfl) ?_ | refine call_step (run_viewF (c23 a b (by omega) (by omega)) rfl) ?_ | refine call_step (run_view (c24 a b (by omega) (by omega)) rfl rfl) ?_ | refine call_step (run_viewF (c26 a b (by omega) hab) rfl) ?_ | refine call_step (run_view (c25n (diffR a b) (unl a b (a.length / 64)) (by omega) (by omega)) rfl rfl) ?_ | refine call_step (run_viewF (c28 a b (by omega) hab) rfl) ?_ | refine call_step (run_view (c27 (wrR a b) (wf a b (a.length / 64)) (by omega) (by omega)) rfl rfl) ?_ | refine call_step (run_view (c15 a (wrR a b) (by omega) (by omega) hwb) rfl rfl) ?_); conv => whnf)
    | (refine ⟨⟨(by first | rfl | (simp; done)), cap_ok (by simp only [List.length_map, List.length_cons, List.length_nil, List.length_append]; omega) rfl⟩, ?_⟩; conv => whnf)
    | (refine ⟨mem_one ⟨rfl, rfl⟩, ?_⟩; conv => whnf)
    | (refine ⟨(by intro y hy; obtain ⟨x, _, rfl⟩ := List.mem_map.1 hy; first | rfl | exact ⟨rfl, rfl⟩), ?_⟩; conv => whnf)
    | (refine ⟨cap_ok (by first | omega | (simp only [List.length_map]; omega)) rfl, ?_⟩; conv => whnf)
    | (refine ix_map (by omega) ?_; conv => whnf)
    | (refine ix_str (by omega) ?_; conv => whnf)
    | (refine wrap64 (by omega) ?_; conv => whnf)
    | (exfalso; simp only [List.length_map, List.length_cons, List.length_nil, List.length_append] at h; omega)
    | ((with_reducible refine endx_go ?_); first | (exact endx (congrArg D.bool (decide_eq_true hw1)); done))
    | (refine ⟨rfl, ?_⟩; conv => whnf)
    | fail
    )

theorem c5 (a b : Bs) : Fn 5 [.str a, .str b] (.bool true) := by
  cases h1 : smallB a [] with
  | false => exact c5n1 a b h1
  | true =>
    cases h2 : smallB b [] with
    | false => exact c5n2 a b h1 h2
    | true =>
      by_cases h3 : pairErr a b = 0
      · exact c5o a b h1 h2 h3
      · exact c5e a b h1 h2 h3

theorem mixR_ok {a b : Bs} {l : List Int} (h : mixErr a b l = 0) : mixR a b l = mixI b a l := if_pos h
theorem mixR_no {a b : Bs} {l : List Int} (h : ¬ mixErr a b l = 0) : mixR a b l = [] := if_neg h
theorem opened_iff {s : Bs} (hs : s.length = 512) : (opened s).2.2 = 0 ↔ Whole s := by
  have hb : blockErr s = 0 := by unfold blockErr; rw [if_pos hs]
  rw [← torn_nil]
  constructor
  · intro h
    by_cases t : torn s = []
    · exact t
    · rw [opened_t hb t] at h; exact absurd h (by decide)
  · intro t; rw [opened_o hb t]
theorem opened_num {s : Bs} (hs : s.length = 512) (h : (opened s).2.2 = 0) : (opened s).2.1 = (num2 (at2 s 40) : Nat) := by
  have hb : blockErr s = 0 := by unfold blockErr; rw [if_pos hs]
  rw [opened_o hb (torn_nil.2 ((opened_iff hs).1 h))]
theorem mix_ok {a b : Bs} {l : List Int} (h : mixErr a b l = 0) (ha : (opened a).2.2 = 0) (hb : (opened b).2.2 = 0) (hn : ¬ (opened a).2.1 = (opened b).2.1) : (opened (mixR a b l)).2.2 = 0 ↔ (l.length = 0 ∨ l.length = 8) := by
  obtain ⟨h1, h2, h3⟩ := mixErr_ok h
  obtain ⟨h4, h5⟩ := asc_ok h3
  rw [opened_num h1 ha, opened_num h2 hb] at hn
  rw [mixR_ok h, opened_iff (mixI_len h1 h2 h4)]
  have := mix_shows h1 h2 (l := l.map Int.toNat) (by
    rw [List.pairwise_map]
    refine h5.imp_of_mem fun {x y} hx hy hxy => ?_
    have := h4 x hx; have := h4 y hy; omega) (fun x hx => by
      obtain ⟨y, hy, rfl⟩ := List.mem_map.1 hx
      have := h4 y hy; omega) ((opened_iff h1).1 ha) ((opened_iff h2).1 hb) (fun e => hn (by rw [e]))
  rw [List.length_map] at this
  exact this
theorem mix_end (x : Int) (n : Nat) (h : x = 0 ↔ (n = 0 ∨ n = 8)) : (decide (x = 0) == (if n = 0 then true else decide (n = 8))) = true := by
  by_cases c : n = 0
  · rw [if_pos c, decide_eq_true (h.2 (.inl c))]; rfl
  · rw [if_neg c]
    by_cases d : n = 8
    · rw [decide_eq_true d, decide_eq_true (h.2 (.inr d))]; rfl
    · rw [decide_eq_false d, decide_eq_false (fun e => by rcases h.1 e with e | e <;> contradiction)]; rfl
attribute [local irreducible] mixR mixErr opened

theorem c9g1 (a b : Bs) (l : List Int) (h1 : (600 : Int) < a.length) : Fn 9 [.str a, .str b, .fs (l.map i)] (.bool true) := by
  refine run_walkF eok Tryd.func9 rfl (by kernel_rfl) ?_
  conv => whnf
  repeat' (first
    | ((with_reducible refine on_dec_t (by assumption) ?_); conv => whnf)
    | ((with_reducible refine on_dec_f (by assumption) ?_); conv => whnf)
    | ((with_reducible refine onBool_t (by assumption) ?_); conv => whnf)
    | ((with_reducible refine onBool_f (by assumption) ?_); conv => whnf)
    | ((with_reducible refine on_nt (by assumption) ?_); conv => whnf)
    | ((with_reducible refine on_nf (by assumption) ?_); conv => whnf)
    | ((with_reducible refine on_ndec_t (by first | assumption | rfl) ?_); conv => whnf)
    | ((with_reducible refine on_ndec_f (by assumption) ?_); conv => whnf)
    | ((with_reducible refine on_dec_t rfl ?_); conv => whnf)
    | ((with_reducible refine on_dec_f ?_ ?_); (focus ((try simp only [List.length_map, List.length_cons, List.length_nil, List.length_append]); omega)); conv => whnf)
    | ((with_reducible refine on_dec_t ?_ ?_); (focus ((try simp only [List.length_map, List.length_cons, List.length_nil, List.length_append]); omega)); conv => whnf)
    | ((with_reducible refine on_dec (fun h => ?_) (fun h => ?_)) <;> (try simp only [List.length_map] at h) <;> conv => whnf)
    | ((with_reducible refine on_ndec (fun h => ?_) (fun h => ?_)) <;> (try simp only [List.length_map] at h) <;> conv => whnf)
    | ((with_reducible refine on_not (fun h => ?_) (fun h => ?_)) <;> conv => whnf)
    | ((with_reducible refine onBool_split (fun h => ?_) (fun h => ?_)) <;> conv => whnf)
    | ((with_reducible refine call_go ?_); (first | refine call_step (run_data (xs := []) c11 _) ?_ | refine call_step (run_viewF (c31 l (by omega)) rfl) ?_ | refine call_step (run_view (c39 a b l (by omega)) rfl rfl) ?_ | refine call_step (run_view (c40 a b l (by omega)) rfl rfl) ?_ | refine call_step (run_view (c41 a b l h5 h6 (by omega) h7) rfl rfl) ?_ | refine call_step (run_view (c42 a) rfl rfl) ?_ | refine call_step (run_view (c42 b) rfl rfl) ?_ | refine call_step (run_view (c42 (mixR a b l)) rfl rfl) ?_); conv => whnf)
    | (refine ⟨⟨(by first | rfl | (simp; done)), cap_ok (by simp only [List.length_map, List.length_cons, List.length_nil, List.length_append]; omega) rfl⟩, ?_⟩; conv => whnf)
    | (refine ⟨mem_one ⟨rfl, rfl⟩, ?_⟩; conv => whnf)
    | (refine ⟨(by intro y hy; obtain ⟨x, _, rfl⟩ := List.mem_map.1 hy; first | rfl | exact ⟨rfl, rfl⟩), ?_⟩; conv => whnf)
    | (refine ⟨cap_ok (by first | omega | (simp only [List.length_map]; omega)) rfl, ?_⟩; conv => whnf)
    | (refine ix_map (by omega) ?_; conv => whnf)
    | (refine ix_str (by omega) ?_; conv => whnf)
    | (refine wrap64 (by omega) ?_; conv => whnf)
    | (exfalso; simp only [List.length_map, List.length_cons, List.length_nil, List.length_append] at h; omega)
    | ((with_reducible refine endx_go ?_); first | (exact endx rfl; done))
    | (refine ⟨rfl, ?_⟩; conv => whnf)
    | fail
    )

theorem c9g2 (a b : Bs) (l : List Int) (h1 : ¬ (600 : Int) < a.length) (h2 : (600 : Int) < b.length) : Fn 9 [.str a, .str b, .fs (l.map i)] (.bool true) := by
  refine run_walkF eok Tryd.func9 rfl (by kernel_rfl) ?_
  conv => whnf
  repeat' (first
    | ((with_reducible refine on_dec_t (by assumption) ?_); conv => whnf)
    | ((with_reducible refine on_dec_f (by assumption) ?_); conv => whnf)
    | ((with_reducible refine onBool_t (by assumption) ?_); conv => whnf)
    | ((with_reducible refine onBool_f (by assumption) ?_); conv => whnf)
    | ((with_reducible refine on_nt (by assumption) ?_); conv => whnf)
    | ((with_reducible refine on_nf (by assumption) ?_); conv => whnf)
    | ((with_reducible refine on_ndec_t (by first | assumption | rfl) ?_); conv => whnf)
    | ((with_reducible refine on_ndec_f (by assumption) ?_); conv => whnf)
    | ((with_reducible refine on_dec_t rfl ?_); conv => whnf)
    | ((with_reducible refine on_dec_f ?_ ?_); (focus ((try simp only [List.length_map, List.length_cons, List.length_nil, List.length_append]); omega)); conv => whnf)
    | ((with_reducible refine on_dec_t ?_ ?_); (focus ((try simp only [List.length_map, List.length_cons, List.length_nil, List.length_append]); omega)); conv => whnf)
    | ((with_reducible refine on_dec (fun h => ?_) (fun h => ?_)) <;> (try simp only [List.length_map] at h) <;> conv => whnf)
    | ((with_reducible refine on_ndec (fun h => ?_) (fun h => ?_)) <;> (try simp only [List.length_map] at h) <;> conv => whnf)
    | ((with_reducible refine on_not (fun h => ?_) (fun h => ?_)) <;> conv => whnf)
    | ((with_reducible refine onBool_split (fun h => ?_) (fun h => ?_)) <;> conv => whnf)
    | ((with_reducible refine call_go ?_); (first | refine call_step (run_data (xs := []) c11 _) ?_ | refine call_step (run_viewF (c31 l (by omega)) rfl) ?_ | refine call_step (run_view (c39 a b l (by omega)) rfl rfl) ?_ | refine call_step (run_view (c40 a b l (by omega)) rfl rfl) ?_ | refine call_step (run_view (c41 a b l h5 h6 (by omega) h7) rfl rfl) ?_ | refine call_step (run_view (c42 a) rfl rfl) ?_ | refine call_step (run_view (c42 b) rfl rfl) ?_ | refine call_step (run_view (c42 (mixR a b l)) rfl rfl) ?_); conv => whnf)
    | (refine ⟨⟨(by first | rfl | (simp; done)), cap_ok (by simp only [List.length_map, List.length_cons, List.length_nil, List.length_append]; omega) rfl⟩, ?_⟩; conv => whnf)
    | (refine ⟨mem_one ⟨rfl, rfl⟩, ?_⟩; conv => whnf)
    | (refine ⟨(by intro y hy; obtain ⟨x, _, rfl⟩ := List.mem_map.1 hy; first | rfl | exact ⟨rfl, rfl⟩), ?_⟩; conv => whnf)
    | (refine ⟨cap_ok (by first | omega | (simp only [List.length_map]; omega)) rfl, ?_⟩; conv => whnf)
    | (refine ix_map (by omega) ?_; conv => whnf)
    | (refine ix_str (by omega) ?_; conv => whnf)
    | (refine wrap64 (by omega) ?_; conv => whnf)
    | (exfalso; simp only [List.length_map, List.length_cons, List.length_nil, List.length_append] at h; omega)
    | ((with_reducible refine endx_go ?_); first | (exact endx rfl; done))
    | (refine ⟨rfl, ?_⟩; conv => whnf)
    | fail
    )

theorem c9g3 (a b : Bs) (l : List Int) (h1 : ¬ (600 : Int) < a.length) (h2 : ¬ (600 : Int) < b.length) (h3 : (12 : Int) < (l.map i).length) : Fn 9 [.str a, .str b, .fs (l.map i)] (.bool true) := by
  refine run_walkF eok Tryd.func9 rfl (by kernel_rfl) ?_
  conv => whnf
  repeat' (first
    | ((with_reducible refine on_dec_t (by assumption) ?_); conv => whnf)
    | ((with_reducible refine on_dec_f (by assumption) ?_); conv => whnf)
    | ((with_reducible refine onBool_t (by assumption) ?_); conv => whnf)
    | ((with_reducible refine onBool_f (by assumption) ?_); conv => whnf)
    | ((with_reducible refine on_nt (by assumption) ?_); conv => whnf)
    | ((with_reducible refine on_nf (by assumption) ?_); conv => whnf)
    | ((with_reducible refine on_ndec_t (by first | assumption | rfl) ?_); conv => whnf)
    | ((with_reducible refine on_ndec_f (by assumption) ?_); conv => whnf)
    | ((with_reducible refine on_dec_t rfl ?_); conv => whnf)
    | ((with_reducible refine on_dec_f ?_ ?_); (focus ((try simp only [List.length_map, List.length_cons, List.length_nil, List.length_append]); omega)); conv => whnf)
    | ((with_reducible refine on_dec_t ?_ ?_); (focus ((try simp only [List.length_map, List.length_cons, List.length_nil, List.length_append]); omega)); conv => whnf)
    | ((with_reducible refine on_dec (fun h => ?_) (fun h => ?_)) <;> (try simp only [List.length_map] at h) <;> conv => whnf)
    | ((with_reducible refine on_ndec (fun h => ?_) (fun h => ?_)) <;> (try simp only [List.length_map] at h) <;> conv => whnf)
    | ((with_reducible refine on_not (fun h => ?_) (fun h => ?_)) <;> conv => whnf)
    | ((with_reducible refine onBool_split (fun h => ?_) (fun h => ?_)) <;> conv => whnf)
    | ((with_reducible refine call_go ?_); (first | refine call_step (run_data (xs := []) c11 _) ?_ | refine call_step (run_viewF (c31 l (by omega)) rfl) ?_ | refine call_step (run_view (c39 a b l (by omega)) rfl rfl) ?_ | refine call_step (run_view (c40 a b l (by omega)) rfl rfl) ?_ | refine call_step (run_view (c41 a b l h5 h6 (by omega) h7) rfl rfl) ?_ | refine call_step (run_view (c42 a) rfl rfl) ?_ | refine call_step (run_view (c42 b) rfl rfl) ?_ | refine call_step (run_view (c42 (mixR a b l)) rfl rfl) ?_); conv => whnf)
    | (refine ⟨⟨(by first | rfl | (simp; done)), cap_ok (by simp only [List.length_map, List.length_cons, List.length_nil, List.length_append]; omega) rfl⟩, ?_⟩; conv => whnf)
    | (refine ⟨mem_one ⟨rfl, rfl⟩, ?_⟩; conv => whnf)
    | (refine ⟨(by intro y hy; obtain ⟨x, _, rfl⟩ := List.mem_map.1 hy; first | rfl | exact ⟨rfl, rfl⟩), ?_⟩; conv => whnf)
    | (refine ⟨cap_ok (by first | omega | (simp only [List.length_map]; omega)) rfl, ?_⟩; conv => whnf)
    | (refine ix_map (by omega) ?_; conv => whnf)
    | (refine ix_str (by omega) ?_; conv => whnf)
    | (refine wrap64 (by omega) ?_; conv => whnf)
    | (exfalso; simp only [List.length_map, List.length_cons, List.length_nil, List.length_append] at h; omega)
    | ((with_reducible refine endx_go ?_); first | (exact endx rfl; done))
    | (refine ⟨rfl, ?_⟩; conv => whnf)
    | fail
    )

theorem c9e (a b : Bs) (l : List Int) (h1 : ¬ (600 : Int) < a.length) (h2 : ¬ (600 : Int) < b.length) (h3 : ¬ (12 : Int) < (l.map i).length) (h4 : ¬ mixErr a b l = 0) : Fn 9 [.str a, .str b, .fs (l.map i)] (.bool true) := by
  have hll : l.length ≤ 12 := (by rw [List.length_map] at h3; omega)
  refine run_walkF eok Tryd.func9 rfl (by kernel_rfl) ?_
  conv => whnf
  repeat' (first
    | ((with_reducible refine on_dec_t (by assumption) ?_); conv => whnf)
    | ((with_reducible refine on_dec_f (by assumption) ?_); conv => whnf)
    | ((with_reducible refine onBool_t (by assumption) ?_); conv => whnf)
    | ((with_reducible refine onBool_f (by assumption) ?_); conv => whnf)
    | ((with_reducible refine on_nt (by assumption) ?_); conv => whnf)
    | ((with_reducible refine on_nf (by assumption) ?_); conv => whnf)
    | ((with_reducible refine on_ndec_t (by first | assumption | rfl) ?_); conv => whnf)
    | ((with_reducible refine on_ndec_f (by assumption) ?_); conv => whnf)
    | ((with_reducible refine on_dec_t rfl ?_); conv => whnf)
    | ((with_reducible refine on_dec_f ?_ ?_); (focus ((try simp only [List.length_map, List.length_cons, List.length_nil, List.length_append]); omega)); conv => whnf)
    | ((with_reducible refine on_dec_t ?_ ?_); (focus ((try simp only [List.length_map, List.length_cons, List.length_nil, List.length_append]); omega)); conv => whnf)
    | ((with_reducible refine on_dec (fun h => ?_) (fun h => ?_)) <;> (try simp only [List.length_map] at h) <;> conv => whnf)
    | ((with_reducible refine on_ndec (fun h => ?_) (fun h => ?_)) <;> (try simp only [List.length_map] at h) <;> conv => whnf)
    | ((with_reducible refine on_not (fun h => ?_) (fun h => ?_)) <;> conv => whnf)
    | ((with_reducible refine onBool_split (fun h => ?_) (fun h => ?_)) <;> conv => whnf)
    | ((with_reducible refine call_go ?_); (first | refine call_step (run_data (xs := []) c11 _) ?_ | refine call_step (run_viewF (c31 l (by omega)) rfl) ?_ | refine call_step (run_view (c39 a b l (by omega)) rfl rfl) ?_ | refine call_step (run_view (c40 a b l (by omega)) rfl rfl) ?_ | refine call_step (run_view (c41 a b l h5 h6 (by omega) h7) rfl rfl) ?_ | refine call_step (run_view (c42 a) rfl rfl) ?_ | refine call_step (run_view (c42 b) rfl rfl) ?_ | refine call_step (run_view (c42 (mixR a b l)) rfl rfl) ?_); conv => whnf)
    | (refine ⟨⟨(by first | rfl | (simp; done)), cap_ok (by simp only [List.length_map, List.length_cons, List.length_nil, List.length_append]; omega) rfl⟩, ?_⟩; conv => whnf)
    | (refine ⟨mem_one ⟨rfl, rfl⟩, ?_⟩; conv => whnf)
    | (refine ⟨(by intro y hy; obtain ⟨x, _, rfl⟩ := List.mem_map.1 hy; first | rfl | exact ⟨rfl, rfl⟩), ?_⟩; conv => whnf)
    | (refine ⟨cap_ok (by first | omega | (simp only [List.length_map]; omega)) rfl, ?_⟩; conv => whnf)
    | (refine ix_map (by omega) ?_; conv => whnf)
    | (refine ix_str (by omega) ?_; conv => whnf)
    | (refine wrap64 (by omega) ?_; conv => whnf)
    | (exfalso; simp only [List.length_map, List.length_cons, List.length_nil, List.length_append] at h; omega)
    | ((with_reducible refine endx_go ?_); first | (exact endx (congrArg D.bool (by rw [mixR_no h4]; simp)); done))
    | (refine ⟨rfl, ?_⟩; conv => whnf)
    | fail
    )

theorem c9o1 (a b : Bs) (l : List Int) (h1 : ¬ (600 : Int) < a.length) (h2 : ¬ (600 : Int) < b.length) (h3 : ¬ (12 : Int) < (l.map i).length) (h4 : mixErr a b l = 0) (ha : ¬ (opened a).2.2 = 0) : Fn 9 [.str a, .str b, .fs (l.map i)] (.bool true) := by
  have hll : l.length ≤ 12 := (by rw [List.length_map] at h3; omega); obtain ⟨h5, h6, h8⟩ := mixErr_ok h4; have h7 := (asc_ok h8).1; have h9 := mixR_ok h4
  refine run_walkF eok Tryd.func9 rfl (by kernel_rfl) ?_
  conv => whnf
  repeat' (first
    | ((with_reducible refine on_dec_t (by assumption) ?_); conv => whnf)
    | ((with_reducible refine on_dec_f (by assumption) ?_); conv => whnf)
    | ((with_reducible refine onBool_t (by assumption) ?_); conv => whnf)
    | ((with_reducible refine onBool_f (by assumption) ?_); conv => whnf)
    | ((with_reducible refine on_nt (by assumption) ?_); conv => whnf)
    | ((with_reducible refine on_nf (by assumption) ?_); conv => whnf)
    | ((with_reducible refine on_ndec_t (by first | assumption | rfl) ?_); conv => whnf)
    | ((with_reducible refine on_ndec_f (by assumption) ?_); conv => whnf)
    | ((with_reducible refine on_dec_t rfl ?_); conv => whnf)
    | ((with_reducible refine on_dec_f ?_ ?_); (focus ((try simp only [List.length_map, List.length_cons, List.length_nil, List.length_append]); omega)); conv => whnf)
    | ((with_reducible refine on_dec_t ?_ ?_); (focus ((try simp only [List.length_map, List.length_cons, List.length_nil, List.length_append]); omega)); conv => whnf)
    | ((with_reducible refine on_dec (fun h => ?_) (fun h => ?_)) <;> (try simp only [List.length_map] at h) <;> conv => whnf)
    | ((with_reducible refine on_ndec (fun h => ?_) (fun h => ?_)) <;> (try simp only [List.length_map] at h) <;> conv => whnf)
    | ((with_reducible refine on_not (fun h => ?_) (fun h => ?_)) <;> conv => whnf)
    | ((with_reducible refine onBool_split (fun h => ?_) (fun h => ?_)) <;> conv => whnf)
    | ((with_reducible refine call_go ?_); (first | refine call_step (run_data (xs := []) c11 _) ?_ | refine call_step (run_viewF (c31 l (by omega)) rfl) ?_ | refine call_step (run_view (c39 a b l (by omega)) rfl rfl) ?_ | refine call_step (run_view (c40 a b l (by omega)) rfl rfl) ?_ | refine call_step (run_view (c41 a b l h5 h6 (by omega) h7) rfl rfl) ?_ | refine call_step (run_view (c42 a) rfl rfl) ?_ | refine call_step (run_view (c42 b) rfl rfl) ?_ | refine call_step (run_view (c42 (mixR a b l)) rfl rfl) ?_); conv => whnf)
    | (refine ⟨⟨(by first | rfl | (simp; done)), cap_ok (by simp only [List.length_map, List.length_cons, List.length_nil, List.length_append]; omega) rfl⟩, ?_⟩; conv => whnf)
    | (refine ⟨mem_one ⟨rfl, rfl⟩, ?_⟩; conv => whnf)
    | (refine ⟨(by intro y hy; obtain ⟨x, _, rfl⟩ := List.mem_map.1 hy; first | rfl | exact ⟨rfl, rfl⟩), ?_⟩; conv => whnf)
    | (refine ⟨cap_ok (by first | omega | (simp only [List.length_map]; omega)) rfl, ?_⟩; conv => whnf)
    | (refine ix_map (by omega) ?_; conv => whnf)
    | (refine ix_str (by omega) ?_; conv => whnf)
    | (refine wrap64 (by omega) ?_; conv => whnf)
    | (exfalso; simp only [List.length_map, List.length_cons, List.length_nil, List.length_append] at h; omega)
    | ((with_reducible refine endx_go ?_); first | (exact endx rfl; done))
    | (refine ⟨rfl, ?_⟩; conv => whnf)
    | fail
    )

theorem c9o2 (a b : Bs) (l : List Int) (h1 : ¬ (600 : Int) < a.length) (h2 : ¬ (600 : Int) < b.length) (h3 : ¬ (12 : Int) < (l.map i).length) (h4 : mixErr a b l = 0) (ha : (opened a).2.2 = 0) (hb : ¬ (opened b).2.2 = 0) : Fn 9 [.str a, .str b, .fs (l.map i)] (.bool true) := by
  have hll : l.length ≤ 12 := (by rw [List.length_map] at h3; omega); obtain ⟨h5, h6, h8⟩ := mixErr_ok h4; have h7 := (asc_ok h8).1; have h9 := mixR_ok h4
  refine run_walkF eok Tryd.func9 rfl (by kernel_rfl) ?_
  conv => whnf
  repeat' (first
    | ((with_reducible refine on_dec_t (by assumption) ?_); conv => whnf)
    | ((with_reducible refine on_dec_f (by assumption) ?_); conv => whnf)
    | ((with_reducible refine onBool_t (by assumption) ?_); conv => whnf)
    | ((with_reducible refine onBool_f (by assumption) ?_); conv => whnf)
    | ((with_reducible refine on_nt (by assumption) ?_); conv => whnf)
    | ((with_reducible refine on_nf (by assumption) ?_); conv => whnf)
    | ((with_reducible refine on_ndec_t (by first | assumption | rfl) ?_); conv => whnf)
    | ((with_reducible refine on_ndec_f (by assumption) ?_); conv => whnf)
    | ((with_reducible refine on_dec_t rfl ?_); conv => whnf)
    | ((with_reducible refine on_dec_f ?_ ?_); (focus ((try simp only [List.length_map, List.length_cons, List.length_nil, List.length_append]); omega)); conv => whnf)
    | ((with_reducible refine on_dec_t ?_ ?_); (focus ((try simp only [List.length_map, List.length_cons, List.length_nil, List.length_append]); omega)); conv => whnf)
    | ((with_reducible refine on_dec (fun h => ?_) (fun h => ?_)) <;> (try simp only [List.length_map] at h) <;> conv => whnf)
    | ((with_reducible refine on_ndec (fun h => ?_) (fun h => ?_)) <;> (try simp only [List.length_map] at h) <;> conv => whnf)
    | ((with_reducible refine on_not (fun h => ?_) (fun h => ?_)) <;> conv => whnf)
    | ((with_reducible refine onBool_split (fun h => ?_) (fun h => ?_)) <;> conv => whnf)
    | ((with_reducible refine call_go ?_); (first | refine call_step (run_data (xs := []) c11 _) ?_ | refine call_step (run_viewF (c31 l (by omega)) rfl) ?_ | refine call_step (run_view (c39 a b l (by omega)) rfl rfl) ?_ | refine call_step (run_view (c40 a b l (by omega)) rfl rfl) ?_ | refine call_step (run_view (c41 a b l h5 h6 (by omega) h7) rfl rfl) ?_ | refine call_step (run_view (c42 a) rfl rfl) ?_ | refine call_step (run_view (c42 b) rfl rfl) ?_ | refine call_step (run_view (c42 (mixR a b l)) rfl rfl) ?_); conv => whnf)
    | (refine ⟨⟨(by first | rfl | (simp; done)), cap_ok (by simp only [List.length_map, List.length_cons, List.length_nil, List.length_append]; omega) rfl⟩, ?_⟩; conv => whnf)
    | (refine ⟨mem_one ⟨rfl, rfl⟩, ?_⟩; conv => whnf)
    | (refine ⟨(by intro y hy; obtain ⟨x, _, rfl⟩ := List.mem_map.1 hy; first | rfl | exact ⟨rfl, rfl⟩), ?_⟩; conv => whnf)
    | (refine ⟨cap_ok (by first | omega | (simp only [List.length_map]; omega)) rfl, ?_⟩; conv => whnf)
    | (refine ix_map (by omega) ?_; conv => whnf)
    | (refine ix_str (by omega) ?_; conv => whnf)
    | (refine wrap64 (by omega) ?_; conv => whnf)
    | (exfalso; simp only [List.length_map, List.length_cons, List.length_nil, List.length_append] at h; omega)
    | ((with_reducible refine endx_go ?_); first | (exact endx rfl; done))
    | (refine ⟨rfl, ?_⟩; conv => whnf)
    | fail
    )

theorem c9o3 (a b : Bs) (l : List Int) (h1 : ¬ (600 : Int) < a.length) (h2 : ¬ (600 : Int) < b.length) (h3 : ¬ (12 : Int) < (l.map i).length) (h4 : mixErr a b l = 0) (ha : (opened a).2.2 = 0) (hb : (opened b).2.2 = 0) (hn : (opened a).2.1 = (opened b).2.1) : Fn 9 [.str a, .str b, .fs (l.map i)] (.bool true) := by
  have hll : l.length ≤ 12 := (by rw [List.length_map] at h3; omega); obtain ⟨h5, h6, h8⟩ := mixErr_ok h4; have h7 := (asc_ok h8).1; have h9 := mixR_ok h4
  refine run_walkF eok Tryd.func9 rfl (by kernel_rfl) ?_
  conv => whnf
  repeat' (first
    | ((with_reducible refine on_dec_t (by assumption) ?_); conv => whnf)
    | ((with_reducible refine on_dec_f (by assumption) ?_); conv => whnf)
    | ((with_reducible refine onBool_t (by assumption) ?_); conv => whnf)
    | ((with_reducible refine onBool_f (by assumption) ?_); conv => whnf)
    | ((with_reducible refine on_nt (by assumption) ?_); conv => whnf)
    | ((with_reducible refine on_nf (by assumption) ?_); conv => whnf)
    | ((with_reducible refine on_ndec_t (by first | assumption | rfl) ?_); conv => whnf)
    | ((with_reducible refine on_ndec_f (by assumption) ?_); conv => whnf)
    | ((with_reducible refine on_dec_t rfl ?_); conv => whnf)
    | ((with_reducible refine on_dec_f ?_ ?_); (focus ((try simp only [List.length_map, List.length_cons, List.length_nil, List.length_append]); omega)); conv => whnf)
    | ((with_reducible refine on_dec_t ?_ ?_); (focus ((try simp only [List.length_map, List.length_cons, List.length_nil, List.length_append]); omega)); conv => whnf)
    | ((with_reducible refine on_dec (fun h => ?_) (fun h => ?_)) <;> (try simp only [List.length_map] at h) <;> conv => whnf)
    | ((with_reducible refine on_ndec (fun h => ?_) (fun h => ?_)) <;> (try simp only [List.length_map] at h) <;> conv => whnf)
    | ((with_reducible refine on_not (fun h => ?_) (fun h => ?_)) <;> conv => whnf)
    | ((with_reducible refine onBool_split (fun h => ?_) (fun h => ?_)) <;> conv => whnf)
    | ((with_reducible refine call_go ?_); (first | refine call_step (run_data (xs := []) c11 _) ?_ | refine call_step (run_viewF (c31 l (by omega)) rfl) ?_ | refine call_step (run_view (c39 a b l (by omega)) rfl rfl) ?_ | refine call_step (run_view (c40 a b l (by omega)) rfl rfl) ?_ | refine call_step (run_view (c41 a b l h5 h6 (by omega) h7) rfl rfl) ?_ | refine call_step (run_view (c42 a) rfl rfl) ?_ | refine call_step (run_view (c42 b) rfl rfl) ?_ | refine call_step (run_view (c42 (mixR a b l)) rfl rfl) ?_); conv => whnf)
    | (refine ⟨⟨(by first | rfl | (simp; done)), cap_ok (by simp only [List.length_map, List.length_cons, List.length_nil, List.length_append]; omega) rfl⟩, ?_⟩; conv => whnf)
    | (refine ⟨mem_one ⟨rfl, rfl⟩, ?_⟩; conv => whnf)
    | (refine ⟨(by intro y hy; obtain ⟨x, _, rfl⟩ := List.mem_map.1 hy; first | rfl | exact ⟨rfl, rfl⟩), ?_⟩; conv => whnf)
    | (refine ⟨cap_ok (by first | omega | (simp only [List.length_map]; omega)) rfl, ?_⟩; conv => whnf)
    | (refine ix_map (by omega) ?_; conv => whnf)
    | (refine ix_str (by omega) ?_; conv => whnf)
    | (refine wrap64 (by omega) ?_; conv => whnf)
    | (exfalso; simp only [List.length_map, List.length_cons, List.length_nil, List.length_append] at h; omega)
    | ((with_reducible refine endx_go ?_); first | (exact endx rfl; done))
    | (refine ⟨rfl, ?_⟩; conv => whnf)
    | fail
    )

theorem c9o4 (a b : Bs) (l : List Int) (h1 : ¬ (600 : Int) < a.length) (h2 : ¬ (600 : Int) < b.length) (h3 : ¬ (12 : Int) < (l.map i).length) (h4 : mixErr a b l = 0) (ha : (opened a).2.2 = 0) (hb : (opened b).2.2 = 0) (hn : ¬ (opened a).2.1 = (opened b).2.1) : Fn 9 [.str a, .str b, .fs (l.map i)] (.bool true) := by
  have hll : l.length ≤ 12 := (by rw [List.length_map] at h3; omega); obtain ⟨h5, h6, h8⟩ := mixErr_ok h4; have h7 := (asc_ok h8).1; have h9 := mixR_ok h4
  refine run_walkF eok Tryd.func9 rfl (by kernel_rfl) ?_
  conv => whnf
  repeat' (first
    | ((with_reducible refine on_dec_t (by assumption) ?_); conv => whnf)
    | ((with_reducible refine on_dec_f (by assumption) ?_); conv => whnf)
    | ((with_reducible refine onBool_t (by assumption) ?_); conv => whnf)
    | ((with_reducible refine onBool_f (by assumption) ?_); conv => whnf)
    | ((with_reducible refine on_nt (by assumption) ?_); conv => whnf)
    | ((with_reducible refine on_nf (by assumption) ?_); conv => whnf)
    | ((with_reducible refine on_ndec_t (by first | assumption | rfl) ?_); conv => whnf)
    | ((with_reducible refine on_ndec_f (by assumption) ?_); conv => whnf)
    | ((with_reducible refine on_dec_t rfl ?_); conv => whnf)
    | ((with_reducible refine on_dec_f ?_ ?_); (focus ((try simp only [List.length_map, List.length_cons, List.length_nil, List.length_append]); omega)); conv => whnf)
    | ((with_reducible refine on_dec_t ?_ ?_); (focus ((try simp only [List.length_map, List.length_cons, List.length_nil, List.length_append]); omega)); conv => whnf)
    | ((with_reducible refine on_dec (fun h => ?_) (fun h => ?_)) <;> (try simp only [List.length_map] at h) <;> conv => whnf)
    | ((with_reducible refine on_ndec (fun h => ?_) (fun h => ?_)) <;> (try simp only [List.length_map] at h) <;> conv => whnf)
    | ((with_reducible refine on_not (fun h => ?_) (fun h => ?_)) <;> conv => whnf)
    | ((with_reducible refine onBool_split (fun h => ?_) (fun h => ?_)) <;> conv => whnf)
    | ((with_reducible refine call_go ?_); (first | refine call_step (run_data (xs := []) c11 _) ?_ | refine call_step (run_viewF (c31 l (by omega)) rfl) ?_ | refine call_step (run_view (c39 a b l (by omega)) rfl rfl) ?_ | refine call_step (run_view (c40 a b l (by omega)) rfl rfl) ?_ | refine call_step (run_view (c41 a b l h5 h6 (by omega) h7) rfl rfl) ?_ | refine call_step (run_view (c42 a) rfl rfl) ?_ | refine call_step (run_view (c42 b) rfl rfl) ?_ | refine call_step (run_view (c42 (mixR a b l)) rfl rfl) ?_); conv => whnf)
    | (refine ⟨⟨(by first | rfl | (simp; done)), cap_ok (by simp only [List.length_map, List.length_cons, List.length_nil, List.length_append]; omega) rfl⟩, ?_⟩; conv => whnf)
    | (refine ⟨mem_one ⟨rfl, rfl⟩, ?_⟩; conv => whnf)
    | (refine ⟨(by intro y hy; obtain ⟨x, _, rfl⟩ := List.mem_map.1 hy; first | rfl | exact ⟨rfl, rfl⟩), ?_⟩; conv => whnf)
    | (refine ⟨cap_ok (by first | omega | (simp only [List.length_map]; omega)) rfl, ?_⟩; conv => whnf)
    | (refine ix_map (by omega) ?_; conv => whnf)
    | (refine ix_str (by omega) ?_; conv => whnf)
    | (refine wrap64 (by omega) ?_; conv => whnf)
    | (exfalso; simp only [List.length_map, List.length_cons, List.length_nil, List.length_append] at h; omega)
    | ((with_reducible refine endx_go ?_); first | (exact endx (congrArg D.bool (by have hm := mix_ok h4 ha hb hn; rw [List.length_map] at *; have e0 : l.length = 0 := (by omega); rw [decide_eq_true (hm.2 (.inl e0))]; rfl)); done) | (exact endx (congrArg D.bool (by have hm := mix_ok h4 ha hb hn; rw [List.length_map] at *; by_cases d : l.length = 8; (rw [decide_eq_true (hm.2 (.inr d)), decide_eq_true (by omega)]; rfl); (rw [decide_eq_false (fun e => by rcases hm.1 e with e | e <;> omega), decide_eq_false (by omega)]; rfl))); done))
    | (refine ⟨rfl, ?_⟩; conv => whnf)
    | fail
    )

theorem c9 (a b : Bs) (l : List Int) : Fn 9 [.str a, .str b, .fs (l.map i)] (.bool true) := by
  by_cases h1 : (600 : Int) < a.length
  · exact c9g1 a b l h1
  by_cases h2 : (600 : Int) < b.length
  · exact c9g2 a b l h1 h2
  by_cases h3 : (12 : Int) < (l.map i).length
  · exact c9g3 a b l h1 h2 h3
  by_cases h4 : mixErr a b l = 0
  · by_cases ha : (opened a).2.2 = 0
    · by_cases hb : (opened b).2.2 = 0
      · by_cases hn : (opened a).2.1 = (opened b).2.1
        · exact c9o3 a b l h1 h2 h3 h4 ha hb hn
        · exact c9o4 a b l h1 h2 h3 h4 ha hb hn
      · exact c9o2 a b l h1 h2 h3 h4 ha hb
    · exact c9o1 a b l h1 h2 h3 h4 ha
  · exact c9e a b l h1 h2 h3 h4

end Go.Proofs.YtpblmdolgocpaaaDoor

/-! Wv -/
namespace Go.Proofs.YtpblmdolgocpaaaDoor
open Go Dw
set_option maxRecDepth 10000
set_option linter.unusedVariables false
set_option linter.unusedSimpArgs false
attribute [local irreducible] Run
set_option maxHeartbeats 4000000

attribute [local irreducible] sec stK put patch wrote pat wr

theorem c45t {n : Int} (h : within n 0 65535 = true) : Fn 45 [i n] (.tup [i (n % 65535 + 1), i 0]) := by
  have := c45 n; rw [h] at this; exact this
theorem c45f {n : Int} (h : within n 0 65535 = false) : Fn 45 [i n] (.tup [i 0, i 2]) := by
  have := c45 n; rw [h] at this; exact this
theorem opened_back {s : Bs} {n : Int} (h : protErr s n = 0) : opened (pr n.toNat s) = (s, n, 0) := by
  obtain ⟨h1, h2, h3, h4⟩ := protErr_ok h
  have hp := pr_len (n := n.toNat) h1
  have hb : blockErr (pr n.toNat s) = 0 := by unfold blockErr; rw [if_pos hp]
  have hw := pr_whole (n := n.toNat) h1 (by omega)
  rw [opened_o hb (torn_nil.2 hw.1), back h1 (isz_at h1 h2), hw.2, show ((n.toNat : Nat) : Int) = n by omega]
theorem tornR_ok {s : Bs} (h : blockErr s = 0) : tornR s = torn s := if_pos h
theorem tornR_no {s : Bs} (h : ¬ blockErr s = 0) : tornR s = [] := if_neg h
theorem c54q (s : Bs) (ni : Int) (n : Nat) (h : ni = n) (hs : s.length = 512) (hn : n < 1000000) : Fn 54 [.str s, i ni] (.str (pr n s)) := by subst h; exact c54 s n hs hn
theorem torn_le (s : Bs) : (torn s).length ≤ 8 := tornK_le s 8
attribute [local irreducible] protR protErr opened tornR blockErr torn openB pr num2 at2 opR within

theorem c10g (s : Bs) (n : Int) (h1 : (600 : Int) < s.length) : Fn 10 [.str s, i n] (.bool true) := by
  refine run_walkF eok Tryd.func10 rfl (by kernel_rfl) ?_
  conv => whnf
  repeat' (first
    | ((with_reducible refine on_dec_t (by assumption) ?_); conv => whnf)
    | ((with_reducible refine on_dec_f (by assumption) ?_); conv => whnf)
    | ((with_reducible refine onBool_t (by assumption) ?_); conv => whnf)
    | ((with_reducible refine onBool_f (by assumption) ?_); conv => whnf)
    | ((with_reducible refine on_nt (by assumption) ?_); conv => whnf)
    | ((with_reducible refine on_nf (by assumption) ?_); conv => whnf)
    | ((with_reducible refine on_ndec_t (by first | assumption | rfl) ?_); conv => whnf)
    | ((with_reducible refine on_ndec_f (by assumption) ?_); conv => whnf)
    | ((with_reducible refine on_dec_t rfl ?_); conv => whnf)
    | ((with_reducible refine on_dec_f ?_ ?_); (focus ((try simp only [List.length_map, List.length_cons, List.length_nil, List.length_append]); omega)); conv => whnf)
    | ((with_reducible refine on_dec_t ?_ ?_); (focus ((try simp only [List.length_map, List.length_cons, List.length_nil, List.length_append]); omega)); conv => whnf)
    | ((with_reducible refine on_dec (fun h => ?_) (fun h => ?_)) <;> (try simp only [List.length_map] at h) <;> conv => whnf)
    | ((with_reducible refine on_ndec (fun h => ?_) (fun h => ?_)) <;> (try simp only [List.length_map] at h) <;> conv => whnf)
    | ((with_reducible refine on_not (fun h => ?_) (fun h => ?_)) <;> conv => whnf)
    | ((with_reducible refine onBool_split (fun h => ?_) (fun h => ?_)) <;> conv => whnf)
    | ((with_reducible refine call_go ?_); (first | refine call_step (run_data (xs := []) c11 _) ?_ | refine call_step (run_view (c43 s n) rfl rfl) ?_ | refine call_step (run_view (c42 s) rfl rfl) ?_ | refine call_step (run_view (c42 (protR s n)) rfl rfl) ?_ | refine call_step (run_viewF (c44 s) rfl) ?_ | refine call_step (run_view (c46 n 0 65535) rfl rfl) ?_ | refine call_step (run_view (c47 n 65535 (by decide)) rfl rfl) ?_ | refine call_step (run_view (c48 _) rfl rfl) ?_ | refine call_step (run_view (c49 _) rfl rfl) ?_ | refine call_step (run_view (c50 s hs) rfl rfl) ?_ | refine call_step (run_viewF (c51 s hs) rfl) ?_ | refine call_step (run_view (c25n (tornR s) (torn s) (by rw [tornR_ok h3]; have := torn_le s; omega) (by have := torn_le s; omega)) rfl rfl) ?_ | refine call_step (run_view (c52q s _ 40 rfl (by omega) (by omega)) rfl rfl) ?_ | refine call_step (run_view (c53 s n) rfl rfl) ?_ | refine call_step (run_view (c54q s n n.toNat (by omega) hs (by omega)) rfl rfl) ?_); conv => whnf)
    | (refine ⟨⟨(by first | rfl | (simp; done)), cap_ok (by simp only [List.length_map, List.length_cons, List.length_nil, List.length_append]; omega) rfl⟩, ?_⟩; conv => whnf)
    | (refine ⟨mem_one ⟨rfl, rfl⟩, ?_⟩; conv => whnf)
    | (refine ⟨(by intro y hy; obtain ⟨x, _, rfl⟩ := List.mem_map.1 hy; first | rfl | exact ⟨rfl, rfl⟩), ?_⟩; conv => whnf)
    | (refine ⟨cap_ok (by first | omega | (simp only [List.length_map]; omega)) rfl, ?_⟩; conv => whnf)
    | (refine ix_map (by omega) ?_; conv => whnf)
    | (refine ix_str (by omega) ?_; conv => whnf)
    | (refine wrap64 (by omega) ?_; conv => whnf)
    | (exfalso; simp only [List.length_map, List.length_cons, List.length_nil, List.length_append] at h; omega)
    | ((with_reducible refine endx_go ?_); first | (exact endx rfl; done))
    | (refine ⟨rfl, ?_⟩; conv => whnf)
    | fail
    )

theorem c10bt (s : Bs) (n : Int) (h1 : ¬ (600 : Int) < s.length) (hw : within n 0 65535 = true) (h3 : ¬ blockErr s = 0) : Fn 10 [.str s, i n] (.bool true) := by
  have e1 : protErr s n = blockErr s := protErr_b h3; have e2 : (opened s).2.2 = blockErr s := (by rw [opened_b h3]); have e3 : protR s n = [] := protR_no (by rw [e1]; exact h3); have e4 : (opened s).1 = [] := (by rw [opened_b h3]); have e6 : (opened s).2.1 = 0 := (by rw [opened_b h3]); have e5 : tornR s = [] := tornR_no h3; have e3q : protR s n = (({ data := #[] } : ByteArray).data.toList) := e3; have e4q : (opened s).1 = (({ data := #[] } : ByteArray).data.toList) := e4
  refine run_walkF eok Tryd.func10 rfl (by kernel_rfl) ?_
  conv => whnf
  repeat' (first
    | ((with_reducible refine on_dec_t (by assumption) ?_); conv => whnf)
    | ((with_reducible refine on_dec_f (by assumption) ?_); conv => whnf)
    | ((with_reducible refine onBool_t (by assumption) ?_); conv => whnf)
    | ((with_reducible refine onBool_f (by assumption) ?_); conv => whnf)
    | ((with_reducible refine on_nt (by assumption) ?_); conv => whnf)
    | ((with_reducible refine on_nf (by assumption) ?_); conv => whnf)
    | ((with_reducible refine on_ndec_t (by first | assumption | rfl) ?_); conv => whnf)
    | ((with_reducible refine on_ndec_f (by assumption) ?_); conv => whnf)
    | ((with_reducible refine on_dec_t rfl ?_); conv => whnf)
    | ((with_reducible refine on_dec_f ?_ ?_); (focus ((try simp only [List.length_map, List.length_cons, List.length_nil, List.length_append]); omega)); conv => whnf)
    | ((with_reducible refine on_dec_t ?_ ?_); (focus ((try simp only [List.length_map, List.length_cons, List.length_nil, List.length_append]); omega)); conv => whnf)
    | ((with_reducible refine on_dec (fun h => ?_) (fun h => ?_)) <;> (try simp only [List.length_map] at h) <;> conv => whnf)
    | ((with_reducible refine on_ndec (fun h => ?_) (fun h => ?_)) <;> (try simp only [List.length_map] at h) <;> conv => whnf)
    | ((with_reducible refine on_not (fun h => ?_) (fun h => ?_)) <;> conv => whnf)
    | ((with_reducible refine onBool_split (fun h => ?_) (fun h => ?_)) <;> conv => whnf)
    | ((with_reducible refine call_go ?_); (first | refine call_step (run_data (xs := []) c11 _) ?_ | refine call_step (run_view (c43 s n) rfl rfl) ?_ | refine call_step (run_view (c42 s) rfl rfl) ?_ | refine call_step (run_view (c42 (protR s n)) rfl rfl) ?_ | refine call_step (run_viewF (c44 s) rfl) ?_ | refine call_step (run_view (c45t hw) rfl rfl) ?_ | refine call_step (run_view (c46 n 0 65535) rfl rfl) ?_ | refine call_step (run_view (c47 n 65535 (by decide)) rfl rfl) ?_ | refine call_step (run_view (c48 _) rfl rfl) ?_ | refine call_step (run_view (c49 _) rfl rfl) ?_ | refine call_step (run_view (c50 s hs) rfl rfl) ?_ | refine call_step (run_viewF (c51 s hs) rfl) ?_ | refine call_step (run_view (c25n (tornR s) (torn s) (by rw [tornR_ok h3]; have := torn_le s; omega) (by have := torn_le s; omega)) rfl rfl) ?_ | refine call_step (run_view (c52q s _ 40 rfl (by omega) (by omega)) rfl rfl) ?_ | refine call_step (run_view (c53 s n) rfl rfl) ?_ | refine call_step (run_view (c54q s n n.toNat (by omega) hs (by omega)) rfl rfl) ?_); conv => whnf)
    | (refine ⟨⟨(by first | rfl | (simp; done)), cap_ok (by simp only [List.length_map, List.length_cons, List.length_nil, List.length_append]; omega) rfl⟩, ?_⟩; conv => whnf)
    | (refine ⟨mem_one ⟨rfl, rfl⟩, ?_⟩; conv => whnf)
    | (refine ⟨(by intro y hy; obtain ⟨x, _, rfl⟩ := List.mem_map.1 hy; first | rfl | exact ⟨rfl, rfl⟩), ?_⟩; conv => whnf)
    | (refine ⟨cap_ok (by first | omega | (simp only [List.length_map]; omega)) rfl, ?_⟩; conv => whnf)
    | (refine ix_map (by omega) ?_; conv => whnf)
    | (refine ix_str (by omega) ?_; conv => whnf)
    | (refine wrap64 (by omega) ?_; conv => whnf)
    | (refine wrap64 (by have := Int.emod_nonneg n (b := 65535) (by decide); have := Int.emod_lt_of_pos n (b := 65535) (by decide); omega) ?_; conv => whnf)
    | (exfalso; simp only [List.length_map, List.length_cons, List.length_nil, List.length_append] at h; omega)
    | ((with_reducible refine endx_go ?_); first | (exact absurd e3 (of_decide_eq_false h); done) | (exact absurd e4 (of_decide_eq_false h); done) | (exact endx (congrArg D.bool (by rw [e5]; rfl)); done) | (exact endx (congrArg D.bool (decide_eq_true (by simp [e5]))); done))
    | (refine ⟨rfl, ?_⟩; conv => whnf)
    | fail
    )

theorem c10ttk (s : Bs) (n : Int) (h1 : ¬ (600 : Int) < s.length) (hw : within n 0 65535 = true) (h3 : blockErr s = 0) (h4 : torn s = []) (h5 : protErr s n = 0) : Fn 10 [.str s, i n] (.bool true) := by
  have hs := blockErr_ok h3; have et := tornR_ok h3; have e1 : (openB s).2 = true := (by rw [openB_ok h4]); have e2 : (opened s).2.2 = 0 := (by rw [opened_o h3 h4]); have e3 : (opened s).1 = (openB s).1 := (by rw [opened_o h3 h4, openB_ok h4]); have e4 : (opened s).2.1 = (num2 (at2 s 40) : Nat) := (by rw [opened_o h3 h4]); have f1 : protR s n = pr n.toNat s := protR_ok h5; have hp := protErr_ok h5; have fb := opened_back h5; have f2 : (opened (protR s n)).2.2 = 0 := (by rw [f1, fb]); have f3 : (opened (protR s n)).1 = s := (by rw [f1, fb]); have f4 : (opened (protR s n)).2.1 = n := (by rw [f1, fb])
  refine run_walkF eok Tryd.func10 rfl (by kernel_rfl) ?_
  conv => whnf
  repeat' (first
    | ((with_reducible refine on_dec_t (by assumption) ?_); conv => whnf)
    | ((with_reducible refine on_dec_f (by assumption) ?_); conv => whnf)
    | ((with_reducible refine onBool_t (by assumption) ?_); conv => whnf)
    | ((with_reducible refine onBool_f (by assumption) ?_); conv => whnf)
    | ((with_reducible refine on_nt (by assumption) ?_); conv => whnf)
    | ((with_reducible refine on_nf (by assumption) ?_); conv => whnf)
    | ((with_reducible refine on_ndec_t (by first | assumption | rfl) ?_); conv => whnf)
    | ((with_reducible refine on_ndec_f (by assumption) ?_); conv => whnf)
    | ((with_reducible refine on_dec_t rfl ?_); conv => whnf)
    | ((with_reducible refine on_dec_f ?_ ?_); (focus ((try simp only [List.length_map, List.length_cons, List.length_nil, List.length_append]); omega)); conv => whnf)
    | ((with_reducible refine on_dec_t ?_ ?_); (focus ((try simp only [List.length_map, List.length_cons, List.length_nil, List.length_append]); omega)); conv => whnf)
    | ((with_reducible refine on_dec (fun h => ?_) (fun h => ?_)) <;> (try simp only [List.length_map] at h) <;> conv => whnf)
    | ((with_reducible refine on_ndec (fun h => ?_) (fun h => ?_)) <;> (try simp only [List.length_map] at h) <;> conv => whnf)
    | ((with_reducible refine on_not (fun h => ?_) (fun h => ?_)) <;> conv => whnf)
    | ((with_reducible refine onBool_split (fun h => ?_) (fun h => ?_)) <;> conv => whnf)
    | ((with_reducible refine call_go ?_); (first | refine call_step (run_data (xs := []) c11 _) ?_ | refine call_step (run_view (c43 s n) rfl rfl) ?_ | refine call_step (run_view (c42 s) rfl rfl) ?_ | refine call_step (run_view (c42 (protR s n)) rfl rfl) ?_ | refine call_step (run_viewF (c44 s) rfl) ?_ | refine call_step (run_view (c45t hw) rfl rfl) ?_ | refine call_step (run_view (c46 n 0 65535) rfl rfl) ?_ | refine call_step (run_view (c47 n 65535 (by decide)) rfl rfl) ?_ | refine call_step (run_view (c48 _) rfl rfl) ?_ | refine call_step (run_view (c49 _) rfl rfl) ?_ | refine call_step (run_view (c50 s hs) rfl rfl) ?_ | refine call_step (run_viewF (c51 s hs) rfl) ?_ | refine call_step (run_view (c25n (tornR s) (torn s) (by rw [tornR_ok h3]; have := torn_le s; omega) (by have := torn_le s; omega)) rfl rfl) ?_ | refine call_step (run_view (c52q s _ 40 rfl (by omega) (by omega)) rfl rfl) ?_ | refine call_step (run_view (c53 s n) rfl rfl) ?_ | refine call_step (run_view (c54q s n n.toNat (by omega) hs (by omega)) rfl rfl) ?_); conv => whnf)
    | (refine ⟨⟨(by first | rfl | (simp; done)), cap_ok (by simp only [List.length_map, List.length_cons, List.length_nil, List.length_append]; omega) rfl⟩, ?_⟩; conv => whnf)
    | (refine ⟨mem_one ⟨rfl, rfl⟩, ?_⟩; conv => whnf)
    | (refine ⟨(by intro y hy; obtain ⟨x, _, rfl⟩ := List.mem_map.1 hy; first | rfl | exact ⟨rfl, rfl⟩), ?_⟩; conv => whnf)
    | (refine ⟨cap_ok (by first | omega | (simp only [List.length_map]; omega)) rfl, ?_⟩; conv => whnf)
    | (refine ix_map (by omega) ?_; conv => whnf)
    | (refine ix_str (by omega) ?_; conv => whnf)
    | (refine wrap64 (by omega) ?_; conv => whnf)
    | (refine wrap64 (by have := Int.emod_nonneg n (b := 65535) (by decide); have := Int.emod_lt_of_pos n (b := 65535) (by decide); omega) ?_; conv => whnf)
    | (exfalso; simp only [List.length_map, List.length_cons, List.length_nil, List.length_append] at h; omega)
    | ((with_reducible refine endx_go ?_); first | (exact absurd e3 (of_decide_eq_false h); done) | (exact absurd f1 (of_decide_eq_false h); done) | (exact endx (congrArg D.bool (decide_eq_true f4)); done))
    | (refine ⟨rfl, ?_⟩; conv => whnf)
    | fail
    )

theorem c10tte (s : Bs) (n : Int) (h1 : ¬ (600 : Int) < s.length) (hw : within n 0 65535 = true) (h3 : blockErr s = 0) (h4 : torn s = []) (h5 : ¬ protErr s n = 0) : Fn 10 [.str s, i n] (.bool true) := by
  have hs := blockErr_ok h3; have et := tornR_ok h3; have e1 : (openB s).2 = true := (by rw [openB_ok h4]); have e2 : (opened s).2.2 = 0 := (by rw [opened_o h3 h4]); have e3 : (opened s).1 = (openB s).1 := (by rw [opened_o h3 h4, openB_ok h4]); have e4 : (opened s).2.1 = (num2 (at2 s 40) : Nat) := (by rw [opened_o h3 h4]); have f1 : protR s n = [] := protR_no h5; have f1q : protR s n = (({ data := #[] } : ByteArray).data.toList) := f1
  refine run_walkF eok Tryd.func10 rfl (by kernel_rfl) ?_
  conv => whnf
  repeat' (first
    | ((with_reducible refine on_dec_t (by assumption) ?_); conv => whnf)
    | ((with_reducible refine on_dec_f (by assumption) ?_); conv => whnf)
    | ((with_reducible refine onBool_t (by assumption) ?_); conv => whnf)
    | ((with_reducible refine onBool_f (by assumption) ?_); conv => whnf)
    | ((with_reducible refine on_nt (by assumption) ?_); conv => whnf)
    | ((with_reducible refine on_nf (by assumption) ?_); conv => whnf)
    | ((with_reducible refine on_ndec_t (by first | assumption | rfl) ?_); conv => whnf)
    | ((with_reducible refine on_ndec_f (by assumption) ?_); conv => whnf)
    | ((with_reducible refine on_dec_t rfl ?_); conv => whnf)
    | ((with_reducible refine on_dec_f ?_ ?_); (focus ((try simp only [List.length_map, List.length_cons, List.length_nil, List.length_append]); omega)); conv => whnf)
    | ((with_reducible refine on_dec_t ?_ ?_); (focus ((try simp only [List.length_map, List.length_cons, List.length_nil, List.length_append]); omega)); conv => whnf)
    | ((with_reducible refine on_dec (fun h => ?_) (fun h => ?_)) <;> (try simp only [List.length_map] at h) <;> conv => whnf)
    | ((with_reducible refine on_ndec (fun h => ?_) (fun h => ?_)) <;> (try simp only [List.length_map] at h) <;> conv => whnf)
    | ((with_reducible refine on_not (fun h => ?_) (fun h => ?_)) <;> conv => whnf)
    | ((with_reducible refine onBool_split (fun h => ?_) (fun h => ?_)) <;> conv => whnf)
    | ((with_reducible refine call_go ?_); (first | refine call_step (run_data (xs := []) c11 _) ?_ | refine call_step (run_view (c43 s n) rfl rfl) ?_ | refine call_step (run_view (c42 s) rfl rfl) ?_ | refine call_step (run_view (c42 (protR s n)) rfl rfl) ?_ | refine call_step (run_viewF (c44 s) rfl) ?_ | refine call_step (run_view (c45t hw) rfl rfl) ?_ | refine call_step (run_view (c46 n 0 65535) rfl rfl) ?_ | refine call_step (run_view (c47 n 65535 (by decide)) rfl rfl) ?_ | refine call_step (run_view (c48 _) rfl rfl) ?_ | refine call_step (run_view (c49 _) rfl rfl) ?_ | refine call_step (run_view (c50 s hs) rfl rfl) ?_ | refine call_step (run_viewF (c51 s hs) rfl) ?_ | refine call_step (run_view (c25n (tornR s) (torn s) (by rw [tornR_ok h3]; have := torn_le s; omega) (by have := torn_le s; omega)) rfl rfl) ?_ | refine call_step (run_view (c52q s _ 40 rfl (by omega) (by omega)) rfl rfl) ?_ | refine call_step (run_view (c53 s n) rfl rfl) ?_ | refine call_step (run_view (c54q s n n.toNat (by omega) hs (by omega)) rfl rfl) ?_); conv => whnf)
    | (refine ⟨⟨(by first | rfl | (simp; done)), cap_ok (by simp only [List.length_map, List.length_cons, List.length_nil, List.length_append]; omega) rfl⟩, ?_⟩; conv => whnf)
    | (refine ⟨mem_one ⟨rfl, rfl⟩, ?_⟩; conv => whnf)
    | (refine ⟨(by intro y hy; obtain ⟨x, _, rfl⟩ := List.mem_map.1 hy; first | rfl | exact ⟨rfl, rfl⟩), ?_⟩; conv => whnf)
    | (refine ⟨cap_ok (by first | omega | (simp only [List.length_map]; omega)) rfl, ?_⟩; conv => whnf)
    | (refine ix_map (by omega) ?_; conv => whnf)
    | (refine ix_str (by omega) ?_; conv => whnf)
    | (refine wrap64 (by omega) ?_; conv => whnf)
    | (refine wrap64 (by have := Int.emod_nonneg n (b := 65535) (by decide); have := Int.emod_lt_of_pos n (b := 65535) (by decide); omega) ?_; conv => whnf)
    | (exfalso; simp only [List.length_map, List.length_cons, List.length_nil, List.length_append] at h; omega)
    | ((with_reducible refine endx_go ?_); first | (exact absurd e3 (of_decide_eq_false h); done) | (exact absurd f1 (of_decide_eq_false h); done) | (exact endx (congrArg D.bool (decide_eq_true f1)); done))
    | (refine ⟨rfl, ?_⟩; conv => whnf)
    | fail
    )

theorem c10tfk (s : Bs) (n : Int) (h1 : ¬ (600 : Int) < s.length) (hw : within n 0 65535 = true) (h3 : blockErr s = 0) (h4 : ¬ torn s = []) (h5 : protErr s n = 0) : Fn 10 [.str s, i n] (.bool true) := by
  have hs := blockErr_ok h3; have et := tornR_ok h3; have e1 : (openB s).2 = false := (by rw [openB_no h4]); have e2 : (opened s).2.2 = 31 := (by rw [opened_t h3 h4]); have e3 : (opened s).1 = [] := (by rw [opened_t h3 h4]); have e3q : (opened s).1 = (({ data := #[] } : ByteArray).data.toList) := e3; have e4 : (opened s).2.1 = 0 := (by rw [opened_t h3 h4]); have f1 : protR s n = pr n.toNat s := protR_ok h5; have hp := protErr_ok h5; have fb := opened_back h5; have f2 : (opened (protR s n)).2.2 = 0 := (by rw [f1, fb]); have f3 : (opened (protR s n)).1 = s := (by rw [f1, fb]); have f4 : (opened (protR s n)).2.1 = n := (by rw [f1, fb])
  refine run_walkF eok Tryd.func10 rfl (by kernel_rfl) ?_
  conv => whnf
  repeat' (first
    | ((with_reducible refine on_dec_t (by assumption) ?_); conv => whnf)
    | ((with_reducible refine on_dec_f (by assumption) ?_); conv => whnf)
    | ((with_reducible refine onBool_t (by assumption) ?_); conv => whnf)
    | ((with_reducible refine onBool_f (by assumption) ?_); conv => whnf)
    | ((with_reducible refine on_nt (by assumption) ?_); conv => whnf)
    | ((with_reducible refine on_nf (by assumption) ?_); conv => whnf)
    | ((with_reducible refine on_ndec_t (by first | assumption | rfl) ?_); conv => whnf)
    | ((with_reducible refine on_ndec_f (by assumption) ?_); conv => whnf)
    | ((with_reducible refine on_dec_t rfl ?_); conv => whnf)
    | ((with_reducible refine on_dec_f ?_ ?_); (focus ((try simp only [List.length_map, List.length_cons, List.length_nil, List.length_append]); omega)); conv => whnf)
    | ((with_reducible refine on_dec_t ?_ ?_); (focus ((try simp only [List.length_map, List.length_cons, List.length_nil, List.length_append]); omega)); conv => whnf)
    | ((with_reducible refine on_dec (fun h => ?_) (fun h => ?_)) <;> (try simp only [List.length_map] at h) <;> conv => whnf)
    | ((with_reducible refine on_ndec (fun h => ?_) (fun h => ?_)) <;> (try simp only [List.length_map] at h) <;> conv => whnf)
    | ((with_reducible refine on_not (fun h => ?_) (fun h => ?_)) <;> conv => whnf)
    | ((with_reducible refine onBool_split (fun h => ?_) (fun h => ?_)) <;> conv => whnf)
    | ((with_reducible refine call_go ?_); (first | refine call_step (run_data (xs := []) c11 _) ?_ | refine call_step (run_view (c43 s n) rfl rfl) ?_ | refine call_step (run_view (c42 s) rfl rfl) ?_ | refine call_step (run_view (c42 (protR s n)) rfl rfl) ?_ | refine call_step (run_viewF (c44 s) rfl) ?_ | refine call_step (run_view (c45t hw) rfl rfl) ?_ | refine call_step (run_view (c46 n 0 65535) rfl rfl) ?_ | refine call_step (run_view (c47 n 65535 (by decide)) rfl rfl) ?_ | refine call_step (run_view (c48 _) rfl rfl) ?_ | refine call_step (run_view (c49 _) rfl rfl) ?_ | refine call_step (run_view (c50 s hs) rfl rfl) ?_ | refine call_step (run_viewF (c51 s hs) rfl) ?_ | refine call_step (run_view (c25n (tornR s) (torn s) (by rw [tornR_ok h3]; have := torn_le s; omega) (by have := torn_le s; omega)) rfl rfl) ?_ | refine call_step (run_view (c52q s _ 40 rfl (by omega) (by omega)) rfl rfl) ?_ | refine call_step (run_view (c53 s n) rfl rfl) ?_ | refine call_step (run_view (c54q s n n.toNat (by omega) hs (by omega)) rfl rfl) ?_); conv => whnf)
    | (refine ⟨⟨(by first | rfl | (simp; done)), cap_ok (by simp only [List.length_map, List.length_cons, List.length_nil, List.length_append]; omega) rfl⟩, ?_⟩; conv => whnf)
    | (refine ⟨mem_one ⟨rfl, rfl⟩, ?_⟩; conv => whnf)
    | (refine ⟨(by intro y hy; obtain ⟨x, _, rfl⟩ := List.mem_map.1 hy; first | rfl | exact ⟨rfl, rfl⟩), ?_⟩; conv => whnf)
    | (refine ⟨cap_ok (by first | omega | (simp only [List.length_map]; omega)) rfl, ?_⟩; conv => whnf)
    | (refine ix_map (by omega) ?_; conv => whnf)
    | (refine ix_str (by omega) ?_; conv => whnf)
    | (refine wrap64 (by omega) ?_; conv => whnf)
    | (refine wrap64 (by have := Int.emod_nonneg n (b := 65535) (by decide); have := Int.emod_lt_of_pos n (b := 65535) (by decide); omega) ?_; conv => whnf)
    | (exfalso; simp only [List.length_map, List.length_cons, List.length_nil, List.length_append] at h; omega)
    | ((with_reducible refine endx_go ?_); first | (exact absurd e3 (of_decide_eq_false h); done) | (exact absurd f1 (of_decide_eq_false h); done) | (exact endx (congrArg D.bool (decide_eq_true f4)); done))
    | (refine ⟨rfl, ?_⟩; conv => whnf)
    | fail
    )

theorem c10tfe (s : Bs) (n : Int) (h1 : ¬ (600 : Int) < s.length) (hw : within n 0 65535 = true) (h3 : blockErr s = 0) (h4 : ¬ torn s = []) (h5 : ¬ protErr s n = 0) : Fn 10 [.str s, i n] (.bool true) := by
  have hs := blockErr_ok h3; have et := tornR_ok h3; have e1 : (openB s).2 = false := (by rw [openB_no h4]); have e2 : (opened s).2.2 = 31 := (by rw [opened_t h3 h4]); have e3 : (opened s).1 = [] := (by rw [opened_t h3 h4]); have e3q : (opened s).1 = (({ data := #[] } : ByteArray).data.toList) := e3; have e4 : (opened s).2.1 = 0 := (by rw [opened_t h3 h4]); have f1 : protR s n = [] := protR_no h5; have f1q : protR s n = (({ data := #[] } : ByteArray).data.toList) := f1
  refine run_walkF eok Tryd.func10 rfl (by kernel_rfl) ?_
  conv => whnf
  repeat' (first
    | ((with_reducible refine on_dec_t (by assumption) ?_); conv => whnf)
    | ((with_reducible refine on_dec_f (by assumption) ?_); conv => whnf)
    | ((with_reducible refine onBool_t (by assumption) ?_); conv => whnf)
    | ((with_reducible refine onBool_f (by assumption) ?_); conv => whnf)
    | ((with_reducible refine on_nt (by assumption) ?_); conv => whnf)
    | ((with_reducible refine on_nf (by assumption) ?_); conv => whnf)
    | ((with_reducible refine on_ndec_t (by first | assumption | rfl) ?_); conv => whnf)
    | ((with_reducible refine on_ndec_f (by assumption) ?_); conv => whnf)
    | ((with_reducible refine on_dec_t rfl ?_); conv => whnf)
    | ((with_reducible refine on_dec_f ?_ ?_); (focus ((try simp only [List.length_map, List.length_cons, List.length_nil, List.length_append]); omega)); conv => whnf)
    | ((with_reducible refine on_dec_t ?_ ?_); (focus ((try simp only [List.length_map, List.length_cons, List.length_nil, List.length_append]); omega)); conv => whnf)
    | ((with_reducible refine on_dec (fun h => ?_) (fun h => ?_)) <;> (try simp only [List.length_map] at h) <;> conv => whnf)
    | ((with_reducible refine on_ndec (fun h => ?_) (fun h => ?_)) <;> (try simp only [List.length_map] at h) <;> conv => whnf)
    | ((with_reducible refine on_not (fun h => ?_) (fun h => ?_)) <;> conv => whnf)
    | ((with_reducible refine onBool_split (fun h => ?_) (fun h => ?_)) <;> conv => whnf)
    | ((with_reducible refine call_go ?_); (first | refine call_step (run_data (xs := []) c11 _) ?_ | refine call_step (run_view (c43 s n) rfl rfl) ?_ | refine call_step (run_view (c42 s) rfl rfl) ?_ | refine call_step (run_view (c42 (protR s n)) rfl rfl) ?_ | refine call_step (run_viewF (c44 s) rfl) ?_ | refine call_step (run_view (c45t hw) rfl rfl) ?_ | refine call_step (run_view (c46 n 0 65535) rfl rfl) ?_ | refine call_step (run_view (c47 n 65535 (by decide)) rfl rfl) ?_ | refine call_step (run_view (c48 _) rfl rfl) ?_ | refine call_step (run_view (c49 _) rfl rfl) ?_ | refine call_step (run_view (c50 s hs) rfl rfl) ?_ | refine call_step (run_viewF (c51 s hs) rfl) ?_ | refine call_step (run_view (c25n (tornR s) (torn s) (by rw [tornR_ok h3]; have := torn_le s; omega) (by have := torn_le s; omega)) rfl rfl) ?_ | refine call_step (run_view (c52q s _ 40 rfl (by omega) (by omega)) rfl rfl) ?_ | refine call_step (run_view (c53 s n) rfl rfl) ?_ | refine call_step (run_view (c54q s n n.toNat (by omega) hs (by omega)) rfl rfl) ?_); conv => whnf)
    | (refine ⟨⟨(by first | rfl | (simp; done)), cap_ok (by simp only [List.length_map, List.length_cons, List.length_nil, List.length_append]; omega) rfl⟩, ?_⟩; conv => whnf)
    | (refine ⟨mem_one ⟨rfl, rfl⟩, ?_⟩; conv => whnf)
    | (refine ⟨(by intro y hy; obtain ⟨x, _, rfl⟩ := List.mem_map.1 hy; first | rfl | exact ⟨rfl, rfl⟩), ?_⟩; conv => whnf)
    | (refine ⟨cap_ok (by first | omega | (simp only [List.length_map]; omega)) rfl, ?_⟩; conv => whnf)
    | (refine ix_map (by omega) ?_; conv => whnf)
    | (refine ix_str (by omega) ?_; conv => whnf)
    | (refine wrap64 (by omega) ?_; conv => whnf)
    | (refine wrap64 (by have := Int.emod_nonneg n (b := 65535) (by decide); have := Int.emod_lt_of_pos n (b := 65535) (by decide); omega) ?_; conv => whnf)
    | (exfalso; simp only [List.length_map, List.length_cons, List.length_nil, List.length_append] at h; omega)
    | ((with_reducible refine endx_go ?_); first | (exact absurd e3 (of_decide_eq_false h); done) | (exact absurd f1 (of_decide_eq_false h); done) | (exact endx (congrArg D.bool (decide_eq_true f1)); done))
    | (refine ⟨rfl, ?_⟩; conv => whnf)
    | fail
    )

theorem c10bf (s : Bs) (n : Int) (h1 : ¬ (600 : Int) < s.length) (hw : within n 0 65535 = false) (h3 : ¬ blockErr s = 0) : Fn 10 [.str s, i n] (.bool true) := by
  have e1 : protErr s n = blockErr s := protErr_b h3; have e2 : (opened s).2.2 = blockErr s := (by rw [opened_b h3]); have e3 : protR s n = [] := protR_no (by rw [e1]; exact h3); have e4 : (opened s).1 = [] := (by rw [opened_b h3]); have e6 : (opened s).2.1 = 0 := (by rw [opened_b h3]); have e5 : tornR s = [] := tornR_no h3; have e3q : protR s n = (({ data := #[] } : ByteArray).data.toList) := e3; have e4q : (opened s).1 = (({ data := #[] } : ByteArray).data.toList) := e4
  refine run_walkF eok Tryd.func10 rfl (by kernel_rfl) ?_
  conv => whnf
  repeat' (first
    | ((with_reducible refine on_dec_t (by assumption) ?_); conv => whnf)
    | ((with_reducible refine on_dec_f (by assumption) ?_); conv => whnf)
    | ((with_reducible refine onBool_t (by assumption) ?_); conv => whnf)
    | ((with_reducible refine onBool_f (by assumption) ?_); conv => whnf)
    | ((with_reducible refine on_nt (by assumption) ?_); conv => whnf)
    | ((with_reducible refine on_nf (by assumption) ?_); conv => whnf)
    | ((with_reducible refine on_ndec_t (by first | assumption | rfl) ?_); conv => whnf)
    | ((with_reducible refine on_ndec_f (by assumption) ?_); conv => whnf)
    | ((with_reducible refine on_dec_t rfl ?_); conv => whnf)
    | ((with_reducible refine on_dec_f ?_ ?_); (focus ((try simp only [List.length_map, List.length_cons, List.length_nil, List.length_append]); omega)); conv => whnf)
    | ((with_reducible refine on_dec_t ?_ ?_); (focus ((try simp only [List.length_map, List.length_cons, List.length_nil, List.length_append]); omega)); conv => whnf)
    | ((with_reducible refine on_dec (fun h => ?_) (fun h => ?_)) <;> (try simp only [List.length_map] at h) <;> conv => whnf)
    | ((with_reducible refine on_ndec (fun h => ?_) (fun h => ?_)) <;> (try simp only [List.length_map] at h) <;> conv => whnf)
    | ((with_reducible refine on_not (fun h => ?_) (fun h => ?_)) <;> conv => whnf)
    | ((with_reducible refine onBool_split (fun h => ?_) (fun h => ?_)) <;> conv => whnf)
    | ((with_reducible refine call_go ?_); (first | refine call_step (run_data (xs := []) c11 _) ?_ | refine call_step (run_view (c43 s n) rfl rfl) ?_ | refine call_step (run_view (c42 s) rfl rfl) ?_ | refine call_step (run_view (c42 (protR s n)) rfl rfl) ?_ | refine call_step (run_viewF (c44 s) rfl) ?_ | refine call_step (run_view (c45f hw) rfl rfl) ?_ | refine call_step (run_view (c46 n 0 65535) rfl rfl) ?_ | refine call_step (run_view (c47 n 65535 (by decide)) rfl rfl) ?_ | refine call_step (run_view (c48 _) rfl rfl) ?_ | refine call_step (run_view (c49 _) rfl rfl) ?_ | refine call_step (run_view (c50 s hs) rfl rfl) ?_ | refine call_step (run_viewF (c51 s hs) rfl) ?_ | refine call_step (run_view (c25n (tornR s) (torn s) (by rw [tornR_ok h3]; have := torn_le s; omega) (by have := torn_le s; omega)) rfl rfl) ?_ | refine call_step (run_view (c52q s _ 40 rfl (by omega) (by omega)) rfl rfl) ?_ | refine call_step (run_view (c53 s n) rfl rfl) ?_ | refine call_step (run_view (c54q s n n.toNat (by omega) hs (by omega)) rfl rfl) ?_); conv => whnf)
    | (refine ⟨⟨(by first | rfl | (simp; done)), cap_ok (by simp only [List.length_map, List.length_cons, List.length_nil, List.length_append]; omega) rfl⟩, ?_⟩; conv => whnf)
    | (refine ⟨mem_one ⟨rfl, rfl⟩, ?_⟩; conv => whnf)
    | (refine ⟨(by intro y hy; obtain ⟨x, _, rfl⟩ := List.mem_map.1 hy; first | rfl | exact ⟨rfl, rfl⟩), ?_⟩; conv => whnf)
    | (refine ⟨cap_ok (by first | omega | (simp only [List.length_map]; omega)) rfl, ?_⟩; conv => whnf)
    | (refine ix_map (by omega) ?_; conv => whnf)
    | (refine ix_str (by omega) ?_; conv => whnf)
    | (refine wrap64 (by omega) ?_; conv => whnf)
    | (refine wrap64 (by have := Int.emod_nonneg n (b := 65535) (by decide); have := Int.emod_lt_of_pos n (b := 65535) (by decide); omega) ?_; conv => whnf)
    | (exfalso; simp only [List.length_map, List.length_cons, List.length_nil, List.length_append] at h; omega)
    | ((with_reducible refine endx_go ?_); first | (exact absurd e3 (of_decide_eq_false h); done) | (exact absurd e4 (of_decide_eq_false h); done) | (exact endx (congrArg D.bool (by rw [e5]; rfl)); done) | (exact endx (congrArg D.bool (decide_eq_true (by simp [e5]))); done))
    | (refine ⟨rfl, ?_⟩; conv => whnf)
    | fail
    )

theorem c10ftk (s : Bs) (n : Int) (h1 : ¬ (600 : Int) < s.length) (hw : within n 0 65535 = false) (h3 : blockErr s = 0) (h4 : torn s = []) (h5 : protErr s n = 0) : Fn 10 [.str s, i n] (.bool true) := by
  have hs := blockErr_ok h3; have et := tornR_ok h3; have e1 : (openB s).2 = true := (by rw [openB_ok h4]); have e2 : (opened s).2.2 = 0 := (by rw [opened_o h3 h4]); have e3 : (opened s).1 = (openB s).1 := (by rw [opened_o h3 h4, openB_ok h4]); have e4 : (opened s).2.1 = (num2 (at2 s 40) : Nat) := (by rw [opened_o h3 h4]); have f1 : protR s n = pr n.toNat s := protR_ok h5; have hp := protErr_ok h5; have fb := opened_back h5; have f2 : (opened (protR s n)).2.2 = 0 := (by rw [f1, fb]); have f3 : (opened (protR s n)).1 = s := (by rw [f1, fb]); have f4 : (opened (protR s n)).2.1 = n := (by rw [f1, fb])
  refine run_walkF eok Tryd.func10 rfl (by kernel_rfl) ?_
  conv => whnf
  repeat' (first
    | ((with_reducible refine on_dec_t (by assumption) ?_); conv => whnf)
    | ((with_reducible refine on_dec_f (by assumption) ?_); conv => whnf)
    | ((with_reducible refine onBool_t (by assumption) ?_); conv => whnf)
    | ((with_reducible refine onBool_f (by assumption) ?_); conv => whnf)
    | ((with_reducible refine on_nt (by assumption) ?_); conv => whnf)
    | ((with_reducible refine on_nf (by assumption) ?_); conv => whnf)
    | ((with_reducible refine on_ndec_t (by first | assumption | rfl) ?_); conv => whnf)
    | ((with_reducible refine on_ndec_f (by assumption) ?_); conv => whnf)
    | ((with_reducible refine on_dec_t rfl ?_); conv => whnf)
    | ((with_reducible refine on_dec_f ?_ ?_); (focus ((try simp only [List.length_map, List.length_cons, List.length_nil, List.length_append]); omega)); conv => whnf)
    | ((with_reducible refine on_dec_t ?_ ?_); (focus ((try simp only [List.length_map, List.length_cons, List.length_nil, List.length_append]); omega)); conv => whnf)
    | ((with_reducible refine on_dec (fun h => ?_) (fun h => ?_)) <;> (try simp only [List.length_map] at h) <;> conv => whnf)
    | ((with_reducible refine on_ndec (fun h => ?_) (fun h => ?_)) <;> (try simp only [List.length_map] at h) <;> conv => whnf)
    | ((with_reducible refine on_not (fun h => ?_) (fun h => ?_)) <;> conv => whnf)
    | ((with_reducible refine onBool_split (fun h => ?_) (fun h => ?_)) <;> conv => whnf)
    | ((with_reducible refine call_go ?_); (first | refine call_step (run_data (xs := []) c11 _) ?_ | refine call_step (run_view (c43 s n) rfl rfl) ?_ | refine call_step (run_view (c42 s) rfl rfl) ?_ | refine call_step (run_view (c42 (protR s n)) rfl rfl) ?_ | refine call_step (run_viewF (c44 s) rfl) ?_ | refine call_step (run_view (c45f hw) rfl rfl) ?_ | refine call_step (run_view (c46 n 0 65535) rfl rfl) ?_ | refine call_step (run_view (c47 n 65535 (by decide)) rfl rfl) ?_ | refine call_step (run_view (c48 _) rfl rfl) ?_ | refine call_step (run_view (c49 _) rfl rfl) ?_ | refine call_step (run_view (c50 s hs) rfl rfl) ?_ | refine call_step (run_viewF (c51 s hs) rfl) ?_ | refine call_step (run_view (c25n (tornR s) (torn s) (by rw [tornR_ok h3]; have := torn_le s; omega) (by have := torn_le s; omega)) rfl rfl) ?_ | refine call_step (run_view (c52q s _ 40 rfl (by omega) (by omega)) rfl rfl) ?_ | refine call_step (run_view (c53 s n) rfl rfl) ?_ | refine call_step (run_view (c54q s n n.toNat (by omega) hs (by omega)) rfl rfl) ?_); conv => whnf)
    | (refine ⟨⟨(by first | rfl | (simp; done)), cap_ok (by simp only [List.length_map, List.length_cons, List.length_nil, List.length_append]; omega) rfl⟩, ?_⟩; conv => whnf)
    | (refine ⟨mem_one ⟨rfl, rfl⟩, ?_⟩; conv => whnf)
    | (refine ⟨(by intro y hy; obtain ⟨x, _, rfl⟩ := List.mem_map.1 hy; first | rfl | exact ⟨rfl, rfl⟩), ?_⟩; conv => whnf)
    | (refine ⟨cap_ok (by first | omega | (simp only [List.length_map]; omega)) rfl, ?_⟩; conv => whnf)
    | (refine ix_map (by omega) ?_; conv => whnf)
    | (refine ix_str (by omega) ?_; conv => whnf)
    | (refine wrap64 (by omega) ?_; conv => whnf)
    | (refine wrap64 (by have := Int.emod_nonneg n (b := 65535) (by decide); have := Int.emod_lt_of_pos n (b := 65535) (by decide); omega) ?_; conv => whnf)
    | (exfalso; simp only [List.length_map, List.length_cons, List.length_nil, List.length_append] at h; omega)
    | ((with_reducible refine endx_go ?_); first | (exact absurd e3 (of_decide_eq_false h); done) | (exact absurd f1 (of_decide_eq_false h); done) | (exact endx (congrArg D.bool (decide_eq_true f4)); done))
    | (refine ⟨rfl, ?_⟩; conv => whnf)
    | fail
    )

theorem c10fte (s : Bs) (n : Int) (h1 : ¬ (600 : Int) < s.length) (hw : within n 0 65535 = false) (h3 : blockErr s = 0) (h4 : torn s = []) (h5 : ¬ protErr s n = 0) : Fn 10 [.str s, i n] (.bool true) := by
  have hs := blockErr_ok h3; have et := tornR_ok h3; have e1 : (openB s).2 = true := (by rw [openB_ok h4]); have e2 : (opened s).2.2 = 0 := (by rw [opened_o h3 h4]); have e3 : (opened s).1 = (openB s).1 := (by rw [opened_o h3 h4, openB_ok h4]); have e4 : (opened s).2.1 = (num2 (at2 s 40) : Nat) := (by rw [opened_o h3 h4]); have f1 : protR s n = [] := protR_no h5; have f1q : protR s n = (({ data := #[] } : ByteArray).data.toList) := f1
  refine run_walkF eok Tryd.func10 rfl (by kernel_rfl) ?_
  conv => whnf
  repeat' (first
    | ((with_reducible refine on_dec_t (by assumption) ?_); conv => whnf)
    | ((with_reducible refine on_dec_f (by assumption) ?_); conv => whnf)
    | ((with_reducible refine onBool_t (by assumption) ?_); conv => whnf)
    | ((with_reducible refine onBool_f (by assumption) ?_); conv => whnf)
    | ((with_reducible refine on_nt (by assumption) ?_); conv => whnf)
    | ((with_reducible refine on_nf (by assumption) ?_); conv => whnf)
    | ((with_reducible refine on_ndec_t (by first | assumption | rfl) ?_); conv => whnf)
    | ((with_reducible refine on_ndec_f (by assumption) ?_); conv => whnf)
    | ((with_reducible refine on_dec_t rfl ?_); conv => whnf)
    | ((with_reducible refine on_dec_f ?_ ?_); (focus ((try simp only [List.length_map, List.length_cons, List.length_nil, List.length_append]); omega)); conv => whnf)
    | ((with_reducible refine on_dec_t ?_ ?_); (focus ((try simp only [List.length_map, List.length_cons, List.length_nil, List.length_append]); omega)); conv => whnf)
    | ((with_reducible refine on_dec (fun h => ?_) (fun h => ?_)) <;> (try simp only [List.length_map] at h) <;> conv => whnf)
    | ((with_reducible refine on_ndec (fun h => ?_) (fun h => ?_)) <;> (try simp only [List.length_map] at h) <;> conv => whnf)
    | ((with_reducible refine on_not (fun h => ?_) (fun h => ?_)) <;> conv => whnf)
    | ((with_reducible refine onBool_split (fun h => ?_) (fun h => ?_)) <;> conv => whnf)
    | ((with_reducible refine call_go ?_); (first | refine call_step (run_data (xs := []) c11 _) ?_ | refine call_step (run_view (c43 s n) rfl rfl) ?_ | refine call_step (run_view (c42 s) rfl rfl) ?_ | refine call_step (run_view (c42 (protR s n)) rfl rfl) ?_ | refine call_step (run_viewF (c44 s) rfl) ?_ | refine call_step (run_view (c45f hw) rfl rfl) ?_ | refine call_step (run_view (c46 n 0 65535) rfl rfl) ?_ | refine call_step (run_view (c47 n 65535 (by decide)) rfl rfl) ?_ | refine call_step (run_view (c48 _) rfl rfl) ?_ | refine call_step (run_view (c49 _) rfl rfl) ?_ | refine call_step (run_view (c50 s hs) rfl rfl) ?_ | refine call_step (run_viewF (c51 s hs) rfl) ?_ | refine call_step (run_view (c25n (tornR s) (torn s) (by rw [tornR_ok h3]; have := torn_le s; omega) (by have := torn_le s; omega)) rfl rfl) ?_ | refine call_step (run_view (c52q s _ 40 rfl (by omega) (by omega)) rfl rfl) ?_ | refine call_step (run_view (c53 s n) rfl rfl) ?_ | refine call_step (run_view (c54q s n n.toNat (by omega) hs (by omega)) rfl rfl) ?_); conv => whnf)
    | (refine ⟨⟨(by first | rfl | (simp; done)), cap_ok (by simp only [List.length_map, List.length_cons, List.length_nil, List.length_append]; omega) rfl⟩, ?_⟩; conv => whnf)
    | (refine ⟨mem_one ⟨rfl, rfl⟩, ?_⟩; conv => whnf)
    | (refine ⟨(by intro y hy; obtain ⟨x, _, rfl⟩ := List.mem_map.1 hy; first | rfl | exact ⟨rfl, rfl⟩), ?_⟩; conv => whnf)
    | (refine ⟨cap_ok (by first | omega | (simp only [List.length_map]; omega)) rfl, ?_⟩; conv => whnf)
    | (refine ix_map (by omega) ?_; conv => whnf)
    | (refine ix_str (by omega) ?_; conv => whnf)
    | (refine wrap64 (by omega) ?_; conv => whnf)
    | (refine wrap64 (by have := Int.emod_nonneg n (b := 65535) (by decide); have := Int.emod_lt_of_pos n (b := 65535) (by decide); omega) ?_; conv => whnf)
    | (exfalso; simp only [List.length_map, List.length_cons, List.length_nil, List.length_append] at h; omega)
    | ((with_reducible refine endx_go ?_); first | (exact absurd e3 (of_decide_eq_false h); done) | (exact absurd f1 (of_decide_eq_false h); done) | (exact endx (congrArg D.bool (decide_eq_true f1)); done))
    | (refine ⟨rfl, ?_⟩; conv => whnf)
    | fail
    )

theorem c10ffk (s : Bs) (n : Int) (h1 : ¬ (600 : Int) < s.length) (hw : within n 0 65535 = false) (h3 : blockErr s = 0) (h4 : ¬ torn s = []) (h5 : protErr s n = 0) : Fn 10 [.str s, i n] (.bool true) := by
  have hs := blockErr_ok h3; have et := tornR_ok h3; have e1 : (openB s).2 = false := (by rw [openB_no h4]); have e2 : (opened s).2.2 = 31 := (by rw [opened_t h3 h4]); have e3 : (opened s).1 = [] := (by rw [opened_t h3 h4]); have e3q : (opened s).1 = (({ data := #[] } : ByteArray).data.toList) := e3; have e4 : (opened s).2.1 = 0 := (by rw [opened_t h3 h4]); have f1 : protR s n = pr n.toNat s := protR_ok h5; have hp := protErr_ok h5; have fb := opened_back h5; have f2 : (opened (protR s n)).2.2 = 0 := (by rw [f1, fb]); have f3 : (opened (protR s n)).1 = s := (by rw [f1, fb]); have f4 : (opened (protR s n)).2.1 = n := (by rw [f1, fb])
  refine run_walkF eok Tryd.func10 rfl (by kernel_rfl) ?_
  conv => whnf
  repeat' (first
    | ((with_reducible refine on_dec_t (by assumption) ?_); conv => whnf)
    | ((with_reducible refine on_dec_f (by assumption) ?_); conv => whnf)
    | ((with_reducible refine onBool_t (by assumption) ?_); conv => whnf)
    | ((with_reducible refine onBool_f (by assumption) ?_); conv => whnf)
    | ((with_reducible refine on_nt (by assumption) ?_); conv => whnf)
    | ((with_reducible refine on_nf (by assumption) ?_); conv => whnf)
    | ((with_reducible refine on_ndec_t (by first | assumption | rfl) ?_); conv => whnf)
    | ((with_reducible refine on_ndec_f (by assumption) ?_); conv => whnf)
    | ((with_reducible refine on_dec_t rfl ?_); conv => whnf)
    | ((with_reducible refine on_dec_f ?_ ?_); (focus ((try simp only [List.length_map, List.length_cons, List.length_nil, List.length_append]); omega)); conv => whnf)
    | ((with_reducible refine on_dec_t ?_ ?_); (focus ((try simp only [List.length_map, List.length_cons, List.length_nil, List.length_append]); omega)); conv => whnf)
    | ((with_reducible refine on_dec (fun h => ?_) (fun h => ?_)) <;> (try simp only [List.length_map] at h) <;> conv => whnf)
    | ((with_reducible refine on_ndec (fun h => ?_) (fun h => ?_)) <;> (try simp only [List.length_map] at h) <;> conv => whnf)
    | ((with_reducible refine on_not (fun h => ?_) (fun h => ?_)) <;> conv => whnf)
    | ((with_reducible refine onBool_split (fun h => ?_) (fun h => ?_)) <;> conv => whnf)
    | ((with_reducible refine call_go ?_); (first | refine call_step (run_data (xs := []) c11 _) ?_ | refine call_step (run_view (c43 s n) rfl rfl) ?_ | refine call_step (run_view (c42 s) rfl rfl) ?_ | refine call_step (run_view (c42 (protR s n)) rfl rfl) ?_ | refine call_step (run_viewF (c44 s) rfl) ?_ | refine call_step (run_view (c45f hw) rfl rfl) ?_ | refine call_step (run_view (c46 n 0 65535) rfl rfl) ?_ | refine call_step (run_view (c47 n 65535 (by decide)) rfl rfl) ?_ | refine call_step (run_view (c48 _) rfl rfl) ?_ | refine call_step (run_view (c49 _) rfl rfl) ?_ | refine call_step (run_view (c50 s hs) rfl rfl) ?_ | refine call_step (run_viewF (c51 s hs) rfl) ?_ | refine call_step (run_view (c25n (tornR s) (torn s) (by rw [tornR_ok h3]; have := torn_le s; omega) (by have := torn_le s; omega)) rfl rfl) ?_ | refine call_step (run_view (c52q s _ 40 rfl (by omega) (by omega)) rfl rfl) ?_ | refine call_step (run_view (c53 s n) rfl rfl) ?_ | refine call_step (run_view (c54q s n n.toNat (by omega) hs (by omega)) rfl rfl) ?_); conv => whnf)
    | (refine ⟨⟨(by first | rfl | (simp; done)), cap_ok (by simp only [List.length_map, List.length_cons, List.length_nil, List.length_append]; omega) rfl⟩, ?_⟩; conv => whnf)
    | (refine ⟨mem_one ⟨rfl, rfl⟩, ?_⟩; conv => whnf)
    | (refine ⟨(by intro y hy; obtain ⟨x, _, rfl⟩ := List.mem_map.1 hy; first | rfl | exact ⟨rfl, rfl⟩), ?_⟩; conv => whnf)
    | (refine ⟨cap_ok (by first | omega | (simp only [List.length_map]; omega)) rfl, ?_⟩; conv => whnf)
    | (refine ix_map (by omega) ?_; conv => whnf)
    | (refine ix_str (by omega) ?_; conv => whnf)
    | (refine wrap64 (by omega) ?_; conv => whnf)
    | (refine wrap64 (by have := Int.emod_nonneg n (b := 65535) (by decide); have := Int.emod_lt_of_pos n (b := 65535) (by decide); omega) ?_; conv => whnf)
    | (exfalso; simp only [List.length_map, List.length_cons, List.length_nil, List.length_append] at h; omega)
    | ((with_reducible refine endx_go ?_); first | (exact absurd e3 (of_decide_eq_false h); done) | (exact absurd f1 (of_decide_eq_false h); done) | (exact endx (congrArg D.bool (decide_eq_true f4)); done))
    | (refine ⟨rfl, ?_⟩; conv => whnf)
    | fail
    )

theorem c10ffe (s : Bs) (n : Int) (h1 : ¬ (600 : Int) < s.length) (hw : within n 0 65535 = false) (h3 : blockErr s = 0) (h4 : ¬ torn s = []) (h5 : ¬ protErr s n = 0) : Fn 10 [.str s, i n] (.bool true) := by
  have hs := blockErr_ok h3; have et := tornR_ok h3; have e1 : (openB s).2 = false := (by rw [openB_no h4]); have e2 : (opened s).2.2 = 31 := (by rw [opened_t h3 h4]); have e3 : (opened s).1 = [] := (by rw [opened_t h3 h4]); have e3q : (opened s).1 = (({ data := #[] } : ByteArray).data.toList) := e3; have e4 : (opened s).2.1 = 0 := (by rw [opened_t h3 h4]); have f1 : protR s n = [] := protR_no h5; have f1q : protR s n = (({ data := #[] } : ByteArray).data.toList) := f1
  refine run_walkF eok Tryd.func10 rfl (by kernel_rfl) ?_
  conv => whnf
  repeat' (first
    | ((with_reducible refine on_dec_t (by assumption) ?_); conv => whnf)
    | ((with_reducible refine on_dec_f (by assumption) ?_); conv => whnf)
    | ((with_reducible refine onBool_t (by assumption) ?_); conv => whnf)
    | ((with_reducible refine onBool_f (by assumption) ?_); conv => whnf)
    | ((with_reducible refine on_nt (by assumption) ?_); conv => whnf)
    | ((with_reducible refine on_nf (by assumption) ?_); conv => whnf)
    | ((with_reducible refine on_ndec_t (by first | assumption | rfl) ?_); conv => whnf)
    | ((with_reducible refine on_ndec_f (by assumption) ?_); conv => whnf)
    | ((with_reducible refine on_dec_t rfl ?_); conv => whnf)
    | ((with_reducible refine on_dec_f ?_ ?_); (focus ((try simp only [List.length_map, List.length_cons, List.length_nil, List.length_append]); omega)); conv => whnf)
    | ((with_reducible refine on_dec_t ?_ ?_); (focus ((try simp only [List.length_map, List.length_cons, List.length_nil, List.length_append]); omega)); conv => whnf)
    | ((with_reducible refine on_dec (fun h => ?_) (fun h => ?_)) <;> (try simp only [List.length_map] at h) <;> conv => whnf)
    | ((with_reducible refine on_ndec (fun h => ?_) (fun h => ?_)) <;> (try simp only [List.length_map] at h) <;> conv => whnf)
    | ((with_reducible refine on_not (fun h => ?_) (fun h => ?_)) <;> conv => whnf)
    | ((with_reducible refine onBool_split (fun h => ?_) (fun h => ?_)) <;> conv => whnf)
    | ((with_reducible refine call_go ?_); (first | refine call_step (run_data (xs := []) c11 _) ?_ | refine call_step (run_view (c43 s n) rfl rfl) ?_ | refine call_step (run_view (c42 s) rfl rfl) ?_ | refine call_step (run_view (c42 (protR s n)) rfl rfl) ?_ | refine call_step (run_viewF (c44 s) rfl) ?_ | refine call_step (run_view (c45f hw) rfl rfl) ?_ | refine call_step (run_view (c46 n 0 65535) rfl rfl) ?_ | refine call_step (run_view (c47 n 65535 (by decide)) rfl rfl) ?_ | refine call_step (run_view (c48 _) rfl rfl) ?_ | refine call_step (run_view (c49 _) rfl rfl) ?_ | refine call_step (run_view (c50 s hs) rfl rfl) ?_ | refine call_step (run_viewF (c51 s hs) rfl) ?_ | refine call_step (run_view (c25n (tornR s) (torn s) (by rw [tornR_ok h3]; have := torn_le s; omega) (by have := torn_le s; omega)) rfl rfl) ?_ | refine call_step (run_view (c52q s _ 40 rfl (by omega) (by omega)) rfl rfl) ?_ | refine call_step (run_view (c53 s n) rfl rfl) ?_ | refine call_step (run_view (c54q s n n.toNat (by omega) hs (by omega)) rfl rfl) ?_); conv => whnf)
    | (refine ⟨⟨(by first | rfl | (simp; done)), cap_ok (by simp only [List.length_map, List.length_cons, List.length_nil, List.length_append]; omega) rfl⟩, ?_⟩; conv => whnf)
    | (refine ⟨mem_one ⟨rfl, rfl⟩, ?_⟩; conv => whnf)
    | (refine ⟨(by intro y hy; obtain ⟨x, _, rfl⟩ := List.mem_map.1 hy; first | rfl | exact ⟨rfl, rfl⟩), ?_⟩; conv => whnf)
    | (refine ⟨cap_ok (by first | omega | (simp only [List.length_map]; omega)) rfl, ?_⟩; conv => whnf)
    | (refine ix_map (by omega) ?_; conv => whnf)
    | (refine ix_str (by omega) ?_; conv => whnf)
    | (refine wrap64 (by omega) ?_; conv => whnf)
    | (refine wrap64 (by have := Int.emod_nonneg n (b := 65535) (by decide); have := Int.emod_lt_of_pos n (b := 65535) (by decide); omega) ?_; conv => whnf)
    | (exfalso; simp only [List.length_map, List.length_cons, List.length_nil, List.length_append] at h; omega)
    | ((with_reducible refine endx_go ?_); first | (exact absurd e3 (of_decide_eq_false h); done) | (exact absurd f1 (of_decide_eq_false h); done) | (exact endx (congrArg D.bool (decide_eq_true f1)); done))
    | (refine ⟨rfl, ?_⟩; conv => whnf)
    | fail
    )

theorem c10 (s : Bs) (n : Int) : Fn 10 [.str s, i n] (.bool true) := by
  by_cases h1 : (600 : Int) < s.length
  · exact c10g s n h1
  by_cases h3 : blockErr s = 0
  · by_cases h4 : torn s = [] <;> by_cases h5 : protErr s n = 0 <;> cases hw : within n 0 65535
    · exact c10ftk s n h1 hw h3 h4 h5
    · exact c10ttk s n h1 hw h3 h4 h5
    · exact c10fte s n h1 hw h3 h4 h5
    · exact c10tte s n h1 hw h3 h4 h5
    · exact c10ffk s n h1 hw h3 h4 h5
    · exact c10tfk s n h1 hw h3 h4 h5
    · exact c10ffe s n h1 hw h3 h4 h5
    · exact c10tfe s n h1 hw h3 h4 h5
  · cases hw : within n 0 65535
    · exact c10bf s n h1 hw h3
    · exact c10bt s n h1 hw h3

end Go.Proofs.YtpblmdolgocpaaaDoor

/-! Lf -/
namespace Go.Proofs.YtpblmdolgocpaaaDoor
open Go Dw Go.ChangeShapes Go.WideShapes Go.RowKit

section
attribute [local irreducible] Run
theorem hrun10 : ∀ xs, shps E 5 Tryd.f10.params.toList xs → Run Tryd.prog 10 (xs.map .d) [] (.d (.bool true)) [] := by
  intro xs h
  obtain ⟨x1, r1, rfl, ⟨s, rfl, _⟩, x2, r2, rfl, ⟨n, rfl, _⟩, rfl⟩ := h
  exact c10 s n
end

set_option maxRecDepth 100000 in
theorem lifted10 (os : Os) (started : os.Started) (H : Type) (enc : TypeId × Value → H) :
    ReturnsInHanded {} Tryd.checked os 10 .any (fun w args => (Rows.diskBlocksSpec.pre enc Tryd.prog Tryd.f10 [] false w args ∧ laidMetH Tryd.prog laid02 w) ∧ sizedMet enc Tryd.prog Tryd.f10 (OpenSpec.ofChange Rows.diskBlocksSpec) false w args)
      (Rows.diskBlocksSpec.post enc Tryd.prog Tryd.f10 false true false false) := by
  refine returnsInHanded_of_change_and (C := Tryd.checked) (X := fun w _ => laidMetH Tryd.prog laid02 w) (fun _ _ _ hh h => h.of_heap hh) own02 started (by kernel_rfl) Tryd.func10
    (ChangeSpec.witness_shaped (enc := enc) (C := Tryd.checked) (os := os) (X := fun w _ => laidMetH Tryd.prog laid02 w) false (wit02 os) #[.string ⟨#[]⟩, .int .i64 0] 8 rfl (shaped02 os _) (by kernel_rfl) (by kernel_rfl) (by kernel_rfl) (door_met02 os _)) ?_
  intro W base args ds gs before hval hW _ _ _ _
  refine law_lift (n := 5) (t4 := 4) eok Tryd.func10 (by kernel_rfl) rfl laidOut02 rfl ?_ rfl Tryd.underlying4 (by kernel_rfl) hrun10 W base args ds gs before hval hW
  intro H ds hds
  match ds, hds with
  | [a, b], _ => rfl

theorem over10 : Rows.DiskBlocksSaid :=
  OpenClaim.holds_of_wide 10 Tryd.f10 rfl rfl rfl rfl rfl rfl rfl ⟨rfl, rfl, rfl, rfl, rfl⟩ rfl rfl rfl rfl rfl (by kernel_rfl) Tryd.func10 (by kernel_rfl)
    (of_decide_eq_true (by kernel_rfl)) (by unfold Func.isWrapper; first | (rw [if_pos (by decide +kernel)]; kernel_rfl) | (rw [if_neg (by decide +kernel)]; exact ⟨rfl, rfl⟩))
    (fun os started H enc _ => lifted10 os started H enc)

theorem diskBlocks_proved : Rows.DiskBlocksCardSaid :=
  Claim7.holds_tied_plain_at .later [] [.data, .pinned] true (true, "687066918dee5d74383946f45575ea29590729c4e1dda89224b6bf73c7b9600f") false
    over10 (fun _ h => by cases h) (by kernel_rfl) (fun _ h => by cases h) diskBlocks_row_tie rfl ⟨rfl, rfl⟩ (by kernel_rfl) rfl
    (card_hl (f0 := 10) (fn0 := Tryd.f10) (by kernel_rfl) Tryd.func10 (by kernel_rfl) (by kernel_rfl)) (by kernel_rfl)
end Go.Proofs.YtpblmdolgocpaaaDoor
