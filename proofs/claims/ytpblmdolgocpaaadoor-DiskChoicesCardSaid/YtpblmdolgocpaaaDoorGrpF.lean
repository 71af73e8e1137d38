/-
  Own lemmas, no conditions: Wp, Wq, Wr, Aw, Ws.
-/
import Derived.Test.YtpblmdolgocpaaaDoorGrpE
set_option linter.unusedVariables false
set_option linter.unusedSimpArgs false

/-! Wp -/
namespace Go.Proofs.YtpblmdolgocpaaaDoor
open Go Dw
set_option maxRecDepth 10000
set_option linter.unusedVariables false
set_option linter.unusedSimpArgs false
attribute [local irreducible] Run
set_option maxHeartbeats 4000000

attribute [local irreducible] sec stK put patch wrote pat wr

theorem torn_at {s : Bs} {k : Nat} (hk : k < 8) (c : num2 (at2 s 40) = 0 ∨ at2 s (tl k) ≠ at2 s 40) : ¬ torn s = [] := fun h => by
  have w := torn_nil.1 h
  rcases c with c | c
  · exact w.1 c
  · exact c (w.2 k hk)
theorem opR_zero (s : Bs) : opR s 0 = patch s 40 (zs 18) := rfl
theorem opR_succ (s : Bs) (k : Nat) : opR s (k + 1) = patch (opR s k) (tl k) (at2 s (42 + 2 * k)) := rfl
theorem opR_len {s : Bs} (hs : s.length = 512) {k : Nat} (hk : k ≤ 8) : (opR s k).length = 512 := by
  rw [opR_eq hs hk, patch_len (by rw [opG_len hs hk, zs_len]; decide)]; exact opG_len hs hk
theorem at2_cut {s : Bs} {a : Nat} : (s.take (a + 2)).drop a = at2 s a := by
  rw [List.drop_take, show a + 2 - a = 2 by omega]; rfl
theorem at2_ne {s : Bs} {a b : Nat} (ha : a + 2 ≤ s.length) (hb : b + 2 ≤ s.length) (h : ¬ (num2 (at2 s a) : Int) = num2 (at2 s b)) : at2 s a ≠ at2 s b := fun e => h (by rw [e])
theorem at2_eq {s : Bs} {a b : Nat} (ha : a + 2 ≤ s.length) (hb : b + 2 ≤ s.length) (h : (num2 (at2 s a) : Int) = num2 (at2 s b)) : at2 s a = at2 s b := num2_inj (at2_len ha) (at2_len hb) (by omega)
theorem pbB_succ (n : Nat) (s : Bs) (k : Nat) : pbB n s (k + 1) = patch (pbB n s k) (tl k) (le2 n) := rfl
theorem pbL_succ (n : Nat) (s : Bs) (k : Nat) : pbL n s (k + 1) = pbL n s k ++ at2 (pbB n s k) (tl k) := rfl
theorem pbB_zero (n : Nat) (s : Bs) : pbB n s 0 = s := rfl
theorem pbL_zero (n : Nat) (s : Bs) : pbL n s 0 = le2 n := rfl
theorem opG_zero (s : Bs) : opG s 0 = s := rfl
theorem opG_succ (s : Bs) (k : Nat) : opG s (k + 1) = patch (opG s k) (tl k) (at2 (opG s k) (42 + 2 * k)) := rfl
theorem prG_zero (n : Nat) (s : Bs) : prG n s 0 = patch s 40 (le2 n) := rfl
theorem prG_succ (n : Nat) (s : Bs) (k : Nat) : prG n s (k + 1) = patch (patch (prG n s k) (42 + 2 * k) (at2 (prG n s k) (tl k))) (tl k) (le2 n) := rfl
theorem pr_def (n : Nat) (s : Bs) : pr n s = patch (pbB n s 8) 40 (pbL n s 8) := rfl
theorem prG_len (n : Nat) {s : Bs} (hs : s.length = 512) {k : Nat} (hk : k ≤ 8) : (prG n s k).length = 512 := by
  rw [prG_eq n hs hk, patch_len (by rw [pbB_len n hs hk, pbL_len n hs hk]; omega)]; exact pbB_len n hs hk
theorem tl_bd {k : Nat} (h : k < 8) : tl k + 2 ≤ 512 ∧ 62 ≤ tl k := by simp only [tl]; omega
theorem tl_int {k : Nat} : (((k : Int) + 1) * 64 - 2) = (tl k : Nat) := by simp only [tl]; omega
theorem tornK_zero (s : Bs) : tornK s 0 = [] := rfl
theorem clear_row {s : Bs} (hs : s.length = 512) : over ((opG s 8).map byteV) 40 (List.replicate 18 (.d (.int .u8 0))) = (opR s 8).map byteV := by
  rw [opR_eq hs (Nat.le_refl 8), ← zs_map]
  have := patch_over (s := opG s 8) (t := zs 18) (a := 40) (by rw [opG_len hs (Nat.le_refl 8), zs_len]; decide)
  rw [List.take_of_length_le (by rw [List.length_map, zs_len, opG_len hs (Nat.le_refl 8)]; decide)] at this
  exact this
theorem c86q (ni : Int) (n : Nat) (h : ni = n) (hn : n < 1000000) : Fn 86 [i ni] (.str (le2 n)) := by subst h; exact c86 n hn
theorem c88q (ni : Int) (n : Nat) (h : ni = n) (hn : n < 1000000) : Fn 88 [i ni, i 2] (.str (le2 n)) := by subst h; exact c88 n hn
attribute [local irreducible] le2 at2 isz num2 tl tornK torn pbB pbL opR opG prG protErr trR trL pr zs

theorem c53 (s : Bs) (n : Int) : Fn 53 [.str s, i n] (i (protErr s n)) := by
  refine run_walkF eok Tryd.func53 rfl (by kernel_rfl) ?_
  conv => whnf
  repeat' (first
    | ((with_reducible refine on_dec_f ?_ ?_); (focus ((try simp only [List.length_map, List.length_cons, List.length_nil, List.length_append]); omega)); conv => whnf)
    | ((with_reducible refine on_dec_t ?_ ?_); (focus ((try simp only [List.length_map, List.length_cons, List.length_nil, List.length_append]); omega)); conv => whnf)
    | ((with_reducible refine on_dec (fun h => ?_) (fun h => ?_)) <;> (try simp only [List.length_map] at h) <;> conv => whnf)
    | ((with_reducible refine on_ndec (fun h => ?_) (fun h => ?_)) <;> (try simp only [List.length_map] at h) <;> conv => whnf)
    | ((with_reducible refine on_not (fun h => ?_) (fun h => ?_)) <;> conv => whnf)
    | ((with_reducible refine onBool_split (fun h => ?_) (fun h => ?_)) <;> conv => whnf)
    | ((with_reducible refine call_go ?_); (first | refine call_step (run_view (c49 _) rfl rfl) ?_ | refine call_step (run_view (c87 _ (by simp only [List.length_drop, List.length_take]; omega)) rfl rfl) ?_ | refine call_step (run_view (c46 _ _ _) rfl rfl) ?_); conv => whnf)
    | (refine ⟨⟨(by first | rfl | (simp; done)), cap_ok (by simp only [List.length_map, List.length_cons, List.length_nil, List.length_append]; omega) rfl⟩, ?_⟩; conv => whnf)
    | (refine ⟨mem_one ⟨rfl, rfl⟩, ?_⟩; conv => whnf)
    | (refine ⟨(by intro y hy; obtain ⟨x, _, rfl⟩ := List.mem_map.1 hy; first | rfl | exact ⟨rfl, rfl⟩), ?_⟩; conv => whnf)
    | (refine ⟨cap_ok (by first | omega | (simp only [List.length_map]; omega)) rfl, ?_⟩; conv => whnf)
    | (refine ix_map (by omega) ?_; conv => whnf)
    | (refine ix_str (by omega) ?_; conv => whnf)
    | (refine wrap64 (by omega) ?_; conv => whnf)
    | (refine sl_str 40 58 (by omega) (by omega) (by have := blockErr_ok (by assumption); omega) ?_; conv => whnf)
    | (refine call_step (run_view (c87 _ (by have := blockErr_ok (s := s) (by assumption); simp only [List.length_drop, List.length_take]; omega)) rfl rfl) ?_; conv => whnf)
    | (exfalso; simp only [List.length_map, List.length_cons, List.length_nil, List.length_append] at h; omega)
    | ((with_reducible refine endx_go ?_); first | (refine endx (congrArg i ?_); (unfold protErr; rw [if_pos (by assumption)]); done) | (refine endx (congrArg i ?_); (have e40 : (s.drop 40).take 18 = (s.take 58).drop 40 := (by rw [List.drop_take])); unfold protErr; rw [e40, if_neg (fun c => c (by assumption))]; simp [*]; done))
    | (refine ⟨rfl, ?_⟩; conv => whnf)
    | fail
    )

theorem c79 (s : Bs) (hs : s.length = 512) : Fn 79 [.str s] (.fs ((torn s).map natD)) := by
  refine run_walkF eok Tryd.func79 rfl (by kernel_rfl) ?_
  conv => whnf
  repeat' (first
    | ((with_reducible refine on_dec_f ?_ ?_); (focus ((try simp only [List.length_map, List.length_cons, List.length_nil, List.length_append]); omega)); conv => whnf)
    | ((with_reducible refine on_dec_t ?_ ?_); (focus ((try simp only [List.length_map, List.length_cons, List.length_nil, List.length_append]); omega)); conv => whnf)
    | ((with_reducible refine on_dec (fun h => ?_) (fun h => ?_)) <;> (try simp only [List.length_map] at h) <;> conv => whnf)
    | ((with_reducible refine on_ndec (fun h => ?_) (fun h => ?_)) <;> (try simp only [List.length_map] at h) <;> conv => whnf)
    | ((with_reducible refine on_not (fun h => ?_) (fun h => ?_)) <;> conv => whnf)
    | ((with_reducible refine onBool_split (fun h => ?_) (fun h => ?_)) <;> conv => whnf)
    | ((with_reducible refine call_go ?_); (first | refine call_step (run_view (c81q s _ 40 rfl (by omega) (by omega)) rfl (vlc (view_bytes rfl Nat.two_pos) (vlc rfl vln))) ?_ | refine call_step (run_view (c81q s _ (tl k) rfl (by have := tl_bd (k := k) (by omega); omega) (by omega)) rfl (vlc (view_bytes rfl Nat.two_pos) (vlc rfl vln))) ?_ | refine call_step (run_view (c80q _ (at2_len (by omega))) rfl rfl) ?_ | refine call_step (run_view (c83 k (by omega)) rfl rfl) ?_); conv => whnf)
    | ((with_reducible refine loop_go ?_); first | (refine loop1 (fun (k : Nat) => 8 - k) (fun (k : Nat) => k ≤ 8) (fun (k : Nat) => [(3, .sl 0 0 s.length 1 none), (4, .sl 1 0 (tornK s k).length 1 none), (8, .d (i k))]) (fun (k : Nat) => [⟨s.map byteV, 1, 0⟩, ⟨((tornK s k).map natD).map .d, 1, 0⟩]) (0) (by exact Nat.zero_le _) ?_ (fun k C hI hC => ?_); (exact ⟨[.old 0, .void 1], rfl, rfl, ⟨⟨rfl, rfl, rfl, rfl, rfl⟩, ⟨rfl, rfl, (by rw [tornK_zero]; rfl), rfl⟩, rfl, trivial⟩, ⟨⟨rfl, rfl, .inl ⟨_, byteV_map s, byteV_map s⟩⟩, ⟨(by rw [tornK_zero]; rfl), rfl, (by decide), rfl⟩, trivial⟩⟩); all_goals (conv => whnf)))
    | ((with_reducible show C _ _); first | (refine hC (k + 1) _ _ ?_ (by omega) ?_; clear hC; rotate_left; (exact ⟨[.old 0, .old 3], rfl, rfl, ⟨(by first | exact congrArg (D.int .i64) (by omega) | exact ⟨rfl, rfl, rfl⟩ | exact ⟨rfl, rfl, rfl, rfl, rfl⟩ | (show (_ : D) = _; with_reducible rfl)), ⟨rfl, rfl, (by rw [tornK_succ, if_pos (by first | exact .inl (by omega) | exact .inr (by assumption) | exact .inr (at2_ne (by have := tl_bd (k := k) (by omega); omega) (by omega) (by assumption))), List.length_append]; rfl), rfl, rfl⟩, (by first | (show (_ : D) = _; with_reducible rfl) | exact congrArg (D.int .i64) (by omega) | exact congrArg (D.int .i64) (by simp only [List.length_map]) | exact rfl), trivial⟩, ⟨⟨rfl, rfl, .inl ⟨_, byteV_map s, byteV_map s⟩⟩, ⟨rfl, rfl, .inr (by rw [tornK_succ, if_pos (by first | exact .inl (by omega) | exact .inr (by assumption) | exact .inr (at2_ne (by have := tl_bd (k := k) (by omega); omega) (by omega) (by assumption)))]; exact wks_add (wksd _ _) rfl)⟩, trivial⟩⟩); (exact (by omega : k + 1 ≤ 8))) | (refine hC (k + 1) _ _ ?_ (by omega) ?_; clear hC; rotate_left; (exact ⟨[.old 0, .old 1], rfl, rfl, ⟨(by first | exact congrArg (D.int .i64) (by omega) | exact ⟨rfl, rfl, rfl⟩ | exact ⟨rfl, rfl, rfl, rfl, rfl⟩ | (show (_ : D) = _; with_reducible rfl)), ⟨rfl, rfl, (by rw [tornK_succ, if_neg (by rintro (e | e); (omega); (exact e (by first | assumption | exact at2_eq (by have := tl_bd (k := k) (by omega); omega) (by omega) (by assumption))))]), rfl, rfl⟩, (by first | (show (_ : D) = _; with_reducible rfl) | exact congrArg (D.int .i64) (by omega) | exact congrArg (D.int .i64) (by simp only [List.length_map]) | exact rfl), trivial⟩, ⟨⟨rfl, rfl, .inl ⟨_, byteV_map s, byteV_map s⟩⟩, ⟨rfl, rfl, .inr (by rw [tornK_succ, if_neg (by rintro (e | e); (omega); (exact e (by first | assumption | exact at2_eq (by have := tl_bd (k := k) (by omega); omega) (by omega) (by assumption))))]; exact wksd _ _)⟩, trivial⟩⟩); (exact (by omega : k + 1 ≤ 8))))
    | (refine ⟨⟨(by first | rfl | (simp; done)), cap_ok (by simp only [List.length_map, List.length_cons, List.length_nil, List.length_append]; omega) rfl⟩, ?_⟩; conv => whnf)
    | (refine ⟨mem_one ⟨rfl, rfl⟩, ?_⟩; conv => whnf)
    | (refine ⟨(by intro y hy; obtain ⟨x, _, rfl⟩ := List.mem_map.1 hy; first | rfl | exact ⟨rfl, rfl⟩), ?_⟩; conv => whnf)
    | (refine ⟨cap_ok (by first | omega | (simp only [List.length_map]; omega)) rfl, ?_⟩; conv => whnf)
    | (refine ix_map (by omega) ?_; conv => whnf)
    | (refine ix_str (by omega) ?_; conv => whnf)
    | (refine wrap64 (by omega) ?_; conv => whnf)
    | (refine ⟨Nat.le_refl _, ?_⟩; conv => whnf)
    | (refine ⟨⟨(by simp only [List.length_map, List.length_append]; omega), cap_ok (by have := tornK_le s k; simp only [List.length_map, List.length_cons, List.length_nil, List.length_append]; omega) rfl⟩, ?_⟩; conv => whnf)
    | (refine ⟨cap_ok (by have := tornK_le s k; simp only [List.length_map, List.length_cons, List.length_nil, List.length_append]; omega) rfl, ?_⟩; conv => whnf)
    | (refine wrap64 (by omega) ?_; conv => whnf)
    | (exfalso; simp only [List.length_map, List.length_cons, List.length_nil, List.length_append] at h; omega)
    | ((with_reducible refine endx_go ?_); first | (refine endxv (view_map rfl Nat.two_pos) ?_; rw [show k = 8 by omega, tornK_8]; done))
    | (refine ⟨rfl, ?_⟩; conv => whnf)
    | fail
    )

theorem c51 (s : Bs) (hs : s.length = 512) : Fn 51 [.str s] (.fs ((torn s).map natD)) := by
  refine run_walkF eok Tryd.func51 rfl (by kernel_rfl) ?_
  conv => whnf
  repeat' (first
    | ((with_reducible refine on_dec_f ?_ ?_); (focus ((try simp only [List.length_map, List.length_cons, List.length_nil, List.length_append]); omega)); conv => whnf)
    | ((with_reducible refine on_dec_t ?_ ?_); (focus ((try simp only [List.length_map, List.length_cons, List.length_nil, List.length_append]); omega)); conv => whnf)
    | ((with_reducible refine on_dec (fun h => ?_) (fun h => ?_)) <;> (try simp only [List.length_map] at h) <;> conv => whnf)
    | ((with_reducible refine on_ndec (fun h => ?_) (fun h => ?_)) <;> (try simp only [List.length_map] at h) <;> conv => whnf)
    | ((with_reducible refine on_not (fun h => ?_) (fun h => ?_)) <;> conv => whnf)
    | ((with_reducible refine onBool_split (fun h => ?_) (fun h => ?_)) <;> conv => whnf)
    | ((with_reducible refine call_go ?_); (first | refine call_step (run_view (c52q s _ 40 rfl (by omega) (by omega)) rfl rfl) ?_ | refine call_step (run_view (c52q s _ (tl k) tl_int (by have := tl_bd (k := k) (by omega); omega) (by omega)) rfl rfl) ?_); conv => whnf)
    | ((with_reducible refine loop_go ?_); first | (refine loop1 (fun (k : Nat) => 8 - k) (fun (k : Nat) => k ≤ 8) (fun (k : Nat) => [(0, .d (.str s)), (3, .d (i (num2 (at2 s 40)))), (4, .sl 0 0 (tornK s k).length 1 none), (5, .d (i k))]) (fun (k : Nat) => [⟨((tornK s k).map natD).map .d, 1, 0⟩]) (0) (by exact Nat.zero_le _) ?_ (fun k C hI hC => ?_); (exact ⟨[.void 1], rfl, rfl, ⟨rfl, rfl, ⟨rfl, rfl, (by rw [tornK_zero]; rfl), rfl⟩, rfl, trivial⟩, ⟨⟨(by rw [tornK_zero]; rfl), rfl, (by decide), rfl⟩, trivial⟩⟩); all_goals (conv => whnf)))
    | ((with_reducible show C _ _); first | (refine hC (k + 1) _ _ ?_ (by omega) ?_; clear hC; rotate_left; (exact ⟨[.old 2], rfl, rfl, ⟨(by first | (show (_ : D) = _; with_reducible rfl) | exact rfl), (by first | (show (_ : D) = _; with_reducible rfl) | exact congrArg (D.int .i64) (by omega) | exact congrArg (D.int .i64) (by simp only [List.length_map]) | exact rfl), ⟨rfl, rfl, (by rw [tornK_succ, if_pos (by first | exact .inl (by omega) | exact .inr (by assumption) | exact .inr (at2_ne (by have := tl_bd (k := k) (by omega); omega) (by omega) (by assumption))), List.length_append]; rfl), rfl, rfl⟩, (by first | (show (_ : D) = _; with_reducible rfl) | exact congrArg (D.int .i64) (by omega) | exact congrArg (D.int .i64) (by simp only [List.length_map]) | exact rfl), trivial⟩, ⟨⟨rfl, rfl, .inr (by rw [tornK_succ, if_pos (by first | exact .inl (by omega) | exact .inr (by assumption) | exact .inr (at2_ne (by have := tl_bd (k := k) (by omega); omega) (by omega) (by assumption)))]; exact wks_add (wksd _ _) rfl)⟩, trivial⟩⟩); (exact (by omega : k + 1 ≤ 8))) | (refine hC (k + 1) _ _ ?_ (by omega) ?_; clear hC; rotate_left; (exact ⟨[.old 0], rfl, rfl, ⟨(by first | (show (_ : D) = _; with_reducible rfl) | exact rfl), (by first | (show (_ : D) = _; with_reducible rfl) | exact congrArg (D.int .i64) (by omega) | exact congrArg (D.int .i64) (by simp only [List.length_map]) | exact rfl), ⟨rfl, rfl, (by rw [tornK_succ, if_neg (by rintro (e | e); (omega); (exact e (by first | assumption | exact at2_eq (by have := tl_bd (k := k) (by omega); omega) (by omega) (by assumption))))]), rfl, rfl⟩, (by first | (show (_ : D) = _; with_reducible rfl) | exact congrArg (D.int .i64) (by omega) | exact congrArg (D.int .i64) (by simp only [List.length_map]) | exact rfl), trivial⟩, ⟨⟨rfl, rfl, .inr (by rw [tornK_succ, if_neg (by rintro (e | e); (omega); (exact e (by first | assumption | exact at2_eq (by have := tl_bd (k := k) (by omega); omega) (by omega) (by assumption))))]; exact wksd _ _)⟩, trivial⟩⟩); (exact (by omega : k + 1 ≤ 8))))
    | (refine ⟨⟨(by first | rfl | (simp; done)), cap_ok (by simp only [List.length_map, List.length_cons, List.length_nil, List.length_append]; omega) rfl⟩, ?_⟩; conv => whnf)
    | (refine ⟨mem_one ⟨rfl, rfl⟩, ?_⟩; conv => whnf)
    | (refine ⟨(by intro y hy; obtain ⟨x, _, rfl⟩ := List.mem_map.1 hy; first | rfl | exact ⟨rfl, rfl⟩), ?_⟩; conv => whnf)
    | (refine ⟨cap_ok (by first | omega | (simp only [List.length_map]; omega)) rfl, ?_⟩; conv => whnf)
    | (refine ix_map (by omega) ?_; conv => whnf)
    | (refine ix_str (by omega) ?_; conv => whnf)
    | (refine wrap64 (by omega) ?_; conv => whnf)
    | (refine ⟨Nat.le_refl _, ?_⟩; conv => whnf)
    | (refine ⟨⟨(by simp only [List.length_map, List.length_append]; omega), cap_ok (by have := tornK_le s k; simp only [List.length_map, List.length_cons, List.length_nil, List.length_append]; omega) rfl⟩, ?_⟩; conv => whnf)
    | (refine ⟨cap_ok (by have := tornK_le s k; simp only [List.length_map, List.length_cons, List.length_nil, List.length_append]; omega) rfl, ?_⟩; conv => whnf)
    | (refine wrap64 (by omega) ?_; conv => whnf)
    | (exfalso; simp only [List.length_map, List.length_cons, List.length_nil, List.length_append] at h; omega)
    | ((with_reducible refine endx_go ?_); first | (refine endxv (view_map rfl Nat.two_pos) ?_; rw [show k = 8 by omega, tornK_8]; done))
    | (refine ⟨rfl, ?_⟩; conv => whnf)
    | fail
    )

def tornR (s : Bs) : List Nat := if blockErr s = 0 then torn s else []

theorem c44 (s : Bs) : Fn 44 [.str s] (.tup [.fs ((tornR s).map natD), i (blockErr s)]) := by
  refine run_walkF eok Tryd.func44 rfl (by kernel_rfl) ?_
  conv => whnf
  repeat' (first
    | ((with_reducible refine on_dec_f ?_ ?_); (focus ((try simp only [List.length_map, List.length_cons, List.length_nil, List.length_append]); omega)); conv => whnf)
    | ((with_reducible refine on_dec_t ?_ ?_); (focus ((try simp only [List.length_map, List.length_cons, List.length_nil, List.length_append]); omega)); conv => whnf)
    | ((with_reducible refine on_dec (fun h => ?_) (fun h => ?_)) <;> (try simp only [List.length_map] at h) <;> conv => whnf)
    | ((with_reducible refine on_ndec (fun h => ?_) (fun h => ?_)) <;> (try simp only [List.length_map] at h) <;> conv => whnf)
    | ((with_reducible refine on_not (fun h => ?_) (fun h => ?_)) <;> conv => whnf)
    | ((with_reducible refine onBool_split (fun h => ?_) (fun h => ?_)) <;> conv => whnf)
    | ((with_reducible refine call_go ?_); (first | refine call_step (run_view (c48 _) rfl rfl) ?_ | refine call_step (run_viewF (c79 s (blockErr_ok (by assumption))) rfl) ?_); conv => whnf)
    | (refine ⟨⟨(by first | rfl | (simp; done)), cap_ok (by simp only [List.length_map, List.length_cons, List.length_nil, List.length_append]; omega) rfl⟩, ?_⟩; conv => whnf)
    | (refine ⟨mem_one ⟨rfl, rfl⟩, ?_⟩; conv => whnf)
    | (refine ⟨(by intro y hy; obtain ⟨x, _, rfl⟩ := List.mem_map.1 hy; first | rfl | exact ⟨rfl, rfl⟩), ?_⟩; conv => whnf)
    | (refine ⟨cap_ok (by first | omega | (simp only [List.length_map]; omega)) rfl, ?_⟩; conv => whnf)
    | (refine ix_map (by omega) ?_; conv => whnf)
    | (refine ix_str (by omega) ?_; conv => whnf)
    | (refine wrap64 (by omega) ?_; conv => whnf)
    | (exfalso; simp only [List.length_map, List.length_cons, List.length_nil, List.length_append] at h; omega)
    | ((with_reducible refine endx_go ?_); first | (refine endx2 ?_; rw [tornR, if_pos (by assumption), show blockErr s = 0 by assumption]; done) | (refine endxv (view_tup (vlc rfl (vlc rfl vln))) ?_; (rw [tornR, if_neg (by assumption)]) <;> rfl; done))
    | (refine ⟨rfl, ?_⟩; conv => whnf)
    | fail
    )

end Go.Proofs.YtpblmdolgocpaaaDoor

/-! Wq -/
namespace Go.Proofs.YtpblmdolgocpaaaDoor
open Go Dw
set_option maxRecDepth 10000
set_option linter.unusedVariables false
set_option linter.unusedSimpArgs false
attribute [local irreducible] Run
set_option maxHeartbeats 4000000

attribute [local irreducible] sec stK put patch wrote pat wr

def openB (s : Bs) : Bs × Bool := if torn s = [] then (opR s 8, true) else ([], false)
theorem openB_ok {s : Bs} (h : torn s = []) : openB s = (opR s 8, true) := if_pos h
theorem openB_no {s : Bs} (h : ¬ torn s = []) : openB s = ([], false) := if_neg h
theorem whole_torn {s : Bs} (h0 : ¬ num2 (at2 s 40) = 0) (h : ∀ j, j < 8 → at2 s (tl j) = at2 s 40) : torn s = [] := torn_nil.2 ⟨h0, h⟩
def opened (s : Bs) : Bs × Int × Int := if blockErr s = 0 then (if torn s = [] then (opR s 8, ((num2 (at2 s 40) : Nat) : Int), 0) else ([], 0, 31)) else ([], 0, blockErr s)
theorem opened_b {s : Bs} (h : ¬ blockErr s = 0) : opened s = ([], 0, blockErr s) := if_neg h
theorem opened_t {s : Bs} (h : blockErr s = 0) (t : ¬ torn s = []) : opened s = ([], 0, 31) := by unfold opened; rw [if_pos h, if_neg t]
theorem opened_o {s : Bs} (h : blockErr s = 0) (t : torn s = []) : opened s = (opR s 8, ((num2 (at2 s 40) : Nat) : Int), 0) := by unfold opened; rw [if_pos h, if_pos t]
def protR (s : Bs) (n : Int) : Bs := if protErr s n = 0 then pr n.toNat s else []
theorem pr_eq (n : Nat) {s : Bs} (hs : s.length = 512) : prG n s 8 = pr n s := prG_eq n hs (Nat.le_refl 8)
theorem protErr_first (s : Bs) (n : Int) (h : blockErr s = 0) : protErr s n = first [if isz ((s.drop 40).take 18) then 0 else 3, if within n 1 65535 then 0 else 2] := by
  unfold protErr
  rw [if_neg (fun c => c h)]
  cases isz ((s.drop 40).take 18) <;> cases within n 1 65535 <;> rfl
theorem protErr_b {s : Bs} {n : Int} (h : ¬ blockErr s = 0) : protErr s n = blockErr s := by unfold protErr; rw [if_pos h]
theorem trim_dec (s : Bs) : decide (trL (trR s) = []) = isz s := by
  cases h : isz s with
  | true => exact decide_eq_true (trim_nil.2 h)
  | false => exact decide_eq_false (fun e => by rw [trim_nil.1 e] at h; cases h)
theorem cut58 (s : Bs) : (s.take 58).drop 40 = (s.drop 40).take 18 := by rw [List.drop_take]
attribute [local irreducible] le2 at2 isz num2 tl tornK torn pbB pbL opR opG prG protErr trR trL pr zs openB opened

theorem c50 (s : Bs) (hs : s.length = 512) : Fn 50 [.str s] (.tup [.str (openB s).1, .bool (openB s).2]) := by
  have hcc : ∀ k, (s.take (42 + 2 * k + 2)).drop (42 + 2 * k) = at2 s (42 + 2 * k) := fun k => at2_cut; have hcl : ∀ k, k < 8 → ((s.take (42 + 2 * k + 2)).drop (42 + 2 * k)).length = 2 := fun k hk => (by rw [hcc]; exact at2_len (by omega))
  refine run_walkF eok Tryd.func50 rfl (by kernel_rfl) ?_
  conv => whnf
  repeat' (first
    | ((with_reducible refine on_dec_f ?_ ?_); (focus ((try simp only [List.length_map, List.length_cons, List.length_nil, List.length_append]); omega)); conv => whnf)
    | ((with_reducible refine on_dec_t ?_ ?_); (focus ((try simp only [List.length_map, List.length_cons, List.length_nil, List.length_append]); omega)); conv => whnf)
    | ((with_reducible refine on_dec (fun h => ?_) (fun h => ?_)) <;> (try simp only [List.length_map] at h) <;> conv => whnf)
    | ((with_reducible refine on_ndec (fun h => ?_) (fun h => ?_)) <;> (try simp only [List.length_map] at h) <;> conv => whnf)
    | ((with_reducible refine on_not (fun h => ?_) (fun h => ?_)) <;> conv => whnf)
    | ((with_reducible refine onBool_split (fun h => ?_) (fun h => ?_)) <;> conv => whnf)
    | ((with_reducible refine call_go ?_); (first | refine call_step (run_view (c52q s _ 40 rfl (by omega) (by omega)) rfl rfl) ?_ | refine call_step (run_view (c52q s _ (tl k) tl_int (by have := tl_bd (k := k) (by omega); omega) (by omega)) rfl rfl) ?_ | refine call_step (run_view (c57 18 (by decide)) rfl rfl) ?_ | refine call_step (run_view (c68 s _ _ 40 rfl (by rw [zs_len]; omega) (by omega)) rfl rfl) ?_ | refine call_step (run_view (c68 (opR s k) _ _ (tl k) tl_int (by have := tl_bd (k := k) (by omega); rw [hcl k (by omega), hol (by omega)]; omega) (by rw [hol (by omega)]; decide)) rfl rfl) ?_); conv => whnf)
    | ((with_reducible refine loop_go ?_); first | (refine loop1 (fun (k : Nat) => 8 - k) (fun (k : Nat) => k ≤ 8 ∧ (∀ j, j < k → at2 s (tl j) = at2 s 40) ∧ (0 < k → ¬ num2 (at2 s 40) = 0)) (fun (k : Nat) => [(0, .d (.str s)), (4, .d (i (num2 (at2 s 40)))), (5, .d (.str (opR s k))), (6, .d (i ((k : Int) + 1)))]) (fun (k : Nat) => []) (0) (by exact ⟨Nat.zero_le _, fun j hj => absurd hj (Nat.not_lt_zero j), fun h => absurd h (Nat.lt_irrefl 0)⟩) ?_ (fun k C hI hC => ?_); (exact ⟨[], rfl, rfl, ⟨rfl, rfl, (congrArg D.str (opR_zero s).symm), (congrArg (D.int .i64) (by omega)), trivial⟩, trivial⟩); have hol := fun (h : k ≤ 8) => opR_len hs h; all_goals (conv => whnf)))
    | ((with_reducible show C _ _); first | (refine hC (k + 1) _ _ ?_ (by omega) ?_; clear hC; rotate_left; (exact ⟨[], rfl, rfl, ⟨(by first | (show (_ : D) = _; with_reducible rfl) | exact rfl), (by first | (show (_ : D) = _; with_reducible rfl) | exact congrArg (D.int .i64) (by omega) | exact congrArg (D.int .i64) (by simp only [List.length_map]) | exact rfl), (congrArg D.str (by rw [opR_succ, hcc k])), (by first | (show (_ : D) = _; with_reducible rfl) | exact congrArg (D.int .i64) (by omega) | exact congrArg (D.int .i64) (by simp only [List.length_map]) | exact rfl), trivial⟩, trivial⟩); (exact ⟨by omega, fun j hj => (by by_cases c : j = k; (rw [c]; exact at2_eq (by have := tl_bd (k := k) (by omega); omega) (by omega) (by assumption)); exact hI.2.1 j (by omega)), fun _ e => by omega⟩)))
    | (refine ⟨⟨(by first | rfl | (simp; done)), cap_ok (by simp only [List.length_map, List.length_cons, List.length_nil, List.length_append]; omega) rfl⟩, ?_⟩; conv => whnf)
    | (refine ⟨mem_one ⟨rfl, rfl⟩, ?_⟩; conv => whnf)
    | (refine ⟨(by intro y hy; obtain ⟨x, _, rfl⟩ := List.mem_map.1 hy; first | rfl | exact ⟨rfl, rfl⟩), ?_⟩; conv => whnf)
    | (refine ⟨cap_ok (by first | omega | (simp only [List.length_map]; omega)) rfl, ?_⟩; conv => whnf)
    | (refine ix_map (by omega) ?_; conv => whnf)
    | (refine ix_str (by omega) ?_; conv => whnf)
    | (refine wrap64 (by omega) ?_; conv => whnf)
    | (refine sl_str (42 + 2 * k) (42 + 2 * k + 2) (by omega) (by omega) (by omega) ?_; conv => whnf)
    | (refine wrap64 (by omega) ?_; conv => whnf)
    | (exfalso; simp only [List.length_map, List.length_cons, List.length_nil, List.length_append] at h; omega)
    | ((with_reducible refine endx_go ?_); first | (refine endx2 ?_; (rw [openB_no (torn_at (k := k) (by omega) (by first | exact .inl (by omega) | exact .inr (at2_ne (by have := tl_bd (k := k) (by omega); omega) (by omega) (by assumption))))]); done) | (refine endx2 ?_; (rw [show k = 8 by omega, openB_ok (whole_torn (hI.2.2 (by omega)) (fun j hj => hI.2.1 j (by omega)))]); done))
    | (refine ⟨rfl, ?_⟩; conv => whnf)
    | fail
    )

theorem c54 (s : Bs) (n : Nat) (hs : s.length = 512) (hn : n < 1000000) : Fn 54 [.str s, i n] (.str (pr n s)) := by
  refine run_walkF eok Tryd.func54 rfl (by kernel_rfl) ?_
  conv => whnf
  repeat' (first
    | ((with_reducible refine on_dec_f ?_ ?_); (focus ((try simp only [List.length_map, List.length_cons, List.length_nil, List.length_append]); omega)); conv => whnf)
    | ((with_reducible refine on_dec_t ?_ ?_); (focus ((try simp only [List.length_map, List.length_cons, List.length_nil, List.length_append]); omega)); conv => whnf)
    | ((with_reducible refine on_dec (fun h => ?_) (fun h => ?_)) <;> (try simp only [List.length_map] at h) <;> conv => whnf)
    | ((with_reducible refine on_ndec (fun h => ?_) (fun h => ?_)) <;> (try simp only [List.length_map] at h) <;> conv => whnf)
    | ((with_reducible refine on_not (fun h => ?_) (fun h => ?_)) <;> conv => whnf)
    | ((with_reducible refine onBool_split (fun h => ?_) (fun h => ?_)) <;> conv => whnf)
    | ((with_reducible refine call_go ?_); (first | refine call_step (run_view (c88q _ n (by omega) (by omega)) rfl rfl) ?_ | refine call_step (run_view (c68 (pbB n s 8) _ _ 40 rfl (by rw [pbB_len n hs (Nat.le_refl 8), pbL_len n hs (Nat.le_refl 8)]; decide) (by rw [pbB_len n hs (Nat.le_refl 8)]; decide)) rfl rfl) ?_ | refine call_step (run_view (c68 (pbB n s k) _ _ (tl k) tl_int (by have := tl_bd (k := k) (by omega); rw [hbl (by omega), le2_len]; omega) (by rw [hbl (by omega)]; decide)) rfl rfl) ?_); conv => whnf)
    | ((with_reducible refine loop_go ?_); first | (refine loop1 (fun (k : Nat) => 8 - k) (fun (k : Nat) => k ≤ 8) (fun (k : Nat) => [(0, .d (.str (pbB n s k))), (1, .d (i n)), (5, .d (.str (pbL n s k))), (6, .d (i ((k : Int) + 1)))]) (fun (k : Nat) => []) (0) (by exact Nat.zero_le _) ?_ (fun k C hI hC => ?_); (exact ⟨[], rfl, rfl, ⟨(congrArg D.str (pbB_zero n s).symm), rfl, (congrArg D.str (pbL_zero n s).symm), (congrArg (D.int .i64) (by omega)), trivial⟩, trivial⟩); have hbl := fun (h : k ≤ 8) => pbB_len n hs h; have hll := fun (h : k ≤ 8) => pbL_len n hs h; all_goals (conv => whnf)))
    | ((with_reducible show C _ _); first | (refine hC (k + 1) _ _ ?_ (by omega) ?_; clear hC; rotate_left; (exact ⟨[], rfl, rfl, ⟨(congrArg D.str (pbB_succ n s k).symm), (by first | (show (_ : D) = _; with_reducible rfl) | exact congrArg (D.int .i64) (by omega) | exact congrArg (D.int .i64) (by simp only [List.length_map]) | exact rfl), (congrArg D.str (by rw [pbL_succ, at2_cut])), (by first | (show (_ : D) = _; with_reducible rfl) | exact congrArg (D.int .i64) (by omega) | exact congrArg (D.int .i64) (by simp only [List.length_map]) | exact rfl), trivial⟩, trivial⟩); (exact (by omega : k + 1 ≤ 8))))
    | (refine ⟨⟨(by first | rfl | (simp; done)), cap_ok (by simp only [List.length_map, List.length_cons, List.length_nil, List.length_append]; omega) rfl⟩, ?_⟩; conv => whnf)
    | (refine ⟨mem_one ⟨rfl, rfl⟩, ?_⟩; conv => whnf)
    | (refine ⟨(by intro y hy; obtain ⟨x, _, rfl⟩ := List.mem_map.1 hy; first | rfl | exact ⟨rfl, rfl⟩), ?_⟩; conv => whnf)
    | (refine ⟨cap_ok (by first | omega | (simp only [List.length_map]; omega)) rfl, ?_⟩; conv => whnf)
    | (refine ix_map (by omega) ?_; conv => whnf)
    | (refine ix_str (by omega) ?_; conv => whnf)
    | (refine wrap64 (by omega) ?_; conv => whnf)
    | ((have hk8 : k = 8 := (by omega)); subst hk8; refine call_step (run_view (c68 (pbB n s 8) _ _ 40 rfl (by rw [pbB_len n hs (Nat.le_refl 8), pbL_len n hs (Nat.le_refl 8)]; decide) (by rw [pbB_len n hs (Nat.le_refl 8)]; decide)) rfl rfl) ?_; conv => whnf)
    | (refine sl_str (tl k) (tl k + 2) tl_int (by rw [← tl_int]) (by have := tl_bd (k := k) (by omega); rw [hbl (by omega)]; omega) ?_; conv => whnf)
    | (refine sl_str (tl k) (tl k + 2) tl_int (by rw [tl_int]; omega) (by have := tl_bd (k := k) (by omega); rw [hbl (by omega)]; omega) ?_; conv => whnf)
    | (refine str_add (by have := hll (by omega); have := hbl (by omega); simp only [List.length_drop, List.length_take]; omega) ?_; conv => whnf)
    | (refine wrap64 (by omega) ?_; conv => whnf)
    | (exfalso; simp only [List.length_map, List.length_cons, List.length_nil, List.length_append] at h; omega)
    | ((with_reducible refine endx_go ?_); first | (exact endx (congrArg D.str (pr_def n s).symm); done))
    | (refine ⟨rfl, ?_⟩; conv => whnf)
    | fail
    )

end Go.Proofs.YtpblmdolgocpaaaDoor

/-! Wr -/
namespace Go.Proofs.YtpblmdolgocpaaaDoor
open Go Dw
set_option maxRecDepth 10000
set_option linter.unusedVariables false
set_option linter.unusedSimpArgs false
attribute [local irreducible] Run
set_option maxHeartbeats 4000000

attribute [local irreducible] sec stK put patch wrote pat wr

attribute [local irreducible] le2 at2 isz num2 tl tornK torn pbB pbL opR opG prG protErr trR trL pr zs openB opened

theorem c42b (s : Bs) (h0 : ¬ blockErr s = 0) : Fn 42 [.str s] (.tup [.str (opened s).1, i (opened s).2.1, i (opened s).2.2]) := by
  refine run_walkF eok Tryd.func42 rfl (by kernel_rfl) ?_
  conv => whnf
  repeat' (first
    | ((with_reducible refine on_ndec_f (by assumption) ?_); conv => whnf)
    | ((with_reducible refine on_dec_f ?_ ?_); (focus ((try simp only [List.length_map, List.length_cons, List.length_nil, List.length_append]); omega)); conv => whnf)
    | ((with_reducible refine on_dec_t ?_ ?_); (focus ((try simp only [List.length_map, List.length_cons, List.length_nil, List.length_append]); omega)); conv => whnf)
    | ((with_reducible refine on_dec (fun h => ?_) (fun h => ?_)) <;> (try simp only [List.length_map] at h) <;> conv => whnf)
    | ((with_reducible refine on_ndec (fun h => ?_) (fun h => ?_)) <;> (try simp only [List.length_map] at h) <;> conv => whnf)
    | ((with_reducible refine on_not (fun h => ?_) (fun h => ?_)) <;> conv => whnf)
    | ((with_reducible refine onBool_split (fun h => ?_) (fun h => ?_)) <;> conv => whnf)
    | ((with_reducible refine call_go ?_); (first | refine call_step (run_view (c48 _) rfl rfl) ?_ | refine call_step (run_viewF (c79 s hs) rfl) ?_); conv => whnf)
    | (refine ⟨⟨(by first | rfl | (simp; done)), cap_ok (by simp only [List.length_map, List.length_cons, List.length_nil, List.length_append]; omega) rfl⟩, ?_⟩; conv => whnf)
    | (refine ⟨mem_one ⟨rfl, rfl⟩, ?_⟩; conv => whnf)
    | (refine ⟨(by intro y hy; obtain ⟨x, _, rfl⟩ := List.mem_map.1 hy; first | rfl | exact ⟨rfl, rfl⟩), ?_⟩; conv => whnf)
    | (refine ⟨cap_ok (by first | omega | (simp only [List.length_map]; omega)) rfl, ?_⟩; conv => whnf)
    | (refine ix_map (by omega) ?_; conv => whnf)
    | (refine ix_str (by omega) ?_; conv => whnf)
    | (refine wrap64 (by omega) ?_; conv => whnf)
    | (exfalso; simp only [List.length_map, List.length_cons, List.length_nil, List.length_append] at h; omega)
    | ((with_reducible refine endx_go ?_); first | (refine endx3 ?_; rw [opened_b h0]; done))
    | (refine ⟨rfl, ?_⟩; conv => whnf)
    | fail
    )

theorem c42t (s : Bs) (h0 : blockErr s = 0) (ht : ¬ torn s = []) : Fn 42 [.str s] (.tup [.str (opened s).1, i (opened s).2.1, i (opened s).2.2]) := by
  have hs := blockErr_ok h0
  refine run_walkF eok Tryd.func42 rfl (by kernel_rfl) ?_
  conv => whnf
  repeat' (first
    | ((with_reducible refine on_ndec_t (by assumption) ?_); conv => whnf)
    | ((with_reducible refine on_dec_t ?_ ?_); (focus (rw [List.length_map]; have := List.length_pos_iff.2 ht; omega)); conv => whnf)
    | ((with_reducible refine on_dec_f ?_ ?_); (focus ((try simp only [List.length_map, List.length_cons, List.length_nil, List.length_append]); omega)); conv => whnf)
    | ((with_reducible refine on_dec_t ?_ ?_); (focus ((try simp only [List.length_map, List.length_cons, List.length_nil, List.length_append]); omega)); conv => whnf)
    | ((with_reducible refine on_dec (fun h => ?_) (fun h => ?_)) <;> (try simp only [List.length_map] at h) <;> conv => whnf)
    | ((with_reducible refine on_ndec (fun h => ?_) (fun h => ?_)) <;> (try simp only [List.length_map] at h) <;> conv => whnf)
    | ((with_reducible refine on_not (fun h => ?_) (fun h => ?_)) <;> conv => whnf)
    | ((with_reducible refine onBool_split (fun h => ?_) (fun h => ?_)) <;> conv => whnf)
    | ((with_reducible refine call_go ?_); (first | refine call_step (run_view (c48 _) rfl rfl) ?_ | refine call_step (run_viewF (c79 s hs) rfl) ?_); conv => whnf)
    | (refine ⟨⟨(by first | rfl | (simp; done)), cap_ok (by simp only [List.length_map, List.length_cons, List.length_nil, List.length_append]; omega) rfl⟩, ?_⟩; conv => whnf)
    | (refine ⟨mem_one ⟨rfl, rfl⟩, ?_⟩; conv => whnf)
    | (refine ⟨(by intro y hy; obtain ⟨x, _, rfl⟩ := List.mem_map.1 hy; first | rfl | exact ⟨rfl, rfl⟩), ?_⟩; conv => whnf)
    | (refine ⟨cap_ok (by first | omega | (simp only [List.length_map]; omega)) rfl, ?_⟩; conv => whnf)
    | (refine ix_map (by omega) ?_; conv => whnf)
    | (refine ix_str (by omega) ?_; conv => whnf)
    | (refine wrap64 (by omega) ?_; conv => whnf)
    | (exfalso; simp only [List.length_map, List.length_cons, List.length_nil, List.length_append] at h; omega)
    | ((with_reducible refine endx_go ?_); first | (refine endx3 ?_; rw [opened_t h0 ht]; done))
    | (refine ⟨rfl, ?_⟩; conv => whnf)
    | fail
    )

theorem c42o (s : Bs) (h0 : blockErr s = 0) (ht : torn s = []) : Fn 42 [.str s] (.tup [.str (opened s).1, i (opened s).2.1, i (opened s).2.2]) := by
  have hs := blockErr_ok h0
  refine run_walkF eok Tryd.func42 rfl (by kernel_rfl) ?_
  conv => whnf
  repeat' (first
    | ((with_reducible refine on_ndec_t (by assumption) ?_); conv => whnf)
    | ((with_reducible refine on_dec_t ?_ ?_); (focus (rw [List.length_map]; have := List.length_pos_iff.2 ht; omega)); conv => whnf)
    | ((with_reducible refine on_dec_f ?_ ?_); (focus ((try simp only [List.length_map, List.length_cons, List.length_nil, List.length_append]); omega)); conv => whnf)
    | ((with_reducible refine on_dec_t ?_ ?_); (focus ((try simp only [List.length_map, List.length_cons, List.length_nil, List.length_append]); omega)); conv => whnf)
    | ((with_reducible refine on_dec (fun h => ?_) (fun h => ?_)) <;> (try simp only [List.length_map] at h) <;> conv => whnf)
    | ((with_reducible refine on_ndec (fun h => ?_) (fun h => ?_)) <;> (try simp only [List.length_map] at h) <;> conv => whnf)
    | ((with_reducible refine on_not (fun h => ?_) (fun h => ?_)) <;> conv => whnf)
    | ((with_reducible refine onBool_split (fun h => ?_) (fun h => ?_)) <;> conv => whnf)
    | ((with_reducible refine call_go ?_); (first | refine call_step (run_view (c48 _) rfl rfl) ?_ | refine call_step (run_viewF (c79 s hs) rfl) ?_ | refine call_step (run_view (c81q s _ 40 rfl (by omega) (by omega)) rfl (vlc (view_bytes rfl Nat.two_pos) (vlc rfl vln))) ?_ | refine call_step (run_view (c81q (opG s k) _ (42 + 2 * k) (by omega) (by rw [hgl (by omega)]; omega) (by rw [hgl (by omega)]; decide)) rfl (vlc (view_bytes rfl Nat.two_pos) (vlc rfl vln))) ?_ | refine call_step (run_view (c80q _ (at2_len (by omega))) rfl rfl) ?_ | refine call_step (run_view (c83 k (by omega)) rfl rfl) ?_ | refine call_step (run_mutB (c82 (opG s k) (at2 (opG s k) (42 + 2 * k)) _ (tl k) rfl (by have := tl_bd (k := k) (by omega); rw [hgl (by omega), at2_len (by rw [hgl (by omega)]; omega)]; omega)) rfl rfl (fun _ h => by cases h) rfl) ?_); conv => whnf)
    | ((with_reducible refine loop_go ?_); first | (refine loop1 (fun (k : Nat) => 8 - k) (fun (k : Nat) => k ≤ 8) (fun (k : Nat) => [(6, .sl 0 0 (opG s k).length 1 none), (7, .d (i (num2 (at2 s 40)))), (23, .d (i k))]) (fun (k : Nat) => [⟨(opG s k).map byteV, 1, 0⟩]) (0) (by exact Nat.zero_le _) ?_ (fun k C hI hC => ?_); (exact ⟨[.old 0], rfl, rfl, ⟨⟨rfl, rfl, (by rw [opG_zero]), rfl, rfl⟩, rfl, rfl, trivial⟩, ⟨wkO_bytes (opG s 0) rfl rfl rfl (by (rw [opG_zero]) <;> rfl) rfl, trivial⟩⟩); have hgl := fun (h : k ≤ 8) => opG_len hs h; all_goals (conv => whnf)))
    | ((with_reducible show C _ _); first | (refine hC (k + 1) _ _ ?_ (by omega) ?_; clear hC; rotate_left; (exact ⟨[.old 0], rfl, rfl, ⟨⟨rfl, rfl, (by rw [opG_len hs (by omega), opG_len hs (by omega)]), rfl, rfl⟩, (by first | (show (_ : D) = _; with_reducible rfl) | exact congrArg (D.int .i64) (by omega) | exact congrArg (D.int .i64) (by simp only [List.length_map]) | exact rfl), (by first | (show (_ : D) = _; with_reducible rfl) | exact congrArg (D.int .i64) (by omega) | exact congrArg (D.int .i64) (by simp only [List.length_map]) | exact rfl), trivial⟩, ⟨wkO_bytes (opG s (k + 1)) rfl rfl rfl (by (rw [opG_succ]) <;> rfl) rfl, trivial⟩⟩); (exact (by omega : k + 1 ≤ 8))))
    | (refine ⟨⟨(by first | rfl | (simp; done)), cap_ok (by simp only [List.length_map, List.length_cons, List.length_nil, List.length_append]; omega) rfl⟩, ?_⟩; conv => whnf)
    | (refine ⟨mem_one ⟨rfl, rfl⟩, ?_⟩; conv => whnf)
    | (refine ⟨(by intro y hy; obtain ⟨x, _, rfl⟩ := List.mem_map.1 hy; first | rfl | exact ⟨rfl, rfl⟩), ?_⟩; conv => whnf)
    | (refine ⟨cap_ok (by first | omega | (simp only [List.length_map]; omega)) rfl, ?_⟩; conv => whnf)
    | (refine ix_map (by omega) ?_; conv => whnf)
    | (refine ix_str (by omega) ?_; conv => whnf)
    | (refine wrap64 (by omega) ?_; conv => whnf)
    | (exfalso; rw [ht] at h; simp at h; done)
    | ((have hk8 : k = 8 := (by omega)); subst hk8; (refine own_sl 40 58 rfl rfl (by rw [hgl (by omega)]; omega) ?_); conv => whnf)
    | (refine ⟨(by rw [List.length_map]; omega), ?_⟩; conv => whnf)
    | (refine ⟨(by rw [List.length_map, hgl (by omega)]; decide), ?_⟩; conv => whnf)
    | (refine ⟨opR s 8, ⟨(by show 0 + (opG s 8).length ≤ (over ((opG s 8).map byteV) 40 (List.replicate 18 (.d (.int .u8 0)))).length; rw [clear_row hs, List.length_map, opR_len hs (Nat.le_refl 8), hgl (by omega)]; decide), (by show ((over ((opG s 8).map byteV) 40 (List.replicate 18 (.d (.int .u8 0)))).drop 0).take (opG s 8).length = _; rw [clear_row hs, List.drop_zero, List.take_of_length_le (by rw [List.length_map, opR_len hs (Nat.le_refl 8), hgl (by omega)]; exact Nat.le_refl _)])⟩, ?_⟩; conv => whnf)
    | (refine wrap64 (by omega) ?_; conv => whnf)
    | (exfalso; simp only [List.length_map, List.length_cons, List.length_nil, List.length_append] at h; omega)
    | ((with_reducible refine endx_go ?_); first | (refine endx3 ?_; rw [opened_o h0 ht]; done))
    | (refine ⟨rfl, ?_⟩; conv => whnf)
    | fail
    )

theorem c42 (s : Bs) : Fn 42 [.str s] (.tup [.str (opened s).1, i (opened s).2.1, i (opened s).2.2]) := by
  by_cases h0 : blockErr s = 0
  · by_cases ht : torn s = []
    · exact c42o s h0 ht
    · exact c42t s h0 ht
  · exact c42b s h0
theorem protR_ok {s : Bs} {n : Int} (h : protErr s n = 0) : protR s n = pr n.toNat s := if_pos h
theorem protR_no {s : Bs} {n : Int} (h : ¬ protErr s n = 0) : protR s n = [] := if_neg h
theorem on_trim {s : Bs} {K : Bool → Prop} (h : K (isz s)) : K (decide (trL (trR s) = [])) := by rw [trim_dec]; exact h

theorem c43b (s : Bs) (n : Int) (h0 : ¬ blockErr s = 0) : Fn 43 [.str s, i n] (.tup [.str (protR s n), i (protErr s n)]) := by
  refine run_walkF eok Tryd.func43 rfl (by kernel_rfl) ?_
  conv => whnf
  repeat' (first
    | ((with_reducible refine on_ndec_f (by assumption) ?_); conv => whnf)
    | ((with_reducible refine on_dec_f ?_ ?_); (focus ((try simp only [List.length_map, List.length_cons, List.length_nil, List.length_append]); omega)); conv => whnf)
    | ((with_reducible refine on_dec_t ?_ ?_); (focus ((try simp only [List.length_map, List.length_cons, List.length_nil, List.length_append]); omega)); conv => whnf)
    | ((with_reducible refine on_dec (fun h => ?_) (fun h => ?_)) <;> (try simp only [List.length_map] at h) <;> conv => whnf)
    | ((with_reducible refine on_ndec (fun h => ?_) (fun h => ?_)) <;> (try simp only [List.length_map] at h) <;> conv => whnf)
    | ((with_reducible refine on_not (fun h => ?_) (fun h => ?_)) <;> conv => whnf)
    | ((with_reducible refine onBool_split (fun h => ?_) (fun h => ?_)) <;> conv => whnf)
    | ((with_reducible refine call_go ?_); (first | refine call_step (run_view (c48 _) rfl rfl) ?_ | refine call_step (run_view (c59 _ _) rfl rfl) ?_ | refine call_step (run_view (c85 _ _ _) rfl rfl) ?_ | refine call_step (run_view (c58 [_, _] (by simp)) rfl rfl) ?_ | refine call_step (run_view (c58 [_, _, _] (by simp)) rfl rfl) ?_ | refine call_step (run_view (c58 [_, _, _, _] (by simp)) rfl rfl) ?_ | refine call_step (run_mutB (c82 (opG s k) (at2 (opG s k) (42 + 2 * k)) _ (tl k) rfl (by have := tl_bd (k := k) (by omega); rw [hgl (by omega), at2_len (by rw [hgl (by omega)]; omega)]; omega)) rfl rfl (fun _ h => by cases h) rfl) ?_ | refine call_step (run_view (c83 k (by omega)) rfl rfl) ?_ | refine call_step (run_view (c81q s _ 40 rfl (by omega) (by omega)) rfl (vlc (view_bytes rfl Nat.two_pos) (vlc rfl vln))) ?_ | refine call_step (run_view (c81q (opG s k) _ (42 + 2 * k) (by omega) (by rw [hgl (by omega)]; omega) (by rw [hgl (by omega)]; decide)) rfl (vlc (view_bytes rfl Nat.two_pos) (vlc rfl vln))) ?_); conv => whnf)
    | (refine ⟨⟨(by first | rfl | (simp; done)), cap_ok (by simp only [List.length_map, List.length_cons, List.length_nil, List.length_append]; omega) rfl⟩, ?_⟩; conv => whnf)
    | (refine ⟨mem_one ⟨rfl, rfl⟩, ?_⟩; conv => whnf)
    | (refine ⟨(by intro y hy; obtain ⟨x, _, rfl⟩ := List.mem_map.1 hy; first | rfl | exact ⟨rfl, rfl⟩), ?_⟩; conv => whnf)
    | (refine ⟨cap_ok (by first | omega | (simp only [List.length_map]; omega)) rfl, ?_⟩; conv => whnf)
    | (refine ix_map (by omega) ?_; conv => whnf)
    | (refine ix_str (by omega) ?_; conv => whnf)
    | (refine wrap64 (by omega) ?_; conv => whnf)
    | (exfalso; simp only [List.length_map, List.length_cons, List.length_nil, List.length_append] at h; omega)
    | ((with_reducible refine endx_go ?_); first | (refine endx2 ?_; rw [protR_no (by rw [protErr_b h0]; exact h0), protErr_b h0]; done))
    | (refine ⟨rfl, ?_⟩; conv => whnf)
    | fail
    )

theorem c43e (s : Bs) (n : Int) (h0 : blockErr s = 0) (h1 : ¬ first [if decide (trL (trR ((s.take 58).drop 40)) = []) then 0 else 3, if within n 1 65535 then 0 else 2] = 0) : Fn 43 [.str s, i n] (.tup [.str (protR s n), i (protErr s n)]) := by
  have hs := blockErr_ok h0; have he : protErr s n = first [if decide (trL (trR ((s.take 58).drop 40)) = []) then 0 else 3, if within n 1 65535 then 0 else 2] := (by rw [protErr_first s n h0, trim_dec, cut58])
  refine run_walkF eok Tryd.func43 rfl (by kernel_rfl) ?_
  conv => whnf
  repeat' (first
    | ((with_reducible refine on_ndec_t (by assumption) ?_); conv => whnf)
    | ((with_reducible refine on_ndec_f (by assumption) ?_); conv => whnf)
    | ((with_reducible refine on_dec_f ?_ ?_); (focus ((try simp only [List.length_map, List.length_cons, List.length_nil, List.length_append]); omega)); conv => whnf)
    | ((with_reducible refine on_dec_t ?_ ?_); (focus ((try simp only [List.length_map, List.length_cons, List.length_nil, List.length_append]); omega)); conv => whnf)
    | ((with_reducible refine on_dec (fun h => ?_) (fun h => ?_)) <;> (try simp only [List.length_map] at h) <;> conv => whnf)
    | ((with_reducible refine on_ndec (fun h => ?_) (fun h => ?_)) <;> (try simp only [List.length_map] at h) <;> conv => whnf)
    | ((with_reducible refine on_not (fun h => ?_) (fun h => ?_)) <;> conv => whnf)
    | ((with_reducible refine onBool_split (fun h => ?_) (fun h => ?_)) <;> conv => whnf)
    | ((with_reducible refine call_go ?_); (first | refine call_step (run_view (c48 _) rfl rfl) ?_ | refine call_step (run_view (c84 _ (by simp only [List.length_drop, List.length_take]; omega)) rfl rfl) ?_ | refine call_step (run_view (c59 _ _) rfl rfl) ?_ | refine call_step (run_view (c85 _ _ _) rfl rfl) ?_ | refine call_step (run_view (c58 [_, _] (by simp)) rfl rfl) ?_ | refine call_step (run_view (c58 [_, _, _] (by simp)) rfl rfl) ?_ | refine call_step (run_view (c58 [_, _, _, _] (by simp)) rfl rfl) ?_ | refine call_step (run_mutB (c82 (opG s k) (at2 (opG s k) (42 + 2 * k)) _ (tl k) rfl (by have := tl_bd (k := k) (by omega); rw [hgl (by omega), at2_len (by rw [hgl (by omega)]; omega)]; omega)) rfl rfl (fun _ h => by cases h) rfl) ?_ | refine call_step (run_view (c83 k (by omega)) rfl rfl) ?_ | refine call_step (run_view (c81q s _ 40 rfl (by omega) (by omega)) rfl (vlc (view_bytes rfl Nat.two_pos) (vlc rfl vln))) ?_ | refine call_step (run_view (c81q (opG s k) _ (42 + 2 * k) (by omega) (by rw [hgl (by omega)]; omega) (by rw [hgl (by omega)]; decide)) rfl (vlc (view_bytes rfl Nat.two_pos) (vlc rfl vln))) ?_); conv => whnf)
    | (refine ⟨⟨(by first | rfl | (simp; done)), cap_ok (by simp only [List.length_map, List.length_cons, List.length_nil, List.length_append]; omega) rfl⟩, ?_⟩; conv => whnf)
    | (refine ⟨mem_one ⟨rfl, rfl⟩, ?_⟩; conv => whnf)
    | (refine ⟨(by intro y hy; obtain ⟨x, _, rfl⟩ := List.mem_map.1 hy; first | rfl | exact ⟨rfl, rfl⟩), ?_⟩; conv => whnf)
    | (refine ⟨cap_ok (by first | omega | (simp only [List.length_map]; omega)) rfl, ?_⟩; conv => whnf)
    | (refine ix_map (by omega) ?_; conv => whnf)
    | (refine ix_str (by omega) ?_; conv => whnf)
    | (refine wrap64 (by omega) ?_; conv => whnf)
    | (refine sl_str 40 58 rfl rfl (by omega) ?_; conv => whnf)
    | (exfalso; simp only [List.length_map, List.length_cons, List.length_nil, List.length_append] at h; omega)
    | ((with_reducible refine endx_go ?_); first | (refine endx2 ?_; rw [protR_no (by rw [he]; exact h1), he]; done))
    | (refine ⟨rfl, ?_⟩; conv => whnf)
    | fail
    )

theorem c43o (s : Bs) (n : Int) (h0 : blockErr s = 0) (h1 : first [if decide (trL (trR ((s.take 58).drop 40)) = []) then 0 else 3, if within n 1 65535 then 0 else 2] = 0) : Fn 43 [.str s, i n] (.tup [.str (protR s n), i (protErr s n)]) := by
  have hs := blockErr_ok h0; have he : protErr s n = 0 := (by rw [protErr_first s n h0]; rw [trim_dec, cut58] at h1; exact h1); have hp := protErr_ok he
  refine run_walkF eok Tryd.func43 rfl (by kernel_rfl) ?_
  conv => whnf
  repeat' (first
    | ((with_reducible refine on_ndec_t (by assumption) ?_); conv => whnf)
    | ((with_reducible refine on_ndec_f (by assumption) ?_); conv => whnf)
    | ((with_reducible refine on_dec_f ?_ ?_); (focus ((try simp only [List.length_map, List.length_cons, List.length_nil, List.length_append]); omega)); conv => whnf)
    | ((with_reducible refine on_dec_t ?_ ?_); (focus ((try simp only [List.length_map, List.length_cons, List.length_nil, List.length_append]); omega)); conv => whnf)
    | ((with_reducible refine on_dec (fun h => ?_) (fun h => ?_)) <;> (try simp only [List.length_map] at h) <;> conv => whnf)
    | ((with_reducible refine on_ndec (fun h => ?_) (fun h => ?_)) <;> (try simp only [List.length_map] at h) <;> conv => whnf)
    | ((with_reducible refine on_not (fun h => ?_) (fun h => ?_)) <;> conv => whnf)
    | ((with_reducible refine onBool_split (fun h => ?_) (fun h => ?_)) <;> conv => whnf)
    | ((with_reducible refine call_go ?_); (first | refine call_step (run_view (c48 _) rfl rfl) ?_ | refine call_step (run_view (c84 _ (by simp only [List.length_drop, List.length_take]; omega)) rfl rfl) ?_ | refine call_step (run_view (c59 _ _) rfl rfl) ?_ | refine call_step (run_view (c85 _ _ _) rfl rfl) ?_ | refine call_step (run_view (c58 [_, _] (by simp)) rfl rfl) ?_ | refine call_step (run_view (c58 [_, _, _] (by simp)) rfl rfl) ?_ | refine call_step (run_view (c58 [_, _, _, _] (by simp)) rfl rfl) ?_ | refine call_step (run_view (c86q n n.toNat (by omega) (by omega)) rfl rfl) ?_ | refine call_step (run_mutB (c82 s (le2 n.toNat) _ 40 rfl (by rw [le2_len]; omega)) rfl rfl (fun _ h => by cases h) rfl) ?_ | refine call_step (run_mutB (c82 (prG n.toNat s k) (at2 (prG n.toNat s k) (tl k)) _ (42 + 2 * k) (by omega) (by have := tl_bd (k := k) (by omega); rw [hgl (by omega), at2_len (by rw [hgl (by omega)]; omega)]; omega)) rfl rfl (fun _ h => by cases h) rfl) ?_ | refine call_step (run_mutB (c82 (patch (prG n.toNat s k) (42 + 2 * k) (at2 (prG n.toNat s k) (tl k))) (le2 n.toNat) _ (tl k) rfl (by have := tl_bd (k := k) (by omega); rw [hpl (by omega), le2_len]; omega)) rfl rfl (fun _ h => by cases h) (by rw [hpl (by omega), hgl (by omega)])) ?_ | refine call_step (run_view (c83 k (by omega)) rfl rfl) ?_ | refine call_step (run_view (c81q (prG n.toNat s k) _ (tl k) rfl (by have := tl_bd (k := k) (by omega); rw [hgl (by omega)]; omega) (by rw [hgl (by omega)]; decide)) rfl (vlc (view_bytes rfl Nat.two_pos) (vlc rfl vln))) ?_); conv => whnf)
    | ((with_reducible refine loop_go ?_); first | (refine loop1 (fun (k : Nat) => 8 - k) (fun (k : Nat) => k ≤ 8) (fun (k : Nat) => [(1, .d (i n)), (8, .sl 0 0 (prG n.toNat s k).length 1 none), (34, .d (i k))]) (fun (k : Nat) => [⟨(prG n.toNat s k).map byteV, 1, 0⟩]) (0) (by exact Nat.zero_le _) ?_ (fun k C hI hC => ?_); (exact ⟨[.old 1], rfl, rfl, ⟨rfl, ⟨rfl, rfl, (by rw [prG_len _ hs (by omega)]; exact hs), rfl, rfl⟩, rfl, trivial⟩, ⟨wkO_bytes (prG n.toNat s 0) rfl rfl rfl (by (rw [prG_zero]) <;> rfl) rfl, trivial⟩⟩); have hgl := fun (h : k ≤ 8) => prG_len n.toNat hs h; have hpl : k < 8 → (patch (prG n.toNat s k) (42 + 2 * k) (at2 (prG n.toNat s k) (tl k))).length = 512 := fun h => (by have := tl_bd h; rw [patch_len (by rw [hgl (by omega), at2_len (by rw [hgl (by omega)]; omega)]; omega)]; exact hgl (by omega)); all_goals (conv => whnf)))
    | ((with_reducible show C _ _); first | (refine hC (k + 1) _ _ ?_ (by omega) ?_; clear hC; rotate_left; (exact ⟨[.old 0], rfl, rfl, ⟨(by first | (show (_ : D) = _; with_reducible rfl) | exact congrArg (D.int .i64) (by omega) | exact congrArg (D.int .i64) (by simp only [List.length_map]) | exact rfl), ⟨rfl, rfl, (by rw [prG_len _ hs (by omega), prG_len _ hs (by omega)]), rfl, rfl⟩, (by first | (show (_ : D) = _; with_reducible rfl) | exact congrArg (D.int .i64) (by omega) | exact congrArg (D.int .i64) (by simp only [List.length_map]) | exact rfl), trivial⟩, ⟨wkO_bytes (prG n.toNat s (k + 1)) rfl rfl rfl (by (rw [prG_succ]) <;> rfl) rfl, trivial⟩⟩); (exact (by omega : k + 1 ≤ 8))))
    | (refine ⟨⟨(by first | rfl | (simp; done)), cap_ok (by simp only [List.length_map, List.length_cons, List.length_nil, List.length_append]; omega) rfl⟩, ?_⟩; conv => whnf)
    | (refine ⟨mem_one ⟨rfl, rfl⟩, ?_⟩; conv => whnf)
    | (refine ⟨(by intro y hy; obtain ⟨x, _, rfl⟩ := List.mem_map.1 hy; first | rfl | exact ⟨rfl, rfl⟩), ?_⟩; conv => whnf)
    | (refine ⟨cap_ok (by first | omega | (simp only [List.length_map]; omega)) rfl, ?_⟩; conv => whnf)
    | (refine ix_map (by omega) ?_; conv => whnf)
    | (refine ix_str (by omega) ?_; conv => whnf)
    | (refine wrap64 (by omega) ?_; conv => whnf)
    | (refine sl_str 40 58 rfl rfl (by omega) ?_; conv => whnf)
    | ((have hk8 : k = 8 := (by omega)); subst hk8; (refine ⟨pr n.toNat s, ⟨(by rw [List.length_map]; omega), (by rw [List.drop_zero, List.take_of_length_le (by rw [List.length_map]; exact Nat.le_refl _), pr_eq n.toNat hs])⟩, ?_⟩); conv => whnf)
    | (refine wrap64 (by omega) ?_; conv => whnf)
    | (exfalso; simp only [List.length_map, List.length_cons, List.length_nil, List.length_append] at h; omega)
    | ((with_reducible refine endx_go ?_); first | (refine endx2 ?_; rw [protR_ok he, he]; done))
    | (refine ⟨rfl, ?_⟩; conv => whnf)
    | fail
    )

theorem c43 (s : Bs) (n : Int) : Fn 43 [.str s, i n] (.tup [.str (protR s n), i (protErr s n)]) := by
  by_cases h0 : blockErr s = 0
  · by_cases h1 : first [if decide (trL (trR ((s.take 58).drop 40)) = []) then 0 else 3, if within n 1 65535 then 0 else 2] = 0
    · exact c43o s n h0 h1
    · exact c43e s n h0 h1
  · exact c43b s n h0

end Go.Proofs.YtpblmdolgocpaaaDoor

/-! Aw -/
namespace Go.Proofs.YtpblmdolgocpaaaDoor
open Go Dw
set_option maxRecDepth 100000
def secs (s : Bs) : Bs := s.flatMap (List.replicate 64)
def aaaa : Bs := [97, 97, 97, 97]
def acaa : Bs := [97, 99, 97, 97]
def acca : Bs := [97, 99, 99, 97]
def abca : Bs := [97, 98, 99, 97]
def evs0 : List Wr := [⟨1, secs [98]⟩, ⟨0, []⟩, ⟨1, secs [99, 99]⟩]
theorem names_ok : Tryd.prog.funcs.toList.all (fun fn => !(fn.name == "runtime.NumGoroutine")) = true := by kernel_rfl
def dm02 (f : Nat) : Bool := [13, 36, 58, 59, 60, 61, 62, 63, 70, 71, 77, 85, 91].any (Nat.beq f)
theorem c18a : Run Tryd.prog 18 ([.str (secs aaaa), .fs (evs0.map Wr.enc), i 3, .str (secs acaa)].map .d) [] (.d (.tup [i 1, i 0])) [] :=
  run_ev (fs := Tryd.prog.funcs.toList) (orc := fun _ => none) eok (fun _ _ h => by cases h) (xs := [.str (secs aaaa), .fs (evs0.map Wr.enc), i 3, .str (secs acaa)]) rfl names_ok dm02 300 30 (by kernel_rfl) rfl rfl
end Go.Proofs.YtpblmdolgocpaaaDoor

/-! Ws -/
namespace Go.Proofs.YtpblmdolgocpaaaDoor
open Go Dw
set_option maxRecDepth 10000
set_option linter.unusedVariables false
set_option linter.unusedSimpArgs false
attribute [local irreducible] Run
set_option maxHeartbeats 4000000

attribute [local irreducible] sec stK put patch wrote pat wr

def rep (c : UInt8) (k : Nat) : Bs := List.replicate k c
theorem rep_zero (c : UInt8) : rep c 0 = [] := rfl
theorem rep_succ (c : UInt8) (k : Nat) : rep c (k + 1) = rep c k ++ [c] := List.replicate_succ'
theorem rep_len (c : UInt8) (k : Nat) : (rep c k).length = k := List.length_replicate ..
theorem rep_map (c : UInt8) (k : Nat) : (rep c (k + 1)).map byteV = (rep c k).map byteV ++ [.d (.int .u8 c.toNat)] := by rw [rep_succ, List.map_append]; rfl
theorem secs_take {s : Bs} {k : Nat} (h : k < s.length) : secs (s.take (k + 1)) = secs (s.take k) ++ rep s[k] 64 := by
  unfold secs rep
  rw [List.take_succ_eq_append_getElem h, List.flatMap_append]; simp
theorem secs_zero (s : Bs) : secs (s.take 0) = [] := rfl
theorem secs_len : ∀ (s : Bs), (secs s).length = 64 * s.length
  | [] => rfl
  | x :: s => by
    have := secs_len s
    unfold secs at *
    simp only [List.flatMap_cons, List.length_append, List.length_replicate, List.length_cons, this]; omega
attribute [local irreducible] rep secs

theorem c89 (c : UInt8) : Fn 89 [.int .u8 c.toNat] (.str (rep c 64)) := by
  have hr := rep_len c
  refine run_walkF eok Tryd.func89 rfl (by kernel_rfl) ?_
  conv => whnf
  repeat' (first
    | ((with_reducible refine on_dec_f ?_ ?_); (focus ((try simp only [List.length_map, List.length_cons, List.length_nil, List.length_append]); omega)); conv => whnf)
    | ((with_reducible refine on_dec_t ?_ ?_); (focus ((try simp only [List.length_map, List.length_cons, List.length_nil, List.length_append]); omega)); conv => whnf)
    | ((with_reducible refine on_dec (fun h => ?_) (fun h => ?_)) <;> (try simp only [List.length_map] at h) <;> conv => whnf)
    | ((with_reducible refine on_ndec (fun h => ?_) (fun h => ?_)) <;> (try simp only [List.length_map] at h) <;> conv => whnf)
    | ((with_reducible refine on_not (fun h => ?_) (fun h => ?_)) <;> conv => whnf)
    | ((with_reducible refine onBool_split (fun h => ?_) (fun h => ?_)) <;> conv => whnf)
    | ((with_reducible refine loop_go ?_); first | (refine loop1 (fun (k : Nat) => 64 - k) (fun (k : Nat) => k ≤ 64) (fun (k : Nat) => [(0, .d (.int .u8 c.toNat)), (3, .sl 0 0 (rep c k).length 1 none), (4, .d (i k))]) (fun (k : Nat) => [⟨(rep c k).map byteV, 1, 0⟩]) (0) (by exact Nat.zero_le _) ?_ (fun k C hI hC => ?_); (exact ⟨[.void 1], rfl, rfl, ⟨rfl, ⟨rfl, rfl, (by rw [rep_len]), rfl⟩, rfl, trivial⟩, ⟨⟨(by rw [rep_zero]; rfl), rfl, (by decide), rfl⟩, trivial⟩⟩); all_goals (conv => whnf)))
    | ((with_reducible show C _ _); first | (refine hC (k + 1) _ _ ?_ (by omega) ?_; clear hC; rotate_left; (exact ⟨[.old 2], rfl, rfl, ⟨(by first | (show (_ : D) = _; with_reducible rfl) | exact rfl), ⟨rfl, rfl, (by rw [rep_len, rep_len]; rfl), rfl, rfl⟩, (by first | (show (_ : D) = _; with_reducible rfl) | exact congrArg (D.int .i64) (by omega) | exact congrArg (D.int .i64) (by simp only [List.length_map]) | exact rfl), trivial⟩, ⟨wkO_bytes (rep c (k + 1)) rfl rfl rfl (by (rw [rep_map]) <;> rfl) rfl, trivial⟩⟩); (exact (by omega : k + 1 ≤ 64))))
    | (refine ⟨⟨(by first | rfl | (simp; done)), cap_ok (by simp only [List.length_map, List.length_cons, List.length_nil, List.length_append]; omega) rfl⟩, ?_⟩; conv => whnf)
    | (refine ⟨mem_one ⟨rfl, rfl⟩, ?_⟩; conv => whnf)
    | (refine ⟨(by intro y hy; obtain ⟨x, _, rfl⟩ := List.mem_map.1 hy; first | rfl | exact ⟨rfl, rfl⟩), ?_⟩; conv => whnf)
    | (refine ⟨cap_ok (by first | omega | (simp only [List.length_map]; omega)) rfl, ?_⟩; conv => whnf)
    | (refine ix_map (by omega) ?_; conv => whnf)
    | (refine ix_str (by omega) ?_; conv => whnf)
    | (refine wrap64 (by omega) ?_; conv => whnf)
    | (refine ⟨rep c k, ⟨(by simp only [List.length_map]; omega), by rw [List.drop_zero, List.take_of_length_le (by simp)]⟩, ?_⟩; conv => whnf)
    | (refine ⟨⟨(by simp only [List.length_map]; omega), cap_ok (by simp only [hr k, List.length_cons, List.length_nil]; omega) rfl⟩, ?_⟩; conv => whnf)
    | (refine ⟨Nat.le_refl _, ?_⟩; conv => whnf)
    | (refine ⟨⟨(by simp only [List.length_map, List.length_append]; omega), cap_ok (by skip; simp only [List.length_map, List.length_cons, List.length_nil, List.length_append]; omega) rfl⟩, ?_⟩; conv => whnf)
    | (refine ⟨cap_ok (by skip; simp only [List.length_map, List.length_cons, List.length_nil, List.length_append]; omega) rfl, ?_⟩; conv => whnf)
    | (refine wrap64 (by omega) ?_; conv => whnf)
    | (exfalso; simp only [List.length_map, List.length_cons, List.length_nil, List.length_append] at h; omega)
    | ((with_reducible refine endx_go ?_); first | (exact endx (congrArg D.str (by rw [show k = 64 by omega])); done))
    | (refine ⟨rfl, ?_⟩; conv => whnf)
    | fail
    )

theorem c55 (s : Bs) (hs : s.length < 10000) : Fn 55 [.str s] (.str (secs s)) := by
  refine run_walkF eok Tryd.func55 rfl (by kernel_rfl) ?_
  conv => whnf
  repeat' (first
    | ((with_reducible refine on_dec_f ?_ ?_); (focus ((try simp only [List.length_map, List.length_cons, List.length_nil, List.length_append]); omega)); conv => whnf)
    | ((with_reducible refine on_dec_t ?_ ?_); (focus ((try simp only [List.length_map, List.length_cons, List.length_nil, List.length_append]); omega)); conv => whnf)
    | ((with_reducible refine on_dec (fun h => ?_) (fun h => ?_)) <;> (try simp only [List.length_map] at h) <;> conv => whnf)
    | ((with_reducible refine on_ndec (fun h => ?_) (fun h => ?_)) <;> (try simp only [List.length_map] at h) <;> conv => whnf)
    | ((with_reducible refine on_not (fun h => ?_) (fun h => ?_)) <;> conv => whnf)
    | ((with_reducible refine onBool_split (fun h => ?_) (fun h => ?_)) <;> conv => whnf)
    | ((with_reducible refine call_go ?_); (first | refine call_step (run_view (c89 _) rfl rfl) ?_); conv => whnf)
    | ((with_reducible refine loop_go ?_); first | (refine loop1 (fun (k : Nat) => s.length - k) (fun (k : Nat) => k ≤ s.length) (fun (k : Nat) => [(0, .d (.str s)), (3, .d (.str (secs (s.take k)))), (4, .d (i k))]) (fun (k : Nat) => []) (0) (by exact Nat.zero_le _) ?_ (fun k C hI hC => ?_); (exact ⟨[], rfl, rfl, ⟨rfl, (congrArg D.str (secs_zero s).symm), rfl, trivial⟩, trivial⟩); all_goals (conv => whnf)))
    | ((with_reducible show C _ _); first | (refine hC (k + 1) _ _ ?_ (by omega) ?_; clear hC; rotate_left; (exact ⟨[], rfl, rfl, ⟨(by first | (show (_ : D) = _; with_reducible rfl) | exact rfl), (congrArg D.str (secs_take (by omega)).symm), (by first | (show (_ : D) = _; with_reducible rfl) | exact congrArg (D.int .i64) (by omega) | exact congrArg (D.int .i64) (by simp only [List.length_map]) | exact rfl), trivial⟩, trivial⟩); (exact (by omega : k + 1 ≤ s.length))))
    | (refine ⟨⟨(by first | rfl | (simp; done)), cap_ok (by simp only [List.length_map, List.length_cons, List.length_nil, List.length_append]; omega) rfl⟩, ?_⟩; conv => whnf)
    | (refine ⟨mem_one ⟨rfl, rfl⟩, ?_⟩; conv => whnf)
    | (refine ⟨(by intro y hy; obtain ⟨x, _, rfl⟩ := List.mem_map.1 hy; first | rfl | exact ⟨rfl, rfl⟩), ?_⟩; conv => whnf)
    | (refine ⟨cap_ok (by first | omega | (simp only [List.length_map]; omega)) rfl, ?_⟩; conv => whnf)
    | (refine ix_map (by omega) ?_; conv => whnf)
    | (refine ix_str (by omega) ?_; conv => whnf)
    | (refine wrap64 (by omega) ?_; conv => whnf)
    | (refine str_add (by rw [secs_len, rep_len, List.length_take]; omega) ?_; conv => whnf)
    | (refine wrap64 (by omega) ?_; conv => whnf)
    | (exfalso; simp only [List.length_map, List.length_cons, List.length_nil, List.length_append] at h; omega)
    | ((with_reducible refine endx_go ?_); first | (exact endx (congrArg D.str (by rw [List.take_of_length_le (by omega)])); done))
    | (refine ⟨rfl, ?_⟩; conv => whnf)
    | fail
    )

theorem c56 : Fn 56 [] (.fs (evs0.map Wr.enc)) := by
  refine run_walkF eok Tryd.func56 rfl (by kernel_rfl) ?_
  conv => whnf
  repeat' (first
    | ((with_reducible refine on_dec_f ?_ ?_); (focus ((try simp only [List.length_map, List.length_cons, List.length_nil, List.length_append]); omega)); conv => whnf)
    | ((with_reducible refine on_dec_t ?_ ?_); (focus ((try simp only [List.length_map, List.length_cons, List.length_nil, List.length_append]); omega)); conv => whnf)
    | ((with_reducible refine on_dec (fun h => ?_) (fun h => ?_)) <;> (try simp only [List.length_map] at h) <;> conv => whnf)
    | ((with_reducible refine on_ndec (fun h => ?_) (fun h => ?_)) <;> (try simp only [List.length_map] at h) <;> conv => whnf)
    | ((with_reducible refine on_not (fun h => ?_) (fun h => ?_)) <;> conv => whnf)
    | ((with_reducible refine onBool_split (fun h => ?_) (fun h => ?_)) <;> conv => whnf)
    | ((with_reducible refine call_go ?_); (first | refine call_step (run_data (c55 [98] (by decide)) _) ?_ | refine call_step (run_data (c55 [99, 99] (by decide)) _) ?_); conv => whnf)
    | (refine ⟨⟨(by first | rfl | (simp; done)), cap_ok (by simp only [List.length_map, List.length_cons, List.length_nil, List.length_append]; omega) rfl⟩, ?_⟩; conv => whnf)
    | (refine ⟨mem_one ⟨rfl, rfl⟩, ?_⟩; conv => whnf)
    | (refine ⟨(by intro y hy; obtain ⟨x, _, rfl⟩ := List.mem_map.1 hy; first | rfl | exact ⟨rfl, rfl⟩), ?_⟩; conv => whnf)
    | (refine ⟨cap_ok (by first | omega | (simp only [List.length_map]; omega)) rfl, ?_⟩; conv => whnf)
    | (refine ix_map (by omega) ?_; conv => whnf)
    | (refine ix_str (by omega) ?_; conv => whnf)
    | (refine wrap64 (by omega) ?_; conv => whnf)
    | (exfalso; simp only [List.length_map, List.length_cons, List.length_nil, List.length_append] at h; omega)
    | ((with_reducible refine endx_go ?_); first | (exact endxv rfl rfl; done))
    | (refine ⟨rfl, ?_⟩; conv => whnf)
    | fail
    )

theorem evs0_sm : smallB (secs aaaa) evs0 = true := by decide +kernel
theorem evs0_w : written (secs aaaa) evs0 = (secs acca, 0) := by decide +kernel
theorem evs0_f : failR (secs aaaa) evs0 ⟨3, [1]⟩ = secs abca ∧ failErr (secs aaaa) evs0 ⟨3, [1]⟩ = 0 := by decide +kernel
theorem evs0_p : protErr (zs 512) 7 = 0 := by decide +kernel
def P7 : Bs := pr 7 (zs 512)
theorem P7_eq : protR (zs 512) 7 = P7 := by rw [protR_ok evs0_p]; rfl
theorem P7_len : P7.length = 512 := pr_len (zs_len 512)
theorem P7_at : (P7[40]'(by rw [P7_len]; decide)).toNat = 7 ∧ (P7[62]'(by rw [P7_len]; decide)).toNat = 7 ∧ (P7[510]'(by rw [P7_len]; decide)).toNat = 7 := by decide +kernel
theorem evs0_d : pairErr (secs aaaa) (secs abca) = 0 ∧ wrR (secs aaaa) (secs abca) = [⟨1, secs [98, 99]⟩] := by decide +kernel
theorem c15a : Fn 15 [.str (secs aaaa), .fs (evs0.map Wr.enc)] (.tup [.str (secs acca), i 0]) := by
  have := c15 (secs aaaa) evs0 (by decide +kernel) (by decide) (by decide +kernel)
  rw [evs0_w] at this; exact this
theorem c30a1 : Fn 30 [.str (secs aaaa), .fs (evs0.map Wr.enc), (Fl.mk 3 [1]).enc] (.tup [.str (secs abca), i 0]) := by
  have := c30m (secs aaaa) evs0 ⟨3, [1]⟩ evs0_sm (by decide +kernel) (by decide) (by decide +kernel)
  rw [evs0_f.1, evs0_f.2] at this; exact this
theorem c43a : Fn 43 [.str (zs 512), i 7] (.tup [.str P7, i 0]) := by
  have := c43 (zs 512) 7
  rw [P7_eq, evs0_p] at this; exact this
theorem c23a : Fn 23 [.str (secs aaaa), .str (secs abca)] (.tup [.fs (([⟨1, secs [98, 99]⟩] : List Wr).map Wr.enc), i 0]) := by
  have := c23 (secs aaaa) (secs abca) (by decide +kernel) (by decide +kernel)
  rw [evs0_d.1, evs0_d.2] at this; exact this
attribute [local irreducible] P7 evs0 zs

theorem c11g (F : Bs → Bs) (ev : List Wr) (Z P : Bs) (hP : P.length = 512) (p1 : (P[40]'(by omega)).toNat = 7) (p2 : (P[62]'(by omega)).toNat = 7) (p3 : (P[510]'(by omega)).toNat = 7)
  (h55 : ∀ s : Bs, s.length < 10000 → Fn 55 [.str s] (.str (F s))) (h56 : Fn 56 [] (.fs (ev.map Wr.enc))) (h15 : Fn 15 [.str (F aaaa), .fs (ev.map Wr.enc)] (.tup [.str (F acca), i 0])) (h30 : Fn 30 [.str (F aaaa), .fs (ev.map Wr.enc), (Fl.mk 3 [1]).enc] (.tup [.str (F abca), i 0]))
  (h18 : Fn 18 [.str (F aaaa), .fs (ev.map Wr.enc), i 3, .str (F acaa)] (.tup [i 1, i 0])) (h57 : Fn 57 [i (512 : Int)] (.str Z)) (h43 : Fn 43 [.str Z, i 7] (.tup [.str P, i 0])) (h23 : Fn 23 [.str (F aaaa), .str (F abca)] (.tup [.fs (([⟨1, F [98, 99]⟩] : List Wr).map Wr.enc), i 0])) : Fn 11 [] (.bool true) := by
  refine run_walkF eok Tryd.func11 rfl (by kernel_rfl) ?_
  conv => whnf
  repeat' (first
    | ((with_reducible refine on_dec_t rfl ?_); conv => whnf)
    | ((with_reducible refine on_dec_f ?_ ?_); (focus ((try simp only [List.length_map, List.length_cons, List.length_nil, List.length_append]); omega)); conv => whnf)
    | ((with_reducible refine on_dec_t ?_ ?_); (focus ((try simp only [List.length_map, List.length_cons, List.length_nil, List.length_append]); omega)); conv => whnf)
    | ((with_reducible refine on_dec (fun h => ?_) (fun h => ?_)) <;> (try simp only [List.length_map] at h) <;> conv => whnf)
    | ((with_reducible refine on_ndec (fun h => ?_) (fun h => ?_)) <;> (try simp only [List.length_map] at h) <;> conv => whnf)
    | ((with_reducible refine on_not (fun h => ?_) (fun h => ?_)) <;> conv => whnf)
    | ((with_reducible refine onBool_split (fun h => ?_) (fun h => ?_)) <;> conv => whnf)
    | ((with_reducible refine call_go ?_); (first | refine call_step (run_data (h55 _ (by decide)) _) ?_ | refine call_step (run_data (xs := []) h56 _) ?_ | refine call_step (run_data h15 _) ?_ | refine call_step (run_viewF h30 rfl) ?_ | refine call_step (run_data h18 _) ?_ | refine call_step (run_data h57 _) ?_ | refine call_step (run_data h43 _) ?_ | refine call_step (run_data h23 _) ?_); conv => whnf)
    | (refine ⟨[], [(60, 61)], (by decide +kernel), ?_⟩; conv => whnf)
    | (refine ⟨⟨(by first | rfl | (simp; done)), cap_ok (by simp only [List.length_map, List.length_cons, List.length_nil, List.length_append]; omega) rfl⟩, ?_⟩; conv => whnf)
    | (refine ⟨mem_one ⟨rfl, rfl⟩, ?_⟩; conv => whnf)
    | (refine ⟨(by intro y hy; obtain ⟨x, _, rfl⟩ := List.mem_map.1 hy; first | rfl | exact ⟨rfl, rfl⟩), ?_⟩; conv => whnf)
    | (refine ⟨cap_ok (by first | omega | (simp only [List.length_map]; omega)) rfl, ?_⟩; conv => whnf)
    | (refine ix_map (by omega) ?_; conv => whnf)
    | (refine ix_str (by omega) ?_; conv => whnf)
    | (refine wrap64 (by omega) ?_; conv => whnf)
    | (refine ix_str (k := 40) (by omega) ?_; conv => whnf)
    | (refine ix_str (k := 62) (by omega) ?_; conv => whnf)
    | (refine ix_str (k := 510) (by omega) ?_; conv => whnf)
    | (refine ⟨by decide, nthK_of (x := (Wr.mk 1 (F [98, 99])).enc) rfl ?_⟩; conv => whnf)
    | ((have e9 : F [98, 99] = F { data := #[98, 99] }.data.toList := rfl); refine onBool_t (by simp [cellsEq, cellEq, e9]) ?_; conv => whnf)
    | (exfalso; simp only [List.length_map, List.length_cons, List.length_nil, List.length_append] at h; omega)
    | ((with_reducible refine endx_go ?_); first | (exact endx (congrArg D.bool (by simp [cellsEq, cellEq])); done))
    | (refine ⟨rfl, ?_⟩; conv => whnf)
    | fail
    )

theorem c11 : Fn 11 [] (.bool true) := c11g secs evs0 (zs 512) P7 P7_len P7_at.1 P7_at.2.1 P7_at.2.2 c55 c56 c15a c30a1 c18a (c57 512 (by decide)) c43a c23a

end Go.Proofs.YtpblmdolgocpaaaDoor
