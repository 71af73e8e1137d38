/-
  Chapter 27: ReparseTrees holds at every input: no condition of ours (its card lists two tables of the library, tied to the text).
-/
import Derived.Test.YtpfokhdelnlciaaGreatDoorGrpJ
set_option linter.unusedVariables false
set_option linter.unusedSimpArgs false

/-! Xh -/
namespace Go.Proofs.YtpfokhdelnlciaaGreatDoor
open Go Dw
set_option maxRecDepth 10000
set_option linter.unusedVariables false
set_option linter.unusedSimpArgs false
attribute [local irreducible] Run
set_option maxHeartbeats 1000000

open Paths
attribute [local irreducible] nameErr cut normal dots partErr text parse glue fold within
theorem sm_all : ∀ (l : List Nod) (n : Int), smGo l n = true → ∀ x ∈ l, x.ents.length ≤ 24 ∧ ∀ y ∈ x.ents, y.name.length ≤ 60
  | [], _, _, x, hx => by cases hx
  | y :: l, n, h, x, hx => by
    simp only [smGo] at h
    split at h
    · cases h
    · rename_i h1
      split at h
      · cases h
      · rename_i h2
        rcases List.mem_cons.1 hx with rfl | hx
        · simp only [Bool.or_eq_true, decide_eq_true_eq] at h1
          refine ⟨by omega, fun y hy => ?_⟩
          refine Nat.le_of_not_lt fun hh => h2 (List.any_eq_true.2 ⟨y, hy, ?_⟩)
          unfold longE
          exact decide_eq_true (by omega)
        · exact sm_all l _ h x hx
theorem tb_small {t : List Nod} (h : smallT t = true) : Tb t := by
  unfold smallT at h
  split at h
  · cases h
  · rename_i h1
    have := sm_all t 0 h
    exact ⟨by omega, fun x hx => by have := (this x hx).1; omega, fun x hx y hy => by have := (this x hx).2 y hy; omega⟩
theorem look_ok {t : List Nod} {d : Int} {s : Bs} (h : lookE t d s = 0) : ∃ x, t[d.toNat]? = some x ∧ 0 ≤ d ∧ ¬ look x.ents s < 0 := by
  by_cases hc : (checkT t).2 = 0
  · cases hw : within d 0 ((t.length : Int) - 1) with
    | false => rw [lk_2 hc hw] at h; exact absurd h (by decide)
    | true =>
      obtain ⟨h0, h1⟩ := win_at hw
      have hx := List.getElem?_eq_getElem h1
      refine ⟨_, hx, h0, fun hl => ?_⟩
      by_cases hk : (t[d.toNat]).kind = 0
      · by_cases hn : nameErr s = 0
        · rw [lk_5 hc hw hx hk hn hl] at h; exact absurd h (by decide)
        · rw [lk_4 hc hw hx hk hn] at h; exact absurd h hn
      · rw [lk_3 hc hw hx hk] at h; exact absurd h (by decide)
  · rw [lk_1 hc] at h; exact absurd h hc
theorem c22e' {t : List Nod} (B : Tb t) {d : Int} {s : Bs} (hs : s.length < 1000000) (h : ¬ lookE t d s = 0) : Fn 22 [treeD t, i d, .str s] (.tup [i 0, i (lookE t d s)]) := by
  have := c22 t B d s hs
  have e : lookN t d s = 0 := by unfold lookN; rw [if_neg h]
  rwa [e] at this
theorem c22o' {t : List Nod} (B : Tb t) {d : Int} {s : Bs} (hs : s.length < 1000000) {x : Nod} (hx : t[d.toNat]? = some x) (h : lookE t d s = 0) : Fn 22 [treeD t, i d, .str s] (.tup [i (entR x.ents s).node, i 0]) := by
  have := c22 t B d s hs
  have e : lookN t d s = (entR x.ents s).node := by unfold lookN; rw [if_pos h, hx]; rfl
  rwa [e, h] at this
theorem c24o' {t : List Nod} (B : Tb t) {d : Int} {s : Bs} (hs : s.length < 1000000) (h : lookE t d s = 0) : Fn 24 [treeD t, i d, .str s] (i 0) := by
  have := c24 t B d s hs
  rwa [h] at this
attribute [local irreducible] checkT lookE look entR noN smallT lookN

theorem c5a (t : List Nod) (d : Int) (s : Bs) (hf : smallT t = false) : Fn 5 [treeD t, i d, .str s] (.bool true) := by
  refine run_walkF eok Tryz.func5 rfl (by kernel_rfl) ?_
  conv => whnf
  repeat' (first
    | ((with_reducible refine on_dec_t (by assumption) ?_); conv => whnf)
    | ((with_reducible refine on_dec_f (by assumption) ?_); conv => whnf)
    | ((with_reducible refine onBool_t (by assumption) ?_); conv => whnf)
    | ((with_reducible refine onBool_f (by assumption) ?_); conv => whnf)
    | ((with_reducible refine on_nt (by assumption) ?_); conv => whnf)
    | ((with_reducible refine on_nf (by assumption) ?_); conv => whnf)
    | ((with_reducible refine on_ndec_t (by first | assumption | rfl) ?_); conv => whnf)
    | ((with_reducible refine on_ndec_f (by assumption) ?_); conv => whnf)
    | ((with_reducible refine on_dec_t rfl ?_); conv => whnf)
    | ((with_reducible refine on_dec_f ?_ ?_); (focus ((try simp only [List.length_map, List.length_cons, List.length_nil, List.length_append]); omega)); conv => whnf)
    | ((with_reducible refine on_dec_t ?_ ?_); (focus ((try simp only [List.length_map, List.length_cons, List.length_nil, List.length_append]); omega)); conv => whnf)
    | ((with_reducible refine on_dec (fun h => ?_) (fun h => ?_)) <;> (try simp only [List.length_map] at h) <;> conv => whnf)
    | ((with_reducible refine on_ndec (fun h => ?_) (fun h => ?_)) <;> (try simp only [List.length_map] at h) <;> conv => whnf)
    | ((with_reducible refine on_not (fun h => ?_) (fun h => ?_)) <;> conv => whnf)
    | ((with_reducible refine onBool_split (fun h => ?_) (fun h => ?_)) <;> conv => whnf)
    | ((with_reducible refine call_go ?_); (first | refine call_step (run_data (xs := []) c10 _) ?_ | refine call_step (run_data (xs := [_]) (c11 t) _) ?_); conv => whnf)
    | (refine ⟨[], [(8, 12)], (by decide +kernel), ?_⟩; conv => whnf)
    | (refine ⟨⟨(by first | rfl | (simp; done)), cap_ok (by simp only [List.length_map, List.length_cons, List.length_nil, List.length_append]; omega) rfl⟩, ?_⟩; conv => whnf)
    | (refine ⟨mem_one ⟨rfl, rfl⟩, ?_⟩; conv => whnf)
    | (refine ⟨(by intro y hy; obtain ⟨x, _, rfl⟩ := List.mem_map.1 hy; first | rfl | exact ⟨rfl, rfl⟩), ?_⟩; conv => whnf)
    | (refine ⟨cap_ok (by first | omega | (simp only [List.length_map]; omega)) rfl, ?_⟩; conv => whnf)
    | (refine ix_map (by omega) ?_; conv => whnf)
    | (refine ix_str (by omega) ?_; conv => whnf)
    | (refine wrap64 (by omega) ?_; conv => whnf)
    | (exfalso; simp only [List.length_map, List.length_cons, List.length_nil, List.length_append] at h; omega)
    | ((with_reducible refine endx_go ?_); first | (exact endx rfl; done) | (exact endx (congrArg D.bool (decide_eq_true rfl)); done))
    | (refine ⟨rfl, ?_⟩; conv => whnf)
    | fail
    )

theorem c5b (t : List Nod) (d : Int) (s : Bs) (hf : smallT t = true) (h6 : (60 : Int) < s.length) : Fn 5 [treeD t, i d, .str s] (.bool true) := by
  refine run_walkF eok Tryz.func5 rfl (by kernel_rfl) ?_
  conv => whnf
  repeat' (first
    | ((with_reducible refine on_dec_t (by assumption) ?_); conv => whnf)
    | ((with_reducible refine on_dec_f (by assumption) ?_); conv => whnf)
    | ((with_reducible refine onBool_t (by assumption) ?_); conv => whnf)
    | ((with_reducible refine onBool_f (by assumption) ?_); conv => whnf)
    | ((with_reducible refine on_nt (by assumption) ?_); conv => whnf)
    | ((with_reducible refine on_nf (by assumption) ?_); conv => whnf)
    | ((with_reducible refine on_ndec_t (by first | assumption | rfl) ?_); conv => whnf)
    | ((with_reducible refine on_ndec_f (by assumption) ?_); conv => whnf)
    | ((with_reducible refine on_dec_t rfl ?_); conv => whnf)
    | ((with_reducible refine on_dec_f ?_ ?_); (focus ((try simp only [List.length_map, List.length_cons, List.length_nil, List.length_append]); omega)); conv => whnf)
    | ((with_reducible refine on_dec_t ?_ ?_); (focus ((try simp only [List.length_map, List.length_cons, List.length_nil, List.length_append]); omega)); conv => whnf)
    | ((with_reducible refine on_dec (fun h => ?_) (fun h => ?_)) <;> (try simp only [List.length_map] at h) <;> conv => whnf)
    | ((with_reducible refine on_ndec (fun h => ?_) (fun h => ?_)) <;> (try simp only [List.length_map] at h) <;> conv => whnf)
    | ((with_reducible refine on_not (fun h => ?_) (fun h => ?_)) <;> conv => whnf)
    | ((with_reducible refine onBool_split (fun h => ?_) (fun h => ?_)) <;> conv => whnf)
    | ((with_reducible refine call_go ?_); (first | refine call_step (run_data (xs := []) c10 _) ?_ | refine call_step (run_data (xs := [_]) (c11 t) _) ?_); conv => whnf)
    | (refine ⟨[], [(8, 12)], (by decide +kernel), ?_⟩; conv => whnf)
    | (refine ⟨⟨(by first | rfl | (simp; done)), cap_ok (by simp only [List.length_map, List.length_cons, List.length_nil, List.length_append]; omega) rfl⟩, ?_⟩; conv => whnf)
    | (refine ⟨mem_one ⟨rfl, rfl⟩, ?_⟩; conv => whnf)
    | (refine ⟨(by intro y hy; obtain ⟨x, _, rfl⟩ := List.mem_map.1 hy; first | rfl | exact ⟨rfl, rfl⟩), ?_⟩; conv => whnf)
    | (refine ⟨cap_ok (by first | omega | (simp only [List.length_map]; omega)) rfl, ?_⟩; conv => whnf)
    | (refine ix_map (by omega) ?_; conv => whnf)
    | (refine ix_str (by omega) ?_; conv => whnf)
    | (refine wrap64 (by omega) ?_; conv => whnf)
    | (exfalso; simp only [List.length_map, List.length_cons, List.length_nil, List.length_append] at h; omega)
    | ((with_reducible refine endx_go ?_); first | (exact endx rfl; done) | (exact endx (congrArg D.bool (decide_eq_true rfl)); done))
    | (refine ⟨rfl, ?_⟩; conv => whnf)
    | fail
    )

theorem c5c (t : List Nod) (d : Int) (s : Bs) (hf : smallT t = true) (h6 : ¬ (60 : Int) < s.length) (hL : ¬ lookE t d s = 0) : Fn 5 [treeD t, i d, .str s] (.bool true) := by
  have B := tb_small hf
  refine run_walkF eok Tryz.func5 rfl (by kernel_rfl) ?_
  conv => whnf
  repeat' (first
    | ((with_reducible refine on_dec_t (by assumption) ?_); conv => whnf)
    | ((with_reducible refine on_dec_f (by assumption) ?_); conv => whnf)
    | ((with_reducible refine onBool_t (by assumption) ?_); conv => whnf)
    | ((with_reducible refine onBool_f (by assumption) ?_); conv => whnf)
    | ((with_reducible refine on_nt (by assumption) ?_); conv => whnf)
    | ((with_reducible refine on_nf (by assumption) ?_); conv => whnf)
    | ((with_reducible refine on_ndec_t (by first | assumption | rfl) ?_); conv => whnf)
    | ((with_reducible refine on_ndec_f (by assumption) ?_); conv => whnf)
    | ((with_reducible refine on_dec_t rfl ?_); conv => whnf)
    | ((with_reducible refine on_dec_f ?_ ?_); (focus ((try simp only [List.length_map, List.length_cons, List.length_nil, List.length_append]); omega)); conv => whnf)
    | ((with_reducible refine on_dec_t ?_ ?_); (focus ((try simp only [List.length_map, List.length_cons, List.length_nil, List.length_append]); omega)); conv => whnf)
    | ((with_reducible refine on_dec (fun h => ?_) (fun h => ?_)) <;> (try simp only [List.length_map] at h) <;> conv => whnf)
    | ((with_reducible refine on_ndec (fun h => ?_) (fun h => ?_)) <;> (try simp only [List.length_map] at h) <;> conv => whnf)
    | ((with_reducible refine on_not (fun h => ?_) (fun h => ?_)) <;> conv => whnf)
    | ((with_reducible refine onBool_split (fun h => ?_) (fun h => ?_)) <;> conv => whnf)
    | ((with_reducible refine call_go ?_); (first | refine call_step (run_data (xs := []) c10 _) ?_ | refine call_step (run_data (xs := [_]) (c11 t) _) ?_ | refine call_step (run_data (xs := [_]) (c13 t B) _) ?_ | refine call_step (run_data (xs := [_]) (c21 t B) _) ?_ | refine call_step (run_data (xs := [_, _, _]) (c22e' B (by omega) hL) _) ?_ | refine call_step (run_data (xs := [_]) (c23 t (tb_hb B)) _) ?_ | refine call_step (run_data (xs := [_, _, _]) (c24 t B d s (by omega)) _) ?_); conv => whnf)
    | (refine ⟨[], [(8, 12)], (by decide +kernel), ?_⟩; conv => whnf)
    | (refine ⟨⟨(by first | rfl | (simp; done)), cap_ok (by simp only [List.length_map, List.length_cons, List.length_nil, List.length_append]; omega) rfl⟩, ?_⟩; conv => whnf)
    | (refine ⟨mem_one ⟨rfl, rfl⟩, ?_⟩; conv => whnf)
    | (refine ⟨(by intro y hy; obtain ⟨x, _, rfl⟩ := List.mem_map.1 hy; first | rfl | exact ⟨rfl, rfl⟩), ?_⟩; conv => whnf)
    | (refine ⟨cap_ok (by first | omega | (simp only [List.length_map]; omega)) rfl, ?_⟩; conv => whnf)
    | (refine ix_map (by omega) ?_; conv => whnf)
    | (refine ix_str (by omega) ?_; conv => whnf)
    | (refine wrap64 (by omega) ?_; conv => whnf)
    | (exfalso; simp only [List.length_map, List.length_cons, List.length_nil, List.length_append] at h; omega)
    | ((with_reducible refine endx_go ?_); first | (exact endx rfl; done) | (exact endx (congrArg D.bool (decide_eq_true rfl)); done))
    | (refine ⟨rfl, ?_⟩; conv => whnf)
    | fail
    )

theorem c5d (t : List Nod) (d : Int) (s : Bs) (hf : smallT t = true) (h6 : ¬ (60 : Int) < s.length) (hL : lookE t d s = 0) (x : Nod) (hx : t[d.toNat]? = some x) (h0 : 0 ≤ d) (hl : ¬ look x.ents s < 0) : Fn 5 [treeD t, i d, .str s] (.bool true) := by
  have B := tb_small hf
  refine run_walkF eok Tryz.func5 rfl (by kernel_rfl) ?_
  conv => whnf
  repeat' (first
    | ((with_reducible refine on_dec_t (by assumption) ?_); conv => whnf)
    | ((with_reducible refine on_dec_f (by assumption) ?_); conv => whnf)
    | ((with_reducible refine onBool_t (by assumption) ?_); conv => whnf)
    | ((with_reducible refine onBool_f (by assumption) ?_); conv => whnf)
    | ((with_reducible refine on_nt (by assumption) ?_); conv => whnf)
    | ((with_reducible refine on_nf (by assumption) ?_); conv => whnf)
    | ((with_reducible refine on_ndec_t (by first | assumption | rfl) ?_); conv => whnf)
    | ((with_reducible refine on_ndec_f (by assumption) ?_); conv => whnf)
    | ((with_reducible refine on_dec_t rfl ?_); conv => whnf)
    | ((with_reducible refine on_dec_f ?_ ?_); (focus ((try simp only [List.length_map, List.length_cons, List.length_nil, List.length_append]); omega)); conv => whnf)
    | ((with_reducible refine on_dec_t ?_ ?_); (focus ((try simp only [List.length_map, List.length_cons, List.length_nil, List.length_append]); omega)); conv => whnf)
    | ((with_reducible refine on_dec (fun h => ?_) (fun h => ?_)) <;> (try simp only [List.length_map] at h) <;> conv => whnf)
    | ((with_reducible refine on_ndec (fun h => ?_) (fun h => ?_)) <;> (try simp only [List.length_map] at h) <;> conv => whnf)
    | ((with_reducible refine on_not (fun h => ?_) (fun h => ?_)) <;> conv => whnf)
    | ((with_reducible refine onBool_split (fun h => ?_) (fun h => ?_)) <;> conv => whnf)
    | ((with_reducible refine call_go ?_); (first | refine call_step (run_data (xs := []) c10 _) ?_ | refine call_step (run_data (xs := [_]) (c11 t) _) ?_ | refine call_step (run_data (xs := [_]) (c13 t B) _) ?_ | refine call_step (run_data (xs := [_]) (c21 t B) _) ?_ | refine call_step (run_data (xs := [_, _, _]) (c22o' B (by omega) hx hL) _) ?_ | refine call_step (run_data (xs := [_]) (c23 t (tb_hb B)) _) ?_ | refine call_step (run_data (xs := [_, _, _]) (c24o' B (by omega) hL) _) ?_ | refine call_step (run_data (xs := [_, _, _]) (c25 t d x s h0 hx (B.el _ (List.mem_of_getElem? hx)) (B.nl _ (List.mem_of_getElem? hx)) (by omega)) _) ?_); conv => whnf)
    | (refine ⟨[], [(8, 12)], (by decide +kernel), ?_⟩; conv => whnf)
    | (refine ⟨⟨(by first | rfl | (simp; done)), cap_ok (by simp only [List.length_map, List.length_cons, List.length_nil, List.length_append]; omega) rfl⟩, ?_⟩; conv => whnf)
    | (refine ⟨mem_one ⟨rfl, rfl⟩, ?_⟩; conv => whnf)
    | (refine ⟨(by intro y hy; obtain ⟨x, _, rfl⟩ := List.mem_map.1 hy; first | rfl | exact ⟨rfl, rfl⟩), ?_⟩; conv => whnf)
    | (refine ⟨cap_ok (by first | omega | (simp only [List.length_map]; omega)) rfl, ?_⟩; conv => whnf)
    | (refine ix_map (by omega) ?_; conv => whnf)
    | (refine ix_str (by omega) ?_; conv => whnf)
    | (refine wrap64 (by omega) ?_; conv => whnf)
    | (refine ix_nd h0 hx ?_; conv => whnf)
    | (refine look_ix1 hl ?_; conv => whnf)
    | (exfalso; simp only [List.length_map, List.length_cons, List.length_nil, List.length_append] at h; omega)
    | ((with_reducible refine endx_go ?_); first | (exact endx rfl; done) | (exact endx (congrArg D.bool (decide_eq_true rfl)); done))
    | (refine ⟨rfl, ?_⟩; conv => whnf)
    | fail
    )

theorem c5 (t : List Nod) (d : Int) (s : Bs) : Fn 5 [treeD t, i d, .str s] (.bool true) := by
  cases hf : smallT t with
  | false => exact c5a t d s hf
  | true =>
    by_cases h6 : (60 : Int) < s.length
    · exact c5b t d s hf h6
    · by_cases hL : lookE t d s = 0
      · obtain ⟨x, hx, h0, hl⟩ := look_ok hL
        exact c5d t d s hf h6 hL x hx h0 hl
      · exact c5c t d s hf h6 hL

end Go.Proofs.YtpfokhdelnlciaaGreatDoor

/-! Le -/
namespace Go.Proofs.YtpfokhdelnlciaaGreatDoor
open Go Dw Go.ChangeShapes Go.WideShapes Go.RowKit

section
attribute [local irreducible] Run
theorem hrun5 : ∀ xs, shps E 6 Tryz.f5.params.toList xs → Run Tryz.prog 5 (xs.map .d) [] (.d (.bool true)) [] := by
  intro xs h
  obtain ⟨x1, r1, rfl, h1, x2, r2, rfl, h2, x3, r3, rfl, h3, rfl⟩ := h
  obtain ⟨t, rfl⟩ := shpTree h1
  obtain ⟨d, rfl⟩ := shpInt h2
  obtain ⟨s, rfl⟩ := shpStr h3
  exact c5 t d s
end

set_option maxRecDepth 100000 in
theorem lifted5 (os : Os) (started : os.Started) (H : Type) (enc : TypeId × Value → H) :
    ReturnsInHanded {} Tryz.checked os 5 .any (fun w args => (Rows.reparseTreesSpec.pre enc Tryz.prog Tryz.f5 [] false w args ∧ laidMetH Tryz.prog laid27 w) ∧ sizedMet enc Tryz.prog Tryz.f5 (OpenSpec.ofChange Rows.reparseTreesSpec) false w args)
      (Rows.reparseTreesSpec.post enc Tryz.prog Tryz.f5 false true false false) := by
  refine returnsInHanded_of_change_and (C := Tryz.checked) (X := fun w _ => laidMetH Tryz.prog laid27 w) (fun _ _ _ hh h => h.of_heap hh) own27 started (by kernel_rfl) Tryz.func5
    (ChangeSpec.witness_shaped (enc := enc) (C := Tryz.checked) (os := os) (X := fun w _ => laidMetH Tryz.prog laid27 w) false (wit27 os) #[.slice none 0 0, .int .i64 0, .string ⟨#[]⟩] 8 rfl (shaped27 os _) (by kernel_rfl) (by kernel_rfl) (by kernel_rfl) (door_met27 os _)) ?_
  intro W base args ds gs before hval hW _ _ _ _
  refine law_lift (n := 6) (t4 := 4) eok Tryz.func5 (by kernel_rfl) rfl laidOut27 rfl ?_ rfl Tryz.underlying4 (by kernel_rfl) hrun5 W base args ds gs before hval hW
  intro H ds hds
  match ds, hds with
  | [a, b, c], _ => rfl

theorem over5 : Rows.ReparseTreesSaid :=
  OpenClaim.holds_of_wide 5 Tryz.f5 rfl rfl rfl rfl rfl rfl rfl ⟨rfl, rfl, rfl, rfl, rfl⟩ rfl rfl rfl rfl rfl (by kernel_rfl) Tryz.func5 (by kernel_rfl)
    (of_decide_eq_true (by kernel_rfl)) (by unfold Func.isWrapper; first | (rw [if_pos (by decide +kernel)]; kernel_rfl) | (rw [if_neg (by decide +kernel)]; exact ⟨rfl, rfl⟩))
    (fun os started H enc _ => lifted5 os started H enc)

theorem reparseTrees_proved : Rows.ReparseTreesCardSaid :=
  Claim7.holds_tied_plain_at .later [] [.data, .pinned] true (true, "a16cbc1bcc8e620bf3fa5a01d12ddd2b9540fe44c3b039af40c111ac70deaea2") false
    over5 (fun _ h => by cases h) (by kernel_rfl) (fun _ h => by cases h) reparseTrees_row_tie rfl ⟨rfl, rfl⟩ (by kernel_rfl) rfl
    (card_hl (f0 := 5) (fn0 := Tryz.f5) (by kernel_rfl) Tryz.func5 (by kernel_rfl) (by kernel_rfl)) (by kernel_rfl)
end Go.Proofs.YtpfokhdelnlciaaGreatDoor
