/-
  Chapter 24: ChangesBytes holds at every input: no condition of ours.
-/
import Derived.Test.YtjbipdppgoldlaaGrpG
set_option linter.unusedVariables false
set_option linter.unusedSimpArgs false

/-! Xc -/
namespace Go.Proofs.Ytjbipdppgoldlaa
open Go Dw
set_option maxRecDepth 10000
set_option linter.unusedVariables false
set_option linter.unusedSimpArgs false
attribute [local irreducible] Run
set_option maxHeartbeats 2000000

attribute [local irreducible] fewB checkJ within nameErr size encB jrnB cbErr

theorem c6 (j : Jrn) (x : Chg) : Fn 6 [j.enc, x.enc] (.bool true) := by
  refine run_walkF eok Try.func6 rfl (by kernel_rfl) ?_
  conv => whnf
  repeat' (first
    | (exfalso; simp_all; done)
    | ((with_reducible refine on_dec_f ?_ ?_); (focus ((try simp only [List.length_map, List.length_cons, List.length_nil, List.length_append]); omega)); conv => whnf)
    | ((with_reducible refine on_dec_t ?_ ?_); (focus ((try simp only [List.length_map, List.length_cons, List.length_nil, List.length_append]); omega)); conv => whnf)
    | ((with_reducible refine on_dec (fun h => ?_) (fun h => ?_)) <;> (try simp only [List.length_map] at h) <;> conv => whnf)
    | ((with_reducible refine on_ndec (fun h => ?_) (fun h => ?_)) <;> (try simp only [List.length_map] at h) <;> conv => whnf)
    | ((with_reducible refine on_not (fun h => ?_) (fun h => ?_)) <;> conv => whnf)
    | ((with_reducible refine onBool_split (fun h => ?_) (fun h => ?_)) <;> conv => whnf)
    | ((with_reducible refine call_go ?_); (first | refine call_step (run_view c9 rfl rfl) ?_ | refine call_step (run_view (c10g _) rfl rfl) ?_ | refine call_step (run_view (c31 x (by omega)) rfl rfl) ?_ | refine call_step (run_view (c32 x (by omega)) rfl rfl) ?_ | refine call_step (run_view (c33 x (cbErr_ok (by first | assumption | (simp_all; done))).1 (cbErr_ok (by first | assumption | (simp_all; done))).2) rfl rfl) ?_ | refine call_step (run_data (c13 _ (fewB_bd (by assumption)).1 (fewB_bd (by assumption)).2.2) _) ?_ | refine call_step (run_view (c34 _ (fewB_bd (by assumption)).1 (fewB_bd (by assumption)).2.1 (fewB_bd (by assumption)).2.2) rfl rfl) ?_ | refine call_step (run_view (c11 _ (fewB_bd (by assumption)).1 (fewB_bd (by assumption)).2.1 (fewB_bd (by assumption)).2.2) rfl rfl) ?_ | refine call_step (run_view (c35 j (valid_of (by first | assumption | (simp_all; done)))) rfl rfl) ?_); conv => whnf)
    | (refine ⟨⟨(by first | rfl | (simp; done)), cap_ok (by simp only [List.length_map, List.length_cons, List.length_nil, List.length_append]; omega) rfl⟩, ?_⟩; conv => whnf)
    | (refine ⟨mem_one ⟨rfl, rfl⟩, ?_⟩; conv => whnf)
    | (refine ⟨(by intro y hy; obtain ⟨x, _, rfl⟩ := List.mem_map.1 hy; first | rfl | exact ⟨rfl, rfl⟩), ?_⟩; conv => whnf)
    | (refine ⟨cap_ok (by first | omega | (simp only [List.length_map]; omega)) rfl, ?_⟩; conv => whnf)
    | (refine ix_map (by omega) ?_; conv => whnf)
    | (refine ix_str (by omega) ?_; conv => whnf)
    | (refine wrap64 (by omega) ?_; conv => whnf)
    | (exfalso; simp only [List.length_map, List.length_cons, List.length_nil, List.length_append] at h; omega)
    | ((with_reducible refine endx_go ?_); first | (exact endx (congrArg D.bool (by first | rfl | simp_all)); done))
    | (refine ⟨rfl, ?_⟩; conv => whnf)
    | fail
    )

end Go.Proofs.Ytjbipdppgoldlaa

/-! Lb -/
namespace Go.Proofs.Ytjbipdppgoldlaa
open Go Dw Go.ChangeShapes Go.RowKit
theorem own6 : ownKnob Try.prog.godebug = none := by kernel_rfl
theorem laidOut6 : laidOutB Try.prog = true := by kernel_rfl

section
attribute [local irreducible] Run
theorem hrun6 : ∀ xs, shps E 5 Try.f6.params.toList xs → Run Try.prog 6 (xs.map .d) [] (.d (.bool true)) [] := by
  intro xs h
  obtain ⟨x1, r1, rfl, h1, x2, r2, rfl, h2, rfl⟩ := h
  obtain ⟨j, rfl⟩ := shpJrn h1
  obtain ⟨x, rfl⟩ := shpChg h2
  exact c6 j x
end

set_option maxRecDepth 100000 in
theorem lifted6 (os : Os) (started : os.Started) (H : Type) (enc : TypeId × Value → H) :
    ReturnsInHanded {} Try.checked os 6 .any (Rows.changesBytesSpec.pre6 enc Try.prog Try.f6 Rows.changesBytesRow.domain false) (Rows.changesBytesSpec.post enc Try.prog Try.f6 false true false false) := by
  refine returnsInHanded_of_change (C := Try.checked) own6 started (by kernel_rfl) Try.func6
    (ChangeSpec.witness6 (enc := enc) (C := Try.checked) false ⟨#[], #[.agg #[.int .i64 0, .int .i64 0, .int .i64 0, .int .i64 0, .slice none 0 0, .slice none 0 0], .agg #[.int .i64 0, .int .i64 0, .int .i64 0, .int .i64 0, .int .i64 0, .int .i64 0, .int .i64 0, .string ⟨#[]⟩]], []⟩ 8 (by kernel_rfl) (by kernel_rfl) (by kernel_rfl) (by kernel_rfl)) ?_
  intro W base args ds gs before hval hW _ _
  refine law_lift (n := 5) (t4 := 4) eok Try.func6 (by kernel_rfl) rfl laidOut6 rfl ?_ rfl Try.underlying4 (by kernel_rfl) hrun6 W base args ds gs before hval hW
  intro H ds hds
  match ds, hds with
  | [a, b], _ => rfl

theorem over6 : Rows.changesBytesRow.holds Try.pinned (OpenSpec.ofChange Rows.changesBytesSpec) :=
  OpenClaim.holds_of_wide 6 Try.f6 rfl rfl rfl rfl rfl rfl rfl ⟨rfl, rfl, rfl, rfl, rfl⟩ rfl rfl rfl rfl rfl (by kernel_rfl) Try.func6 (by kernel_rfl)
    (of_decide_eq_true (by kernel_rfl)) (by unfold Func.isWrapper; first | (rw [if_pos (by decide +kernel)]; kernel_rfl) | (rw [if_neg (by decide +kernel)]; exact ⟨rfl, rfl⟩))
    (fun os started H enc _ => lifted6 os started H enc)
theorem changesBytes_proved : Rows.ChangesBytesSaid := over6
end Go.Proofs.Ytjbipdppgoldlaa
