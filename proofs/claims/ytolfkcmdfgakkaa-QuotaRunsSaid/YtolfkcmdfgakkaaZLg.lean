/-
  Chapter 19: QuotaRuns holds at every input: no condition of ours.
-/
import Derived.Test.YtolfkcmdfgakkaaGrpH
set_option linter.unusedVariables false
set_option linter.unusedSimpArgs false

/-! Lg -/
namespace Go.Proofs.Ytolfkcmdfgakkaa
open Go Dw Go.ChangeShapes Go.RowKit
theorem own7 : ownKnob Try.prog.godebug = none := by kernel_rfl
theorem laidOut7 : laidOutB Try.prog = true := by kernel_rfl

section
attribute [local irreducible] Run
theorem hrun7 : ∀ xs, shps E 5 Try.f7.params.toList xs → Run Try.prog 7 (xs.map .d) [] (.d (.bool true)) [] := by
  intro xs h
  obtain ⟨x1, r1, rfl, h1, x2, r2, rfl, h2, rfl⟩ := h
  obtain ⟨q, rfl⟩ := shpQuo h1
  obtain ⟨l, rfl⟩ := shpActs h2
  exact c7 q l
end

set_option maxRecDepth 100000 in
theorem lifted7 (os : Os) (started : os.Started) (H : Type) (enc : TypeId × Value → H) :
    ReturnsInHanded {} Try.checked os 7 .any (Rows.quotaRunsSpec.pre6 enc Try.prog Try.f7 Rows.quotaRunsRow.domain false) (Rows.quotaRunsSpec.post enc Try.prog Try.f7 false true false false) := by
  refine returnsInHanded_of_change (C := Try.checked) own7 started (by kernel_rfl) Try.func7
    (ChangeSpec.witness6 (enc := enc) (C := Try.checked) false ⟨#[], #[.agg #[.slice none 0 0, .bool false], .slice none 0 0], []⟩ 8 (by kernel_rfl) (by kernel_rfl) (by kernel_rfl) (by kernel_rfl)) ?_
  intro W base args ds gs before hval hW _ _
  refine law_lift (n := 5) (t4 := 4) eok Try.func7 (by kernel_rfl) rfl laidOut7 rfl ?_ rfl Try.underlying4 (by kernel_rfl) hrun7 W base args ds gs before hval hW
  intro H ds hds
  match ds, hds with
  | [a, b], _ => rfl

theorem over7 : Rows.quotaRunsRow.holds Try.pinned (OpenSpec.ofChange Rows.quotaRunsSpec) :=
  OpenClaim.holds_of_wide 7 Try.f7 rfl rfl rfl rfl rfl rfl rfl ⟨rfl, rfl, rfl, rfl, rfl⟩ rfl rfl rfl rfl rfl (by kernel_rfl) Try.func7 (by kernel_rfl)
    (of_decide_eq_true (by kernel_rfl)) (by unfold Func.isWrapper; first | (rw [if_pos (by decide +kernel)]; kernel_rfl) | (rw [if_neg (by decide +kernel)]; exact ⟨rfl, rfl⟩))
    (fun os started H enc _ => lifted7 os started H enc)
theorem quotaRuns_proved : Rows.QuotaRunsSaid := over7
end Go.Proofs.Ytolfkcmdfgakkaa
