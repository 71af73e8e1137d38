/-
  Chapter 19: QuotaDifferences holds at every input: no condition of ours.
-/
import Derived.Test.YtolfkcmdfgakkaaGrpG
set_option linter.unusedVariables false
set_option linter.unusedSimpArgs false

/-! Lf -/
namespace Go.Proofs.Ytolfkcmdfgakkaa
open Go Dw Go.ChangeShapes Go.RowKit
theorem own10 : ownKnob Try.prog.godebug = none := by kernel_rfl
theorem laidOut10 : laidOutB Try.prog = true := by kernel_rfl

section
attribute [local irreducible] Run
theorem hrun10 : ∀ xs, shps E 5 Try.f10.params.toList xs → Run Try.prog 10 (xs.map .d) [] (.d (.bool true)) [] := by
  intro xs h
  obtain ⟨x1, r1, rfl, h1, x2, r2, rfl, h2, rfl⟩ := h
  obtain ⟨a, rfl⟩ := shpQuo h1
  obtain ⟨b, rfl⟩ := shpQuo h2
  exact c10 a b
end

set_option maxRecDepth 100000 in
theorem lifted10 (os : Os) (started : os.Started) (H : Type) (enc : TypeId × Value → H) :
    ReturnsInHanded {} Try.checked os 10 .any (Rows.quotaDifferencesSpec.pre6 enc Try.prog Try.f10 Rows.quotaDifferencesRow.domain false) (Rows.quotaDifferencesSpec.post enc Try.prog Try.f10 false true false false) := by
  refine returnsInHanded_of_change (C := Try.checked) own10 started (by kernel_rfl) Try.func10
    (ChangeSpec.witness6 (enc := enc) (C := Try.checked) false ⟨#[], #[.agg #[.slice none 0 0, .bool false], .agg #[.slice none 0 0, .bool false]], []⟩ 8 (by kernel_rfl) (by kernel_rfl) (by kernel_rfl) (by kernel_rfl)) ?_
  intro W base args ds gs before hval hW _ _
  refine law_lift (n := 5) (t4 := 4) eok Try.func10 (by kernel_rfl) rfl laidOut10 rfl ?_ rfl Try.underlying4 (by kernel_rfl) hrun10 W base args ds gs before hval hW
  intro H ds hds
  match ds, hds with
  | [a, b], _ => rfl

theorem over10 : Rows.quotaDifferencesRow.holds Try.pinned (OpenSpec.ofChange Rows.quotaDifferencesSpec) :=
  OpenClaim.holds_of_wide 10 Try.f10 rfl rfl rfl rfl rfl rfl rfl ⟨rfl, rfl, rfl, rfl, rfl⟩ rfl rfl rfl rfl rfl (by kernel_rfl) Try.func10 (by kernel_rfl)
    (of_decide_eq_true (by kernel_rfl)) (by unfold Func.isWrapper; first | (rw [if_pos (by decide +kernel)]; kernel_rfl) | (rw [if_neg (by decide +kernel)]; exact ⟨rfl, rfl⟩))
    (fun os started H enc _ => lifted10 os started H enc)
theorem quotaDifferences_proved : Rows.QuotaDifferencesSaid := over10
end Go.Proofs.Ytolfkcmdfgakkaa
