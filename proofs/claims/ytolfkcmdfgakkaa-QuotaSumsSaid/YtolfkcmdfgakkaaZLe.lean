/-
  Chapter 19: QuotaSums holds at every input: no condition of ours.
-/
import Derived.Test.YtolfkcmdfgakkaaGrpG
set_option linter.unusedVariables false
set_option linter.unusedSimpArgs false

/-! Le -/
namespace Go.Proofs.Ytolfkcmdfgakkaa
open Go Dw Go.ChangeShapes Go.RowKit
theorem own9 : ownKnob Try.prog.godebug = none := by kernel_rfl
theorem laidOut9 : laidOutB Try.prog = true := by kernel_rfl

section
attribute [local irreducible] Run
theorem hrun9 : ∀ xs, shps E 5 Try.f9.params.toList xs → Run Try.prog 9 (xs.map .d) [] (.d (.bool true)) [] := by
  intro xs h
  obtain ⟨x1, r1, rfl, h1, rfl⟩ := h
  obtain ⟨l, rfl⟩ := shpFils h1
  exact c9 l
end

set_option maxRecDepth 100000 in
theorem lifted9 (os : Os) (started : os.Started) (H : Type) (enc : TypeId × Value → H) :
    ReturnsInHanded {} Try.checked os 9 .any (Rows.quotaSumsSpec.pre6 enc Try.prog Try.f9 Rows.quotaSumsRow.domain false) (Rows.quotaSumsSpec.post enc Try.prog Try.f9 false true false false) := by
  refine returnsInHanded_of_change (C := Try.checked) own9 started (by kernel_rfl) Try.func9
    (ChangeSpec.witness6 (enc := enc) (C := Try.checked) false ⟨#[], #[.slice none 0 0], []⟩ 8 (by kernel_rfl) (by kernel_rfl) (by kernel_rfl) (by kernel_rfl)) ?_
  intro W base args ds gs before hval hW _ _
  refine law_lift (n := 5) (t4 := 4) eok Try.func9 (by kernel_rfl) rfl laidOut9 rfl ?_ rfl Try.underlying4 (by kernel_rfl) hrun9 W base args ds gs before hval hW
  intro H ds hds
  match ds, hds with
  | [a], _ => rfl

theorem over9 : Rows.quotaSumsRow.holds Try.pinned (OpenSpec.ofChange Rows.quotaSumsSpec) :=
  OpenClaim.holds_of_wide 9 Try.f9 rfl rfl rfl rfl rfl rfl rfl ⟨rfl, rfl, rfl, rfl, rfl⟩ rfl rfl rfl rfl rfl (by kernel_rfl) Try.func9 (by kernel_rfl)
    (of_decide_eq_true (by kernel_rfl)) (by unfold Func.isWrapper; first | (rw [if_pos (by decide +kernel)]; kernel_rfl) | (rw [if_neg (by decide +kernel)]; exact ⟨rfl, rfl⟩))
    (fun os started H enc _ => lifted9 os started H enc)
theorem quotaSums_proved : Rows.QuotaSumsSaid := over9
end Go.Proofs.Ytolfkcmdfgakkaa
