/-
  TopPlainQuota holds at every input that its row bounds (bulk at most 1048576): no condition of ours (its card lists five tables of the library, tied to the text).
-/
import Derived.Test.YtkmhnaojgkcjoaaGreatDoorGrpF
import Derived.JoinedCond
import Derived.Deep.DeepHandedRow
set_option linter.unusedVariables false
set_option linter.unusedSimpArgs false
namespace Go.Proofs.YtkmhnaojgkcjoaaGreatDoor
open Go Dw Go.ChangeShapes Go.WideShapes Go.RowKit
section
attribute [local irreducible] Run
theorem hrun3 : ∀ xs,shps E 7 Tryz.f3.params.toList xs → bulkDs xs ≤ 1048576 → Run Tryz.prog 3 (xs.map .d) [] (.d (.bool true)) []:=by
 intro xs h hb
 obtain ⟨x1,r1,rfl,h1,x2,r2,rfl,h2,rfl⟩:=h
 obtain ⟨s,rfl⟩:=shpStt h1
 obtain ⟨w,rfl⟩:=shpInt h2
 simp only [bulkDs] at hb
 exact c3 s (sb_of (by omega)) w
end
set_option maxRecDepth 100000 in
theorem reads3 (os : Os) {H : Type} (enc : TypeId × Value → H) : DataW.whole enc Tryz.prog ((wit29 os).forCall (fun _ _=>0) ⟨#[],#[.agg #[.slice none 0 0,.slice none 0 0,.int .i64 0],.int .i64 0],[]⟩).memory Tryz.f3.params.toList Rows.topPlainQuotaSpec.vars false #[Value.agg #[.slice none 0 0,.slice none 0 0,.int .i64 0],.int .i64 0].toList 8 = some ([.agg [.nil,.nil,.lit (.int .i64 0)],.lit (.int .i64 0)],[],[]):=by kernel_rfl
set_option maxRecDepth 100000 in
theorem ok3 (os : Os) : Input.okWideB Tryz.checked.prog ((wit29 os).forCall (fun _ _=>0) ⟨#[],#[.agg #[.slice none 0 0,.slice none 0 0,.int .i64 0],.int .i64 0],[]⟩) 3 ⟨#[],#[.agg #[.slice none 0 0,.slice none 0 0,.int .i64 0],.int .i64 0],[]⟩ = true:=by kernel_rfl
set_option maxRecDepth 100000 in
theorem lifted3 (os : Os) (started : os.Started) (H : Type) (enc : TypeId × Value → H) (F : Stop.Interp) :
  ReturnsInHanded {} Tryz.checked os 3 .any ((Rows.OpenSpec.upto Rows.topPlainQuotaSpec).preRow enc Tryz.prog Tryz.f3 Rows.topPlainQuotaUptoRow.domain false Rows.topPlainQuotaUptoRow.laid)
   (((Rows.OpenSpec.upto Rows.topPlainQuotaSpec).at F).post enc Tryz.prog Tryz.f3 false true false false):=by
 refine returnsInHanded_of_row (C:=Tryz.checked) (s:=Rows.OpenSpec.upto Rows.topPlainQuotaSpec) own29 started (by kernel_rfl) Tryz.func3
  ⟨wit29 os,fun _ _=>0,⟨#[],#[.agg #[.slice none 0 0,.slice none 0 0,.int .i64 0],.int .i64 0],[]⟩,rfl,shaped29 os _,(Input.okWide_of_okWideB (base:=0) (ok3 os)).1,(Input.okWide_of_okWideB (ok3 os)).2,
   OpenSpec.preRow_of_cond 8 (reads3 os enc) (by kernel_rfl) (fun k hk=>by cases hk;kernel_rfl) (by kernel_rfl) (door_met29 os _),by
   simp only [Assume.holds]
   exact ⟨by simp,by simp,fun _=>Modest.zero,by simp,by simp⟩⟩ ?_
 intro W base args ds gs before hval hW _ hcond _ _ _ _
 refine law_liftU (n:=7) (t4:=4) eok (bulk29 H) Tryz.func3 (by kernel_rfl) rfl laidOut29 rfl ?_ rfl Tryz.underlying4 (by kernel_rfl) hrun3 W base args ds gs before hval hW (of_decide_eq_true (hcond _ rfl))
 intro H ds hds
 match ds,hds with
 | [a,b],_=>rfl
theorem over3 : Rows.TopPlainQuotaUptoSaid:=
 OpenClaim.holds_of_cond 3 Tryz.f3 rfl rfl rfl rfl rfl rfl rfl ⟨rfl,rfl,rfl,rfl,rfl⟩ rfl rfl rfl rfl rfl (by kernel_rfl) Tryz.func3 (by kernel_rfl)
  (of_decide_eq_true (by kernel_rfl)) (by unfold Func.isWrapper;first | (rw [if_pos (by decide +kernel)];kernel_rfl) | (rw [if_neg (by decide +kernel)];exact ⟨rfl,rfl⟩))
  (fun os started H enc _ F=>by rw [OpenClaim.pre_eq_preRow];exact lifted3 os started H enc F)
theorem topPlainQuota_proved : Rows.TopPlainQuotaUptoCardSaid:=
 Claim7.holds_tied_plain_at .later [] _ _ _ _ over3 (fun _ h=>by cases h) (by kernel_rfl) (fun _ h=>by cases h) topPlainQuotaUpto_row_tie rfl ⟨rfl,rfl⟩ (by kernel_rfl) rfl
  (card_hl (f0:=3) (fn0:=Tryz.f3) (by kernel_rfl) Tryz.func3 (by kernel_rfl) (by kernel_rfl)) (by kernel_rfl)
end Go.Proofs.YtkmhnaojgkcjoaaGreatDoor
