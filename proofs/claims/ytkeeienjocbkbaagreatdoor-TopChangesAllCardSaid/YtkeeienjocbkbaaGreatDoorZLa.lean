/-
  Chapter 24: TopChangesAll holds at every input: no condition of ours (its card lists two tables of the library, tied to the text).
-/
import Derived.Test.YtkeeienjocbkbaaGreatDoorGrpH
set_option linter.unusedVariables false
set_option linter.unusedSimpArgs false
namespace Go.Proofs.YtkeeienjocbkbaaGreatDoor
open Go Dw Go.ChangeShapes Go.WideShapes Go.RowKit
section
attribute [local irreducible] Run
theorem hrun3 : ∀ xs,shps E 6 Tryz.f3.params.toList xs → Run Tryz.prog 3 (xs.map .d) [] (.d (.bool true)) []:=by
 intro xs h
 obtain ⟨x1,r1,rfl,h1,x2,r2,rfl,h2,rfl⟩:=h
 obtain ⟨l,rfl⟩:=shpEvts h1
 obtain ⟨m,hm,rfl⟩:=shpU16 h2
 exact c3 l m hm
end
set_option maxRecDepth 100000 in
theorem lifted3 (os : Os) (started : os.Started) (H : Type) (enc : TypeId × Value → H) :
  ReturnsInHanded {} Tryz.checked os 3 .any (fun w args=>(Rows.topChangesAllSpec.pre enc Tryz.prog Tryz.f3 [] false w args ∧ laidMetH Tryz.prog laid24z w) ∧ sizedMet enc Tryz.prog Tryz.f3 (OpenSpec.ofChange Rows.topChangesAllSpec) false w args)
   (Rows.topChangesAllSpec.post enc Tryz.prog Tryz.f3 false true false false):=by
 refine returnsInHanded_of_change_and (C:=Tryz.checked) (X:=fun w _=>laidMetH Tryz.prog laid24z w) (fun _ _ _ hh h=>h.of_heap hh) own24z started (by kernel_rfl) Tryz.func3
  (ChangeSpec.witness_shaped (enc:=enc) (C:=Tryz.checked) (os:=os) (X:=fun w _=>laidMetH Tryz.prog laid24z w) false (wit24z os) #[.slice none 0 0,.int .u16 0] 8 rfl (shaped24z os _) (by kernel_rfl) (by kernel_rfl) (by kernel_rfl) (door_met24z os _)) ?_
 intro W base args ds gs before hval hW _ _ _ _
 refine law_lift (n:=6) (t4:=4) eok Tryz.func3 (by kernel_rfl) rfl laidOut24z rfl ?_ rfl Tryz.underlying4 (by kernel_rfl) hrun3 W base args ds gs before hval hW
 intro H ds hds
 match ds,hds with
 | [a,b],_=>rfl
theorem over3 : Rows.TopChangesAllSaid:=
 OpenClaim.holds_of_wide 3 Tryz.f3 rfl rfl rfl rfl rfl rfl rfl ⟨rfl,rfl,rfl,rfl,rfl⟩ rfl rfl rfl rfl rfl (by kernel_rfl) Tryz.func3 (by kernel_rfl)
  (of_decide_eq_true (by kernel_rfl)) (by unfold Func.isWrapper;first | (rw [if_pos (by decide +kernel)];kernel_rfl) | (rw [if_neg (by decide +kernel)];exact ⟨rfl,rfl⟩))
  (fun os started H enc _=>lifted3 os started H enc)
theorem topChangesAll_proved : Rows.TopChangesAllCardSaid:=
 Claim7.holds_tied_plain_at .later [] [.data, .pinned] true (true, "d53d4d7f12b92ad3cfb0a65aff0fe4fbdff9e44880fbf0f1bd034c54c1546090") false
  over3 (fun _ h=>by cases h) (by kernel_rfl) (fun _ h=>by cases h) topChangesAll_row_tie rfl ⟨rfl,rfl⟩ (by kernel_rfl) rfl
  (card_hl (f0:=3) (fn0:=Tryz.f3) (by kernel_rfl) Tryz.func3 (by kernel_rfl) (by kernel_rfl)) (by kernel_rfl)
end Go.Proofs.YtkeeienjocbkbaaGreatDoor
