/-
  TopPlainPaths holds at every input that its row bounds (bulk at most 1048576): no condition of ours (its card lists five tables of the library and access.grants, tied to the text).
-/
import Derived.Test.YtogifnjnpljnfaaGreatDoorGrpH
import Derived.JoinedCond
import Derived.Deep.DeepHandedRow
set_option linter.unusedVariables false
set_option linter.unusedSimpArgs false
namespace Go.Proofs.YtogifnjnpljnfaaGreatDoor
open Go Dw
section
open Go Dw Go.ChangeShapes Go.WideShapes Go.RowKit
theorem MH {n : Nat} {x : D} (h : ui E (n + 1) 9 x) : ∃ k : Bs,x = .str k:=by
 obtain ⟨k,rfl,_⟩:=h
 exact ⟨k,rfl⟩
section
attribute [local irreducible] bn
theorem O5 : ∀ xs,JR E 7 Tryz.f3.params.toList xs -> bI xs <= 1048576 -> bn Tryz.prog 3 (xs.map .d) [] (.d (.bool true)) []:=by
 intro xs h hb
 obtain ⟨x1,r1,rfl,h1,x2,r2,rfl,h2,rfl⟩:=h
 obtain ⟨s,rfl⟩:=MI h1
 obtain ⟨w,rfl⟩:=MH h2
 simp only [bI] at hb
 exact c3 s (P3 (by omega)) w
end
set_option maxRecDepth 100000 in
theorem Mt (os : Os) {H : Type} (enc : TypeId × Value -> H) : DataW.whole enc Tryz.prog ((Av os).forCall (fun _ _=>0) ⟨#[],#[.agg #[.slice none 0 0,.slice none 0 0,.int .i64 0],.string ⟨#[]⟩],[]⟩).memory Tryz.f3.params.toList Rows.topPlainPathsSpec.vars false #[Value.agg #[.slice none 0 0,.slice none 0 0,.int .i64 0],.string ⟨#[]⟩].toList 8 = some ([.agg [.nil,.nil,.lit (.int .i64 0)],.lit (.string [])],[],[]):=by kernel_rfl
set_option maxRecDepth 100000 in
theorem Un (os : Os) : Input.okWideB Tryz.checked.prog ((Av os).forCall (fun _ _=>0) ⟨#[],#[.agg #[.slice none 0 0,.slice none 0 0,.int .i64 0],.string ⟨#[]⟩],[]⟩) 3 ⟨#[],#[.agg #[.slice none 0 0,.slice none 0 0,.int .i64 0],.string ⟨#[]⟩],[]⟩ = true:=by kernel_rfl
set_option maxRecDepth 100000 in
theorem Jt (os : Os) (started : os.Started) (H : Type) (enc : TypeId × Value -> H) (F : Stop.Interp) :
  ReturnsInHanded {} Tryz.checked os 3 .any ((Rows.OpenSpec.upto Rows.topPlainPathsSpec).preRow enc Tryz.prog Tryz.f3 Rows.topPlainPathsUptoRow.domain false Rows.topPlainPathsUptoRow.laid)
   (((Rows.OpenSpec.upto Rows.topPlainPathsSpec).at F).post enc Tryz.prog Tryz.f3 false true false false):=by
 refine returnsInHanded_of_row (C:=Tryz.checked) (s:=Rows.OpenSpec.upto Rows.topPlainPathsSpec) PN started (by kernel_rfl) Tryz.func3
  ⟨Av os,fun _ _=>0,⟨#[],#[.agg #[.slice none 0 0,.slice none 0 0,.int .i64 0],.string ⟨#[]⟩],[]⟩,rfl,H2 os _,(Input.okWide_of_okWideB (base:=0) (Un os)).1,(Input.okWide_of_okWideB (Un os)).2,
   OpenSpec.preRow_of_cond 8 (Mt os enc) (by kernel_rfl) (fun k hk=>by cases hk;kernel_rfl) (by kernel_rfl) (AU os _),by
   simp only [Assume.holds]
   exact ⟨by simp,by simp,fun _=>Modest.zero,by simp,by simp⟩⟩ ?_
 intro W base args ds gs before hval hW _ hcond _ hL _ _
 refine EF (n:=7) (t4:=4) aZ (Ls H) Tryz.func3 (by kernel_rfl) rfl EE rfl ?_ rfl Tryz.underlying4 (by kernel_rfl) O5 W (Fl hL) base args ds gs before hval hW (of_decide_eq_true (hcond _ rfl))
 intro H ds hds
 match ds,hds with
 | [a,b],_=>rfl
end
section
open Go Dw Go.ChangeShapes Go.WideShapes Go.RowKit
theorem Vq : (Rows.topPlainPathsUptoRow.wf (OpenSpec.ofChange (Rows.OpenSpec.upto Rows.topPlainPathsSpec).bare) && laidOutB Tryz.pinned.checked.prog && mapsRowed Tryz.pinned.checked.prog && Tryz.f3.params.all (Tryz.pinned.checked.prog.readableRec ·) && namedTie Tryz.pinned.checked.prog Rows.topPlainPathsUptoRow.named (Rows.OpenSpec.upto Rows.topPlainPathsSpec).bare.vars && (Rows.topPlainPathsUptoRow.stops == []) && (Tryz.pinned.checked.prog.stops == []) && (Rows.topPlainPathsUptoRow.knobs == []) && (Tryz.pinned.checked.prog.stopKnobs == [])) = true:=by kernel_rfl
theorem Vr : (Rows.topPlainPathsUptoRow.inPlace == Tryz.pinned.checked.prog.inPlace 3) = true:=by kernel_rfl
theorem Vs : (Rows.topPlainPathsUptoRow.unfollowed == Tryz.pinned.checked.prog.unfollowed 3) = true:=by kernel_rfl
theorem Vu : (Rows.topPlainPathsUptoRow.recurses == Tryz.pinned.checked.prog.recurses 3) = true:=by kernel_rfl
theorem Vv : (Rows.topPlainPathsUptoRow.named == Tryz.pinned.checked.prog.varsNamed 3) = true:=by kernel_rfl
theorem Vw : ((Rows.topPlainPathsUptoRow.maps == (Tryz.f3.params.toList ++ (Rows.OpenSpec.upto Rows.topPlainPathsSpec).bare.plain.varTypes Tryz.pinned.checked.prog).any (Tryz.pinned.checked.prog.mapsRec ·)) && (Rows.topPlainPathsUptoRow.ifaces == (Tryz.f3.params.toList ++ (Rows.OpenSpec.upto Rows.topPlainPathsSpec).bare.plain.varTypes Tryz.pinned.checked.prog).any (Tryz.pinned.checked.prog.ifacesRec ·)) && (Rows.topPlainPathsUptoRow.mapsOut == Tryz.pinned.checked.prog.mapsAmong Tryz.f3.resultTypes.toList) && (Rows.topPlainPathsUptoRow.loops == (Tryz.f3.params.toList ++ (Rows.OpenSpec.upto Rows.topPlainPathsSpec).bare.plain.varTypes Tryz.pinned.checked.prog).any (Tryz.pinned.checked.prog.loopsFrom ·)) && (Rows.topPlainPathsUptoRow.wideKeys == (Tryz.f3.params.toList ++ (Rows.OpenSpec.upto Rows.topPlainPathsSpec).bare.plain.varTypes Tryz.pinned.checked.prog ++ Tryz.f3.resultTypes.toList).any (Tryz.pinned.checked.prog.wideKeysFrom ·))) = true:=by kernel_rfl
theorem Vx : ((Rows.OpenSpec.upto Rows.topPlainPathsSpec).bare.vars.all (Tryz.pinned.checked.prog.varReadable ·) && Tryz.f3.resultTypes.all (fun t=>Tryz.pinned.checked.prog.readableRec t && decide (t < Tryz.pinned.checked.prog.types.size)) && (Rows.topPlainPathsUptoRow.ifacesOut == Tryz.f3.resultTypes.toList.any (Tryz.pinned.checked.prog.ifacesRec ·)) && (Rows.topPlainPathsUptoRow.loopsOut == Tryz.f3.resultTypes.toList.any (Tryz.pinned.checked.prog.loopsFrom ·))) = true:=by kernel_rfl
theorem Vy : (Rows.topPlainPathsUptoRow.plainKeys == Tryz.pinned.checked.prog.plainKeys) = true:=by kernel_rfl
theorem Vz : Rows.topPlainPathsUptoRow.shortTexts.isNone = true:=by kernel_rfl
theorem VA : Tryz.pinned.checked.prog.stopsHeard = true:=by kernel_rfl
theorem VB : Tryz.pinned.checked.prog.mayEnter = true:=by kernel_rfl
theorem VC : (Rows.topPlainPathsUptoRow.lifted == Tryz.pinned.checked.prog.liftsFinal) = true:=by kernel_rfl
theorem VD : (Tryz.pinned.checked.prog.make == some Rows.topPlainPathsUptoRow.make) = true:=by kernel_rfl
theorem VE : (Rows.topPlainPathsUptoRow.pinned == Rows.topPlainPathsUptoRow.pinnedBy) = true:=by kernel_rfl
theorem VF : ((Rows.topPlainPathsUptoRow.veiled == (Tryz.f3.params.toList ++ (Rows.OpenSpec.upto Rows.topPlainPathsSpec).bare.plain.varTypes Tryz.pinned.checked.prog ++ Tryz.f3.resultTypes.toList).any (Tryz.pinned.checked.prog.veiledRec ·)) && Rows.topPlainPathsUptoRow.veiledFits Tryz.pinned.checked.prog Tryz.f3.params.toList (Tryz.f3.params.toList ++ (Rows.OpenSpec.upto Rows.topPlainPathsSpec).bare.plain.varTypes Tryz.pinned.checked.prog ++ Tryz.f3.resultTypes.toList)) = true:=by kernel_rfl
theorem gN {x a : Bool} (h : x = true) (g : a = true) : (x && a) = true:=by subst h;subst g;rfl
theorem K9 {x a b : Bool} (h : x = true) (g : (a && b) = true) : (x && a && b) = true:=by subst h;simpa using g
theorem La {x a b c d : Bool} (h : x = true) (g : (a && b && c && d) = true) : (x && a && b && c && d) = true:=by subst h;simpa using g
theorem Lb {x a b c d e : Bool} (h : x = true) (g : (a && b && c && d && e) = true) : (x && a && b && c && d && e) = true:=by subst h;simpa using g
theorem LV : joinedFacts Tryz.pinned.checked.prog 3 Tryz.f3 (Rows.OpenSpec.upto Rows.topPlainPathsSpec).bare Rows.topPlainPathsUptoRow = true:=by
 unfold joinedFacts
 refine K9 (gN (gN (gN (gN (gN (gN (gN (gN (La (Lb (gN (gN (gN (gN Vq Vr) Vs) Vu) Vv) Vw) Vx) Vy) Vz) VA) VB) VC) VD) ?_) VE) VF
 kernel_rfl
end
section
open Go Dw Go.ChangeShapes Go.WideShapes Go.RowKit
theorem PM : Rows.TopPlainPathsUptoSaid:=
 OpenClaim.holds_of_cond 3 Tryz.f3 rfl rfl rfl rfl rfl rfl rfl ⟨rfl,rfl,rfl,rfl,rfl⟩ rfl rfl rfl rfl rfl (by kernel_rfl) Tryz.func3 LV
  (of_decide_eq_true (by kernel_rfl)) (by unfold Func.isWrapper;first | (rw [if_pos (by decide +kernel)];kernel_rfl) | (rw [if_neg (by decide +kernel)];exact ⟨rfl,rfl⟩))
  (fun os started H enc _ F=>by rw [OpenClaim.pre_eq_preRow];exact Jt os started H enc F)
theorem topPlainPaths_proved : Rows.TopPlainPathsUptoCardSaid:=
 Claim7.holds_tied_plain_at .later [] _ _ _ _ PM (fun _ h=>by cases h) (by kernel_rfl) (fun _ h=>by cases h) topPlainPathsUpto_row_tie rfl ⟨rfl,rfl⟩ (by kernel_rfl) rfl
  (IN (f0:=3) (fn0:=Tryz.f3) (by kernel_rfl) Tryz.func3 (by kernel_rfl) (by kernel_rfl)) (by kernel_rfl)
end
end Go.Proofs.YtogifnjnpljnfaaGreatDoor
