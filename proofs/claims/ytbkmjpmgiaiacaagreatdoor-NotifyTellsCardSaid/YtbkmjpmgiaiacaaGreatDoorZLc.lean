/-
  Chapter 28: NotifyTells holds at every input: no condition of ours (its card lists two tables of the library, tied to the text).
-/
import Derived.Test.YtbkmjpmgiaiacaaGreatDoorGrpK
set_option linter.unusedVariables false
set_option linter.unusedSimpArgs false

/-! Vc -/
namespace Go.Proofs.YtbkmjpmgiaiacaaGreatDoor
open Go Dw
set_option maxRecDepth 10000
set_option linter.unusedVariables false
set_option linter.unusedSimpArgs false
attribute [local irreducible] Run
set_option maxHeartbeats 4000000

open Paths
attribute [local irreducible] Own checkB addErr roomy bsR ixB dropB addB sz roomOf putB seesW belowI tellB told isAct fewB fewW addE dropErr tellErr eventErr
theorem SB0 : SB bd0 := ⟨by decide, fun x h => by cases h⟩
theorem c22z : Fn 22 [bd0.enc, bd0.enc] (.bool true) := c22 bd0 SB0
theorem tell_SB {b : Bd} {e : Rec} (h : tellErr b e = 0) : SB (tellB b e) ∧ (checkB (tellB b e)).2 = 0 ∧ (checkB b).2 = 0 ∧ eventErr e.act e.path = 0 := by
  have h1 : (checkB b).2 = 0 := by
    by_cases h0 : (checkB b).2 = 0
    · exact h0
    · rw [tellE_n h0] at h; exact absurd h h0
  rw [tellE_c h1] at h
  have hv := (checkB_iff.1 h1).tell h
  exact ⟨hv.small, checkB_iff.2 hv, h1, h⟩
theorem told_len (e : Rec) (ws : List BW) : (told e ws).length ≤ ws.length := by
  unfold told; rw [List.length_map]; exact List.length_filter_le _ _
theorem f19o (b : Bd) (e : Rec) (hea : e.act < 9223372036854775808) (hb : SB b) (h : tellErr b e = 0) : Fn 19 [b.enc, e.enc] (.tup [(tellB b e).enc, .fs ((told e b.ws).map i), i 0]) := by
  have := f19 b e hea hb; rwa [if_pos h] at this
theorem f19n (b : Bd) (e : Rec) (hea : e.act < 9223372036854775808) (hb : SB b) (h : ¬ tellErr b e = 0) : Fn 19 [b.enc, e.enc] (.tup [bd0.enc, .fs [], i (tellErr b e)]) := by
  have := f19 b e hea hb; rwa [if_neg h] at this

theorem c4o (b : Bd) (e : Rec) (hea : e.act < 9223372036854775808) (hb : SB b) (hf : fewB b = true) (h0 : tellErr b e = 0) : Fn 4 [b.enc, e.enc] (.bool true) := by
  obtain ⟨hsb, hv, hok, hev⟩ := tell_SB h0; have htl := told_len e b.ws; have hbn := hb.n
  refine run_walkF eok Tryz.func4 rfl (by kernel_rfl) ?_
  conv => whnf
  repeat' (first
    | ((with_reducible refine on_nt (by assumption) ?_); conv => whnf)
    | ((with_reducible refine on_ndec_t (by first | assumption ) ?_); conv => whnf)
    | ((with_reducible refine on_dec (fun h => ?_) (fun h => ?_)) <;> (try simp only [List.length_map] at h) <;> conv => whnf)
    | ((with_reducible refine call_go ?_); (first | refine call_step (run_view c11 rfl rfl) ?_ | refine call_step (run_view (c18 b) rfl rfl) ?_ | refine call_step (run_viewF (c20 b hb) rfl) ?_ | refine call_step (run_viewF (f19o b e hea hb h0) rfl) ?_ | refine call_step (run_view (c21 b e hb) rfl rfl) ?_ | refine call_step (run_view (c22 (tellB b e) hsb) rfl rfl) ?_ | refine call_step (run_viewF (f23 b e hb (checkB_w hok) hev) rfl) ?_ | refine call_step (run_view (c24 (told e b.ws) (by omega)) rfl rfl) ?_ | refine call_step (run_view (c25 (tellB b e) hsb) rfl rfl) ?_); conv => whnf)
    | (refine ⟨[], [(8, 1), (8, 3), (2, 1)], (by decide +kernel), ?_⟩; conv => whnf)
    | ((with_reducible refine endx_go ?_); first | (exact endx rfl; done) | (exact endx (congrArg D.bool (decide_eq_true hv)); done))
    | (refine ⟨rfl, ?_⟩; conv => whnf)
    | fail
    )

theorem c4e (b : Bd) (e : Rec) (hea : e.act < 9223372036854775808) (hb : SB b) (hf : fewB b = true) (h0 : ¬ tellErr b e = 0) : Fn 4 [b.enc, e.enc] (.bool true) := by
  refine run_walkF eok Tryz.func4 rfl (by kernel_rfl) ?_
  conv => whnf
  repeat' (first
    | ((with_reducible refine on_nt (by assumption) ?_); conv => whnf)
    | ((with_reducible refine on_ndec_f (by assumption) ?_); conv => whnf)
    | ((with_reducible refine on_dec_t rfl ?_); conv => whnf)
    | ((with_reducible refine on_dec (fun h => ?_) (fun h => ?_)) <;> (try simp only [List.length_map] at h) <;> conv => whnf)
    | ((with_reducible refine call_go ?_); (first | refine call_step (run_view c11 rfl rfl) ?_ | refine call_step (run_view (c18 b) rfl rfl) ?_ | refine call_step (run_viewF (c20 b hb) rfl) ?_ | refine call_step (run_viewF (f19n b e hea hb h0) rfl) ?_ | refine call_step (run_view (c21 b e hb) rfl rfl) ?_ | refine call_step (run_view c22z rfl rfl) ?_ ); conv => whnf)
    | (refine ⟨[], [(8, 1), (8, 3), (2, 1)], (by decide +kernel), ?_⟩; conv => whnf)
    | ((with_reducible refine endx_go ?_); first | (exact endx rfl; done))
    | (refine ⟨rfl, ?_⟩; conv => whnf)
    | fail
    )

theorem c4f (b : Bd) (e : Rec) (hf : fewB b = false) : Fn 4 [b.enc, e.enc] (.bool true) := by
  refine run_walkF eok Tryz.func4 rfl (by kernel_rfl) ?_
  conv => whnf
  repeat' (first
    | ((with_reducible refine on_nf (by assumption) ?_); conv => whnf)
    | ((with_reducible refine call_go ?_); (first | refine call_step (run_view c11 rfl rfl) ?_ | refine call_step (run_view (c18 b) rfl rfl) ?_ ); conv => whnf)
    | ((with_reducible refine endx_go ?_); first | (exact endx rfl; done))
    | fail
    )

theorem c4 (b : Bd) (e : Rec) (ha : actsOk b) (hea : e.act < 9223372036854775808) : Fn 4 [b.enc, e.enc] (.bool true) := by
  by_cases hf : fewB b = true
  · have hb := few_SB hf ha
    by_cases h0 : tellErr b e = 0
    · exact c4o b e hea hb hf h0
    · exact c4e b e hea hb hf h0
  · exact c4f b e (by simpa using hf)

end Go.Proofs.YtbkmjpmgiaiacaaGreatDoor

/-! Lc -/
namespace Go.Proofs.YtbkmjpmgiaiacaaGreatDoor
open Go Dw Go.ChangeShapes Go.WideShapes Go.RowKit

section
attribute [local irreducible] Run
theorem hrun4 : ∀ xs, shps E 6 Tryz.f4.params.toList xs → Run Tryz.prog 4 (xs.map .d) [] (.d (.bool true)) [] := by
  intro xs h
  obtain ⟨x1, r1, rfl, h1, x2, r2, rfl, h2, rfl⟩ := h
  obtain ⟨b, rfl, ha⟩ := shpBd h1
  obtain ⟨x, rfl, hx⟩ := shpEv h2
  exact c4 b x ha hx
end

set_option maxRecDepth 100000 in
theorem lifted4 (os : Os) (started : os.Started) (H : Type) (enc : TypeId × Value → H) :
    ReturnsInHanded {} Tryz.checked os 4 .any (fun w args => (Rows.notifyTellsSpec.pre enc Tryz.prog Tryz.f4 [] false w args ∧ laidMetH Tryz.prog laid28 w) ∧ sizedMet enc Tryz.prog Tryz.f4 (OpenSpec.ofChange Rows.notifyTellsSpec) false w args)
      (Rows.notifyTellsSpec.post enc Tryz.prog Tryz.f4 false true false false) := by
  refine returnsInHanded_of_change_and (C := Tryz.checked) (X := fun w _ => laidMetH Tryz.prog laid28 w) (fun _ _ _ hh h => h.of_heap hh) own28 started (by kernel_rfl) Tryz.func4
    (ChangeSpec.witness_shaped (enc := enc) (C := Tryz.checked) (os := os) (X := fun w _ => laidMetH Tryz.prog laid28 w) false (wit28 os) #[.agg #[.slice none 0 0, .int .i64 0], .agg #[.int .i64 0, .string ⟨#[]⟩]] 8 rfl (shaped28 os _) (by kernel_rfl) (by kernel_rfl) (by kernel_rfl) (door_met28 os _)) ?_
  intro W base args ds gs before hval hW _ _ _ _
  refine law_lift (n := 6) (t4 := 4) eok Tryz.func4 (by kernel_rfl) rfl laidOut28 rfl ?_ rfl Tryz.underlying4 (by kernel_rfl) hrun4 W base args ds gs before hval hW
  intro H ds hds
  match ds, hds with
  | [a, b], _ => rfl

theorem over4 : Rows.NotifyTellsSaid :=
  OpenClaim.holds_of_wide 4 Tryz.f4 rfl rfl rfl rfl rfl rfl rfl ⟨rfl, rfl, rfl, rfl, rfl⟩ rfl rfl rfl rfl rfl (by kernel_rfl) Tryz.func4 (by kernel_rfl)
    (of_decide_eq_true (by kernel_rfl)) (by unfold Func.isWrapper; first | (rw [if_pos (by decide +kernel)]; kernel_rfl) | (rw [if_neg (by decide +kernel)]; exact ⟨rfl, rfl⟩))
    (fun os started H enc _ => lifted4 os started H enc)

theorem notifyTells_proved : Rows.NotifyTellsCardSaid :=
  Claim7.holds_tied_plain_at .later [] [.data, .pinned] true (true, "109c5384165a96825d1f2089578ad2bcbcab01a966bcbf40a0fdea72bc267f3f") false
    over4 (fun _ h => by cases h) (by kernel_rfl) (fun _ h => by cases h) notifyTells_row_tie rfl ⟨rfl, rfl⟩ (by kernel_rfl) rfl
    (card_hl (f0 := 4) (fn0 := Tryz.f4) (by kernel_rfl) Tryz.func4 (by kernel_rfl) (by kernel_rfl)) (by kernel_rfl)
end Go.Proofs.YtbkmjpmgiaiacaaGreatDoor
