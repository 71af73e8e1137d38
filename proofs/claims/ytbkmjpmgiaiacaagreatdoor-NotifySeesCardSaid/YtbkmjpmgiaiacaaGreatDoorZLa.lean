/-
  Chapter 28: NotifySees holds at every input: no condition of ours (its card lists two tables of the library, tied to the text).
-/
import Derived.Test.YtbkmjpmgiaiacaaGreatDoorGrpG
set_option linter.unusedVariables false
set_option linter.unusedSimpArgs false

/-! Wj -/
namespace Go.Proofs.YtbkmjpmgiaiacaaGreatDoor
open Go Dw
set_option maxRecDepth 10000
set_option linter.unusedVariables false
set_option linter.unusedSimpArgs false
attribute [local irreducible] Run
set_option maxHeartbeats 4000000

open Paths
attribute [local irreducible] nameErr parse watchErr eventErr pathErr within isAct hasBit seesW belowI bothErr
theorem both_w {w : Wt} {x : Rec} (h : ¬ watchErr w.path w.filter w.room = 0) : bothErr w x = watchErr w.path w.filter w.room := by unfold bothErr; rw [if_neg h]
theorem both_x {w : Wt} {x : Rec} (h : watchErr w.path w.filter w.room = 0) : bothErr w x = eventErr x.act x.path := by unfold bothErr; rw [if_pos h]

theorem c3o (w : Wt) (x : Rec) (hxa : x.act < 9223372036854775808) (h0 : bothErr w x = 0) (hw : watchErr w.path w.filter w.room = 0) (hx : eventErr x.act x.path = 0) : Fn 3 [w.enc, x.enc] (.bool true) := by
  refine run_walkF eok Tryz.func3 rfl (by kernel_rfl) ?_
  conv => whnf
  repeat' (first
    | ((with_reducible refine on_dec_t (by assumption) ?_); conv => whnf)
    | ((with_reducible refine on_dec_f (by assumption) ?_); conv => whnf)
    | ((with_reducible refine onBool_t (by assumption) ?_); conv => whnf)
    | ((with_reducible refine onBool_f (by assumption) ?_); conv => whnf)
    | ((with_reducible refine on_nt (by assumption) ?_); conv => whnf)
    | ((with_reducible refine on_nf (by assumption) ?_); conv => whnf)
    | ((with_reducible refine on_ndec_t (by first | assumption | rfl) ?_); conv => whnf)
    | ((with_reducible refine on_ndec_f (by assumption) ?_); conv => whnf)
    | ((with_reducible refine on_dec_t rfl ?_); conv => whnf)
    | ((with_reducible refine on_dec_f ?_ ?_); (focus ((try simp only [List.length_map, List.length_cons, List.length_nil, List.length_append]); omega)); conv => whnf)
    | ((with_reducible refine on_dec_t ?_ ?_); (focus ((try simp only [List.length_map, List.length_cons, List.length_nil, List.length_append]); omega)); conv => whnf)
    | ((with_reducible refine on_dec (fun h => ?_) (fun h => ?_)) <;> (try simp only [List.length_map] at h) <;> conv => whnf)
    | ((with_reducible refine on_ndec (fun h => ?_) (fun h => ?_)) <;> (try simp only [List.length_map] at h) <;> conv => whnf)
    | ((with_reducible refine on_not (fun h => ?_) (fun h => ?_)) <;> conv => whnf)
    | ((with_reducible refine onBool_split (fun h => ?_) (fun h => ?_)) <;> conv => whnf)
    | ((with_reducible refine call_go ?_); (first | refine call_step (run_data (xs := []) c11 _) ?_ | refine call_step (run_view (c12 w) rfl rfl) ?_ | refine call_step (run_view (c13 w) rfl rfl) ?_ | refine call_step (run_view (c14 x hxa) rfl rfl) ?_ | refine call_step (run_view (c15 x) rfl rfl) ?_ | refine call_step (run_view (c16o w x hxa h0) rfl rfl) ?_ | refine call_step (run_view (c17' w x hw hx) rfl rfl) ?_); conv => whnf)
    | (refine ⟨[], [(2, 1), (8, 7)], (by decide +kernel), ?_⟩; conv => whnf)
    | (refine ⟨⟨(by first | rfl | (simp; done)), cap_ok (by simp only [List.length_map, List.length_cons, List.length_nil, List.length_append]; omega) rfl⟩, ?_⟩; conv => whnf)
    | (refine ⟨mem_one ⟨rfl, rfl⟩, ?_⟩; conv => whnf)
    | (refine ⟨(by intro y hy; obtain ⟨x, _, rfl⟩ := List.mem_map.1 hy; first | rfl | exact ⟨rfl, rfl⟩), ?_⟩; conv => whnf)
    | (refine ⟨cap_ok (by first | omega | (simp only [List.length_map]; omega)) rfl, ?_⟩; conv => whnf)
    | (refine ix_map (by omega) ?_; conv => whnf)
    | (refine ix_str (by omega) ?_; conv => whnf)
    | (refine wrap64 (by omega) ?_; conv => whnf)
    | (exfalso; simp only [List.length_map, List.length_cons, List.length_nil, List.length_append] at h; omega)
    | ((with_reducible refine endx_go ?_); first | (exact endx rfl; done) | (refine endx (congrArg D.bool ?_); simp at h; done) | (exact endx (congrArg D.bool (by simp)); done))
    | (refine ⟨rfl, ?_⟩; conv => whnf)
    | fail
    )

theorem c3w (w : Wt) (x : Rec) (hxa : x.act < 9223372036854775808) (h0 : ¬ bothErr w x = 0) (hw : ¬ watchErr w.path w.filter w.room = 0) : Fn 3 [w.enc, x.enc] (.bool true) := by
  have he := both_w (x := x) hw
  refine run_walkF eok Tryz.func3 rfl (by kernel_rfl) ?_
  conv => whnf
  repeat' (first
    | ((with_reducible refine on_dec_t (by assumption) ?_); conv => whnf)
    | ((with_reducible refine on_dec_f (by assumption) ?_); conv => whnf)
    | ((with_reducible refine onBool_t (by assumption) ?_); conv => whnf)
    | ((with_reducible refine onBool_f (by assumption) ?_); conv => whnf)
    | ((with_reducible refine on_nt (by assumption) ?_); conv => whnf)
    | ((with_reducible refine on_nf (by assumption) ?_); conv => whnf)
    | ((with_reducible refine on_ndec_t (by first | assumption | rfl) ?_); conv => whnf)
    | ((with_reducible refine on_ndec_f (by assumption) ?_); conv => whnf)
    | ((with_reducible refine on_dec_t rfl ?_); conv => whnf)
    | ((with_reducible refine on_dec_f ?_ ?_); (focus ((try simp only [List.length_map, List.length_cons, List.length_nil, List.length_append]); omega)); conv => whnf)
    | ((with_reducible refine on_dec_t ?_ ?_); (focus ((try simp only [List.length_map, List.length_cons, List.length_nil, List.length_append]); omega)); conv => whnf)
    | ((with_reducible refine on_dec (fun h => ?_) (fun h => ?_)) <;> (try simp only [List.length_map] at h) <;> conv => whnf)
    | ((with_reducible refine on_ndec (fun h => ?_) (fun h => ?_)) <;> (try simp only [List.length_map] at h) <;> conv => whnf)
    | ((with_reducible refine on_not (fun h => ?_) (fun h => ?_)) <;> conv => whnf)
    | ((with_reducible refine onBool_split (fun h => ?_) (fun h => ?_)) <;> conv => whnf)
    | ((with_reducible refine call_go ?_); (first | refine call_step (run_data (xs := []) c11 _) ?_ | refine call_step (run_view (c12 w) rfl rfl) ?_ | refine call_step (run_view (c13 w) rfl rfl) ?_ | refine call_step (run_view (c14 x hxa) rfl rfl) ?_ | refine call_step (run_view (c15 x) rfl rfl) ?_ | refine call_step (run_view (c16e w x hxa h0) rfl rfl) ?_ | refine call_step (run_view (c17' w x hw hx) rfl rfl) ?_); conv => whnf)
    | (refine ⟨[], [(2, 1), (8, 7)], (by decide +kernel), ?_⟩; conv => whnf)
    | (refine ⟨⟨(by first | rfl | (simp; done)), cap_ok (by simp only [List.length_map, List.length_cons, List.length_nil, List.length_append]; omega) rfl⟩, ?_⟩; conv => whnf)
    | (refine ⟨mem_one ⟨rfl, rfl⟩, ?_⟩; conv => whnf)
    | (refine ⟨(by intro y hy; obtain ⟨x, _, rfl⟩ := List.mem_map.1 hy; first | rfl | exact ⟨rfl, rfl⟩), ?_⟩; conv => whnf)
    | (refine ⟨cap_ok (by first | omega | (simp only [List.length_map]; omega)) rfl, ?_⟩; conv => whnf)
    | (refine ix_map (by omega) ?_; conv => whnf)
    | (refine ix_str (by omega) ?_; conv => whnf)
    | (refine wrap64 (by omega) ?_; conv => whnf)
    | (exfalso; simp only [List.length_map, List.length_cons, List.length_nil, List.length_append] at h; omega)
    | ((with_reducible refine endx_go ?_); first | (exact endx rfl; done) | (refine endx (congrArg D.bool ?_); simp at h; done) | (exact endx (congrArg D.bool (by simp)); done))
    | (refine ⟨rfl, ?_⟩; conv => whnf)
    | fail
    )

theorem c3x (w : Wt) (x : Rec) (hxa : x.act < 9223372036854775808) (h0 : ¬ bothErr w x = 0) (hw : watchErr w.path w.filter w.room = 0) (hx : ¬ eventErr x.act x.path = 0) : Fn 3 [w.enc, x.enc] (.bool true) := by
  have he := both_x (x := x) hw
  refine run_walkF eok Tryz.func3 rfl (by kernel_rfl) ?_
  conv => whnf
  repeat' (first
    | ((with_reducible refine on_dec_t (by assumption) ?_); conv => whnf)
    | ((with_reducible refine on_dec_f (by assumption) ?_); conv => whnf)
    | ((with_reducible refine onBool_t (by assumption) ?_); conv => whnf)
    | ((with_reducible refine onBool_f (by assumption) ?_); conv => whnf)
    | ((with_reducible refine on_nt (by assumption) ?_); conv => whnf)
    | ((with_reducible refine on_nf (by assumption) ?_); conv => whnf)
    | ((with_reducible refine on_ndec_t (by first | assumption | rfl) ?_); conv => whnf)
    | ((with_reducible refine on_ndec_f (by assumption) ?_); conv => whnf)
    | ((with_reducible refine on_dec_t rfl ?_); conv => whnf)
    | ((with_reducible refine on_dec_f ?_ ?_); (focus ((try simp only [List.length_map, List.length_cons, List.length_nil, List.length_append]); omega)); conv => whnf)
    | ((with_reducible refine on_dec_t ?_ ?_); (focus ((try simp only [List.length_map, List.length_cons, List.length_nil, List.length_append]); omega)); conv => whnf)
    | ((with_reducible refine on_dec (fun h => ?_) (fun h => ?_)) <;> (try simp only [List.length_map] at h) <;> conv => whnf)
    | ((with_reducible refine on_ndec (fun h => ?_) (fun h => ?_)) <;> (try simp only [List.length_map] at h) <;> conv => whnf)
    | ((with_reducible refine on_not (fun h => ?_) (fun h => ?_)) <;> conv => whnf)
    | ((with_reducible refine onBool_split (fun h => ?_) (fun h => ?_)) <;> conv => whnf)
    | ((with_reducible refine call_go ?_); (first | refine call_step (run_data (xs := []) c11 _) ?_ | refine call_step (run_view (c12 w) rfl rfl) ?_ | refine call_step (run_view (c13 w) rfl rfl) ?_ | refine call_step (run_view (c14 x hxa) rfl rfl) ?_ | refine call_step (run_view (c15 x) rfl rfl) ?_ | refine call_step (run_view (c16e w x hxa h0) rfl rfl) ?_ | refine call_step (run_view (c17' w x hw hx) rfl rfl) ?_); conv => whnf)
    | (refine ⟨[], [(2, 1), (8, 7)], (by decide +kernel), ?_⟩; conv => whnf)
    | (refine ⟨⟨(by first | rfl | (simp; done)), cap_ok (by simp only [List.length_map, List.length_cons, List.length_nil, List.length_append]; omega) rfl⟩, ?_⟩; conv => whnf)
    | (refine ⟨mem_one ⟨rfl, rfl⟩, ?_⟩; conv => whnf)
    | (refine ⟨(by intro y hy; obtain ⟨x, _, rfl⟩ := List.mem_map.1 hy; first | rfl | exact ⟨rfl, rfl⟩), ?_⟩; conv => whnf)
    | (refine ⟨cap_ok (by first | omega | (simp only [List.length_map]; omega)) rfl, ?_⟩; conv => whnf)
    | (refine ix_map (by omega) ?_; conv => whnf)
    | (refine ix_str (by omega) ?_; conv => whnf)
    | (refine wrap64 (by omega) ?_; conv => whnf)
    | (exfalso; simp only [List.length_map, List.length_cons, List.length_nil, List.length_append] at h; omega)
    | ((with_reducible refine endx_go ?_); first | (exact endx rfl; done) | (refine endx (congrArg D.bool ?_); simp at h; done) | (exact endx (congrArg D.bool (by simp)); done))
    | (refine ⟨rfl, ?_⟩; conv => whnf)
    | fail
    )

theorem c3 (w : Wt) (x : Rec) (hxa : x.act < 9223372036854775808) : Fn 3 [w.enc, x.enc] (.bool true) := by
  by_cases h0 : bothErr w x = 0
  · exact c3o w x hxa h0 (both_ok h0).1 (both_ok h0).2
  · by_cases hw : watchErr w.path w.filter w.room = 0
    · exact c3x w x hxa h0 hw (fun e => h0 (by rw [both_x hw, e]))
    · exact c3w w x hxa h0 hw

end Go.Proofs.YtbkmjpmgiaiacaaGreatDoor

/-! La -/
namespace Go.Proofs.YtbkmjpmgiaiacaaGreatDoor
open Go Dw Go.ChangeShapes Go.WideShapes Go.RowKit

section
attribute [local irreducible] Run
theorem hrun3 : ∀ xs, shps E 6 Tryz.f3.params.toList xs → Run Tryz.prog 3 (xs.map .d) [] (.d (.bool true)) [] := by
  intro xs h
  obtain ⟨x1, r1, rfl, h1, x2, r2, rfl, h2, rfl⟩ := h
  obtain ⟨w, rfl⟩ := shpWt h1
  obtain ⟨x, rfl, hx⟩ := shpEv h2
  exact c3 w x hx
end

set_option maxRecDepth 100000 in
theorem lifted3 (os : Os) (started : os.Started) (H : Type) (enc : TypeId × Value → H) :
    ReturnsInHanded {} Tryz.checked os 3 .any (fun w args => (Rows.notifySeesSpec.pre enc Tryz.prog Tryz.f3 [] false w args ∧ laidMetH Tryz.prog laid28 w) ∧ sizedMet enc Tryz.prog Tryz.f3 (OpenSpec.ofChange Rows.notifySeesSpec) false w args)
      (Rows.notifySeesSpec.post enc Tryz.prog Tryz.f3 false true false false) := by
  refine returnsInHanded_of_change_and (C := Tryz.checked) (X := fun w _ => laidMetH Tryz.prog laid28 w) (fun _ _ _ hh h => h.of_heap hh) own28 started (by kernel_rfl) Tryz.func3
    (ChangeSpec.witness_shaped (enc := enc) (C := Tryz.checked) (os := os) (X := fun w _ => laidMetH Tryz.prog laid28 w) false (wit28 os) #[.agg #[.string ⟨#[]⟩, .bool false, .int .i64 0, .int .i64 0], .agg #[.int .i64 0, .string ⟨#[]⟩]] 8 rfl (shaped28 os _) (by kernel_rfl) (by kernel_rfl) (by kernel_rfl) (door_met28 os _)) ?_
  intro W base args ds gs before hval hW _ _ _ _
  refine law_lift (n := 6) (t4 := 4) eok Tryz.func3 (by kernel_rfl) rfl laidOut28 rfl ?_ rfl Tryz.underlying4 (by kernel_rfl) hrun3 W base args ds gs before hval hW
  intro H ds hds
  match ds, hds with
  | [a, b], _ => rfl

theorem over3 : Rows.NotifySeesSaid :=
  OpenClaim.holds_of_wide 3 Tryz.f3 rfl rfl rfl rfl rfl rfl rfl ⟨rfl, rfl, rfl, rfl, rfl⟩ rfl rfl rfl rfl rfl (by kernel_rfl) Tryz.func3 (by kernel_rfl)
    (of_decide_eq_true (by kernel_rfl)) (by unfold Func.isWrapper; first | (rw [if_pos (by decide +kernel)]; kernel_rfl) | (rw [if_neg (by decide +kernel)]; exact ⟨rfl, rfl⟩))
    (fun os started H enc _ => lifted3 os started H enc)

theorem notifySees_proved : Rows.NotifySeesCardSaid :=
  Claim7.holds_tied_plain_at .later [] [.data, .pinned] true (true, "109c5384165a96825d1f2089578ad2bcbcab01a966bcbf40a0fdea72bc267f3f") false
    over3 (fun _ h => by cases h) (by kernel_rfl) (fun _ h => by cases h) notifySees_row_tie rfl ⟨rfl, rfl⟩ (by kernel_rfl) rfl
    (card_hl (f0 := 3) (fn0 := Tryz.f3) (by kernel_rfl) Tryz.func3 (by kernel_rfl) (by kernel_rfl)) (by kernel_rfl)
end Go.Proofs.YtbkmjpmgiaiacaaGreatDoor
