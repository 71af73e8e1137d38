/-
  Own lemmas, no conditions: Tr, Wm, Vb.
-/
import Derived.Test.YtbkmjpmgiaiacaaGreatDoorGrpJ
import Derived.Shelf.Strings.Trim
set_option linter.unusedVariables false
set_option linter.unusedSimpArgs false

/-! Tr -/
namespace Go.Proofs.YtbkmjpmgiaiacaaGreatDoor
open Go Go.Shelf
open Dw Go.RowKit
set_option maxRecDepth 100000
end Go.Proofs.YtbkmjpmgiaiacaaGreatDoor

/-! Wm -/
namespace Go.Proofs.YtbkmjpmgiaiacaaGreatDoor
open Go Dw
set_option maxRecDepth 10000
set_option linter.unusedVariables false
set_option linter.unusedSimpArgs false
attribute [local irreducible] Run
set_option maxHeartbeats 4000000

open Paths
attribute [local irreducible] nameErr isAct hasBit
def szErr (x : Rec) : Int := if isAct x.act = true then (if 200 < x.path.length then 8 else if x.path = [] then 17 else 0) else 15
attribute [local irreducible] szErr
theorem sameR_take {a b : List Rec} {k : Nat} (h : a.take k = b.take k) (ha : k < a.length) (hb : k < b.length) (e : a[k] = b[k]) : a.take (k + 1) = b.take (k + 1) := by
  rw [List.take_succ_eq_append_getElem ha, List.take_succ_eq_append_getElem hb, h, e]
theorem sameR_no {a b : List Rec} {k : Nat} (ha : k < a.length) (hb : k < b.length) (e : ¬ a[k] = b[k]) : ¬ a = b := by rintro rfl; exact e rfl

theorem c29 (a b : List Rec) (ha : a.length < 1000000) (hb : b.length < 1000000) : Fn 29 [.fs (a.map Rec.enc), .fs (b.map Rec.enc)] (.bool (decide (a = b))) := by
  refine run_walkF eok Tryz.func29 rfl (by kernel_rfl) ?_
  conv => whnf
  repeat' (first
    | ((with_reducible refine on_dec (fun h => ?_) (fun h => ?_)) <;> (try simp only [List.length_map] at h) <;> conv => whnf)
    | ((with_reducible refine on_ndec (fun h => ?_) (fun h => ?_)) <;> (try simp only [List.length_map] at h) <;> conv => whnf)
    | ((with_reducible refine on_not (fun h => ?_) (fun h => ?_)) <;> conv => whnf)
    | (refine ⟨[], [], (by decide +kernel), ?_⟩; conv => whnf)
    | ((with_reducible refine loop_go ?_); first | (refine loop1 (fun (k : Nat) => a.length - k) (fun (k : Nat) => k ≤ a.length ∧ a.take k = b.take k) (fun (k : Nat) => [(0, .d (.fs (a.map Rec.enc))), (1, .d (.fs (b.map Rec.enc))), (5, .d (i k))]) (fun (k : Nat) => []) (0) (by first | (simp; done) ) ?_ (fun k C hI hC => ?_); (exact ⟨[], rfl, rfl, ⟨(by first | (show (_ : D) = _; with_reducible rfl) ), (by first | (show (_ : D) = _; with_reducible rfl) ), (by first | exact congrArg (D.int .i64) (by omega) ), trivial⟩, trivial⟩); all_goals (conv => whnf)))
    | ((with_reducible show C _ _); first | (refine hC (k + 1) _ _ ?_ (by omega) ?_; clear hC; rotate_left; (exact ⟨[], rfl, rfl, ⟨(by first | (show (_ : D) = _; with_reducible rfl) ), (by first | (show (_ : D) = _; with_reducible rfl) ), (by first | exact congrArg (D.int .i64) (by omega) ), trivial⟩, trivial⟩); (exact ⟨by omega, sameR_take hI.2 (by omega) (by omega) (of_decide_eq_true ((cellsRec _ _).symm.trans h))⟩)))
    | (refine ix_map (by omega) ?_; conv => whnf)
    | (refine wrap64 (by omega) ?_; conv => whnf)
    | ((with_reducible refine endx_go ?_); first | (exact endx (congrArg D.bool (by symm; rw [decide_eq_false_iff_not]; rintro rfl; omega)); done) | (exact endx (congrArg D.bool (by symm; exact decide_eq_false (sameR_no (k := k) (by omega) (by omega) (of_decide_eq_false ((cellsRec _ _).symm.trans h))))); done) | (exact endx (congrArg D.bool (by have h9 := hI.2; rw [List.take_of_length_le (by omega), List.take_of_length_le (by omega)] at h9; symm; exact decide_eq_true h9)); done))
    | fail
    )

end Go.Proofs.YtbkmjpmgiaiacaaGreatDoor

/-! Vb -/
namespace Go.Proofs.YtbkmjpmgiaiacaaGreatDoor
open Go Dw
set_option maxRecDepth 10000
set_option linter.unusedVariables false
set_option linter.unusedSimpArgs false
attribute [local irreducible] Run
set_option maxHeartbeats 4000000

open Paths
attribute [local irreducible] Own checkB addErr roomy bsR ixB dropB addB sz roomOf putB seesW belowI tellB told isAct
def fewW (x : BW) : Bool := decide (x.w.path.length ≤ 300) && (decide (x.recs.length ≤ 110) && x.recs.all (fun r => decide (r.path.length ≤ 300)))
def fewB (b : Bd) : Bool := decide (b.ws.length ≤ 10) && b.ws.all fewW
theorem all_takeF {α : Type} {p : α → Bool} {l : List α} {k : Nat} (hk : k < l.length) (h : (l.take k).all p = true) (h2 : p l[k] = true) : (l.take (k + 1)).all p = true := by
  rw [List.take_succ_eq_append_getElem hk, List.all_append, h]; simp [h2]
theorem all_not {α : Type} {p : α → Bool} {l : List α} {k : Nat} (hk : k < l.length) (h2 : p l[k] = false) : l.all p = false := by
  rw [List.all_eq_false]; exact ⟨_, List.getElem_mem hk, by simp [h2]⟩
theorem fewW_1 {x : BW} (h : (300 : Int) < x.w.path.length) : fewW x = false := by unfold fewW; rw [decide_eq_false (by omega)]; rfl
theorem fewW_2 {x : BW} (h : (110 : Int) < x.recs.length) : fewW x = false := by unfold fewW; rw [decide_eq_false (show ¬ x.recs.length ≤ 110 by omega)]; simp
theorem fewW_3 {x : BW} {j : Nat} (hj : j < x.recs.length) (h : (300 : Int) < x.recs[j].path.length) : fewW x = false := by
  unfold fewW; rw [all_not hj (decide_eq_false (by omega))]; simp
theorem fewW_ok {x : BW} (h1 : ¬ (300 : Int) < x.w.path.length) (h2 : ¬ (110 : Int) < x.recs.length) {j : Nat} (hj : ¬ (j : Int) < x.recs.length) (h : (x.recs.take j).all (fun r => decide (r.path.length ≤ 300)) = true) : fewW x = true := by
  rw [List.take_of_length_le (by omega)] at h
  unfold fewW; rw [h, decide_eq_true (show x.w.path.length ≤ 300 by omega), decide_eq_true (show x.recs.length ≤ 110 by omega)]; rfl
theorem few_no {b : Bd} {k : Nat} (hk : k < b.ws.length) (h : fewW b.ws[k] = false) : fewB b = false := by
  unfold fewB; rw [all_not hk h]; simp
theorem few_8 {b : Bd} (h : (10 : Int) < b.ws.length) : fewB b = false := by unfold fewB; rw [decide_eq_false (by omega)]; rfl
theorem few_ok {b : Bd} (h : ¬ (10 : Int) < b.ws.length) {k : Nat} (hk : ¬ (k : Int) < b.ws.length) (h2 : (b.ws.take k).all fewW = true) : fewB b = true := by
  rw [List.take_of_length_le (by omega)] at h2
  unfold fewB; rw [h2, decide_eq_true (by omega)]; rfl
theorem few_SB {b : Bd} (h : fewB b = true) (ha : ∀ w ∈ b.ws, ∀ r ∈ w.recs, r.act < 9223372036854775808) : SB b := by
  unfold fewB at h
  rw [Bool.and_eq_true, decide_eq_true_eq, List.all_eq_true] at h
  refine ⟨by omega, fun x hx => ?_⟩
  have h2 := h.2 x hx
  unfold fewW at h2
  simp only [Bool.and_eq_true, decide_eq_true_eq, List.all_eq_true] at h2
  exact ⟨by omega, fun r hr => ⟨by have := h2.2.2 r hr; omega, ha x hx r hr⟩⟩
theorem cells_wt (w : Wt) : cellsEq [D.str w.path, D.bool w.deep, i w.filter, i w.room] [D.str w.path, D.bool w.deep, i w.filter, i w.room] = true := by
  simp [cellsEq, cellEq, i]
attribute [local irreducible] fewW fewB

theorem c18 (b : Bd) : Fn 18 [b.enc] (.bool (fewB b)) := by
  refine run_walkF eok Tryz.func18 rfl (by kernel_rfl) ?_
  conv => whnf
  repeat' (first
    | ((with_reducible refine on_dec (fun h => ?_) (fun h => ?_)) <;> (try simp only [List.length_map] at h) <;> conv => whnf)
    | ((with_reducible refine loop_go ?_); first | (refine loop1 (fun (j : Nat) => (b.ws[k]'(by omega)).recs.length - j) (fun (j : Nat) => j ≤ (b.ws[k]'(by omega)).recs.length ∧ ((b.ws[k]'(by omega)).recs.take j).all (fun r => decide (r.path.length ≤ 300)) = true) (fun (j : Nat) => [(1, .ptr 0 0 0), (3, .d (i k)), (4, .d (i j))]) (fun (j : Nat) => [⟨[.d b.enc], 2, 0⟩]) (0) (by exact ⟨Nat.zero_le _, rfl⟩) ?_ (fun j C2 hI2 hC2 => ?_); (exact ⟨[.old 0], rfl, rfl, ⟨⟨rfl, rfl, rfl⟩, (by first | (show (_ : D) = _; with_reducible rfl) ), (by first | exact congrArg (D.int .i64) (by omega) ), trivial⟩, ⟨⟨rfl, rfl, .inl ⟨[_], rfl, rfl⟩⟩, trivial⟩⟩); all_goals (conv => whnf)) | (refine loop1 (fun (k : Nat) => b.ws.length - k) (fun (k : Nat) => k ≤ b.ws.length ∧ (b.ws.take k).all fewW = true) (fun (k : Nat) => [(1, .ptr 0 0 0), (3, .d (i k))]) (fun (k : Nat) => [⟨[.d b.enc], 2, 0⟩]) (0) (by exact ⟨Nat.zero_le _, rfl⟩) ?_ (fun k C hI hC => ?_); (exact ⟨[.old 0], rfl, rfl, ⟨⟨rfl, rfl, rfl⟩, (by first | exact congrArg (D.int .i64) (by omega) ), trivial⟩, ⟨⟨rfl, rfl, .inl ⟨[_], rfl, rfl⟩⟩, trivial⟩⟩); all_goals (conv => whnf)))
    | ((with_reducible show C _ _); first | (refine hC (k + 1) _ _ ?_ (by omega) ?_; clear hC; rotate_left; (exact ⟨[.old 0], rfl, rfl, ⟨⟨rfl, rfl, rfl⟩, (by first | exact congrArg (D.int .i64) (by omega) ), trivial⟩, ⟨⟨rfl, rfl, .inl ⟨[_], rfl, rfl⟩⟩, trivial⟩⟩); (exact ⟨by omega, all_takeF (by omega) hI.2 (fewW_ok (by assumption) (by assumption) (by assumption) hI2.2)⟩)))
    | ((with_reducible show C2 _ _); first | (refine hC2 (j + 1) _ _ ?_ (by omega) ?_; clear hC2; rotate_left; (exact ⟨[.old 0], rfl, rfl, ⟨⟨rfl, rfl, rfl⟩, (by first | (show (_ : D) = _; with_reducible rfl) ), (by first | exact congrArg (D.int .i64) (by omega) ), trivial⟩, ⟨⟨rfl, rfl, .inl ⟨[_], rfl, rfl⟩⟩, trivial⟩⟩); (exact ⟨by omega, all_takeF (by omega) hI2.2 (decide_eq_true (by omega))⟩)))
    | (refine ix_map (by omega) ?_; conv => whnf)
    | (refine wrap64 (by omega) ?_; conv => whnf)
    | ((with_reducible refine endx_go ?_); first | (exact endx (congrArg D.bool (few_8 (by assumption)).symm); done) | (exact endx (congrArg D.bool (few_no (k := k) (by omega) (fewW_1 (by assumption))).symm); done) | (exact endx (congrArg D.bool (few_no (k := k) (by omega) (fewW_2 (by assumption))).symm); done) | (exact endx (congrArg D.bool (few_no (k := k) (by omega) (fewW_3 (j := j) (by omega) (by assumption))).symm); done) | (exact endx (congrArg D.bool (few_ok (by assumption) (by assumption) hI.2).symm); done))
    | fail
    )

theorem c22 (b : Bd) (hb : SB b) : Fn 22 [b.enc, b.enc] (.bool true) := by
  have hbn := hb.n
  refine run_walkF eok Tryz.func22 rfl (by kernel_rfl) ?_
  conv => whnf
  repeat' (first
    | (refine onBool_f (by first | (rw [cells_wt]; rfl) | (rw [decide_eq_true rfl]; rfl) | rfl) ?_; conv => whnf)
    | ((with_reducible refine on_dec (fun h => ?_) (fun h => ?_)) <;> (try simp only [List.length_map] at h) <;> conv => whnf)
    | ((with_reducible refine on_not (fun h => ?_) (fun h => ?_)) <;> conv => whnf)
    | ((with_reducible refine call_go ?_); (first | refine call_step (run_view (c29 (b.ws[k]'(by omega)).recs (b.ws[k]'(by omega)).recs (by have := (hb.r _ (List.getElem_mem (l := b.ws) (n := k) (by omega))).1; omega) (by have := (hb.r _ (List.getElem_mem (l := b.ws) (n := k) (by omega))).1; omega)) rfl rfl) ?_); conv => whnf)
    | (refine ⟨[], [(6, 12), (9, 12)], (by decide +kernel), ?_⟩; conv => whnf)
    | ((with_reducible refine loop_go ?_); first | (refine loop1 (fun (k : Nat) => b.ws.length - k) (fun (k : Nat) => k ≤ b.ws.length) (fun (k : Nat) => [(2, .ptr 0 0 0), (3, .ptr 1 0 0), (5, .d (i k))]) (fun (k : Nat) => [⟨[.d b.enc], 2, 0⟩, ⟨[.d b.enc], 2, 0⟩]) (0) (by exact Nat.zero_le _) ?_ (fun k C hI hC => ?_); (exact ⟨[.old 0, .old 1], rfl, rfl, ⟨⟨rfl, rfl, rfl⟩, ⟨rfl, rfl, rfl⟩, (by first | exact congrArg (D.int .i64) (by omega) ), trivial⟩, ⟨⟨rfl, rfl, .inl ⟨[_], rfl, rfl⟩⟩, ⟨rfl, rfl, .inl ⟨[_], rfl, rfl⟩⟩, trivial⟩⟩); all_goals (conv => whnf)))
    | ((with_reducible show C _ _); first | (refine hC (k + 1) _ _ ?_ (by omega) ?_; clear hC; rotate_left; (exact ⟨[.old 0, .old 1], rfl, rfl, ⟨⟨rfl, rfl, rfl⟩, ⟨rfl, rfl, rfl⟩, (by first | exact congrArg (D.int .i64) (by omega) ), trivial⟩, ⟨⟨rfl, rfl, .inl ⟨[_], rfl, rfl⟩⟩, ⟨rfl, rfl, .inl ⟨[_], rfl, rfl⟩⟩, trivial⟩⟩); (exact (by omega : k + 1 ≤ b.ws.length))))
    | (refine ix_map (by omega) ?_; conv => whnf)
    | (refine wrap64 (by omega) ?_; conv => whnf)
    | ((with_reducible refine endx_go ?_); first | (exact endx rfl; done) | (exact absurd (beq_self_eq_true _) (by rw [h]; decide); done) )
    | (refine ⟨rfl, ?_⟩; conv => whnf)
    | fail
    )

theorem c24 (l : List Int) (hl : l.length < 1000000) : Fn 24 [.fs (l.map i), .fs (l.map i)] (.bool true) := by
  refine run_walkF eok Tryz.func24 rfl (by kernel_rfl) ?_
  conv => whnf
  repeat' (first
    | ((with_reducible refine on_dec (fun h => ?_) (fun h => ?_)) <;> (try simp only [List.length_map] at h) <;> conv => whnf)
    | ((with_reducible refine on_ndec (fun h => ?_) (fun h => ?_)) <;> (try simp only [List.length_map] at h) <;> conv => whnf)
    | (refine ⟨[], [], (by decide +kernel), ?_⟩; conv => whnf)
    | ((with_reducible refine loop_go ?_); first | (refine loop1 (fun (k : Nat) => l.length - k) (fun (k : Nat) => k ≤ l.length) (fun (k : Nat) => [(0, .d (.fs (l.map i))), (1, .d (.fs (l.map i))), (5, .d (i k))]) (fun (k : Nat) => []) (0) (by exact Nat.zero_le _) ?_ (fun k C hI hC => ?_); (exact ⟨[], rfl, rfl, ⟨(by first | (show (_ : D) = _; with_reducible rfl) ), (by first | (show (_ : D) = _; with_reducible rfl) ), (by first | exact congrArg (D.int .i64) (by omega) ), trivial⟩, trivial⟩); all_goals (conv => whnf)))
    | ((with_reducible show C _ _); first | (refine hC (k + 1) _ _ ?_ (by omega) ?_; clear hC; rotate_left; (exact ⟨[], rfl, rfl, ⟨(by first | (show (_ : D) = _; with_reducible rfl) ), (by first | (show (_ : D) = _; with_reducible rfl) ), (by first | exact congrArg (D.int .i64) (by omega) ), trivial⟩, trivial⟩); (exact (by omega : k + 1 ≤ l.length))))
    | (refine ix_map (by omega) ?_; conv => whnf)
    | (refine wrap64 (by omega) ?_; conv => whnf)
    | ((with_reducible refine endx_go ?_); first | (exact endx rfl; done) | (exact absurd trivial h; done) )
    | fail
    )

theorem c21 (b : Bd) (e : Rec) (hb : SB b) : Fn 21 [b.enc, e.enc] (i (tellErr b e)) := by
  refine run_walkF eok Tryz.func21 rfl (by kernel_rfl) ?_
  conv => whnf
  repeat' (first
    | ((with_reducible refine on_ndec (fun h => ?_) (fun h => ?_)) <;> (try simp only [List.length_map] at h) <;> conv => whnf)
    | ((with_reducible refine call_go ?_); (first | refine call_step (run_view (c25 b hb) rfl rfl) ?_ | refine call_step (run_view (c15 e) rfl rfl) ?_); conv => whnf)
    | ((with_reducible refine endx_go ?_); first | (refine endx (congrArg i ?_); first | exact (tellE_n (by assumption)).symm | exact (tellE_c (by assumption)).symm; done))
    | fail
    )

end Go.Proofs.YtbkmjpmgiaiacaaGreatDoor
