/-
  Own lemmas, no conditions: Ww, Wx, Wy, Pv, Wz.
-/
import Derived.Test.YtbkmjpmgiaiacaaGreatDoorGrpI
set_option linter.unusedVariables false
set_option linter.unusedSimpArgs false

/-! Ww -/
namespace Go.Proofs.YtbkmjpmgiaiacaaGreatDoor
open Go Dw
set_option maxRecDepth 10000
set_option linter.unusedVariables false
set_option linter.unusedSimpArgs false
attribute [local irreducible] Run
set_option maxHeartbeats 4000000

open Paths
attribute [local irreducible] newD Own checkB addErr roomy bsR ixB dropB addB sz roomOf
def lastIs (l : List Rec) (r : Rec) : Bool := decide (l[l.length - 1]? = some r)
def putSkip (x : BW) (r : Rec) : Bool := x.lost || (decide (0 < x.recs.length) && (mrg r.act && lastIs x.recs r))
def putB (x : BW) (r : Rec) : BW := if putSkip x r = true then x else if x.w.room < roomOf x.recs + sz r then ⟨x.id, x.w, [], true⟩ else ⟨x.id, x.w, x.recs ++ [r], x.lost⟩
theorem put_1 {x : BW} {r : Rec} (h : x.lost = true) : putB x r = x := by unfold putB putSkip; rw [h]; rfl
theorem put_2 {x : BW} {r : Rec} (h : putSkip x r = true) : putB x r = x := by unfold putB; rw [if_pos h]
theorem put_3 {x : BW} {r : Rec} (h : putSkip x r = false) (h2 : x.w.room < roomOf x.recs + sz r) : putB x r = ⟨x.id, x.w, [], true⟩ := by unfold putB; rw [if_neg (by rw [h]; decide), if_pos h2]
theorem put_4 {x : BW} {r : Rec} (h : putSkip x r = false) (h2 : ¬ x.w.room < roomOf x.recs + sz r) : putB x r = ⟨x.id, x.w, x.recs ++ [r], x.lost⟩ := by unfold putB; rw [if_neg (by rw [h]; decide), if_neg h2]
theorem skip_t {x : BW} {r : Rec} (h1 : (0 : Int) < x.recs.length) (h2 : mrg r.act = true) (h3 : cellsEq [i (x.recs[x.recs.length - 1]'(by omega)).act, D.str (x.recs[x.recs.length - 1]'(by omega)).path] [i r.act, D.str r.path] = true) : putSkip x r = true := by
  rw [cellsRec] at h3
  have h4 := of_decide_eq_true h3
  unfold putSkip lastIs
  rw [List.getElem?_eq_getElem (show x.recs.length - 1 < x.recs.length by omega), h4, h2]
  simp; omega
theorem skip_0 {x : BW} {r : Rec} (h0 : x.lost = false) (h1 : ¬ (0 : Int) < x.recs.length) : putSkip x r = false := by
  unfold putSkip; rw [h0, decide_eq_false (by omega)]; rfl
theorem skip_m {x : BW} {r : Rec} (h0 : x.lost = false) (h2 : mrg r.act = false) : putSkip x r = false := by
  unfold putSkip; rw [h0, h2]; simp
theorem skip_e {x : BW} {r : Rec} (h0 : x.lost = false) (h1 : (0 : Int) < x.recs.length) (h3 : cellsEq [i (x.recs[x.recs.length - 1]'(by omega)).act, D.str (x.recs[x.recs.length - 1]'(by omega)).path] [i r.act, D.str r.path] = false) : putSkip x r = false := by
  rw [cellsRec] at h3
  have h4 := of_decide_eq_false h3
  unfold putSkip lastIs
  rw [List.getElem?_eq_getElem (show x.recs.length - 1 < x.recs.length by omega), h0, decide_eq_false (fun e => h4 (Option.some.inj e))]
  simp
theorem rec_app {A : List AV} {a : AV} {l : List Rec} {r : Rec} {H : Heap} {id n : Nat} (hv : RecV a r) (hn : n = l.length) (h1 : l.length + 1 ≤ A.length) (h2 : ∀ (j : Nat) (r : Rec), l[j]? = some r → ∃ a : AV, A[j]? = some a ∧ RecV a r) (h : H[id]? = some ⟨over A (0 + n) [a], 2, 0⟩) : RecAt H id (l ++ [r]) := by
  subst hn
  refine ⟨_, h, by rw [over_len h1, List.length_append, List.length_singleton]; exact h1, fun j r' hr => ?_⟩
  rw [List.getElem?_append] at hr
  split at hr
  · rename_i hj
    rw [over_old h1 hj]
    exact h2 j r' hr
  · rename_i hj
    have hj2 : j - l.length = 0 := by
      have := (List.getElem?_eq_some_iff.1 hr).1
      simp only [List.length_singleton] at this; omega
    have hj3 : j = l.length := by omega
    rw [hj2] at hr; cases hr
    rw [hj3, over_at h1]
    exact ⟨_, rfl, hv⟩
theorem rec_new {A : List AV} {a : AV} {l : List Rec} {r : Rec} {H : Heap} {id : Nat} (hv : RecV a r) (h1 : l.length = A.length) (h2 : ∀ (j : Nat) (r : Rec), l[j]? = some r → ∃ a : AV, A[j]? = some a ∧ RecV a r) (h : H[id]? = some ⟨A ++ [a], 2, 0⟩) : RecAt H id (l ++ [r]) := by
  refine ⟨_, h, by rw [List.length_append, List.length_append, h1]; exact Nat.le_refl _, fun j r' hr => ?_⟩
  rw [List.getElem?_append] at hr
  split at hr
  · rename_i hj
    rw [List.getElem?_append_left (by omega)]
    exact h2 j r' hr
  · rename_i hj
    have hj2 : j - l.length = 0 := by
      have := (List.getElem?_eq_some_iff.1 hr).1
      simp only [List.length_singleton] at this; omega
    have hj3 : j = A.length := by omega
    rw [hj2] at hr; cases hr
    rw [hj3]
    exact ⟨a, by simp, hv⟩
theorem rec_one {r : Rec} {H : Heap} {id : Nat} {x : BW} (hx : x.recs = []) (h : H[id]? = some ⟨[.d r.enc], 2, 0⟩) : RecAt H id (x.recs ++ [r]) := by
  rw [hx]; exact RecAt.of h
theorem sz_bd (r : Rec) (h : r.path.length < 1000) : 0 ≤ sz r ∧ sz r ≤ 1010 := by unfold sz; omega
theorem room0 : roomOf ([] : List Rec) = 0 := by unfold roomOf; rfl
theorem nthP {α : Type} {l : List α} {n m : Nat} {x : α} {K : α → Prop} (h : l[m]? = some x) (e : n = m) (k : K x) : nthK l n K := by subst e; exact nthG h k
theorem bwX_eq (x : BW) (a : AV) : bwX x a = .agg [.d (i x.id), .d (.str x.w.path), .d (.bool x.w.deep), .d (i x.w.filter), .d (i x.w.room), a, .d (.bool x.lost)] := rfl

theorem c103n (x : BW) (r : Rec) (hs : small x.recs) (hr : r.path.length < 1000) (m q j : Nat) (B : List Nat) (Es : List AV) (H0 : Heap) (hq : H0[q]? = some ⟨Es, 7, 0⟩) (hqB : q ∈ B) (hB : ∀ i ∈ B, i < H0.length) (hm : m ≤ H0.length) (he : Es[j]? = some (bwX x .nilS)) (hx : x.recs = []) : ∃ res H, Run Tryz.prog 103 [.ptr q j 0, .d r.enc] H0 res H ∧ (res = .tup [] ∧ H0.length ≤ H.length ∧ ∃ Fs o2, H[q]? = some ⟨Fs, 7, 0⟩ ∧ Fs.length = Es.length ∧ (∀ i, i ≠ j → Fs[i]? = Es[i]?) ∧ OwnAt m H B Fs[j]? (putB x r) o2 ∧ (∀ a, o2 = some a → none = some a ∨ H0.length ≤ a) ∧ (∀ i, i ≠ q → i < H0.length → (none : Option Nat) ≠ some i → H[i]? = H0[i]?)) := by
  have hlq := lt_of_at hq; have hlj := lt_of_at he; have hs1 := hs.1; have hrm := room_bd hs x.recs.length; rw [List.take_length] at hrm; have hsz := sz_bd r hr; have hO : OwnAt m H0 B Es[j]? x none := ⟨hx, he⟩; have hr0 := room0; have hr1 : roomOf x.recs = 0 := (by rw [hx]; exact room0); rw [bwX_eq] at he
  refine run_walkQ eok Tryz.func103 rfl (by kernel_rfl) ?_
  conv => whnf
  repeat' (first
    | ((with_reducible refine on_dec (fun h => ?_) (fun h => ?_)) <;> (try simp only [List.length_map] at h) <;> conv => whnf)
    | ((with_reducible refine onBool_split (fun h => ?_) (fun h => ?_)) <;> conv => whnf)
    | ((with_reducible refine call_go ?_); (first | refine call_step (run_view (c77 [] (by rw [← hx]; exact hs)) rfl rfl) ?_ | refine call_step (run_view (c84 _ (by omega)) rfl rfl) ?_); conv => whnf)
    | (refine ⟨[], [], (by decide +kernel), ?_⟩; conv => whnf)
    | (refine ⟨[], [(5, 4), (12, 4), (12, 6)], (by decide +kernel), ?_⟩; conv => whnf)
    | (refine ⟨[], [(4, 6)], (by decide +kernel), ?_⟩; conv => whnf)
    | (refine wrap64 (by omega) ?_; conv => whnf)
    | (refine newG (fun n H hn hl hf ho => ?_); conv => whnf)
    | (refine setG (by first | omega | (dsimp only; omega) ) (fun H hl hf ho => ?_); (try dsimp only at hl hf); conv => whnf)
    | (refine nthG (x := ?_) ?_ ?_; rotate_left; (focus ((repeat (first | assumption | refine look_new (by assumption) (by omega) ?_ )); done)); conv => whnf)
    | (refine ⟨Nat.le_refl _, ?_⟩; conv => whnf)
    | (refine ⟨cap_ok (by (try dsimp only [List.length]); omega) rfl, ?_⟩; conv => whnf)
    | (refine ⟨congrArg (Option.map AO.vis) (Eq.symm (by (repeat (first | rfl | refine look_new (by assumption) (by omega) ?_ )))), ?_⟩; conv => whnf)
    | ((with_reducible refine endq_go ?_); first | (refine endq ⟨rfl, by omega, Es, none, (by (repeat (first | assumption | refine look_new (by assumption) (by omega) ?_ ))), rfl, fun _ _ => rfl, (by rw [put_1 (by assumption)]; exact OwnAt.frame (B := B) hO (fun _ h => .inl h) (by (intro i hi hmi hlt; have hiq : i ≠ q := (fun e => hi (by rw [e]; exact hqB)); (repeat (first | rfl | refine look_new (by assumption) (by omega) ?_ ))))), fun _ h => .inl h, (by intro i hi hi2 hi3; (repeat (first | rfl | refine look_new (by assumption) (by omega) ?_ )))⟩; done) | (refine endq ⟨rfl, by omega, ?_, none, ?_, ?_, ?_, ?_, ?_, ?_⟩; rotate_left; (focus ((repeat (first | assumption )); done)); (focus (dsimp only at *; omega)); (focus (intro i hi; (repeat (first | rfl | refine look_set (by assumption) (by omega) ?_)))); (focus (rw [put_3 (skip_0 (by assumption) (by rw [hx]; decide)) (by omega)]; exact ⟨rfl, by (repeat (first | assumption ))⟩)); (focus (intro a h; cases h)); (focus (intro i hi hi2 hi3; (repeat (first | rfl | refine look_new (by assumption) (by omega) ?_ | refine look_set (by assumption) (by omega) ?_)))); done) | (refine endq ⟨rfl, by omega, ?_, some ?_, ?_, ?_, ?_, ?_, ?_, ?_⟩; rotate_left 2; (focus ((repeat (first | assumption )); done)); (focus (dsimp only at *; omega)); (focus (intro i hi; (repeat (first | rfl | refine look_set (by assumption) (by omega) ?_)))); (focus (rw [put_4 (skip_0 (by assumption) (by rw [hx]; decide)) (by omega)]; exact ⟨Eq.trans (by (repeat (first | assumption ))) (congrArg some (bw_len (x := ⟨x.id, x.w, x.recs ++ [r], x.lost⟩) (by simp only [List.length_append, List.length_cons, List.length_nil] <;> (try rw [hx]) <;> rfl))), rec_one hx (by (repeat (first | assumption | refine look_set (by assumption) (by omega) ?_))), ⟨fun hb => by have := hB _ hb; omega, by omega⟩⟩)); (focus (exact fun a h => .inr (by cases h; omega))); (focus (intro i hi hi2 hi3; (repeat (first | rfl | refine look_new (by assumption) (by omega) ?_ | refine look_set (by assumption) (by omega) ?_)))); done))
    | fail
    )

theorem c103s (x : BW) (r : Rec) (hs : small x.recs) (hr : r.path.length < 1000) (m q j : Nat) (B : List Nat) (Es : List AV) (H0 : Heap) (hq : H0[q]? = some ⟨Es, 7, 0⟩) (hqB : q ∈ B) (hB : ∀ i ∈ B, i < H0.length) (hm : m ≤ H0.length) (id : Nat) (A : List AV) (he : Es[j]? = some (bwA x id)) (hid : H0[id]? = some ⟨A, 2, 0⟩) (hl : x.recs.length ≤ A.length) (ht : ∀ (j : Nat) (r : Rec), x.recs[j]? = some r → ∃ a : AV, A[j]? = some a ∧ RecV a r) (hb : id ∉ B ∧ m ≤ id) : ∃ res H, Run Tryz.prog 103 [.ptr q j 0, .d r.enc] H0 res H ∧ (res = .tup [] ∧ H0.length ≤ H.length ∧ ∃ Fs o2, H[q]? = some ⟨Fs, 7, 0⟩ ∧ Fs.length = Es.length ∧ (∀ i, i ≠ j → Fs[i]? = Es[i]?) ∧ OwnAt m H B Fs[j]? (putB x r) o2 ∧ (∀ a, o2 = some a → some id = some a ∨ H0.length ≤ a) ∧ (∀ i, i ≠ q → i < H0.length → (some id) ≠ some i → H[i]? = H0[i]?)) := by
  have hlq := lt_of_at hq; have hlj := lt_of_at he; have hs1 := hs.1; have hrm := room_bd hs x.recs.length; rw [List.take_length] at hrm; have hsz := sz_bd r hr; have hlid := lt_of_at hid; have hR : RecAt H0 id x.recs := ⟨A, hid, hl, ht⟩; have hO : OwnAt m H0 B Es[j]? x (some id) := ⟨he, hR, hb⟩; have hqid : q ≠ id := (fun e => hb.1 (by rw [← e]; exact hqB)); unfold bwA at he; rw [bwX_eq] at he
  refine run_walkQ eok Tryz.func103 rfl (by kernel_rfl) ?_
  conv => whnf
  repeat' (first
    | ((with_reducible refine on_dec (fun h => ?_) (fun h => ?_)) <;> (try simp only [List.length_map] at h) <;> conv => whnf)
    | ((with_reducible refine onBool_split (fun h => ?_) (fun h => ?_)) <;> conv => whnf)
    | ((with_reducible refine call_go ?_); (first | refine call_step (run_view (c107 _) rfl rfl) ?_ | refine call_step (run_view (c77 x.recs hs) rfl (by first | exact vlc (view_rec (hR.look (by (repeat (first | rfl | refine look_new (by assumption) (by omega) ?_ ))))) vln)) ?_ | refine call_step (run_view (c84 _ (by omega)) rfl rfl) ?_); conv => whnf)
    | (refine ⟨[], [], (by decide +kernel), ?_⟩; conv => whnf)
    | (refine ⟨[], [(5, 4), (12, 4), (12, 6)], (by decide +kernel), ?_⟩; conv => whnf)
    | (refine ⟨[], [(4, 6)], (by decide +kernel), ?_⟩; conv => whnf)
    | (refine wrap64 (by omega) ?_; conv => whnf)
    | (obtain ⟨a9, ha9, hv9⟩ := ht (x.recs.length - 1) _ (List.getElem?_eq_getElem (show x.recs.length - 1 < x.recs.length by omega)); rcases hv9 with rfl | rfl <;> (refine nthP ha9 (by omega) ?_; conv => whnf))
    | (refine newG (fun n H hn hl hf ho => ?_); conv => whnf)
    | (refine setG (by first | omega | (dsimp only; omega) ) (fun H hl hf ho => ?_); (try dsimp only at hl hf); conv => whnf)
    | (refine nthG (x := ?_) ?_ ?_; rotate_left; (focus ((repeat (first | assumption | refine look_new (by assumption) (by omega) ?_ | refine look_set (by assumption) (by omega) ?_)); done)); conv => whnf)
    | (refine ⟨⟨by omega, by omega⟩, ?_⟩; conv => whnf)
    | (refine ⟨Nat.le_refl _, ?_⟩; conv => whnf)
    | (refine ⟨⟨(by simp only [List.length_cons, List.length_nil] at h ⊢; omega), cap_ok (by simp only [List.length_cons, List.length_nil]; omega) rfl⟩, ?_⟩; conv => whnf)
    | (refine ⟨congrArg (Option.map AO.vis) (Eq.symm (by (repeat (first | rfl | refine look_new (by assumption) (by omega) ?_ )))), ?_⟩; conv => whnf)
    | ((with_reducible refine endq_go ?_); first | (refine endq ⟨rfl, by omega, Es, some id, (by (repeat (first | assumption | refine look_new (by assumption) (by omega) ?_ ))), rfl, fun _ _ => rfl, (by rw [put_1 (by assumption)]; exact OwnAt.frame (B := B) hO (fun _ h => .inl h) (by (intro i hi hmi hlt; have hiq : i ≠ q := (fun e => hi (by rw [e]; exact hqB)); (repeat (first | rfl | refine look_new (by assumption) (by omega) ?_ ))))), fun _ h => .inl h, (by intro i hi hi2 hi3; have hi4 : i ≠ id := fun e => hi3 (by rw [e]); (repeat (first | rfl | refine look_new (by assumption) (by omega) ?_ )))⟩; done) | (refine endq ⟨rfl, by omega, Es, some id, (by (repeat (first | assumption | refine look_new (by assumption) (by omega) ?_ ))), rfl, fun _ _ => rfl, (by rw [put_2 (skip_t (by assumption) (by assumption) (by assumption))]; exact OwnAt.frame (B := B) hO (fun _ h => .inl h) (by (intro i hi hmi hlt; have hiq : i ≠ q := (fun e => hi (by rw [e]; exact hqB)); (repeat (first | rfl | refine look_new (by assumption) (by omega) ?_ ))))), fun _ h => .inl h, (by intro i hi hi2 hi3; have hi4 : i ≠ id := fun e => hi3 (by rw [e]); (repeat (first | rfl | refine look_new (by assumption) (by omega) ?_ )))⟩; done) | (refine endq ⟨rfl, by omega, ?_, none, ?_, ?_, ?_, ?_, ?_, ?_⟩; rotate_left; (focus ((repeat (first | assumption )); done)); (focus (dsimp only at *; omega)); (focus (intro i hi; (repeat (first | rfl | refine look_set (by assumption) (by omega) ?_)))); (focus (rw [put_3 (by first | exact skip_0 (by assumption) (by assumption) | exact skip_m (by assumption) (by assumption) | exact skip_e (by assumption) (by assumption) (by assumption)) (by omega)]; exact ⟨rfl, by (repeat (first | assumption ))⟩)); (focus (intro a h; cases h)); (focus (intro i hi hi2 hi3; have hi4 : i ≠ id := fun e => hi3 (by rw [e]); (repeat (first | rfl | refine look_new (by assumption) (by omega) ?_ | refine look_set (by assumption) (by omega) ?_)))); done) | (refine endq ⟨rfl, by omega, ?_, some ?_, ?_, ?_, ?_, ?_, ?_, ?_⟩; rotate_left 2; (focus ((repeat (first | assumption )); done)); (focus (dsimp only at *; omega)); (focus (intro i hi; (repeat (first | rfl | refine look_set (by assumption) (by omega) ?_)))); (focus (rw [put_4 (by first | exact skip_0 (by assumption) (by assumption) | exact skip_m (by assumption) (by assumption) | exact skip_e (by assumption) (by assumption) (by assumption)) (by omega)]; exact ⟨Eq.trans (by (repeat (first | assumption ))) (congrArg some (bw_len (x := ⟨x.id, x.w, x.recs ++ [r], x.lost⟩) (by simp only [List.length_append, List.length_cons, List.length_nil] <;> (try rw [hx]) <;> rfl))), rec_app (.inl rfl) rfl (by simp only [List.length_cons, List.length_nil] at h; omega) ht (by (repeat (first | assumption | refine look_set (by assumption) (by omega) ?_))), hb⟩)); (focus (exact fun a h => .inl h)); (focus (intro i hi hi2 hi3; have hi4 : i ≠ id := fun e => hi3 (by rw [e]); (repeat (first | rfl | refine look_new (by assumption) (by omega) ?_ | refine look_set (by assumption) (by omega) ?_)))); done) | (refine endq ⟨rfl, by omega, ?_, some ?_, ?_, ?_, ?_, ?_, ?_, ?_⟩; rotate_left 2; (focus ((repeat (first | assumption )); done)); (focus (dsimp only at *; omega)); (focus (intro i hi; (repeat (first | rfl | refine look_set (by assumption) (by omega) ?_)))); (focus (rw [put_4 (by first | exact skip_0 (by assumption) (by assumption) | exact skip_m (by assumption) (by assumption) | exact skip_e (by assumption) (by assumption) (by assumption)) (by omega)]; exact ⟨Eq.trans (by (repeat (first | assumption ))) (congrArg some (bw_len (x := ⟨x.id, x.w, x.recs ++ [r], x.lost⟩) (by simp only [List.length_append, List.length_cons, List.length_nil] <;> (try rw [hx]) <;> rfl))), rec_new (.inl rfl) (by simp only [List.length_cons, List.length_nil] at h; omega) ht (by (repeat (first | assumption | refine look_set (by assumption) (by omega) ?_))), ⟨fun hb => by have := hB _ hb; omega, by omega⟩⟩)); (focus (exact fun a h => .inr (by cases h; omega))); (focus (intro i hi hi2 hi3; have hi4 : i ≠ id := fun e => hi3 (by rw [e]); (repeat (first | rfl | refine look_new (by assumption) (by omega) ?_ | refine look_set (by assumption) (by omega) ?_)))); done))
    | fail
    )

end Go.Proofs.YtbkmjpmgiaiacaaGreatDoor

/-! Wx -/
namespace Go.Proofs.YtbkmjpmgiaiacaaGreatDoor
open Go Dw
set_option maxRecDepth 10000
set_option linter.unusedVariables false
set_option linter.unusedSimpArgs false
attribute [local irreducible] Run
set_option maxHeartbeats 4000000

open Paths
attribute [local irreducible] newD Own checkB addErr roomy bsR ixB dropB addB sz roomOf putB seesW belowI
theorem c103 (x : BW) (r : Rec) (hs : small x.recs) (hr : r.path.length < 1000) (m q j : Nat) (B : List Nat) (Es : List AV) (H0 : Heap) (hq : H0[q]? = some ⟨Es, 7, 0⟩) (hqB : q ∈ B) (hB : ∀ i ∈ B, i < H0.length) (hm : m ≤ H0.length) (o : Option Nat) (ho : OwnAt m H0 B Es[j]? x o) (j2 : Nat) (hj : j2 = j) : ∃ res H, Run Tryz.prog 103 [.ptr q j2 0, .agg [.d (i r.act), .d (.str r.path)]] H0 res H ∧ (res = .tup [] ∧ H0.length ≤ H.length ∧ ∃ Fs o2, H[q]? = some ⟨Fs, 7, 0⟩ ∧ Fs.length = Es.length ∧ (∀ i, i ≠ j → Fs[i]? = Es[i]?) ∧ OwnAt m H B Fs[j]? (putB x r) o2 ∧ (∀ a, o2 = some a → o = some a ∨ H0.length ≤ a) ∧ (∀ i, i ≠ q → i < H0.length → o ≠ some i → H[i]? = H0[i]?)) := by
  subst hj
  rcases ho.split with ⟨rfl, h1, h2⟩ | ⟨id, A, rfl, h1, h2, h3, h4, h5⟩
  · obtain ⟨res, H, k1, k2⟩ := c103n x r hs hr m q _ B Es H0 hq hqB hB hm h2 h1
    exact ⟨res, H, run_agg2 (xs := [i r.act, .str r.path]) k1, k2⟩
  · obtain ⟨res, H, k1, k2⟩ := c103s x r hs hr m q _ B Es H0 hq hqB hB hm id A h1 h2 h3 h4 h5
    exact ⟨res, H, run_agg2 (xs := [i r.act, .str r.path]) k1, k2⟩
/-- A watch after an event. -/
def tellW (e : Rec) (x : BW) : BW := if (seesW x.w e).2 = true then putB x ⟨e.act, (seesW x.w e).1⟩ else x
def wsK (e : Rec) (ws : List BW) (k : Nat) : List BW := (ws.take k).map (tellW e) ++ ws.drop k
def toldK (e : Rec) (ws : List BW) (k : Nat) : List Int := ((ws.take k).filter (fun x => (seesW x.w e).2)).map (·.id)
def told (e : Rec) (ws : List BW) : List Int := (ws.filter (fun x => (seesW x.w e).2)).map (·.id)
def tellB (b : Bd) (e : Rec) : Bd := ⟨b.ws.map (tellW e), b.next⟩
theorem wsK_len {e : Rec} {ws : List BW} {k : Nat} (h : k ≤ ws.length) : (wsK e ws k).length = ws.length := by
  unfold wsK; rw [List.length_append, List.length_map, List.length_take, List.length_drop]; omega
theorem wsK_0 (e : Rec) (ws : List BW) : wsK e ws 0 = ws := by unfold wsK; simp
theorem wsK_end {e : Rec} {ws : List BW} {k : Nat} (h : ws.length ≤ k) : wsK e ws k = ws.map (tellW e) := by
  unfold wsK; rw [List.take_of_length_le h, List.drop_eq_nil_of_le h, List.append_nil]
theorem wsK_at {e : Rec} {ws : List BW} {k : Nat} (h : k < ws.length) : (wsK e ws k)[k]? = some ws[k] := by
  unfold wsK
  rw [List.getElem?_append_right (by rw [List.length_map, List.length_take]; omega), List.length_map, List.length_take, show k - min k ws.length = 0 by omega, List.getElem?_drop, Nat.add_zero, List.getElem?_eq_getElem h]
theorem wsK_set {e : Rec} {ws : List BW} {k : Nat} (h : k < ws.length) : (wsK e ws k).set k (tellW e ws[k]) = wsK e ws (k + 1) := by
  unfold wsK
  rw [List.set_append_right _ _ (by rw [List.length_map, List.length_take]; omega), List.length_map, List.length_take, show k - min k ws.length = 0 by omega, List.drop_eq_getElem_cons h, List.set_cons_zero, List.take_succ_eq_append_getElem h, List.map_append, List.append_assoc]
  rfl
theorem wsK_same {e : Rec} {ws : List BW} {k : Nat} (h : k < ws.length) (h2 : (seesW ws[k].w e).2 = false) : wsK e ws (k + 1) = wsK e ws k := by
  rw [← wsK_set h]
  have : tellW e ws[k] = ws[k] := by unfold tellW; rw [if_neg (by rw [h2]; decide)]
  rw [this]
  apply List.ext_getElem?
  intro j
  by_cases hj : k = j
  · subst hj
    rw [List.getElem?_set_self (by rw [wsK_len (by omega)]; exact h), wsK_at h]
  · rw [List.getElem?_set_ne hj]
theorem toldK_t {e : Rec} {ws : List BW} {k : Nat} (h : k < ws.length) (h2 : (seesW ws[k].w e).2 = true) : toldK e ws (k + 1) = toldK e ws k ++ [ws[k].id] := by
  unfold toldK; rw [List.take_succ_eq_append_getElem h, List.filter_append, List.map_append]; simp [h2]
theorem toldK_f {e : Rec} {ws : List BW} {k : Nat} (h : k < ws.length) (h2 : (seesW ws[k].w e).2 = false) : toldK e ws (k + 1) = toldK e ws k := by
  unfold toldK; rw [List.take_succ_eq_append_getElem h, List.filter_append, List.map_append]; simp [h2]
theorem toldK_end {e : Rec} {ws : List BW} {k : Nat} (h : ws.length ≤ k) : toldK e ws k = told e ws := by
  unfold toldK told; rw [List.take_of_length_le h]
theorem toldK_len {e : Rec} {ws : List BW} {k : Nat} : (toldK e ws k).length ≤ k := by
  unfold toldK
  rw [List.length_map]
  have := List.length_filter_le (fun x : BW => (seesW x.w e).2) (ws.take k)
  rw [List.length_take] at this; omega
def Told (H : Heap) (m : Nat) (X : List Nat) (cv : AV) (l : List Int) : Prop := (l = [] ∧ cv = .nilS ∧ X = []) ∨ ∃ t, cv = .sl t 0 l.length 1 none ∧ H[t]? = some ⟨(l.map i).map .d, 1, 0⟩ ∧ X = [t] ∧ m ≤ t
theorem Told.lt {H : Heap} {m z : Nat} {X : List Nat} {cv : AV} {l : List Int} (h : Told H m X cv l) (hz : z ∉ X) : (l = [] ∧ cv = .nilS ∧ X = []) ∨ ∃ t, cv = .sl t 0 l.length 1 none ∧ H[t]? = some ⟨(l.map i).map .d, 1, 0⟩ ∧ X = [t] ∧ m ≤ t ∧ t < H.length ∧ z ≠ t := by
  rcases h with h | ⟨t, h1, h2, h3, h4⟩
  · exact .inl h
  · exact .inr ⟨t, h1, h2, h3, h4, lt_of_at h2, fun e => hz (by rw [h3, e]; simp)⟩
theorem Told.frame {H H' : Heap} {m : Nat} {X : List Nat} {cv : AV} {l : List Int} (h : Told H m X cv l) (hf : ∀ i ∈ X, H'[i]? = H[i]?) : Told H' m X cv l := by
  rcases h with h | ⟨t, h1, h2, h3, h4⟩
  · exact .inl h
  · exact .inr ⟨t, h1, by rw [hf t (by rw [h3]; simp)]; exact h2, h3, h4⟩
theorem Told.view {H : Heap} {m n : Nat} {X : List Nat} {cv : AV} {l : List Int} (h : Told H m X cv l) : view (n + 2) H cv = some (.fs (l.map i)) := by
  rcases h with ⟨rfl, rfl, _⟩ | ⟨t, rfl, h2, _⟩
  · rfl
  · exact view_map h2 Nat.two_pos
theorem flat_ints (H : Heap) (n : Nat) : ∀ l : List Int, ((l.map i).map AV.d).flatMap (reach n H) = []
  | [] => rfl
  | x :: l => by
    rw [List.map_cons, List.map_cons, List.flatMap_cons, flat_ints H n l]
    cases n <;> rfl
theorem Told.reach {H : Heap} {m n : Nat} {X : List Nat} {cv : AV} {l : List Int} (h : Told H m X cv l) : reach (n + 1) H cv = X := by
  rcases h with ⟨rfl, rfl, rfl⟩ | ⟨t, rfl, h2, rfl, _⟩
  · rfl
  · show t :: (match H[t]? with | some o => o.elems.flatMap (Dw.reach n H) | none => []) = [t]
    rw [h2]
    simp only [flat_ints]
/-- A board in memory of its own, none of it at X. -/
def BHX (m : Nat) (H : Heap) (p : Nat) (b : Bd) (X : List Nat) : Prop :=
  ∃ (q : Nat) (Es : List AV), H[p]? = some ⟨[.agg [.sl q 0 b.ws.length 7 none, .d (i b.next)]], 2, 0⟩ ∧ H[q]? = some ⟨Es, 7, 0⟩ ∧ b.ws.length ≤ Es.length ∧ (p ≠ q ∧ m ≤ p ∧ m ≤ q) ∧ (p ∉ X ∧ q ∉ X) ∧ Own m H ([p, q] ++ X) Es b.ws b.ws.length
theorem BHX.frame {m : Nat} {H H' : Heap} {p : Nat} {b : Bd} {X : List Nat} (h : BHX m H p b X) (hf : ∀ i, i ∉ X → H'[i]? = H[i]?) : BH m H' p b := by
  obtain ⟨q, Es, h1, h2, h3, h4, h5, h6⟩ := h
  exact ⟨q, Es, by rw [hf p h5.1]; exact h1, by rw [hf q h5.2]; exact h2, h3, h4, h6.frame (fun i hi => .inl (List.mem_append_left _ hi)) fun i hi _ _ => hf i fun h => hi (List.mem_append_right _ h)⟩
theorem at_of {ws : List BW} {k : Nat} {x : BW} (h : ws[k]? = some x) : ∃ hk : k < ws.length, ws[k] = x := List.getElem?_eq_some_iff.1 h
theorem wsK_put {e : Rec} {ws : List BW} {k : Nat} {x : BW} (h : ws[k]? = some x) (h2 : (seesW x.w e).2 = true) : (wsK e ws k).set k (putB x ⟨e.act, (seesW x.w e).1⟩) = wsK e ws (k + 1) := by
  obtain ⟨hk, rfl⟩ := at_of h
  rw [← wsK_set hk]
  congr 1
  unfold tellW; rw [if_pos h2]
theorem wsK_no {e : Rec} {ws : List BW} {k : Nat} {x : BW} (h : ws[k]? = some x) (h2 : (seesW x.w e).2 = false) : wsK e ws (k + 1) = wsK e ws k := by
  obtain ⟨hk, rfl⟩ := at_of h
  exact wsK_same hk h2
theorem told_t {e : Rec} {ws : List BW} {k : Nat} {x : BW} (h : ws[k]? = some x) (h2 : (seesW x.w e).2 = true) : toldK e ws (k + 1) = toldK e ws k ++ [x.id] := by
  obtain ⟨hk, rfl⟩ := at_of h
  exact toldK_t hk h2
theorem told_f {e : Rec} {ws : List BW} {k : Nat} {x : BW} (h : ws[k]? = some x) (h2 : (seesW x.w e).2 = false) : toldK e ws (k + 1) = toldK e ws k := by
  obtain ⟨hk, rfl⟩ := at_of h
  exact toldK_f hk h2
theorem Told.one {H : Heap} {m t : Nat} {n : Int} {l : List Int} (hl : l = []) (h : H[t]? = some ⟨[.d (i n)], 1, 0⟩) (hm : m ≤ t) : Told H m [t] (.sl t 0 1 1 none) (l ++ [n]) := by
  subst hl; exact .inr ⟨t, rfl, h, rfl, hm⟩
theorem Told.snoc {H : Heap} {m t : Nat} {n : Int} {l : List Int} (h : H[t]? = some ⟨(l.map i).map .d ++ [.d (i n)], 1, 0⟩) (hm : m ≤ t) : Told H m [t] (.sl t 0 (l.length + 1) 1 none) (l ++ [n]) := by
  refine .inr ⟨t, by rw [List.length_append, List.length_singleton], ?_, rfl, hm⟩
  rw [h, List.map_append, List.map_append]; rfl
theorem Own.lookK {m : Nat} {H : Heap} {B : List Nat} {E : List AV} {e : Rec} {ws : List BW} {n k : Nat} (h : Own m H B E (wsK e ws k) n) (hn : n = ws.length) (hk : k ≤ ws.length) : n ≤ k ∨ (k < n ∧ ∃ (x : BW) (o : Option Nat) (a : AV), ws[k]? = some x ∧ E[k]? = some (.agg [.d (i x.id), .d (.str x.w.path), .d (.bool x.w.deep), .d (i x.w.filter), .d (i x.w.room), a, .d (.bool x.lost)]) ∧ OwnAt m H B E[k]? x o ∧ ∀ (H' : Heap) (B' : List Nat) (F : List AV) (x' : BW) (o' : Option Nat), (∀ i, i ∈ B' → i ∈ B ∨ H.length ≤ i) → (∀ i, i ≠ k → F[i]? = E[i]?) → OwnAt m H' B' F[k]? x' o' → (∀ a, o' = some a → o = some a ∨ H.length ≤ a) → (∀ i, i ∉ B → m ≤ i → i < H.length → o ≠ some i → H'[i]? = H[i]?) → Own m H' B' F ((wsK e ws k).set k x') n) := by
  subst hn
  by_cases hk2 : k < ws.length
  · obtain ⟨o, h1, h2⟩ := h.focus (Nat.le_of_eq (wsK_len hk).symm) hk2
    have h3 : (wsK e ws k)[k]'(by rw [wsK_len hk]; exact hk2) = ws[k] := by
      have := wsK_at (e := e) hk2
      rw [List.getElem?_eq_getElem (by rw [wsK_len hk]; exact hk2)] at this
      exact Option.some.inj this
    rw [h3] at h1
    refine .inr ⟨hk2, ws[k], o, ?_⟩
    rcases h1.split with ⟨_, _, e⟩ | ⟨id, A, _, e, _⟩
    · exact ⟨.nilS, List.getElem?_eq_getElem hk2, e, h1, h2⟩
    · exact ⟨_, List.getElem?_eq_getElem hk2, e, h1, h2⟩
  · exact .inl (by omega)
theorem OwnAt.ne {m : Nat} {H : Heap} {B : List Nat} {e : Option AV} {x : BW} {o : Option Nat} (h : OwnAt m H B e x o) : (∀ i, i ∈ B → o ≠ some i) ∧ ∀ i, i < m → o ≠ some i := by
  cases o with
  | none => exact ⟨fun _ _ e => (by cases e), fun _ _ e => (by cases e)⟩
  | some a =>
    obtain ⟨_, _, h3, h4⟩ := h
    exact ⟨fun i hi e => (by cases e; exact h3 hi), fun i hi e => (by cases e; omega)⟩
theorem BHX.of {m : Nat} {H : Heap} {p q n : Nat} {b : Bd} {X : List Nat} {Es : List AV} (hn : n = b.ws.length) (hp : H[p]? = some ⟨[.agg [.sl q 0 n 7 none, .d (i b.next)]], 2, 0⟩) (hq : H[q]? = some ⟨Es, 7, 0⟩) (hE : n ≤ Es.length) (hd : p ≠ q ∧ m ≤ p ∧ m ≤ q) (hX : p ∉ X ∧ q ∉ X) (ho : Own m H ([p, q] ++ X) Es b.ws n) : BHX m H p b X := by
  subst hn; exact ⟨q, Es, hp, hq, hE, hd, hX, ho⟩
theorem tellB_len (b : Bd) (e : Rec) : b.ws.length = (tellB b e).ws.length := by unfold tellB; rw [List.length_map]
theorem sees_len {w : Wt} {e : Rec} (he : eventErr e.act e.path = 0) : (seesW w e).1.length < 1000 := by
  obtain ⟨_, h5, _⟩ := eventErr_ok he
  obtain ⟨h1, h2⟩ := plain_small h5
  unfold seesW belowI
  split
  · decide
  · split
    · exact glue_drop h1 h2 _
    · decide

theorem c66e (b : Bd) (e : Rec) (hea : e.act < 9223372036854775808) (he : ¬ eventErr e.act e.path = 0) (m p : Nat) (H0 : Heap) (hm : m ≤ H0.length) : ∃ r H, Run Tryz.prog 66 [.ptr p 0 0, .d e.enc] H0 r H ∧ (r = .tup [.nilS, .d (i (eventErr e.act e.path))] ∧ H0.length ≤ H.length ∧ (∀ i, i < m → H[i]? = H0[i]?) ∧ ∀ i, i < H0.length → H[i]? = H0[i]?) := by
  refine run_walkQ eok Tryz.func66 rfl (by kernel_rfl) ?_
  conv => whnf
  repeat' (first
    | ((with_reducible refine on_ndec_f (by assumption) ?_); conv => whnf)
    | ((with_reducible refine call_go ?_); (first | refine call_step (run_view (c14 e hea) rfl rfl) ?_ ); conv => whnf)
    | (refine newG (fun n H hn hl hf ho => ?_); conv => whnf)
    | (refine nthG (x := ?_) ?_ ?_; rotate_left; (focus ((repeat (first | assumption )); done)); conv => whnf)
    | ((with_reducible refine endq_go ?_); first | (exact endq ⟨rfl, by omega, (by (intro i hi; (repeat (first | rfl | refine look_new (by assumption) (by omega) ?_ )))), (by (intro i hi; (repeat (first | rfl | refine look_new (by assumption) (by omega) ?_ ))))⟩; done))
    | fail
    )

theorem BH.le {m : Nat} {H : Heap} {p : Nat} {b : Bd} (h : BH m H p b) : m ≤ H.length := by
  obtain ⟨q, Es, hp, hq, hE, ⟨hpq, hmp, hmq⟩, hO⟩ := h
  have := lt_of_at hp; omega
end Go.Proofs.YtbkmjpmgiaiacaaGreatDoor

/-! Wy -/
namespace Go.Proofs.YtbkmjpmgiaiacaaGreatDoor
open Go Dw
set_option maxRecDepth 10000
set_option linter.unusedVariables false
set_option linter.unusedSimpArgs false
attribute [local irreducible] Run
set_option maxHeartbeats 4000000

open Paths
attribute [local irreducible] newD Own checkB addErr roomy bsR ixB dropB addB sz roomOf putB seesW belowI tellB told
def tellErr (b : Bd) (e : Rec) : Int := if (checkB b).2 = 0 then eventErr e.act e.path else (checkB b).2
theorem tellE_c {b : Bd} {e : Rec} (h : (checkB b).2 = 0) : tellErr b e = eventErr e.act e.path := if_pos h
theorem tellE_n {b : Bd} {e : Rec} (h : ¬ (checkB b).2 = 0) : tellErr b e = (checkB b).2 := if_neg h

theorem Told.bd {H : Heap} {m : Nat} {X : List Nat} {cv : AV} {l : List Int} (h : Told H m X cv l) : ∀ i ∈ X, i < H.length := by
  rcases h with ⟨_, _, rfl⟩ | ⟨t, _, h2, rfl, _⟩
  · exact fun i h => by cases h
  · exact fun i hi => by rw [List.mem_singleton.1 hi]; exact lt_of_at h2
theorem appT {ti : TI} {H : Heap} {m : Nat} {X : List Nat} {cv : AV} {l : List Int} {n : Int} {K : KV} (hT : Told H m X cv l) (hl : l.length < 1000000) (hm : m ≤ H.length) (h1 : (ti.kind != 0 && Nat.blt 0 ti.bytes) = true) (h2 : 1 = ti.size) (h3 : ti.bytes ≤ 8)
    (k : ∀ (t : Nat) (H' : Heap), t = H.length → H.length < H'.length → (∀ i, i ∉ X → i < H.length → H'[i]? = H[i]?) → Told H' m [t] (.sl t 0 (l.length + 1) 1 none) (l ++ [n]) → K (.sl t 0 (l.length + 1) 1 none) H') : appD ti cv [.d (i n)] H K := by
  rcases hT with ⟨rfl, rfl, rfl⟩ | ⟨t, rfl, ht, rfl, hmt⟩
  · refine app1n h1 (by omega) fun t H' h4 h5 h6 h7 => ?_
    rw [← h2] at h7 ⊢
    exact k t H' h4.symm (by omega) (fun i _ hi => h6 i (by omega)) (.inr ⟨t, rfl, h7, rfl, by omega⟩)
  · refine app1 ht (by simp) h2 h1 (by have := Nat.mul_le_mul (show l.length + 1 ≤ 1000000 by omega) h3; omega) fun id' A' H' g1 g2 g3 g4 g5 g6 g7 g8 g9 => ?_
    obtain ⟨e1, e2⟩ := g3 (by simp)
    refine k id' H' e2 (by omega) (fun i hi hl => g9 i (by simpa using hi) hl) (.inr ⟨id', by rw [List.length_append, List.length_singleton], ?_, rfl, by omega⟩)
    rw [g1, e1, List.map_append, List.map_append]; rfl
theorem appR {ti : TI} {H : Heap} {id : Nat} {A : List AV} {a : AV} {l : List Rec} {r : Rec} {K : KV} (hid : H[id]? = some ⟨A, 2, 0⟩) (hl : l.length ≤ A.length) (ht : ∀ (j : Nat) (r : Rec), l[j]? = some r → ∃ a : AV, A[j]? = some a ∧ RecV a r) (hv : RecV a r) (hn : l.length < 1000000) (h1 : (ti.kind != 0 && Nat.blt 0 ti.bytes) = true) (h2 : 2 = ti.size) (h3 : ti.bytes ≤ 80)
    (k : ∀ (id' : Nat) (H' : Heap), RecAt H' id' (l ++ [r]) → (id' = id ∨ id' = H.length) → H.length ≤ H'.length → id' < H'.length → (∀ i, i ≠ id → i < H.length → H'[i]? = H[i]?) → K (.sl id' 0 (l.length + 1) 2 none) H') : appD ti (.sl id 0 l.length 2 none) [a] H K := by
  refine app1 hid hl h2 h1 (by have := Nat.mul_le_mul (show l.length + 1 ≤ 1000000 by omega) h3; omega) fun id' A' H' g1 g2 g3 g4 g5 g6 g7 g8 g9 => ?_
  refine k id' H' ⟨A', g1, by rw [List.length_append, List.length_singleton]; exact g2, fun j r' hr => ?_⟩ g6 g7 g8 g9
  rw [List.getElem?_append] at hr
  split at hr
  · rename_i hj
    rw [g4 j hj]
    exact ht j r' hr
  · have hj2 : j - l.length = 0 := by
      have := (List.getElem?_eq_some_iff.1 hr).1
      simp only [List.length_singleton] at this; omega
    have hj3 : j = l.length := by omega
    rw [hj2] at hr; cases hr
    rw [hj3, g5]
    exact ⟨_, rfl, hv⟩
theorem appR0 {ti : TI} {H : Heap} {a : AV} {r : Rec} {x : BW} {K : KV} (hx : x.recs = []) (hv : RecV a r) (h1 : (ti.kind != 0 && Nat.blt 0 ti.bytes) = true) (h2 : 2 = ti.size) (h3 : ti.bytes ≤ 80)
    (k : ∀ (id' : Nat) (H' : Heap), RecAt H' id' (x.recs ++ [r]) → id' = H.length → H.length ≤ H'.length → id' < H'.length → (∀ i, i < H.length → H'[i]? = H[i]?) → K (.sl id' 0 1 2 none) H') : appD ti .nilS [a] H K := by
  refine app1n h1 (by omega) fun t H' h4 h5 h6 h7 => ?_
  rw [← h2] at h7 ⊢
  refine k t H' ?_ h4.symm (by omega) (by omega) (fun i hi => h6 i (by omega))
  rw [hx]
  exact ⟨_, h7, Nat.le_refl _, fun j r' hr => by
    cases j with
    | zero => cases hr; exact ⟨_, rfl, hv⟩
    | succ j => cases hr⟩
/-- What a watch of the row may be changed into. -/
def Sets (m : Nat) (H : Heap) (B : List Nat) (E : List AV) (l : List BW) (k n : Nat) (o : Option Nat) : Prop :=
  ∀ (H' : Heap) (B' : List Nat) (F : List AV) (x' : BW) (o' : Option Nat), (∀ i, i ∈ B' → i ∈ B ∨ H.length ≤ i) → (∀ i, i ≠ k → F[i]? = E[i]?) → OwnAt m H' B' F[k]? x' o' → (∀ a, o' = some a → o = some a ∨ H.length ≤ a) → (∀ i, i ∉ B → m ≤ i → i < H.length → o ≠ some i → H'[i]? = H[i]?) → Own m H' B' F (l.set k x') n
theorem Own.lookS {m : Nat} {H : Heap} {B : List Nat} {E : List AV} {e : Rec} {ws : List BW} {n k : Nat} (h : Own m H B E (wsK e ws k) n) (hn : n = ws.length) (hk : k ≤ ws.length) : n ≤ k ∨ (k < n ∧ ∃ (x : BW), ws[k]? = some x ∧
    ((x.recs = [] ∧ E[k]? = some (.agg [.d (i x.id), .d (.str x.w.path), .d (.bool x.w.deep), .d (i x.w.filter), .d (i x.w.room), .nilS, .d (.bool x.lost)]) ∧ OwnAt m H B E[k]? x none ∧ Sets m H B E (wsK e ws k) k n none) ∨
    ∃ (id : Nat) (A : List AV), E[k]? = some (.agg [.d (i x.id), .d (.str x.w.path), .d (.bool x.w.deep), .d (i x.w.filter), .d (i x.w.room), .sl id 0 x.recs.length 2 none, .d (.bool x.lost)]) ∧ H[id]? = some ⟨A, 2, 0⟩ ∧ x.recs.length ≤ A.length ∧ (∀ (j : Nat) (r : Rec), x.recs[j]? = some r → ∃ a : AV, A[j]? = some a ∧ RecV a r) ∧ (id ∉ B ∧ m ≤ id) ∧ id < H.length ∧ OwnAt m H B E[k]? x (some id) ∧ Sets m H B E (wsK e ws k) k n (some id))) := by
  rcases h.lookK hn hk with h1 | ⟨h1, x, o, a, h2, h3, h4, h5⟩
  · exact .inl h1
  · refine .inr ⟨h1, x, h2, ?_⟩
    rcases h4.split with ⟨rfl, k1, k2⟩ | ⟨id, A, rfl, k1, k2, k3, k4, k5⟩
    · exact .inl ⟨k1, k2, h4, h5⟩
    · exact .inr ⟨id, A, k1, k2, k3, k4, k5, lt_of_at k2, h4, h5⟩

theorem OwnAt.frameM {m : Nat} {H H' : Heap} {B B' : List Nat} {e : Option AV} {x : BW} {o : Option Nat} (h : OwnAt m H B e x o) (hB : ∀ i, i ∈ B' → i ∈ B ∨ i < m ∨ H.length ≤ i) (hf : ∀ i, i ∉ B → m ≤ i → i < H.length → H'[i]? = H[i]?) : OwnAt m H' B' e x o := by
  cases o with
  | none => exact h
  | some id =>
    obtain ⟨a1, a2, a3⟩ := h
    have hlt := a2.lt
    refine ⟨a1, a2.look (hf _ a3.1 a3.2 hlt), fun hb => ?_, a3.2⟩
    rcases hB _ hb with h | h | h
    · exact a3.1 h
    · have := a3.2; omega
    · omega
theorem Own.frameM {m : Nat} {H H' : Heap} {B B' : List Nat} {E : List AV} {ws : List BW} {k : Nat} (h : Own m H B E ws k) (hB : ∀ i, i ∈ B' → i ∈ B ∨ i < m ∨ H.length ≤ i) (hf : ∀ i, i ∉ B → m ≤ i → i < H.length → H'[i]? = H[i]?) : Own m H' B' E ws k := by
  unfold Own at h ⊢
  obtain ⟨ids, h1, h2⟩ := h
  exact ⟨ids, fun j x hj hx => (h1 j x hj hx).frameM hB hf, h2⟩
theorem OwnAt.lower {m : Nat} {H : Heap} {B : List Nat} {e : Option AV} {x : BW} {o : Option Nat} (h : OwnAt m H B e x o) : OwnAt 0 H B e x o := by
  cases o with
  | none => exact h
  | some id => exact ⟨h.1, h.2.1, h.2.2.1, Nat.zero_le _⟩
theorem Own.lower {m : Nat} {H : Heap} {B : List Nat} {E : List AV} {ws : List BW} {k : Nat} (h : Own m H B E ws k) : Own 0 H B E ws k := by
  unfold Own at h ⊢
  obtain ⟨ids, h1, h2⟩ := h
  exact ⟨ids, fun j x hj hx => (h1 j x hj hx).lower, h2⟩
attribute [local irreducible] appD

theorem c23s (b : Bd) (e : Rec) (hb : SB b) (hws : 0 < b.ws.length) (hv : ∀ x ∈ b.ws, watchErr x.w.path x.w.filter x.w.room = 0) (he : eventErr e.act e.path = 0) (H0 : Heap) : ∃ r H, Run Tryz.prog 23 [.d b.enc, .d e.enc] H0 r H ∧ view 8 H r = some (.tup [(tellB b e).enc, .fs ((told e b.ws).map i)]) := by
  have hbn := hb.n; have hea := (isAct_iff.1 (eventErr_ok he).1); have hea : e.act < 9223372036854775808 := (by omega)
  refine run_walkQ eok Tryz.func23 rfl (by kernel_rfl) ?_
  conv => whnf
  repeat' (first
    | ((with_reducible refine on_dec_f ?_ ?_); (focus ((try simp only [List.length_map, List.length_cons, List.length_nil, List.length_append]); omega)); conv => whnf)
    | ((with_reducible refine on_dec_t ?_ ?_); (focus ((try simp only [List.length_map, List.length_cons, List.length_nil, List.length_append]); omega)); conv => whnf)
    | ((with_reducible refine on_dec (fun h => ?_) (fun h => ?_)) <;> (try simp only [List.length_map] at h) <;> conv => whnf)
    | ((with_reducible refine on_not (fun h => ?_) (fun h => ?_)) <;> conv => whnf)
    | ((with_reducible refine onBool_split (fun h => ?_) (fun h => ?_)) <;> conv => whnf)
    | (refine call_stepQ (c20o b hb _) (fun r H hQ => ?_); obtain ⟨cw, rfl, hR, hgl, hf⟩ := hQ; rcases hR with ⟨hk0, rfl⟩ | ⟨q, Es, rfl, hqq, hEl, ⟨hqB, hqm⟩, hO⟩; (focus (exfalso; omega)); have hlq := lt_of_at hqq; conv => whnf)
    | ((with_reducible refine call_go ?_); (first | refine call_step (run_view (c17' x.w e (hv x (List.mem_of_getElem? hx)) he) rfl rfl) ?_ | refine call_step (run_view (c67 _) rfl rfl) ?_ | refine call_step (run_view (c68 [] ⟨by decide, fun _ h => by cases h⟩) rfl rfl) ?_ | refine call_step (run_view (c68 x.recs (hb.r x (List.mem_of_getElem? hx))) rfl (vlc (view_rec ⟨A, (by (repeat (first | with_reducible assumption | refine look_new (by with_reducible assumption) (by omega) ?_ | refine look_set (by with_reducible assumption) (by omega) ?_ | refine look_appX (by with_reducible assumption) (by with_reducible assumption) (by omega) ?_ ))), hl0, ht⟩) vln)) ?_ | refine call_step (run_view (c32 ⟨e.act, (seesW x.w e).1⟩ (by have := sees_len (w := x.w) he; show (seesW x.w e).1.length < 1000000; omega)) rfl rfl) ?_); conv => whnf)
    | (refine ⟨[], [], (by decide +kernel), ?_⟩; conv => whnf)
    | (refine ⟨[], [(5, 4), (12, 4), (12, 6)], (by decide +kernel), ?_⟩; conv => whnf)
    | (refine ⟨[], [(4, 6)], (by decide +kernel), ?_⟩; conv => whnf)
    | ((with_reducible refine loop_go ?_); first | (apply loopG6 (fun (k : Nat) (cv : AV) (X : List Nat) (z : Nat) (y : Nat) (p : Nat) (H : Heap) => b.ws.length - k) (fun (k : Nat) (cv : AV) (X : List Nat) (z : Nat) (y : Nat) (p : Nat) (H : Heap) => ((k ≤ b.ws.length ∧ H[p]? = some ⟨[.agg [.sl q 0 b.ws.length 7 none, .d (i b.next)]], 2, 0⟩ ∧ H[z]? = some ⟨[.d e.enc], 2, 0⟩ ∧ H[y]? = some ⟨[(E 39).zero], (E 39).size, 0⟩) ∧ (p ≠ q ∧ p ≠ z ∧ p ≠ y ∧ q ≠ z ∧ q ≠ y ∧ z ≠ y) ∧ (p ∉ X ∧ q ∉ X ∧ z ∉ X ∧ y ∉ X)) ∧ Told H 0 X cv (toldK e b.ws k) ∧ ∃ Es, H[q]? = some ⟨Es, 7, 0⟩ ∧ b.ws.length ≤ Es.length ∧ Own 0 H (X ++ [p, q, z, y]) Es (wsK e b.ws k) b.ws.length) (fun (k : Nat) (cv : AV) (X : List Nat) (z : Nat) (y : Nat) (p : Nat) (H : Heap) => [(3, .ptr z 0 0), (4, .ptr y 0 0), (6, .ptr p 0 0), (7, cv), (8, .d (i k))]) (0) (.nilS) ([]); rotate_left; (focus (exact .inl ⟨rfl, ⟨(by first | rfl ), (by first | rfl ), (by first | rfl ), (by first | rfl ), (by first | rfl ), trivial⟩⟩)); rotate_left; (focus (exact ⟨⟨⟨Nat.zero_le _, (by (repeat (first | assumption ))), (by (repeat (first | assumption | refine look_new (by assumption) (by omega) ?_ | refine look_set (by assumption) (by omega) ?_))), (by (repeat (first | assumption | refine look_new (by assumption) (by omega) ?_ | refine look_set (by assumption) (by omega) ?_)))⟩, by omega, by simp⟩, .inl ⟨rfl, rfl, rfl⟩, Es, (by (repeat (first | assumption | refine look_new (by assumption) (by omega) ?_ | refine look_set (by assumption) (by omega) ?_))), hEl, by rw [wsK_0]; exact Own.lower (hO.frameM (by (intro i hi; simp only [List.nil_append, List.mem_append, List.mem_cons, List.not_mem_nil, or_false] at hi ⊢; omega)) (by (intro i hi hmi hlt; simp only [List.mem_append, List.mem_cons, List.not_mem_nil, or_false, not_or] at hi; (repeat (first | with_reducible rfl | refine look_new (by with_reducible assumption) (by omega) ?_ | refine look_set (by with_reducible assumption) (by omega) ?_ )))))⟩)); intro k cv X z y p H C hI hC; have htk := toldK_len (e := e) (ws := b.ws) (k := k); obtain ⟨⟨⟨hk, h0, h1, h2⟩, hd4, hx1, hx2, hx3, hx4⟩, hT, Es, hqq, hEl, hO⟩ := hI; have hl0 := lt_of_at h0; have hl1 := lt_of_at h1; have hl2 := lt_of_at hqq; have hl3 := lt_of_at h2; have hXl := hT.bd; rcases hO.lookS rfl hk with hge | ⟨hkk, x, hx, ⟨hxe, hEk, hoK, hset⟩ | ⟨id, A, hEk, hid, hl0, ht, hbb, hidl, hoK, hset⟩⟩; all_goals (first | (simp only [List.mem_append, List.mem_cons, List.not_mem_nil, or_false, not_or] at hbb; obtain ⟨⟨hbX, hbb⟩, _⟩ := hbb) | skip); all_goals (conv => whnf)))
    | ((with_reducible show C _ _); first | (refine hC (k + 1) (.sl t9 0 ((toldK e b.ws k).length + 1) 1 none) ([t9]) (z) (y) (p) _ _ ?_ (by omega) ?_; clear hC; rotate_left; (exact ⟨(by first | rfl ), (by first | rfl ), (by first | rfl ), (by first | rfl ), (by first | rfl ), trivial⟩); (have _ := hxe; have kk : x.lost = true := (by with_reducible assumption); refine ⟨⟨⟨by omega, (by (repeat (first | with_reducible assumption | refine look_new (by with_reducible assumption) (by omega) ?_ | refine look_set (by with_reducible assumption) (by omega) ?_ | refine look_appX (by with_reducible assumption) (by with_reducible assumption) (by omega) ?_ ))), (by (repeat (first | with_reducible assumption | refine look_new (by with_reducible assumption) (by omega) ?_ | refine look_set (by with_reducible assumption) (by omega) ?_ | refine look_appX (by with_reducible assumption) (by with_reducible assumption) (by omega) ?_ ))), (by (repeat (first | with_reducible assumption | refine look_new (by with_reducible assumption) (by omega) ?_ | refine look_set (by with_reducible assumption) (by omega) ?_ | refine look_appX (by with_reducible assumption) (by with_reducible assumption) (by omega) ?_ )))⟩, hd4, by simp <;> omega⟩, (by rw [told_t hx (by assumption)]; exact hT9.frame (by intro i hi; rw [List.mem_singleton.1 hi]; (repeat (first | with_reducible rfl | refine look_new (by with_reducible assumption) (by omega) ?_ | refine look_set (by with_reducible assumption) (by omega) ?_ )))), ?_, ?_, ?_, ?_⟩; rotate_left; (focus ((repeat (first | with_reducible assumption | refine look_new (by with_reducible assumption) (by omega) ?_ | refine look_set (by with_reducible assumption) (by omega) ?_ | refine look_appX (by with_reducible assumption) (by with_reducible assumption) (by omega) ?_ )); done)); (focus ((try dsimp only at *); omega)); (focus (rw [← wsK_put hx (by assumption)]; exact hset H ([t9] ++ [p, q, z, y]) _ _ none (by (intro i hi; rcases List.mem_append.1 hi with hi | hi; (focus (rw [List.mem_singleton.1 hi]; right; omega)); (focus (left; exact List.mem_append_right _ hi)))) (by intro i hi; (repeat (first | with_reducible rfl ))) (by rw [put_1 kk]; exact OwnAt.frame hoK (by (intro i hi; rcases List.mem_append.1 hi with hi | hi; (focus (rw [List.mem_singleton.1 hi]; right; omega)); (focus (left; exact List.mem_append_right _ hi)))) (by (intro i hi hmi hlt; simp only [List.mem_append, List.mem_cons, List.not_mem_nil, or_false, not_or] at hi; obtain ⟨hiX, hi⟩ := hi; (repeat (first | with_reducible rfl | refine look_new (by with_reducible assumption) (by omega) ?_ | refine look_set (by with_reducible assumption) (by omega) ?_ | refine look_appX (by with_reducible assumption) (by with_reducible assumption) (by omega) ?_ ))))) (fun a h => .inl h) (by intro i hi hmi hlt hoi; simp only [List.mem_append, List.mem_cons, List.not_mem_nil, or_false, not_or] at hi; obtain ⟨hiX, hi⟩ := hi; (repeat (first | with_reducible rfl | refine look_new (by with_reducible assumption) (by omega) ?_ | refine look_set (by with_reducible assumption) (by omega) ?_ | refine look_appX (by with_reducible assumption) (by with_reducible assumption) (by omega) ?_ ))))))) | (refine hC (k + 1) (.sl t9 0 ((toldK e b.ws k).length + 1) 1 none) ([t9]) (z) (y) (p) _ _ ?_ (by omega) ?_; clear hC; rotate_left; (exact ⟨(by first | rfl ), (by first | rfl ), (by first | rfl ), (by first | rfl ), (by first | rfl ), trivial⟩); (have _ := hid; have kk : x.lost = true := (by with_reducible assumption); refine ⟨⟨⟨by omega, (by (repeat (first | with_reducible assumption | refine look_new (by with_reducible assumption) (by omega) ?_ | refine look_set (by with_reducible assumption) (by omega) ?_ | refine look_appX (by with_reducible assumption) (by with_reducible assumption) (by omega) ?_ ))), (by (repeat (first | with_reducible assumption | refine look_new (by with_reducible assumption) (by omega) ?_ | refine look_set (by with_reducible assumption) (by omega) ?_ | refine look_appX (by with_reducible assumption) (by with_reducible assumption) (by omega) ?_ ))), (by (repeat (first | with_reducible assumption | refine look_new (by with_reducible assumption) (by omega) ?_ | refine look_set (by with_reducible assumption) (by omega) ?_ | refine look_appX (by with_reducible assumption) (by with_reducible assumption) (by omega) ?_ )))⟩, hd4, by simp <;> omega⟩, (by rw [told_t hx (by assumption)]; exact hT9.frame (by intro i hi; rw [List.mem_singleton.1 hi]; (repeat (first | with_reducible rfl | refine look_new (by with_reducible assumption) (by omega) ?_ | refine look_set (by with_reducible assumption) (by omega) ?_ )))), ?_, ?_, ?_, ?_⟩; rotate_left; (focus ((repeat (first | with_reducible assumption | refine look_new (by with_reducible assumption) (by omega) ?_ | refine look_set (by with_reducible assumption) (by omega) ?_ | refine look_appX (by with_reducible assumption) (by with_reducible assumption) (by omega) ?_ )); done)); (focus ((try dsimp only at *); omega)); (focus (rw [← wsK_put hx (by assumption)]; exact hset H ([t9] ++ [p, q, z, y]) _ _ (some id) (by (intro i hi; rcases List.mem_append.1 hi with hi | hi; (focus (rw [List.mem_singleton.1 hi]; right; omega)); (focus (left; exact List.mem_append_right _ hi)))) (by intro i hi; (repeat (first | with_reducible rfl ))) (by rw [put_1 kk]; exact OwnAt.frame hoK (by (intro i hi; rcases List.mem_append.1 hi with hi | hi; (focus (rw [List.mem_singleton.1 hi]; right; omega)); (focus (left; exact List.mem_append_right _ hi)))) (by (intro i hi hmi hlt; simp only [List.mem_append, List.mem_cons, List.not_mem_nil, or_false, not_or] at hi; obtain ⟨hiX, hi⟩ := hi; (repeat (first | with_reducible rfl | refine look_new (by with_reducible assumption) (by omega) ?_ | refine look_set (by with_reducible assumption) (by omega) ?_ | refine look_appX (by with_reducible assumption) (by with_reducible assumption) (by omega) ?_ ))))) (fun a h => .inl h) (by intro i hi hmi hlt hoi; have hoi2 : i ≠ id := fun e => hoi (by rw [e]); simp only [List.mem_append, List.mem_cons, List.not_mem_nil, or_false, not_or] at hi; obtain ⟨hiX, hi⟩ := hi; (repeat (first | with_reducible rfl | refine look_new (by with_reducible assumption) (by omega) ?_ | refine look_set (by with_reducible assumption) (by omega) ?_ | refine look_appX (by with_reducible assumption) (by with_reducible assumption) (by omega) ?_ ))))))) | (refine hC (k + 1) (.sl t9 0 ((toldK e b.ws k).length + 1) 1 none) ([t9]) (z) (y) (p) _ _ ?_ (by omega) ?_; clear hC; rotate_left; (exact ⟨(by first | rfl ), (by first | rfl ), (by first | rfl ), (by first | rfl ), (by first | rfl ), trivial⟩); (have _ := hid; have kk := skip_t (x := x) (r := ⟨e.act, (seesW x.w e).1⟩) (by with_reducible assumption) (by with_reducible assumption) (by assumption); refine ⟨⟨⟨by omega, (by (repeat (first | with_reducible assumption | refine look_new (by with_reducible assumption) (by omega) ?_ | refine look_set (by with_reducible assumption) (by omega) ?_ | refine look_appX (by with_reducible assumption) (by with_reducible assumption) (by omega) ?_ ))), (by (repeat (first | with_reducible assumption | refine look_new (by with_reducible assumption) (by omega) ?_ | refine look_set (by with_reducible assumption) (by omega) ?_ | refine look_appX (by with_reducible assumption) (by with_reducible assumption) (by omega) ?_ ))), (by (repeat (first | with_reducible assumption | refine look_new (by with_reducible assumption) (by omega) ?_ | refine look_set (by with_reducible assumption) (by omega) ?_ | refine look_appX (by with_reducible assumption) (by with_reducible assumption) (by omega) ?_ )))⟩, hd4, by simp <;> omega⟩, (by rw [told_t hx (by assumption)]; exact hT9.frame (by intro i hi; rw [List.mem_singleton.1 hi]; (repeat (first | with_reducible rfl | refine look_new (by with_reducible assumption) (by omega) ?_ | refine look_set (by with_reducible assumption) (by omega) ?_ )))), ?_, ?_, ?_, ?_⟩; rotate_left; (focus ((repeat (first | with_reducible assumption | refine look_new (by with_reducible assumption) (by omega) ?_ | refine look_set (by with_reducible assumption) (by omega) ?_ | refine look_appX (by with_reducible assumption) (by with_reducible assumption) (by omega) ?_ )); done)); (focus ((try dsimp only at *); omega)); (focus (rw [← wsK_put hx (by assumption)]; exact hset H ([t9] ++ [p, q, z, y]) _ _ (some id) (by (intro i hi; rcases List.mem_append.1 hi with hi | hi; (focus (rw [List.mem_singleton.1 hi]; right; omega)); (focus (left; exact List.mem_append_right _ hi)))) (by intro i hi; (repeat (first | with_reducible rfl ))) (by rw [put_2 kk]; exact OwnAt.frame hoK (by (intro i hi; rcases List.mem_append.1 hi with hi | hi; (focus (rw [List.mem_singleton.1 hi]; right; omega)); (focus (left; exact List.mem_append_right _ hi)))) (by (intro i hi hmi hlt; simp only [List.mem_append, List.mem_cons, List.not_mem_nil, or_false, not_or] at hi; obtain ⟨hiX, hi⟩ := hi; (repeat (first | with_reducible rfl | refine look_new (by with_reducible assumption) (by omega) ?_ | refine look_set (by with_reducible assumption) (by omega) ?_ | refine look_appX (by with_reducible assumption) (by with_reducible assumption) (by omega) ?_ ))))) (fun a h => .inl h) (by intro i hi hmi hlt hoi; have hoi2 : i ≠ id := fun e => hoi (by rw [e]); simp only [List.mem_append, List.mem_cons, List.not_mem_nil, or_false, not_or] at hi; obtain ⟨hiX, hi⟩ := hi; (repeat (first | with_reducible rfl | refine look_new (by with_reducible assumption) (by omega) ?_ | refine look_set (by with_reducible assumption) (by omega) ?_ | refine look_appX (by with_reducible assumption) (by with_reducible assumption) (by omega) ?_ ))))))) | (refine hC (k + 1) (.sl t9 0 ((toldK e b.ws k).length + 1) 1 none) ([t9]) (z) (y) (p) _ _ ?_ (by omega) ?_; clear hC; rotate_left; (exact ⟨(by first | rfl ), (by first | rfl ), (by first | rfl ), (by first | rfl ), (by first | rfl ), trivial⟩); (have _ := hxe; have _ := hR9; refine ⟨⟨⟨by omega, (by (repeat (first | with_reducible assumption | refine look_new (by with_reducible assumption) (by omega) ?_ | refine look_set (by with_reducible assumption) (by omega) ?_ | refine look_appX (by with_reducible assumption) (by with_reducible assumption) (by omega) ?_ ))), (by (repeat (first | with_reducible assumption | refine look_new (by with_reducible assumption) (by omega) ?_ | refine look_set (by with_reducible assumption) (by omega) ?_ | refine look_appX (by with_reducible assumption) (by with_reducible assumption) (by omega) ?_ ))), (by (repeat (first | with_reducible assumption | refine look_new (by with_reducible assumption) (by omega) ?_ | refine look_set (by with_reducible assumption) (by omega) ?_ | refine look_appX (by with_reducible assumption) (by with_reducible assumption) (by omega) ?_ )))⟩, hd4, by simp <;> omega⟩, (by rw [told_t hx (by assumption)]; exact hT9.frame (by intro i hi; rw [List.mem_singleton.1 hi]; (repeat (first | with_reducible rfl | refine look_new (by with_reducible assumption) (by omega) ?_ | refine look_set (by with_reducible assumption) (by omega) ?_ )))), ?_, ?_, ?_, ?_⟩; rotate_left; (focus ((repeat (first | with_reducible assumption )); done)); (focus ((try dsimp only at *); omega)); (focus (rw [← wsK_put hx (by assumption)]; exact hset H ([t9] ++ [p, q, z, y]) _ _ (some id9) (by (intro i hi; rcases List.mem_append.1 hi with hi | hi; (focus (rw [List.mem_singleton.1 hi]; right; omega)); (focus (left; exact List.mem_append_right _ hi)))) (by intro i hi; (repeat (first | with_reducible rfl | refine look_set (by with_reducible assumption) (by omega) ?_ ))) (by rw [put_4 (skip_0 (by assumption) (by rw [hxe]; decide)) (by have hr1 : roomOf x.recs = 0 := (by rw [hxe]; exact room0); have hr0 := room0; omega)]; exact ⟨Eq.trans (by (repeat (first | with_reducible assumption ))) (congrArg some (bw_len (x := ⟨x.id, x.w, x.recs ++ [⟨e.act, (seesW x.w e).1⟩], x.lost⟩) (by simp only [List.length_append, List.length_cons, List.length_nil] <;> (try rw [hxe]) <;> rfl))), hR9.look (by (repeat (first | with_reducible rfl | refine look_set (by with_reducible assumption) (by omega) ?_ ))), ⟨by simp <;> omega, Nat.zero_le _⟩⟩) (fun a h => .inr (by cases h; omega)) (by intro i hi hmi hlt hoi; simp only [List.mem_append, List.mem_cons, List.not_mem_nil, or_false, not_or] at hi; obtain ⟨hiX, hi⟩ := hi; (repeat (first | with_reducible rfl | refine look_new (by with_reducible assumption) (by omega) ?_ | refine look_set (by with_reducible assumption) (by omega) ?_ | refine look_appX (by with_reducible assumption) (by with_reducible assumption) (by omega) ?_ ))))))) | (refine hC (k + 1) (.sl t9 0 ((toldK e b.ws k).length + 1) 1 none) ([t9]) (z) (y) (p) _ _ ?_ (by omega) ?_; clear hC; rotate_left; (exact ⟨(by first | rfl ), (by first | rfl ), (by first | rfl ), (by first | rfl ), (by first | rfl ), trivial⟩); (have _ := hid; have _ := hR9; refine ⟨⟨⟨by omega, (by (repeat (first | with_reducible assumption | refine look_new (by with_reducible assumption) (by omega) ?_ | refine look_set (by with_reducible assumption) (by omega) ?_ | refine look_app (by with_reducible assumption) (by omega) (by omega) ?_ | refine look_appX (by with_reducible assumption) (by with_reducible assumption) (by omega) ?_ ))), (by (repeat (first | with_reducible assumption | refine look_new (by with_reducible assumption) (by omega) ?_ | refine look_set (by with_reducible assumption) (by omega) ?_ | refine look_app (by with_reducible assumption) (by omega) (by omega) ?_ | refine look_appX (by with_reducible assumption) (by with_reducible assumption) (by omega) ?_ ))), (by (repeat (first | with_reducible assumption | refine look_new (by with_reducible assumption) (by omega) ?_ | refine look_set (by with_reducible assumption) (by omega) ?_ | refine look_app (by with_reducible assumption) (by omega) (by omega) ?_ | refine look_appX (by with_reducible assumption) (by with_reducible assumption) (by omega) ?_ )))⟩, hd4, by simp <;> omega⟩, (by rw [told_t hx (by assumption)]; exact hT9.frame (by intro i hi; rw [List.mem_singleton.1 hi]; (repeat (first | with_reducible rfl | refine look_new (by with_reducible assumption) (by omega) ?_ | refine look_set (by with_reducible assumption) (by omega) ?_ | refine look_app (by with_reducible assumption) (by omega) (by omega) ?_ )))), ?_, ?_, ?_, ?_⟩; rotate_left; (focus ((repeat (first | with_reducible assumption )); done)); (focus ((try dsimp only at *); omega)); (focus (rw [← wsK_put hx (by assumption)]; exact hset H ([t9] ++ [p, q, z, y]) _ _ (some id9) (by (intro i hi; rcases List.mem_append.1 hi with hi | hi; (focus (rw [List.mem_singleton.1 hi]; right; omega)); (focus (left; exact List.mem_append_right _ hi)))) (by intro i hi; (repeat (first | with_reducible rfl | refine look_set (by with_reducible assumption) (by omega) ?_ ))) (by rw [put_4 (by first | exact skip_0 (by assumption) (by assumption) | exact skip_m (by assumption) (by assumption) | exact skip_e (by assumption) (by assumption) (by assumption)) (by omega)]; exact ⟨Eq.trans (by (repeat (first | with_reducible assumption ))) (congrArg some (bw_len (x := ⟨x.id, x.w, x.recs ++ [⟨e.act, (seesW x.w e).1⟩], x.lost⟩) (by simp only [List.length_append, List.length_cons, List.length_nil] <;> (try rw [hxe]) <;> rfl))), hR9.look (by (repeat (first | with_reducible rfl | refine look_set (by with_reducible assumption) (by omega) ?_ ))), ⟨by simp <;> omega, Nat.zero_le _⟩⟩) (fun a h => (by cases h; rcases h9 with rfl | h9; (focus (exact .inl rfl)); (focus (exact .inr (by omega))))) (by intro i hi hmi hlt hoi; have hoi2 : i ≠ id := fun e => hoi (by rw [e]); simp only [List.mem_append, List.mem_cons, List.not_mem_nil, or_false, not_or] at hi; obtain ⟨hiX, hi⟩ := hi; (repeat (first | with_reducible rfl | refine look_new (by with_reducible assumption) (by omega) ?_ | refine look_set (by with_reducible assumption) (by omega) ?_ | refine look_app (by with_reducible assumption) (by omega) (by omega) ?_ | refine look_appX (by with_reducible assumption) (by with_reducible assumption) (by omega) ?_ ))))))) | (refine hC (k + 1) (.sl t9 0 ((toldK e b.ws k).length + 1) 1 none) ([t9]) (z) (y) (p) _ _ ?_ (by omega) ?_; clear hC; rotate_left; (exact ⟨(by first | rfl ), (by first | rfl ), (by first | rfl ), (by first | rfl ), (by first | rfl ), trivial⟩); (have _ := hxe; have _ := hT9; refine ⟨⟨⟨by omega, (by (repeat (first | with_reducible assumption | refine look_new (by with_reducible assumption) (by omega) ?_ | refine look_set (by with_reducible assumption) (by omega) ?_ | refine look_appX (by with_reducible assumption) (by with_reducible assumption) (by omega) ?_ ))), (by (repeat (first | with_reducible assumption | refine look_new (by with_reducible assumption) (by omega) ?_ | refine look_set (by with_reducible assumption) (by omega) ?_ | refine look_appX (by with_reducible assumption) (by with_reducible assumption) (by omega) ?_ ))), (by (repeat (first | with_reducible assumption | refine look_new (by with_reducible assumption) (by omega) ?_ | refine look_set (by with_reducible assumption) (by omega) ?_ | refine look_appX (by with_reducible assumption) (by with_reducible assumption) (by omega) ?_ )))⟩, hd4, by simp <;> omega⟩, (by rw [told_t hx (by assumption)]; exact hT9.frame (by intro i hi; rw [List.mem_singleton.1 hi]; (repeat (first | with_reducible rfl | refine look_new (by with_reducible assumption) (by omega) ?_ | refine look_set (by with_reducible assumption) (by omega) ?_ )))), ?_, ?_, ?_, ?_⟩; rotate_left; (focus ((repeat (first | with_reducible assumption )); done)); (focus ((try dsimp only at *); omega)); (focus (rw [← wsK_put hx (by assumption)]; exact hset H ([t9] ++ [p, q, z, y]) _ _ none (by (intro i hi; rcases List.mem_append.1 hi with hi | hi; (focus (rw [List.mem_singleton.1 hi]; right; omega)); (focus (left; exact List.mem_append_right _ hi)))) (by intro i hi; (repeat (first | with_reducible rfl | refine look_set (by with_reducible assumption) (by omega) ?_ ))) (by rw [put_3 (skip_0 (by assumption) (by rw [hxe]; decide)) (by have hr1 : roomOf x.recs = 0 := (by rw [hxe]; exact room0); have hr0 := room0; omega)]; exact ⟨rfl, by (repeat (first | assumption))⟩) (fun a h => by cases h) (by intro i hi hmi hlt hoi; simp only [List.mem_append, List.mem_cons, List.not_mem_nil, or_false, not_or] at hi; obtain ⟨hiX, hi⟩ := hi; (repeat (first | with_reducible rfl | refine look_new (by with_reducible assumption) (by omega) ?_ | refine look_set (by with_reducible assumption) (by omega) ?_ | refine look_appX (by with_reducible assumption) (by with_reducible assumption) (by omega) ?_ ))))))) | (refine hC (k + 1) (.sl t9 0 ((toldK e b.ws k).length + 1) 1 none) ([t9]) (z) (y) (p) _ _ ?_ (by omega) ?_; clear hC; rotate_left; (exact ⟨(by first | rfl ), (by first | rfl ), (by first | rfl ), (by first | rfl ), (by first | rfl ), trivial⟩); (have _ := hid; have _ := hT9; refine ⟨⟨⟨by omega, (by (repeat (first | with_reducible assumption | refine look_new (by with_reducible assumption) (by omega) ?_ | refine look_set (by with_reducible assumption) (by omega) ?_ | refine look_appX (by with_reducible assumption) (by with_reducible assumption) (by omega) ?_ ))), (by (repeat (first | with_reducible assumption | refine look_new (by with_reducible assumption) (by omega) ?_ | refine look_set (by with_reducible assumption) (by omega) ?_ | refine look_appX (by with_reducible assumption) (by with_reducible assumption) (by omega) ?_ ))), (by (repeat (first | with_reducible assumption | refine look_new (by with_reducible assumption) (by omega) ?_ | refine look_set (by with_reducible assumption) (by omega) ?_ | refine look_appX (by with_reducible assumption) (by with_reducible assumption) (by omega) ?_ )))⟩, hd4, by simp <;> omega⟩, (by rw [told_t hx (by assumption)]; exact hT9.frame (by intro i hi; rw [List.mem_singleton.1 hi]; (repeat (first | with_reducible rfl | refine look_new (by with_reducible assumption) (by omega) ?_ | refine look_set (by with_reducible assumption) (by omega) ?_ )))), ?_, ?_, ?_, ?_⟩; rotate_left; (focus ((repeat (first | with_reducible assumption )); done)); (focus ((try dsimp only at *); omega)); (focus (rw [← wsK_put hx (by assumption)]; exact hset H ([t9] ++ [p, q, z, y]) _ _ none (by (intro i hi; rcases List.mem_append.1 hi with hi | hi; (focus (rw [List.mem_singleton.1 hi]; right; omega)); (focus (left; exact List.mem_append_right _ hi)))) (by intro i hi; (repeat (first | with_reducible rfl | refine look_set (by with_reducible assumption) (by omega) ?_ ))) (by rw [put_3 (by first | exact skip_0 (by assumption) (by assumption) | exact skip_m (by assumption) (by assumption) | exact skip_e (by assumption) (by assumption) (by assumption)) (by omega)]; exact ⟨rfl, by (repeat (first | assumption))⟩) (fun a h => by cases h) (by intro i hi hmi hlt hoi; have hoi2 : i ≠ id := fun e => hoi (by rw [e]); simp only [List.mem_append, List.mem_cons, List.not_mem_nil, or_false, not_or] at hi; obtain ⟨hiX, hi⟩ := hi; (repeat (first | with_reducible rfl | refine look_new (by with_reducible assumption) (by omega) ?_ | refine look_set (by with_reducible assumption) (by omega) ?_ | refine look_appX (by with_reducible assumption) (by with_reducible assumption) (by omega) ?_ ))))))) | (refine hC (k + 1) (cv) (X) (z) (y) (p) _ _ ?_ (by omega) ?_; clear hC; rotate_left; (exact ⟨(by first | rfl ), (by first | rfl ), (by first | rfl ), (by first | rfl ), (by first | rfl ), trivial⟩); (have kk : (seesW x.w e).2 = false := (by with_reducible assumption); exact ⟨⟨⟨by omega, (by (repeat (first | with_reducible assumption ))), (by (repeat (first | with_reducible assumption ))), (by (repeat (first | with_reducible assumption )))⟩, hd4, hx1, hx2, hx3, hx4⟩, by rw [told_f hx (by assumption)]; exact hT, Es, (by (repeat (first | with_reducible assumption ))), hEl, by rw [wsK_no hx (by assumption)]; exact hO⟩)))
    | (refine wrap64 (by omega) ?_; conv => whnf)
    | ((with_reducible refine appD_go ?_); (first | refine appT (hT.frame (by intro i hi; have hil := hXl i hi; (repeat (first | with_reducible rfl | refine look_new (by with_reducible assumption) (by omega) ?_ )))) (by omega) (Nat.zero_le _) rfl rfl (by decide) (fun t9 H ht9 hl9 hf9 hT9 => ?_) | refine appR (r := ⟨e.act, (seesW x.w e).1⟩) (by (repeat (first | with_reducible assumption | refine look_new (by with_reducible assumption) (by omega) ?_ | refine look_set (by with_reducible assumption) (by omega) ?_ | refine look_appX (by with_reducible assumption) (by with_reducible assumption) (by omega) ?_ ))) hl0 ht (.inr rfl) (by have := (hb.r x (List.mem_of_getElem? hx)).1; omega) rfl rfl (by decide) (fun id9 H hR9 h9 hl9 hl9b hf9 => ?_) | refine appR0 (r := ⟨e.act, (seesW x.w e).1⟩) hxe (.inr rfl) rfl rfl (by decide) (fun id9 H hR9 h9 hl9 hl9b hf9 => ?_)); conv => whnf)
    | ((with_reducible refine newD_go ?_); (first | refine newG (fun n H hn hl hf ho => ?_)); conv => whnf)
    | ((with_reducible refine nthK_go ?_); (first | (refine nthGk hEk ?_; conv => whnf) | (obtain ⟨a9, ha9, hv9⟩ := ht (x.recs.length - 1) _ (List.getElem?_eq_getElem (show x.recs.length - 1 < x.recs.length by omega)); rcases hv9 with rfl | rfl <;> (refine nthP ha9 (by omega) ?_; conv => whnf)) | (refine nthGk (x := ?_) ?_ ?_; rotate_left; (focus ((repeat (first | with_reducible assumption )); done)); conv => whnf) | (refine nthG (x := ?_) ?_ ?_; rotate_left; (focus ((repeat (first | with_reducible assumption | refine look_new (by with_reducible assumption) (by omega) ?_ | refine look_set (by with_reducible assumption) (by omega) ?_ | refine look_app (by with_reducible assumption) (by omega) (by omega) ?_ | refine look_appX (by with_reducible assumption) (by with_reducible assumption) (by omega) ?_ )); done)); conv => whnf)))
    | ((with_reducible refine setK_go ?_); (first | (refine setGk (by first | omega | (dsimp only; omega) ) (fun H hl hf ho => ?_); (try dsimp only at hl hf); conv => whnf) | (refine setG (by first | omega ) (fun H hl hf ho => ?_); (try dsimp only at hl hf); conv => whnf)))
    | ((with_reducible refine wrapK_go ?_); (first | refine wrap64 (by have hs1 := hb.r x (List.mem_of_getElem? hx); have hs2 := hs1.1; have hrm := room_bd hs1 x.recs.length; rw [List.take_length] at hrm; have hsz := sz_bd ⟨e.act, (seesW x.w e).1⟩ (sees_len he); have hr0 := room0; omega) ?_); conv => whnf)
    | (refine ⟨⟨by omega, by omega⟩, ?_⟩; conv => whnf)
    | (refine ⟨Nat.le_refl _, ?_⟩; conv => whnf)
    | (refine ⟨congrArg (Option.map AO.vis) (Eq.symm (by (repeat (first | with_reducible rfl | refine look_new (by with_reducible assumption) (by omega) ?_ )))), ?_⟩; conv => whnf)
    | ((with_reducible refine endq_go ?_); first | (refine endq ?_; rw [show (tellB b e).enc = .agg [.fs ((wsK e b.ws k).map BW.enc), i b.next] by (unfold tellB Bd.enc; rw [wsK_end hge]), ← toldK_end hge]; exact view_tup (vlc (view_agg (vlc (view_own_k (by (repeat (first | with_reducible assumption | refine look_set (by with_reducible assumption) (by omega) ?_ ))) hEl (wsK_len hk).symm (hO.frame (B' := []) (fun _ h => by cases h) (by (intro i hi hmi hlt; simp only [List.mem_append, List.mem_cons, List.not_mem_nil, or_false, not_or] at hi; obtain ⟨hiX, hi⟩ := hi; (repeat (first | with_reducible rfl | refine look_set (by with_reducible assumption) (by omega) ?_ )))))) (vlc rfl vln))) (vlc (Told.view (hT.frame (by intro i hi; have h8 : i ≠ y := (fun e => hx4 (by rw [← e]; exact hi)); have hil := hXl i hi; (repeat (first | with_reducible rfl | refine look_set (by with_reducible assumption) (by omega) ?_ ))))) vln)); done))
    | fail
    )

end Go.Proofs.YtbkmjpmgiaiacaaGreatDoor

/-! Pv -/
namespace Go.Proofs.YtbkmjpmgiaiacaaGreatDoor
open Go Dw Paths
theorem firstE_iff : ∀ {l : List Int}, firstE l = 0 ↔ ∀ x ∈ l, x = 0
  | [] => ⟨fun _ x h => (by cases h), fun _ => rfl⟩
  | e :: l => by
    rw [firstE_cons]
    constructor
    · intro h x hx
      by_cases h0 : e = 0
      · rw [if_pos h0] at h
        rcases List.mem_cons.1 hx with rfl | hx
        · exact h0
        · exact firstE_iff.1 h x hx
      · rw [if_neg h0] at h; exact absurd h h0
    · intro h
      rw [if_pos (h e (by simp))]
      exact firstE_iff.2 fun x hx => h x (by simp [hx])
theorem ite0 {c : Bool} {n : Int} (hn : n ≠ 0) : (if c = true then 0 else n) = 0 ↔ c = true := by
  cases c
  · simp [hn]
  · simp
def recsOk (w : Wt) (l : List Rec) : Prop := ∀ j (hj : j < l.length), recI w l[j] (dblB l j) = 0
structure VW (n : Int) (x : BW) : Prop where
  id : 1 ≤ x.id ∧ x.id ≤ n - 1
  w : watchErr x.w.path x.w.filter x.w.room = 0
  lost : x.lost = true → x.recs = []
  recs : recsOk x.w x.recs
  room : roomOf x.recs ≤ x.w.room
structure VB (b : Bd) : Prop where
  len : b.ws.length ≤ 8
  next : 1 ≤ b.next ∧ b.next ≤ 2147483647
  asc : asc b.ws
  all : ∀ x ∈ b.ws, VW b.next x
theorem rE_iff {w : Wt} {all : List Rec} : ∀ {l : List Rec} {k : Nat}, all.drop k = l → ((rE w all l k).2 = 0 ↔ ∀ j (hj : j < all.length), k ≤ j → recI w all[j] (dblB all j) = 0)
  | [], k, h => by
    have hk : all.length ≤ k := List.drop_eq_nil_iff.1 h
    exact ⟨fun _ j hj hkj => by omega, fun _ => rfl⟩
  | x :: l, k, h => by
    have hk : k < all.length := by
      apply Nat.lt_of_not_le
      intro hle
      rw [List.drop_eq_nil_of_le hle] at h; cases h
    rw [List.drop_eq_getElem_cons hk] at h
    obtain ⟨rfl, h2⟩ := List.cons.inj h
    have ih := rE_iff (w := w) (all := all) h2
    show ((if recI w all[k] (dblB all k) = 0 then rE w all l (k + 1) else ((k : Int), recI w all[k] (dblB all k))).2 = 0) ↔ _
    by_cases h0 : recI w all[k] (dblB all k) = 0
    · rw [if_pos h0, ih]
      constructor
      · intro q j hj hkj
        by_cases e : j = k
        · subst e; exact h0
        · exact q j hj (by omega)
      · intro q j hj hkj; exact q j hj (by omega)
    · rw [if_neg h0]
      exact ⟨fun q => absurd q h0, fun q => absurd (q k hk (Nat.le_refl _)) h0⟩
theorem rE_ok {w : Wt} {l : List Rec} : (rE w l l 0).2 = 0 ↔ recsOk w l := by
  rw [rE_iff (all := l) (l := l) (k := 0) rfl]
  exact ⟨fun h j hj => h j hj (Nat.zero_le _), fun h j hj _ => h j hj⟩
theorem head4_iff {b : Bd} {k : Nat} (hk : k < b.ws.length) : head4 b k = 0 ↔ (1 ≤ b.ws[k].id ∧ b.ws[k].id ≤ b.next - 1) ∧ (k = 0 ∨ (b.ws[k - 1]'(by omega)).id < b.ws[k].id) ∧ watchErr b.ws[k].w.path b.ws[k].w.filter b.ws[k].w.room = 0 ∧ (b.ws[k].lost = true → b.ws[k].recs = []) := by
  unfold head4
  rw [atW_at hk, atW_at (show k - 1 < b.ws.length by omega), firstE_iff]
  simp only [List.mem_cons, List.not_mem_nil, or_false, forall_eq_or_imp, forall_eq]
  rw [ite0 (by decide), ite0 (by decide), ite0 (by decide)]
  unfold within
  simp only [Bool.and_eq_true, Bool.or_eq_true, decide_eq_true_eq, Bool.not_eq_true', List.length_eq_zero_iff]
  constructor
  · rintro ⟨h1, h2, h3, h4⟩
    refine ⟨h1, h2, h3, fun h => ?_⟩
    rcases h4 with h4 | h4
    · rw [h] at h4; cases h4
    · exact h4
  · rintro ⟨h1, h2, h3, h4⟩
    refine ⟨h1, h2, h3, ?_⟩
    cases hl : b.ws[k].lost with
    | false => exact .inl rfl
    | true => exact .inr (h4 hl)
theorem bwE_iff {b : Bd} {k : Nat} (hk : k < b.ws.length) : bwE b k = 0 ↔ head4 b k = 0 ∧ recsOk b.ws[k].w b.ws[k].recs ∧ roomOf b.ws[k].recs ≤ b.ws[k].w.room := by
  unfold bwE
  rw [firstE_iff]
  simp only [List.mem_cons, List.not_mem_nil, or_false, forall_eq_or_imp, forall_eq]
  rw [ite0 (by decide), atW_at hk, decide_eq_true_eq, ← rE_ok]
  by_cases h0 : head4 b k = 0
  · rw [if_pos h0]; simp [h0]
  · rw [if_neg h0]; simp [h0]
theorem wE_iff {b : Bd} : (wE b b.ws 0).2 = 0 ↔ ∀ k, k < b.ws.length → bwE b k = 0 := by
  constructor
  · intro h k hk
    have := wE_all b.ws 0 h k hk
    rwa [Nat.zero_add] at this
  · have : ∀ (l : List BW) (k : Nat), (∀ j, j < l.length → bwE b (k + j) = 0) → wE b l k = (0, 0) := by
      intro l
      induction l with
      | nil => intro k _; rfl
      | cons x l ih =>
        intro k h
        unfold wE
        rw [if_pos (by have := h 0 (by simp); rwa [Nat.add_zero] at this)]
        exact ih (k + 1) fun j hj => by have := h (j + 1) (by simpa using hj); rwa [show k + (j + 1) = k + 1 + j by omega] at this
    intro h
    rw [this b.ws 0 fun j hj => by rw [Nat.zero_add]; exact h j hj]
theorem headB_iff {b : Bd} : headB b = 0 ↔ b.ws.length ≤ 8 ∧ 1 ≤ b.next ∧ b.next ≤ 2147483647 := by
  unfold headB
  rw [firstE_iff]
  simp only [List.mem_cons, List.not_mem_nil, or_false, forall_eq_or_imp, forall_eq]
  rw [ite0 (by decide), ite0 (by decide)]
  unfold within
  simp only [Bool.and_eq_true, decide_eq_true_eq]
  omega
theorem checkB_iff {b : Bd} : (checkB b).2 = 0 ↔ VB b := by
  constructor
  · intro h
    have hb : headB b = 0 := by
      by_cases h0 : headB b = 0
      · exact h0
      · unfold checkB at h; rw [if_neg h0] at h; exact h
    obtain ⟨h1, h2⟩ := headB_iff.1 hb
    refine ⟨h1, h2, asc_ok h, fun x hx => ?_⟩
    obtain ⟨k, hk, rfl⟩ := List.getElem_of_mem hx
    obtain ⟨g1, g2, g3⟩ := (bwE_iff hk).1 (checkB_at h hk)
    obtain ⟨k1, k2, k3, k4⟩ := (head4_iff hk).1 g1
    exact ⟨k1, k3, k4, g2, g3⟩
  · intro h
    have hb : headB b = 0 := headB_iff.2 ⟨h.len, h.next⟩
    unfold checkB
    rw [if_pos hb, wE_iff]
    intro k hk
    have hx := h.all _ (List.getElem_mem hk)
    refine (bwE_iff hk).2 ⟨(head4_iff hk).2 ⟨hx.id, ?_, hx.w, hx.lost⟩, hx.recs, hx.room⟩
    by_cases e : k = 0
    · exact .inl e
    · exact .inr (h.asc (k - 1) k (by omega) hk)
/-! An event. -/
theorem sees_rec {w : Wt} {e : Rec} (hw : watchErr w.path w.filter w.room = 0) (he : eventErr e.act e.path = 0) (hs : (seesW w e).2 = true) : recE w ⟨e.act, (seesW w e).1⟩ = 0 := by
  obtain ⟨ha, hp, _⟩ := eventErr_ok he
  obtain ⟨p1, p2, p3, p4⟩ := pathErr_ok hp
  obtain ⟨q1, q2⟩ := plain_small hp
  have ht := text_parse p1
  have hlen : e.path.length ≤ 200 := by
    apply Nat.le_of_not_lt
    intro hlt
    unfold parse at p1
    rw [if_pos hlt] at p1; cases p1
  have hgl : (glue 47 (partsOf e.path)).length ≤ 200 := by
    have h2 := glue_le (parse e.path).1
    rw [ht] at h2
    unfold partsOf; omega
  have hsb : seesW w e = belowI (hasBit w.filter e.act) w.deep (partsOf w.path) (partsOf e.path) := by unfold seesW; rfl
  rw [hsb] at hs ⊢
  unfold belowI at hs ⊢
  split at hs
  · cases hs
  · rename_i hc
    simp only [not_or] at hc
    obtain ⟨hc1, hc2, hc3⟩ := hc
    rw [if_neg (fun h => h.elim hc1 fun h => h.elim hc2 hc3)]
    split at hs
    · rename_i hsh
      rw [if_pos hsh]
      have hne : (partsOf e.path).drop (partsOf w.path).length ≠ [] := by
        intro e0
        have := List.drop_eq_nil_iff.1 e0
        exact hc2 this
      have hpar := parse_glue hne (fun p hp => (q2 p (List.mem_of_mem_drop hp)).1) (by rw [List.length_drop]; omega) (Nat.le_trans (glue_drop_le 47 _ _) hgl)
      unfold recE
      rw [if_pos ⟨ha, by cases hb : hasBit w.filter e.act with | false => exact absurd hb hc1 | true => rfl⟩, hpar, if_pos rfl]
      rw [if_neg]
      unfold oddD
      simp only [Bool.false_or, decide_true, Bool.not_true, Bool.or_eq_true, Bool.and_eq_true, Bool.not_eq_true', decide_eq_true_eq, not_or, not_and]
      refine ⟨?_, fun hd => ?_⟩
      · rw [Bool.not_eq_true, List.any_eq_false]
        intro x hx
        rw [name_dots (q2 x (List.mem_of_mem_drop hx)).1]; decide
      · rw [List.length_drop]
        intro hlt
        exact hc3 ⟨hd, by omega⟩
    · cases hs
theorem dbl_app {l : List Rec} {r : Rec} {j : Nat} (hj : j < l.length) : dblB (l ++ [r]) j = dblB l j := by
  unfold dblB
  rw [List.getElem?_append_left hj, List.getElem?_append_left (show j - 1 < l.length by omega)]
theorem dbl_last {x : BW} {r : Rec} (h : putSkip x r = false) : x.lost = false ∧ dblB (x.recs ++ [r]) x.recs.length = false := by
  unfold putSkip at h
  rw [Bool.or_eq_false_iff] at h
  refine ⟨h.1, ?_⟩
  unfold dblB
  by_cases h0 : 0 < x.recs.length
  · have h2 := h.2
    rw [decide_eq_true h0, Bool.true_and] at h2
    rw [decide_eq_true h0, Bool.true_and]
    rw [List.getElem?_append_left (show x.recs.length - 1 < x.recs.length by omega), List.getElem?_append_right (Nat.le_refl _), Nat.sub_self]
    show (mrg r.act && decide ((x.recs[x.recs.length - 1]?).getD ⟨0, []⟩ = r)) = false
    unfold lastIs at h2
    rw [List.getElem?_eq_getElem (show x.recs.length - 1 < x.recs.length by omega)] at h2 ⊢
    simpa using h2
  · rw [decide_eq_false h0]; rfl
theorem VW.tell {n : Int} {x : BW} {e : Rec} (h : VW n x) (he : eventErr e.act e.path = 0) : VW n (tellW e x) := by
  unfold tellW
  by_cases hs : (seesW x.w e).2 = true
  · rw [if_pos hs]
    have hr := sees_rec h.w he hs
    cases hk : putSkip x ⟨e.act, (seesW x.w e).1⟩ with
    | true => rw [put_2 hk]; exact h
    | false =>
      by_cases hf : x.w.room < roomOf x.recs + sz ⟨e.act, (seesW x.w e).1⟩
      · rw [put_3 hk hf]
        exact ⟨h.id, h.w, fun _ => rfl, fun j hj => by simp at hj, by
          have := watchErr_ok h.w
          show roomOf [] ≤ x.w.room
          rw [room0]; omega⟩
      · rw [put_4 hk hf]
        obtain ⟨hl, hd⟩ := dbl_last hk
        refine ⟨h.id, h.w, fun hq => ?_, fun j hj => ?_, ?_⟩
        · have : x.lost = true := hq
          rw [hl] at this; cases this
        · show recI x.w ((x.recs ++ [(⟨e.act, (seesW x.w e).1⟩ : Rec)])[j]'hj) (dblB (x.recs ++ [⟨e.act, (seesW x.w e).1⟩]) j) = 0
          by_cases hjl : j < x.recs.length
          · rw [dbl_app hjl, List.getElem_append_left hjl]
            exact h.recs j hjl
          · have hje : j = x.recs.length := by
              have : j < (x.recs ++ [(⟨e.act, (seesW x.w e).1⟩ : Rec)]).length := hj
              rw [List.length_append, List.length_singleton] at this; omega
            subst hje
            rw [hd, List.getElem_append_right (Nat.le_refl _)]
            simp only [Nat.sub_self, List.getElem_cons_zero]
            unfold recI
            rw [if_pos hr, if_neg (by decide)]
        · show roomOf (x.recs ++ [(⟨e.act, (seesW x.w e).1⟩ : Rec)]) ≤ x.w.room
          rw [room_snoc]; omega
  · rw [if_neg hs]; exact h
theorem tellW_id (e : Rec) (x : BW) : (tellW e x).id = x.id := by
  unfold tellW putB
  split
  · split
    · rfl
    · split <;> rfl
  · rfl
theorem VB.tell {b : Bd} {e : Rec} (h : VB b) (he : eventErr e.act e.path = 0) : VB (tellB b e) := by
  refine ⟨by rw [← tellB_len]; exact h.len, h.next, ?_, fun x hx => ?_⟩
  · intro i j hij hj
    have hj2 : j < b.ws.length := by rw [tellB_len b e]; exact hj
    have h1 : ∀ k (hk : k < b.ws.length), ((tellB b e).ws[k]'(by rw [← tellB_len]; exact hk)).id = b.ws[k].id := by
      intro k hk
      have : (tellB b e).ws[k]'(by rw [← tellB_len]; exact hk) = tellW e b.ws[k] := by unfold tellB; rw [List.getElem_map]
      rw [this, tellW_id]
    rw [h1 i (by omega), h1 j hj2]
    exact h.asc i j hij hj2
  · unfold tellB at hx
    obtain ⟨y, hy, rfl⟩ := List.mem_map.1 hx
    exact (h.all y hy).tell he
theorem VB.small {b : Bd} (h : VB b) : SB b := by
  refine ⟨by have := h.len; omega, fun x hx => ?_⟩
  have hv := h.all x hx
  have hw := watchErr_ok hv.w
  have hlen : ∀ l : List Rec, (l.length : Int) ≤ roomOf l := by
    intro l
    induction l with
    | nil => rw [room0]; simp
    | cons r l ih =>
      have h1 : 1 ≤ sz r := by unfold sz; omega
      show ((l.length + 1 : Nat) : Int) ≤ sz r + roomOf l
      omega
  have h1 := hlen x.recs
  have h2 := hv.room
  refine ⟨by omega, fun r hr => ?_⟩
  obtain ⟨j, hj, rfl⟩ := List.getElem_of_mem hr
  have hz := hv.recs j hj
  have hz2 : recE x.w x.recs[j] = 0 := by
    by_cases h0 : recE x.w x.recs[j] = 0
    · exact h0
    · unfold recI at hz; rw [if_neg h0] at hz; exact hz
  unfold recE at hz2
  split at hz2
  · rename_i ha
    refine ⟨?_, by have := isAct_iff.1 ha.1; omega⟩
    split at hz2
    · rename_i hp
      apply Nat.lt_of_not_le
      intro hle
      unfold parse at hp
      rw [if_pos (by omega)] at hp; cases hp
    · rename_i hp; exact absurd hz2 hp
  · cases hz2
end Go.Proofs.YtbkmjpmgiaiacaaGreatDoor

/-! Wz -/
namespace Go.Proofs.YtbkmjpmgiaiacaaGreatDoor
open Go Dw
set_option maxRecDepth 10000
set_option linter.unusedVariables false
set_option linter.unusedSimpArgs false
attribute [local irreducible] Run
set_option maxHeartbeats 4000000

open Paths
attribute [local irreducible] newD Own checkB addErr roomy bsR ixB dropB addB sz roomOf putB seesW belowI

theorem c20z (n0 : Int) (H0 : Heap) : ∃ r H, Run Tryz.prog 20 [.d (D.agg [.fs [], i n0])] H0 r H ∧ (r = .agg [.nilS, .d (i n0)] ∧ H0.length ≤ H.length ∧ ∀ i, i < H0.length → H[i]? = H0[i]?) := by
  refine run_walkQ eok Tryz.func20 rfl (by kernel_rfl) ?_
  conv => whnf
  repeat' (first
    | ((with_reducible refine loop_go ?_); first | (apply loopG4 (fun (k : Nat) (z : Nat) (y : Nat) (p : Nat) (H : Heap) => 0) (fun (k : Nat) (z : Nat) (y : Nat) (p : Nat) (H : Heap) => k = 0 ∧ H[z]? = some ⟨[.d (D.agg [.fs [], i n0])], 2, 0⟩ ∧ H[p]? = some ⟨[.agg [.nilS, .d (i n0)]], 2, 0⟩ ∧ H[y]? = some ⟨[(E 39).zero], (E 39).size, 0⟩ ∧ (p ≠ y ∧ z ≠ y) ∧ (H0.length ≤ z ∧ H0.length ≤ y ∧ H0.length ≤ p) ∧ ∀ i, i < H0.length → H[i]? = H0[i]?) (fun (k : Nat) (z : Nat) (y : Nat) (p : Nat) (H : Heap) => [(1, .ptr z 0 0), (2, .ptr y 0 0), (3, .ptr p 0 0), (4, .d (i k))]) (0); rotate_left; (focus (exact .inl ⟨rfl, ⟨(by first | rfl ), (by first | rfl ), (by first | rfl ), (by first | rfl ), trivial⟩⟩)); rotate_left; (focus (exact ⟨rfl, (by (repeat (first | refine look_new (by with_reducible assumption) (by omega) ?_ | refine look_set (by with_reducible assumption) (by omega) ?_ | assumption))), (by (repeat (first | assumption))), (by (repeat (first | with_reducible assumption | refine look_new (by with_reducible assumption) (by omega) ?_ | refine look_set (by with_reducible assumption) (by omega) ?_ ))), by omega, by omega, by (intro i hi; (repeat (first | rfl | refine look_new (by assumption) (by omega) ?_ | refine look_set (by assumption) (by omega) ?_ )))⟩)); intro k z y p H C hI hC; obtain ⟨rfl, h2, h0, h1, hd, hm, hf0⟩ := hI; have hl0 := lt_of_at h0; have hl1 := lt_of_at h1; have hl2 := lt_of_at h2; all_goals (conv => whnf)))
    | (refine newG (fun n H hn hl hf ho => ?_); conv => whnf)
    | (refine setG (by first | omega | exact lt_of_at (by (repeat (first | with_reducible assumption )))) (fun H hl hf ho => ?_); (try dsimp only at hl hf); conv => whnf)
    | (refine nthG (x := ?_) ?_ ?_; rotate_left; (focus ((repeat (first | with_reducible assumption | refine look_new (by with_reducible assumption) (by omega) ?_ )); done)); conv => whnf)
    | ((with_reducible refine endq_go ?_); first | (exact endq ⟨rfl, by omega, by (intro i hi; (repeat (first | rfl | refine look_new (by assumption) (by omega) ?_ | refine look_set (by assumption) (by omega) ?_ )))⟩; done))
    | fail
    )

theorem c23z (n0 : Int) (e : Rec) (H0 : Heap) : ∃ r H, Run Tryz.prog 23 [.d (D.agg [.fs [], i n0]), .d e.enc] H0 r H ∧ view 8 H r = some (.tup [(D.agg [.fs [], i n0]), .fs []]) := by
  refine run_walkQ eok Tryz.func23 rfl (by kernel_rfl) ?_
  conv => whnf
  repeat' (first
    | (refine call_stepQ (c20z n0 _) (fun r H hQ => ?_); obtain ⟨rfl, hgl, hf⟩ := hQ; conv => whnf)
    | ((with_reducible refine loop_go ?_); first | (apply loopG4 (fun (k : Nat) (z : Nat) (y : Nat) (p : Nat) (H : Heap) => 0) (fun (k : Nat) (z : Nat) (y : Nat) (p : Nat) (H : Heap) => k = 0 ∧ H[p]? = some ⟨[.agg [.nilS, .d (i n0)]], 2, 0⟩ ∧ H[y]? = some ⟨[(E 39).zero], (E 39).size, 0⟩ ∧ p ≠ y) (fun (k : Nat) (z : Nat) (y : Nat) (p : Nat) (H : Heap) => [(3, .ptr z 0 0), (4, .ptr y 0 0), (6, .ptr p 0 0), (7, .nilS), (8, .d (i k))]) (0); rotate_left; (focus (exact .inl ⟨rfl, ⟨(by first | rfl ), (by first | rfl ), (by first | rfl ), (by first | rfl ), (by first | rfl ), trivial⟩⟩)); rotate_left; (focus (exact ⟨rfl, (by (repeat (first | assumption))), (by (repeat (first | with_reducible assumption | refine look_new (by with_reducible assumption) (by omega) ?_ | refine look_set (by with_reducible assumption) (by omega) ?_ ))), by omega⟩)); intro k z y p H C hI hC; obtain ⟨rfl, h0, h1, hd⟩ := hI; have hl0 := lt_of_at h0; have hl1 := lt_of_at h1; all_goals (conv => whnf)))
    | (refine newG (fun n H hn hl hf ho => ?_); conv => whnf)
    | (refine setG (by first | omega | exact lt_of_at (by (repeat (first | with_reducible assumption )))) (fun H hl hf ho => ?_); (try dsimp only at hl hf); conv => whnf)
    | (refine nthG (x := ?_) ?_ ?_; rotate_left; (focus ((repeat (first | with_reducible assumption | refine look_new (by with_reducible assumption) (by omega) ?_ )); done)); conv => whnf)
    | ((with_reducible refine endq_go ?_); first | (exact endq (view_tup (vlc (view_agg (vlc rfl (vlc rfl vln))) (vlc rfl vln))); done))
    | fail
    )

/-- The document's Tell. -/
theorem f23 (b : Bd) (e : Rec) (hb : SB b) (hv : ∀ x ∈ b.ws, watchErr x.w.path x.w.filter x.w.room = 0) (he : eventErr e.act e.path = 0) : Fn 23 [b.enc, e.enc] (.tup [(tellB b e).enc, .fs ((told e b.ws).map i)]) := by
  by_cases h : 0 < b.ws.length
  · obtain ⟨r, H, h1, h2⟩ := c23s b e hb h hv he []
    exact run_give h1 h2
  · obtain ⟨ws, n⟩ := b
    have : ws = [] := List.eq_nil_of_length_eq_zero (by simpa using h)
    subst this
    obtain ⟨r, H, h1, h2⟩ := c23z n e []
    exact run_give h1 h2

end Go.Proofs.YtbkmjpmgiaiacaaGreatDoor
