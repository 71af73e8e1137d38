/-
  Own lemmas, no conditions: Wq, Wr, Ws, Wt, Wu, Wv, Va.
-/
import Derived.Test.YtbkmjpmgiaiacaaGreatDoorGrpG
set_option linter.unusedVariables false
set_option linter.unusedSimpArgs false

/-! Wq -/
namespace Go.Proofs.YtbkmjpmgiaiacaaGreatDoor
open Go Dw
set_option maxRecDepth 10000
set_option linter.unusedVariables false
set_option linter.unusedSimpArgs false
attribute [local irreducible] Run
set_option maxHeartbeats 4000000

open Paths
attribute [local irreducible] newD Own

theorem c20 (b : Bd) (hb : SB b) : Fn 20 [b.enc] b.enc := by
  refine run_walkF eok Tryz.func20 rfl (by kernel_rfl) ?_
  conv => whnf
  repeat' (first
    | ((with_reducible refine on_dec_f ?_ ?_); (focus ((try simp only [List.length_map, List.length_cons, List.length_nil, List.length_append]); omega)); conv => whnf)
    | ((with_reducible refine on_dec (fun h => ?_) (fun h => ?_)) <;> (try simp only [List.length_map] at h) <;> conv => whnf)
    | ((with_reducible refine loop_go ?_); first | (apply loopG1 (fun (k : Nat) (H : Heap) => b.ws.length - k) (fun (k : Nat) (H : Heap) => k ≤ b.ws.length ∧ ∃ (r : Nat) (Es : List AV), H[0]? = some ⟨[.d b.enc], 2, 0⟩ ∧ H[1]? = some ⟨[.junk], 2, 0⟩ ∧ H[2]? = some ⟨[.agg [.sl r 0 k 7 none, .d (i b.next)]], 2, 0⟩ ∧ H[r]? = some ⟨Es, 7, 0⟩ ∧ Es.length = k ∧ (r ≠ 0 ∧ r ≠ 1 ∧ r ≠ 2) ∧ Own 0 H [0, 1, 2, r] Es b.ws k) (fun (k : Nat) (H : Heap) => [(1, .ptr 0 0 0), (2, .ptr 1 0 0), (3, .ptr 2 0 0), (4, .d (i k))]) (0) ([⟨[.d b.enc], 2, 0⟩, ⟨[.junk], 2, 0⟩, ⟨[.agg [.sl 3 0 0 7 none, .d (i b.next)]], 2, 0⟩, ⟨[], 7, 0⟩]); rotate_left; (focus (exact .inr ⟨[.old 0, .old 1, .old 2, .void 7], rfl, rfl, ⟨⟨rfl, rfl, rfl⟩, ⟨rfl, rfl, rfl⟩, ⟨rfl, rfl, rfl⟩, rfl, trivial⟩, ⟨⟨rfl, rfl, .inl ⟨[_], rfl, rfl⟩⟩, ⟨rfl, rfl, .inr ⟨trivial, trivial⟩⟩, ⟨rfl, rfl, .inr ⟨⟨⟨rfl, rfl, rfl, rfl⟩, rfl, trivial⟩, trivial⟩⟩, ⟨rfl, rfl, (by decide), rfl⟩, trivial⟩⟩)); rotate_left; (focus (exact ⟨Nat.zero_le _, 3, [], rfl, rfl, rfl, rfl, rfl, by decide, Own.zero⟩)); intro k H C hI hC; have hbn := hb.n; obtain ⟨hk, r, Es, h0, h1, h2, hr, hE, hr3, hO⟩ := hI; have hl0 := lt_of_at h2; have hlr := lt_of_at hr; all_goals (conv => whnf)))
    | ((with_reducible show C _ _); first | (refine hC (k + 1) _ _ ?_ (by omega) ?_; clear hC; rotate_left; (exact ⟨(by first | rfl ), (by first | rfl ), (by first | rfl ), (by first | rfl ), trivial⟩); (refine ⟨by omega, ?_, ?_, ?_, ?_, ?_, ?_, ?_, ?_, ?_⟩; rotate_left 2; (focus (repeat (first | assumption | refine look_new (by assumption) (by omega) ?_ | refine look_set (by assumption) (by omega) ?_))); (focus (repeat (first | assumption | refine look_new (by assumption) (by omega) ?_ | refine look_set (by assumption) (by omega) ?_))); (focus (repeat (first | assumption ))); (focus (repeat (first | assumption | refine look_set (by assumption) (by omega) ?_))); (focus (simp only [List.length_append, List.length_cons, List.length_nil]; omega)); (focus omega); refine Own.snoc hO (by omega) (fun j hj => snoc_old hE hj) (snoc_bw hE (by simp only [List.length_map])) (by (intro i hi hmi hlt; simp only [List.mem_cons, List.not_mem_nil, or_false, not_or] at hi; (repeat (first | rfl | refine look_new (by assumption) (by omega) ?_ | refine look_set (by assumption) (by omega) ?_)))) (by (intro i hi; simp only [List.mem_cons, List.not_mem_nil, or_false] at hi ⊢; omega)) (by omega) (by (repeat (first | assumption | refine look_new (by assumption) (by omega) ?_ | refine look_set (by assumption) (by omega) ?_))) (by (simp only [List.mem_cons, List.not_mem_nil, or_false, not_or]; omega)) (Nat.zero_le _))))
    | (refine ⟨(by intro y hy; obtain ⟨x, _, rfl⟩ := List.mem_map.1 hy; first | exact ⟨rfl, rfl⟩), ?_⟩; conv => whnf)
    | (refine ix_map (by omega) ?_; conv => whnf)
    | (refine wrap64 (by omega) ?_; conv => whnf)
    | (refine new_0 ?_; conv => whnf)
    | (refine new_1 ?_; conv => whnf)
    | (refine new_2 ?_; conv => whnf)
    | (refine newG (fun n H hn hl hf ho => ?_); conv => whnf)
    | (refine setG (by omega) (fun H hl hf ho => ?_); conv => whnf)
    | (refine nthG (x := ?_) ?_ ?_; rotate_left; (focus ((repeat (first | assumption | refine look_new (by assumption) (by omega) ?_ | refine look_set (by assumption) (by omega) ?_)); done)); conv => whnf)
    | (refine ⟨Nat.le_refl _, ?_⟩; conv => whnf)
    | (refine ⟨⟨(by simp only [List.length_map, List.length_append]; omega), cap_ok (by have hq := (hb.r _ (List.getElem_mem (l := b.ws) (n := k) (by omega))).1; simp only [List.length_map, List.length_cons, List.length_nil, List.length_append]; omega) rfl⟩, ?_⟩; conv => whnf)
    | (refine ⟨cap_ok (by have hq := (hb.r _ (List.getElem_mem (l := b.ws) (n := k) (by omega))).1; simp only [List.length_map, List.length_cons, List.length_nil, List.length_append]; omega) rfl, ?_⟩; conv => whnf)
    | ((with_reducible refine endx_go ?_); first | (refine endxv (view_agg (vlc (view_own_k (by (repeat (first | assumption | refine look_set (by assumption) (by omega) ?_))) (Nat.le_of_eq hE.symm) (by omega) (hO.frame (fun _ h => .inl h) (by (intro i hi hmi hlt; simp only [List.mem_cons, List.not_mem_nil, or_false, not_or] at hi; (repeat (first | rfl | refine look_set (by assumption) (by omega) ?_)))))) (vlc rfl vln))) rfl; done))
    | fail
    )

theorem c20o (b : Bd) (hb : SB b) (H0 : Heap) : ∃ r H, Run Tryz.prog 20 [.d b.enc] H0 r H ∧ (∃ cw, r = .agg [cw, .d (i b.next)] ∧ RowK H0.length H [] cw b.ws b.ws.length ∧ H0.length ≤ H.length ∧ ∀ i, i < H0.length → H[i]? = H0[i]?) := by
  refine run_walkQ eok Tryz.func20 rfl (by kernel_rfl) ?_
  conv => whnf
  repeat' (first
    | ((with_reducible refine on_dec_f ?_ ?_); (focus ((try simp only [List.length_map, List.length_cons, List.length_nil, List.length_append]); omega)); conv => whnf)
    | ((with_reducible refine on_dec (fun h => ?_) (fun h => ?_)) <;> (try simp only [List.length_map] at h) <;> conv => whnf)
    | ((with_reducible refine loop_go ?_); first | (apply loopG4 (fun (k : Nat) (z : Nat) (y : Nat) (o : Nat) (H : Heap) => b.ws.length - k) (fun (k : Nat) (z : Nat) (y : Nat) (o : Nat) (H : Heap) => (k ≤ b.ws.length ∧ H[z]? = some ⟨[.d b.enc], 2, 0⟩ ∧ H[y]? = some ⟨[(E 39).zero], (E 39).size, 0⟩ ∧ (z ≠ y ∧ z ≠ o ∧ y ≠ o) ∧ (H0.length ≤ z ∧ H0.length ≤ y ∧ H0.length ≤ o) ∧ (∀ i, i < H0.length → H[i]? = H0[i]?)) ∧ ∃ cw, H[o]? = some ⟨[.agg [cw, .d (i b.next)]], 2, 0⟩ ∧ RowE H0.length H [z, y, o] cw b.ws k) (fun (k : Nat) (z : Nat) (y : Nat) (o : Nat) (H : Heap) => [(1, .ptr z 0 0), (2, .ptr y 0 0), (3, .ptr o 0 0), (4, .d (i k))]) (0); rotate_left; (focus (exact .inl ⟨rfl, ⟨(by first | rfl ), (by first | rfl ), (by first | rfl ), (by first | rfl ), trivial⟩⟩)); rotate_left; (focus (exact ⟨⟨Nat.zero_le _, (by (repeat (first | assumption | refine look_new (by assumption) (by omega) ?_ | refine look_set (by assumption) (by omega) ?_))), (by (repeat (first | assumption | refine look_new (by assumption) (by omega) ?_ | refine look_set (by assumption) (by omega) ?_))), by omega, by omega, by (intro i hi; (repeat (first | rfl | refine look_new (by assumption) (by omega) ?_ | refine look_set (by assumption) (by omega) ?_ )))⟩, .nilS, by (repeat (first | assumption )), RowE.zero⟩)); intro k z y o H C hI hC; have hbn := hb.n; obtain ⟨⟨hk, h0, h1, hd, hm, hf0⟩, cw, h2, hR⟩ := hI; have hl0 := lt_of_at h0; have hl1 := lt_of_at h1; have hl2 := lt_of_at h2; rcases hR with ⟨hk0, rfl⟩ | ⟨r, Es, rfl, hr, hE, ⟨hrB, hrm⟩, hO⟩; rotate_left; (simp only [List.mem_cons, List.not_mem_nil, or_false, not_or] at hrB); have hlr := lt_of_at hr; rotate_left; all_goals (conv => whnf)))
    | ((with_reducible show C _ _); first | (refine hC (k + 1) (z) (y) (o) _ _ ?_ (by omega) ?_; clear hC; rotate_left; (exact ⟨(by first | rfl ), (by first | rfl ), (by first | rfl ), (by first | rfl ), trivial⟩); (exact ⟨⟨by omega, (by (repeat (first | assumption | refine look_new (by assumption) (by omega) ?_ | refine look_set (by assumption) (by omega) ?_))), (by (repeat (first | assumption | refine look_new (by assumption) (by omega) ?_ | refine look_set (by assumption) (by omega) ?_))), by omega, by omega, by (intro i hi; (repeat (first | rfl | refine look_new (by assumption) (by omega) ?_ | refine look_set (by assumption) (by omega) ?_ )))⟩, _, (by (repeat (first | assumption ))), .inr ⟨_, _, (by first | rfl ), (by (repeat (first | assumption | refine look_set (by assumption) (by omega) ?_))), (by simp only [List.length_append, List.length_cons, List.length_nil]; omega), ⟨by (simp only [List.mem_cons, List.not_mem_nil, or_false, not_or]; omega), by omega⟩, Own.snoc hO (by try omega) (fun j hj => snoc_old (by omega) hj) (snoc_bw (by omega) (by simp only [List.length_map])) (by (intro i hi hmi hlt; simp only [List.mem_cons, List.not_mem_nil, or_false, not_or] at hi; (repeat (first | rfl | refine look_new (by assumption) (by omega) ?_ | refine look_set (by assumption) (by omega) ?_)))) (by (intro i hi; simp only [List.mem_cons, List.not_mem_nil, or_false] at hi ⊢; omega)) (by omega) (by (repeat (first | assumption | refine look_new (by assumption) (by omega) ?_ | refine look_set (by assumption) (by omega) ?_))) (by (simp only [List.mem_cons, List.not_mem_nil, or_false, not_or]; omega)) (by omega)⟩⟩)) | (refine hC (k + 1) (z) (y) (o) _ _ ?_ (by omega) ?_; clear hC; rotate_left; (exact ⟨(by first | rfl ), (by first | rfl ), (by first | rfl ), (by first | rfl ), trivial⟩); (exact ⟨⟨by omega, (by (repeat (first | assumption | refine look_new (by assumption) (by omega) ?_ | refine look_set (by assumption) (by omega) ?_))), (by (repeat (first | assumption | refine look_new (by assumption) (by omega) ?_ | refine look_set (by assumption) (by omega) ?_))), by omega, by omega, by (intro i hi; (repeat (first | rfl | refine look_new (by assumption) (by omega) ?_ | refine look_set (by assumption) (by omega) ?_ )))⟩, _, (by (repeat (first | assumption ))), .inr ⟨_, _, (by first | exact sl_len (by simp only [List.length_cons, List.length_nil]; omega)), (by (repeat (first | assumption | refine look_set (by assumption) (by omega) ?_))), (by simp only [List.length_append, List.length_cons, List.length_nil]; omega), ⟨by (simp only [List.mem_cons, List.not_mem_nil, or_false, not_or]; omega), by omega⟩, Own.one hk0 (by try omega) (snoc_bw (l := []) hk0.symm (by simp only [List.length_map])) (by (repeat (first | assumption | refine look_new (by assumption) (by omega) ?_ | refine look_set (by assumption) (by omega) ?_))) (by (simp only [List.mem_cons, List.not_mem_nil, or_false, not_or]; omega)) (by omega)⟩⟩)))
    | (refine ⟨(by intro y hy; obtain ⟨x, _, rfl⟩ := List.mem_map.1 hy; first | exact ⟨rfl, rfl⟩), ?_⟩; conv => whnf)
    | (refine ix_map (by omega) ?_; conv => whnf)
    | (refine wrap64 (by omega) ?_; conv => whnf)
    | (refine newG (fun n H hn hl hf ho => ?_); conv => whnf)
    | (refine setG (by omega) (fun H hl hf ho => ?_); conv => whnf)
    | (refine nthG (x := ?_) ?_ ?_; rotate_left; (focus ((repeat (first | assumption | refine look_new (by assumption) (by omega) ?_ | refine look_set (by assumption) (by omega) ?_)); done)); conv => whnf)
    | (refine ⟨Nat.le_refl _, ?_⟩; conv => whnf)
    | (refine ⟨⟨(by simp only [List.length_map, List.length_append]; omega), cap_ok (by have hq := (hb.r _ (List.getElem_mem (l := b.ws) (n := k) (by omega))).1; simp only [List.length_map, List.length_cons, List.length_nil, List.length_append]; omega) rfl⟩, ?_⟩; conv => whnf)
    | (refine ⟨cap_ok (by have hq := (hb.r _ (List.getElem_mem (l := b.ws) (n := k) (by omega))).1; simp only [List.length_map, List.length_cons, List.length_nil, List.length_append]; omega) rfl, ?_⟩; conv => whnf)
    | ((with_reducible refine endq_go ?_); first | (exact endq ⟨_, rfl, by rw [show b.ws.length = k by omega]; exact RowK.frame (RowE.toK (.inl ⟨hk0, rfl⟩)) (B := [z, y, o]) (fun _ h => by cases h) (by (intro i hi hmi hlt; simp only [List.mem_cons, List.not_mem_nil, or_false, not_or] at hi; (repeat (first | rfl )))), by omega, by (intro i hi; (repeat (first | rfl | refine look_new (by assumption) (by omega) ?_ | refine look_set (by assumption) (by omega) ?_ )))⟩; done) | (exact endq ⟨_, rfl, by rw [show b.ws.length = k by omega]; exact RowK.frame (RowE.toK (.inr ⟨r, Es, rfl, hr, hE, ⟨by (simp only [List.mem_cons, List.not_mem_nil, or_false, not_or]; omega), hrm⟩, hO⟩)) (B := [z, y, o]) (fun _ h => by cases h) (by (intro i hi hmi hlt; simp only [List.mem_cons, List.not_mem_nil, or_false, not_or] at hi; (repeat (first | rfl | refine look_set (by assumption) (by omega) ?_)))), by omega, by (intro i hi; (repeat (first | rfl | refine look_new (by assumption) (by omega) ?_ | refine look_set (by assumption) (by omega) ?_ )))⟩; done))
    | fail
    )

end Go.Proofs.YtbkmjpmgiaiacaaGreatDoor

/-! Wr -/
namespace Go.Proofs.YtbkmjpmgiaiacaaGreatDoor
open Go Dw
set_option maxRecDepth 10000
set_option linter.unusedVariables false
set_option linter.unusedSimpArgs false
attribute [local irreducible] Run
set_option maxHeartbeats 4000000

open Paths
attribute [local irreducible] newD Own checkB

theorem c65o (b : Bd) (hb : SB b) (hc : (checkB b).2 = 0) (H0 : Heap) : ∃ r H, Run Tryz.prog 65 [.d b.enc] H0 r H ∧ (∃ p, r = .tup [.ptr p 0 0, .d (i 0)] ∧ BH H0.length H p b ∧ ∀ i, i < H0.length → H[i]? = H0[i]?) := by
  refine run_walkQ eok Tryz.func65 rfl (by kernel_rfl) ?_
  conv => whnf
  repeat' (first
    | ((with_reducible refine on_ndec_t (by first | assumption ) ?_); conv => whnf)
    | ((with_reducible refine on_dec (fun h => ?_) (fun h => ?_)) <;> (try simp only [List.length_map] at h) <;> conv => whnf)
    | (refine clone_mapG cl101 (l := b.ws) (g := BW.enc) (by have := hb.n; omega) (fun x _ => ⟨rfl, rfl⟩) (fun n H hn hl hf ho => ?_); conv => whnf)
    | (refine clone_mapG cl102 (l := (b.ws[k]'(by omega)).recs) (g := Rec.enc) (by have hq := (hb.r _ (List.getElem_mem (l := b.ws) (n := k) (by omega))).1; omega) (fun x _ => ⟨rfl, rfl⟩) (fun n H hn hl hf ho => ?_); conv => whnf)
    | ((with_reducible refine call_go ?_); (first | refine call_step (run_view (c33 b hb) rfl rfl) ?_); conv => whnf)
    | (refine ⟨[], [(1, 5)], (by decide +kernel), ?_⟩; conv => whnf)
    | ((with_reducible refine loop_go ?_); first | (apply loopG3 (fun (k : Nat) (z : Nat) (q : Nat) (H : Heap) => b.ws.length - k) (fun (k : Nat) (z : Nat) (q : Nat) (H : Heap) => (k ≤ b.ws.length ∧ H[z]? = some ⟨[.agg [.sl q 0 b.ws.length 7 none, .d (i b.next)]], 2, 0⟩ ∧ z ≠ q ∧ (H0.length ≤ z ∧ H0.length ≤ q) ∧ (∀ i, i < H0.length → H[i]? = H0[i]?)) ∧ ∃ Es, H[q]? = some ⟨Es, 7, 0⟩ ∧ Es.length = b.ws.length ∧ (∀ j, k ≤ j → (hj : j < b.ws.length) → Es[j]? = some (.d b.ws[j].enc)) ∧ Own H0.length H [z, q] Es b.ws k) (fun (k : Nat) (z : Nat) (q : Nat) (H : Heap) => [(1, .ptr z 0 0), (21, .sl q 0 b.ws.length 7 none), (22, .d (i b.ws.length)), (23, .d (i k))]) (0); rotate_left; (focus (exact .inl ⟨rfl, ⟨(by first | rfl ), (by first | rfl ), (by first | rfl ), (by first | rfl ), trivial⟩⟩)); rotate_left; (focus (exact ⟨⟨Nat.zero_le _, (by (repeat (first | assumption ))), by omega, by omega, by (intro i hi; (repeat (first | rfl | refine look_new (by assumption) (by omega) ?_ | refine look_set (by assumption) (by omega) ?_ )))⟩, _, (by (repeat (first | assumption | refine look_set (by assumption) (by omega) ?_))), by simp only [List.length_map], fun j _ hj => by simp [hj], Own.zero⟩)); intro k z q H C hI hC; have hbn := hb.n; obtain ⟨⟨hk, h0, hd, hm, hf0⟩, Es, hq, hE, hrest, hO⟩ := hI; have hl0 := lt_of_at h0; have hl1 := lt_of_at hq; have hEk := fun (h : k < b.ws.length) => hrest k (Nat.le_refl _) h; all_goals (conv => whnf)))
    | ((with_reducible show C _ _); first | (refine hC (k + 1) (z) (q) _ _ ?_ (by omega) ?_; clear hC; rotate_left; (exact ⟨(by first | rfl ), (by first | rfl ), (by first | rfl ), (by first | rfl ), trivial⟩); exact ⟨⟨by omega, (by (repeat (first | assumption | refine look_new (by assumption) (by omega) ?_ | refine look_set (by assumption) (by omega) ?_))), by omega, by omega, by (intro i hi; (repeat (first | rfl | refine look_new (by assumption) (by omega) ?_ | refine look_set (by assumption) (by omega) ?_ )))⟩, _, (by (repeat (first | assumption ))), by omega, fun j hj1 hj => look_set (by assumption) (by omega) (hrest j (by omega) hj), Own.snoc hO (by try omega) (fun j hj => look_set (by assumption) (by omega) rfl) (Eq.trans (by (repeat (first | assumption ))) (congrArg some (bw_len (x := b.ws[k]) rfl))) (by (intro i hi hmi hlt; simp only [List.mem_cons, List.not_mem_nil, or_false, not_or] at hi; (repeat (first | rfl | refine look_new (by assumption) (by omega) ?_ | refine look_set (by assumption) (by omega) ?_)))) (by (intro i hi; simp only [List.mem_cons, List.not_mem_nil, or_false] at hi ⊢; omega)) (by omega) (by (repeat (first | assumption | refine look_set (by assumption) (by omega) ?_))) (by (simp only [List.mem_cons, List.not_mem_nil, or_false, not_or]; omega)) (by omega)⟩))
    | (refine wrap64 (by omega) ?_; conv => whnf)
    | (refine nthG0 (hEk (by omega)) ?_; conv => whnf)
    | (refine newG (fun n H hn hl hf ho => ?_); conv => whnf)
    | (refine setGk (by first | omega | (dsimp only; omega) | exact lt_of_at (by (repeat (first | assumption )))) (fun H hl hf ho => ?_); (try dsimp only at hl hf); conv => whnf)
    | (refine setG (by first | omega | exact lt_of_at (by (repeat (first | assumption )))) (fun H hl hf ho => ?_); (try dsimp only at hl hf); conv => whnf)
    | (refine nthG (x := ?_) ?_ ?_; rotate_left; (focus ((repeat (first | assumption | refine look_new (by assumption) (by omega) ?_ | refine look_set (by assumption) (by omega) ?_)); done)); conv => whnf)
    | (refine ⟨⟨by omega, by omega⟩, ?_⟩; conv => whnf)
    | (refine ⟨congrArg (Option.map AO.vis) (Eq.symm (by (repeat (first | rfl | refine look_new (by assumption) (by omega) ?_ )))), ?_⟩; conv => whnf)
    | ((with_reducible refine endq_go ?_); first | (exact endq ⟨_, rfl, ⟨_, _, (by (repeat (first | assumption ))), (by (repeat (first | assumption | refine look_new (by assumption) (by omega) ?_ ))), by omega, by omega, (by rw [show b.ws.length = k by omega]; exact Own.frame hO (by (intro i hi; simp only [List.mem_cons, List.not_mem_nil, or_false] at hi ⊢; omega)) (by (intro i hi hmi hlt; simp only [List.mem_cons, List.not_mem_nil, or_false, not_or] at hi; (repeat (first | rfl | refine look_new (by assumption) (by omega) ?_ )))))⟩, by (intro i hi; (repeat (first | rfl | refine look_new (by assumption) (by omega) ?_ )))⟩; done))
    | fail
    )

theorem c65e (b : Bd) (hb : SB b) (hc : ¬ (checkB b).2 = 0) (H0 : Heap) : ∃ r H, Run Tryz.prog 65 [.d b.enc] H0 r H ∧ (∃ a, r = .tup [a, .d (i (checkB b).2)] ∧ ∀ i, i < H0.length → H[i]? = H0[i]?) := by
  refine run_walkQ eok Tryz.func65 rfl (by kernel_rfl) ?_
  conv => whnf
  repeat' (first
    | ((with_reducible refine on_ndec_f (by assumption) ?_); conv => whnf)
    | ((with_reducible refine call_go ?_); (first | refine call_step (run_view (c33 b hb) rfl rfl) ?_); conv => whnf)
    | (refine newG (fun n H hn hl hf ho => ?_); conv => whnf)
    | (refine nthG (x := ?_) ?_ ?_; rotate_left; (focus ((repeat (first | assumption )); done)); conv => whnf)
    | ((with_reducible refine endq_go ?_); first | (exact endq ⟨_, rfl, by (intro i hi; (repeat (first | rfl | refine look_new (by assumption) (by omega) ?_ )))⟩; done))
    | fail
    )

def roomy (b : Bd) : Bool := decide ((b.ws.length : Int) < 8) && decide (b.next < 2147483647)
def addErr (b : Bd) (w : Wt) : Int := firstE [watchErr w.path w.filter w.room, if roomy b = true then 0 else 16]
def addB (b : Bd) (w : Wt) : Bd := ⟨b.ws ++ [⟨b.next, w, [], false⟩], b.next + 1⟩

theorem add_ok {b : Bd} {w : Wt} (h : addErr b w = 0) : watchErr w.path w.filter w.room = 0 ∧ (b.ws.length : Int) < 8 ∧ b.next < 2147483647 := by
  unfold addErr at h
  have h1 := firstE_all h (watchErr w.path w.filter w.room) (by simp)
  have h2 := firstE_all h (if roomy b = true then 0 else 16) (by simp)
  refine ⟨h1, ?_⟩
  by_cases hr : roomy b = true
  · unfold roomy at hr
    simp only [Bool.and_eq_true, decide_eq_true_eq] at hr
    exact hr
  · rw [if_neg hr] at h2; cases h2
theorem add_8 {b : Bd} {w : Wt} (h : (b.ws.length : Int) < 8) : addErr b w = firstE [watchErr w.path w.filter w.room, if decide (b.next < 2147483647) = true then 0 else 16] := by
  unfold addErr roomy; rw [decide_eq_true h, Bool.true_and]
theorem add_n8 {b : Bd} {w : Wt} (h : ¬ (b.ws.length : Int) < 8) : addErr b w = firstE [watchErr w.path w.filter w.room, if false = true then 0 else 16] := by
  unfold addErr roomy; rw [decide_eq_false h, Bool.false_and]
theorem addB_len (b : Bd) (w : Wt) : (addB b w).ws.length = b.ws.length + 1 := by unfold addB; simp
attribute [local irreducible] addErr roomy

end Go.Proofs.YtbkmjpmgiaiacaaGreatDoor

/-! Ws -/
namespace Go.Proofs.YtbkmjpmgiaiacaaGreatDoor
open Go Dw
set_option maxRecDepth 10000
set_option linter.unusedVariables false
set_option linter.unusedSimpArgs false
attribute [local irreducible] Run
set_option maxHeartbeats 4000000

open Paths
attribute [local irreducible] newD Own checkB addErr roomy
def bd0 : Bd := ⟨[], 0⟩
theorem checkB_next {b : Bd} (h : (checkB b).2 = 0) : 1 ≤ b.next ∧ b.next ≤ 2147483647 := by
  unfold checkB at h
  by_cases h0 : headB b = 0
  · exact (headB_ok h0).2
  · rw [if_neg h0] at h; exact absurd h h0
end Go.Proofs.YtbkmjpmgiaiacaaGreatDoor

/-! Wt -/
namespace Go.Proofs.YtbkmjpmgiaiacaaGreatDoor
open Go Dw
set_option maxRecDepth 10000
set_option linter.unusedVariables false
set_option linter.unusedSimpArgs false
attribute [local irreducible] Run
set_option maxHeartbeats 4000000

open Paths
attribute [local irreducible] Own checkB addErr roomy
def cmpI (a b : Int) : Int := if a < b then -1 else if b < a then 1 else 0
def bsAt {α : Type} (c : α → Int) (l : List α) (k : Nat) : Int := match l[k]? with
  | some x => c x
  | none => 0
theorem bsAt_eq {α : Type} {c : α → Int} {l : List α} {k : Nat} (h : k < l.length) : bsAt c l k = c l[k] := by
  simp only [bsAt, List.getElem?_eq_getElem h]
def bsGo {α : Type} (c : α → Int) (l : List α) : Nat → Nat → Nat → Nat
  | 0, a, _ => a
  | n + 1, a, b => if a < b then (if bsAt c l ((a + b) / 2) < 0 then bsGo c l n ((a + b) / 2 + 1) b else bsGo c l n a ((a + b) / 2)) else a
def bsR {α : Type} (c : α → Int) (l : List α) : Nat × Bool :=
  (bsGo c l l.length 0 l.length, match l[bsGo c l l.length 0 l.length]? with | some x => decide (c x = 0) | none => false)
theorem bs_lt {α : Type} {c : α → Int} {l : List α} {n a b : Nat} (hn : b - a ≤ n) (h : a < b) (hl : (a + b) / 2 < l.length) (hc : c l[(a + b) / 2] < 0) : 0 < n ∧ bsGo c l n a b = bsGo c l (n - 1) ((a + b) / 2 + 1) b := by
  cases n with
  | zero => omega
  | succ n => exact ⟨by omega, by simp only [bsGo, if_pos h, bsAt_eq hl, if_pos hc, Nat.add_sub_cancel]⟩
theorem bs_ge {α : Type} {c : α → Int} {l : List α} {n a b : Nat} (hn : b - a ≤ n) (h : a < b) (hl : (a + b) / 2 < l.length) (hc : ¬ c l[(a + b) / 2] < 0) : 0 < n ∧ bsGo c l n a b = bsGo c l (n - 1) a ((a + b) / 2) := by
  cases n with
  | zero => omega
  | succ n => exact ⟨by omega, by simp only [bsGo, if_pos h, bsAt_eq hl, if_neg hc, Nat.add_sub_cancel]⟩
theorem bsR_at {α : Type} {c : α → Int} {l : List α} {k : Nat} (h : bsGo c l l.length 0 l.length = k) (hk : k < l.length) : bsR c l = (k, decide (c l[k] = 0)) := by
  simp only [bsR, h, List.getElem?_eq_getElem hk]
theorem bsR_none {α : Type} {c : α → Int} {l : List α} {k : Nat} (h : bsGo c l l.length 0 l.length = k) (hk : ¬ k < l.length) : bsR c l = (k, false) := by
  simp only [bsR, h, List.getElem?_eq_none (Nat.le_of_not_lt hk)]
theorem bs_end {α : Type} {c : α → Int} {l : List α} {n a b : Nat} (h : ¬ a < b) : bsGo c l n a b = a := by
  cases n <;> simp [bsGo, h]
/-- Where the numbers ascend, the search ends ahead of the first that is not below zero. -/
theorem bsGo_ok {α : Type} {c : α → Int} {l : List α} (hc : ∀ i j (hi : i < j) (hj : j < l.length), 0 ≤ c (l[i]'(by omega)) → 0 ≤ c l[j]) : ∀ (n a b : Nat), b - a ≤ n → a ≤ b → b ≤ l.length → (∀ i (hi : i < l.length), i < a → c l[i] < 0) → (∀ i (hi : i < l.length), b ≤ i → 0 ≤ c l[i]) →
    bsGo c l n a b ≤ l.length ∧ (∀ i (hi : i < l.length), i < bsGo c l n a b → c l[i] < 0) ∧ (∀ i (hi : i < l.length), bsGo c l n a b ≤ i → 0 ≤ c l[i])
  | 0, a, b, hn, hab, hb, h1, h2 => by
    have : a = b := by omega
    subst this
    exact ⟨hb, h1, h2⟩
  | n + 1, a, b, hn, hab, hb, h1, h2 => by
    by_cases h : a < b
    · have hm : (a + b) / 2 < l.length := by omega
      by_cases h0 : c l[(a + b) / 2] < 0
      · rw [(bs_lt hn h hm h0).2]
        refine bsGo_ok hc n _ b (by omega) (by omega) hb (fun i hi hia => ?_) h2
        apply Int.lt_of_not_ge
        intro hge
        by_cases e : i = (a + b) / 2
        · subst e; omega
        · have := hc i ((a + b) / 2) (by omega) hm hge; omega
      · rw [(bs_ge hn h hm h0).2]
        refine bsGo_ok hc n a _ (by omega) (by omega) (by omega) h1 (fun i hi hia => ?_)
        by_cases e : i = (a + b) / 2
        · subst e; omega
        · exact hc ((a + b) / 2) i (by omega) hi (by omega)
    · rw [bs_end h]
      have : a = b := by omega
      subst this
      exact ⟨hb, h1, h2⟩
def ixB (t : Int) : List BW → Nat → Int
  | [], _ => -1
  | x :: l, k => if x.id = t then (k : Int) else ixB t l (k + 1)

theorem c156 (n : Int) : Fn 156 [i n] (.bool false) := by
  refine run_walkF eok Tryz.func156 rfl (by kernel_rfl) ?_
  conv => whnf
  repeat' (first
    | ((with_reducible refine endx_go ?_); first | (refine endx (congrArg D.bool ?_); simp; done))
    | fail
    )

theorem c134 (a b : Int) : Fn 134 [i a, i b] (i (cmpI a b)) := by
  refine run_walkF eok Tryz.func134 rfl (by kernel_rfl) ?_
  conv => whnf
  repeat' (first
    | ((with_reducible refine on_dec (fun h => ?_) (fun h => ?_)) <;> (try simp only [List.length_map] at h) <;> conv => whnf)
    | ((with_reducible refine call_go ?_); (first | refine call_step (run_view (c156 _) rfl rfl) ?_); conv => whnf)
    | ((with_reducible refine endx_go ?_); first | (refine endx (congrArg i ?_); unfold cmpI; first | (rw [if_pos (by assumption)]) | (rw [if_neg (show ¬ a < b by assumption), if_pos (show b < a by assumption)]) | (rw [if_neg (show ¬ a < b by assumption), if_neg (show ¬ b < a by omega)]); done))
    | fail
    )

theorem c133 (x : BW) (t : Int) : Fn 133 [x.enc, i t] (i (cmpI x.id t)) := by
  refine run_walkF eok Tryz.func133 rfl (by kernel_rfl) ?_
  conv => whnf
  repeat' (first
    | ((with_reducible refine call_go ?_); (first | refine call_step (run_view (c134 _ _) rfl rfl) ?_); conv => whnf)
    | ((with_reducible refine endx_go ?_); first | (exact endx rfl; done))
    | fail
    )

theorem c132 (l : List BW) (t : Int) (hl : l.length < 1000000) : Fn 132 [.fs (l.map BW.enc), i t, .fn 133 [] []] (.tup [i (bsR (fun x : BW => cmpI x.id t) l).1, .bool (bsR (fun x : BW => cmpI x.id t) l).2]) := by
  refine run_walkF eok Tryz.func132 rfl (by kernel_rfl) ?_
  conv => whnf
  repeat' (first
    | ((with_reducible refine on_dec (fun h => ?_) (fun h => ?_)) <;> (try simp only [List.length_map] at h) <;> conv => whnf)
    | ((with_reducible refine call_go ?_); (first | refine call_step (run_view (c133 _ _) rfl rfl) ?_); conv => whnf)
    | ((with_reducible refine loop_go ?_); first | (refine loop3 (fun (n : Nat) (a : Nat) (b : Nat) => b - a) (fun (n : Nat) (a : Nat) (b : Nat) => a ≤ b ∧ b ≤ l.length ∧ b - a ≤ n ∧ bsGo (fun x : BW => cmpI x.id t) l l.length 0 l.length = bsGo (fun x : BW => cmpI x.id t) l n a b) (fun (n : Nat) (a : Nat) (b : Nat) => [(0, .d (.fs (l.map BW.enc))), (1, .d (i t)), (2, .d (.fn 133 [] [])), (8, .d (i l.length)), (9, .d (i a)), (10, .d (i b))]) (fun (n : Nat) (a : Nat) (b : Nat) => []) (l.length) (0) (l.length) (by exact ⟨by omega, by omega, by omega, rfl⟩) ?_ (fun n a b C hI hC => ?_); (exact ⟨[], rfl, rfl, ⟨(by first | (show (_ : D) = _; with_reducible rfl) ), (by first | (show (_ : D) = _; with_reducible rfl) ), (by first | (show (_ : D) = _; with_reducible rfl) ), (by first | exact congrArg (D.int .i64) (by simp only [List.length_map]) ), (by first | exact congrArg (D.int .i64) (by omega) ), (by first | exact congrArg (D.int .i64) (by simp only [List.length_map]) ), trivial⟩, trivial⟩); all_goals (conv => whnf)))
    | ((with_reducible show C _ _); first | (refine hC (n - 1) ((a + b) / 2 + 1) (b) _ _ ?_ (by omega) ?_; clear hC; rotate_left; (exact ⟨[], rfl, rfl, ⟨(by first | (show (_ : D) = _; with_reducible rfl) ), (by first | (show (_ : D) = _; with_reducible rfl) ), (by first | (show (_ : D) = _; with_reducible rfl) ), (by first | (show (_ : D) = _; with_reducible rfl) ), (by first | exact congrArg (D.int .i64) (by omega) ), (by first | (show (_ : D) = _; with_reducible rfl) ), trivial⟩, trivial⟩); (exact (by have he := bs_lt (c := fun x : BW => cmpI x.id t) (l := l) (n := n) (a := a) (b := b) hI.2.2.1 (by omega) (by omega) h; exact ⟨by omega, by omega, by omega, by rw [hI.2.2.2, he.2]⟩))) | (refine hC (n - 1) (a) ((a + b) / 2) _ _ ?_ (by omega) ?_; clear hC; rotate_left; (exact ⟨[], rfl, rfl, ⟨(by first | (show (_ : D) = _; with_reducible rfl) ), (by first | (show (_ : D) = _; with_reducible rfl) ), (by first | (show (_ : D) = _; with_reducible rfl) ), (by first | (show (_ : D) = _; with_reducible rfl) ), (by first | (show (_ : D) = _; with_reducible rfl) ), (by first | exact congrArg (D.int .i64) (by omega) ), trivial⟩, trivial⟩); (exact (by have he := bs_ge (c := fun x : BW => cmpI x.id t) (l := l) (n := n) (a := a) (b := b) hI.2.2.1 (by omega) (by omega) h; exact ⟨by omega, by omega, by omega, by rw [hI.2.2.2, he.2]⟩))))
    | (refine ix_map (by omega) ?_; conv => whnf)
    | (refine wrap64 (by omega) ?_; conv => whnf)
    | (refine wrapU64 (by omega) ?_; conv => whnf)
    | (refine shr_at 2 ?_ ?_ ?_ ?_; (rfl); (rfl); (rfl); conv => whnf)
    | (refine ix_at (f := BW.enc) (l := l) ((a + b) / 2) (by omega) (by omega) ?_; conv => whnf)
    | ((with_reducible refine endx_go ?_); first | (have he := bs_end (c := fun x : BW => cmpI x.id t) (l := l) (n := n) (a := a) (b := b) (by omega); first | (have hb := bsR_at (c := fun x : BW => cmpI x.id t) (l := l) (k := a) (by rw [hI.2.2.2, he]) (by omega); exact endx2 (by rw [hb])) | (have hb := bsR_none (c := fun x : BW => cmpI x.id t) (l := l) (k := a) (by rw [hI.2.2.2, he]) (by omega); exact endx2 (by rw [hb])); done))
    | fail
    )

theorem ixB_none {t : Int} : ∀ (l : List BW) (k : Nat), (∀ x ∈ l, x.id ≠ t) → ixB t l k = -1
  | [], _, _ => rfl
  | x :: l, k, h => by
    unfold ixB
    rw [if_neg (h x (by simp))]
    exact ixB_none l (k + 1) fun y hy => h y (by simp [hy])
theorem ixB_some {t : Int} : ∀ (l : List BW) (k a : Nat) (ha : a < l.length), l[a].id = t → (∀ j (hj : j < l.length), j < a → l[j].id ≠ t) → ixB t l k = ((k + a : Nat) : Int)
  | x :: l, k, 0, _, h, _ => by unfold ixB; rw [if_pos (show x.id = t from h)]; rfl
  | x :: l, k, a + 1, ha, h, h2 => by
    unfold ixB
    rw [if_neg (show ¬ x.id = t from h2 0 (by simp) (by omega)), ixB_some l (k + 1) a (by simpa using ha) h (fun j hj hja => h2 (j + 1) (by simpa using hj) (by omega))]
    congr 1; omega
def asc (ws : List BW) : Prop := ∀ i j (hi : i < j) (hj : j < ws.length), (ws[i]'(by omega)).id < ws[j].id
theorem cmpI_neg {a b : Int} : cmpI a b < 0 ↔ a < b := by unfold cmpI; split <;> (try split) <;> omega
theorem cmpI_zero {a b : Int} : cmpI a b = 0 ↔ a = b := by unfold cmpI; split <;> (try split) <;> omega
/-- What is found. -/
theorem find_ok {ws : List BW} {t : Int} (h : asc ws) : ((bsR (fun x : BW => cmpI x.id t) ws).2 = decide (0 ≤ ixB t ws 0)) ∧ (0 ≤ ixB t ws 0 → ((bsR (fun x : BW => cmpI x.id t) ws).1 : Int) = ixB t ws 0 ∧ ixB t ws 0 < ws.length) := by
  obtain ⟨h1, h2, h3⟩ := bsGo_ok (c := fun x : BW => cmpI x.id t) (l := ws) (fun i j hi hj h0 => by
    have := h i j hi hj
    apply Int.le_of_not_gt; intro hlt
    have h4 := cmpI_neg.1 hlt
    have : cmpI (ws[i]'(by omega)).id t < 0 := cmpI_neg.2 (by omega)
    omega) ws.length 0 ws.length (by omega) (by omega) (Nat.le_refl _) (fun i hi h => by omega) (fun i hi h => by omega)
  obtain ⟨r, hr⟩ : ∃ r, bsGo (fun x : BW => cmpI x.id t) ws ws.length 0 ws.length = r := ⟨_, rfl⟩
  rw [hr] at h1 h2 h3
  by_cases hk : r < ws.length
  · rw [bsR_at hr hk]
    have hge := h3 r hk (Nat.le_refl _)
    by_cases he : ws[r].id = t
    · have hi := ixB_some ws 0 r hk he (fun j hj hjr e => by
        have := h2 j hj hjr
        rw [cmpI_neg] at this; omega)
      rw [hi]
      refine ⟨?_, fun _ => ⟨by simp, by omega⟩⟩
      simp only [decide_eq_decide, cmpI_zero]
      constructor
      · intro _; omega
      · intro _; exact he
    · have hi : ixB t ws 0 = -1 := ixB_none ws 0 fun x hx e => by
        obtain ⟨j, hj, rfl⟩ := List.getElem_of_mem hx
        rcases Nat.lt_trichotomy j r with hlt | rfl | hgt
        · have := h2 j hj hlt
          rw [cmpI_neg] at this; omega
        · exact he e
        · have h5 := h r j hgt hj
          have h6 : ¬ ws[r].id < t := fun hlt => by
            have := cmpI_neg.2 hlt
            omega
          omega
      rw [hi]
      refine ⟨?_, fun h => absurd h (by decide)⟩
      have : ¬ cmpI ws[r].id t = 0 := fun e => he (cmpI_zero.1 e)
      simp [this]
  · rw [bsR_none hr hk]
    have hi : ixB t ws 0 = -1 := ixB_none ws 0 fun x hx e => by
      obtain ⟨j, hj, rfl⟩ := List.getElem_of_mem hx
      have := h2 j hj (by omega)
      rw [cmpI_neg] at this; omega
    rw [hi]
    exact ⟨rfl, fun h => absurd h (by decide)⟩
attribute [local irreducible] newD bsR

end Go.Proofs.YtbkmjpmgiaiacaaGreatDoor

/-! Wu -/
namespace Go.Proofs.YtbkmjpmgiaiacaaGreatDoor
open Go Dw
set_option maxRecDepth 10000
set_option linter.unusedVariables false
set_option linter.unusedSimpArgs false
attribute [local irreducible] Run
set_option maxHeartbeats 4000000

open Paths
theorem wE_all {b : Bd} : ∀ (l : List BW) (k : Nat), (wE b l k).2 = 0 → ∀ j, j < l.length → bwE b (k + j) = 0
  | [], _, _, j, hj => by simp at hj
  | x :: l, k, h, j, hj => by
    unfold wE at h
    by_cases h0 : bwE b k = 0
    · rw [if_pos h0] at h
      cases j with
      | zero => exact h0
      | succ j => have := wE_all l (k + 1) h j (by simpa using hj); rwa [show k + 1 + j = k + (j + 1) by omega] at this
    · rw [if_neg h0] at h; exact absurd h h0
theorem checkB_at {b : Bd} (h : (checkB b).2 = 0) {k : Nat} (hk : k < b.ws.length) : bwE b k = 0 := by
  unfold checkB at h
  by_cases h0 : headB b = 0
  · rw [if_pos h0] at h
    have := wE_all b.ws 0 h k hk
    rwa [Nat.zero_add] at this
  · rw [if_neg h0] at h; exact absurd h h0
theorem bwE_head {b : Bd} {k : Nat} (h : bwE b k = 0) : head4 b k = 0 := by
  unfold bwE at h
  have := firstE_all h (if head4 b k = 0 then (rE (atW b k).w (atW b k).recs (atW b k).recs 0).2 else head4 b k) (by simp)
  by_cases h0 : head4 b k = 0
  · exact h0
  · rw [if_neg h0] at this; exact absurd this h0
theorem head4_lt {b : Bd} {k : Nat} (h : head4 b k = 0) (hk : 0 < k) : (atW b (k - 1)).id < (atW b k).id := by
  unfold head4 at h
  have := firstE_all h (if (decide (k = 0) || decide ((atW b (k - 1)).id < (atW b k).id)) = true then 0 else 9) (by simp)
  by_cases h0 : (decide (k = 0) || decide ((atW b (k - 1)).id < (atW b k).id)) = true
  · rw [Bool.or_eq_true] at h0
    rcases h0 with h0 | h0
    · have := of_decide_eq_true h0; omega
    · exact of_decide_eq_true h0
  · rw [if_neg h0] at this; cases this
theorem asc_ok {b : Bd} (h : (checkB b).2 = 0) : asc b.ws := by
  have step : ∀ k (hk : k + 1 < b.ws.length), (b.ws[k]'(by omega)).id < b.ws[k + 1].id := fun k hk => by
    have := head4_lt (bwE_head (checkB_at h hk)) (by omega)
    rwa [atW_at hk, atW_at (show k + 1 - 1 < b.ws.length by omega)] at this
  intro a c hac hc
  induction c with
  | zero => omega
  | succ c ih =>
    by_cases e : a = c
    · subst e; exact step a hc
    · have h1 := ih (by omega) (by omega)
      have h2 := step c hc
      omega
attribute [local irreducible] newD Own checkB addErr roomy bsR ixB

theorem c104 (b : Bd) (t : Int) (hb : SB b) (m p : Nat) (H0 : Heap) (hB : BH m H0 p b) : ∃ r H, Run Tryz.prog 104 [.ptr p 0 0, .d (i t)] H0 r H ∧ (r = .tup [.d (i (bsR (fun x : BW => cmpI x.id t) b.ws).1), .d (i (if (bsR (fun x : BW => cmpI x.id t) b.ws).2 = true then 0 else 6))] ∧ H = H0) := by
  obtain ⟨q, Es, hp, hq, hE, ⟨hpq, hmp, hmq⟩, hO⟩ := hB; have hlp := lt_of_at hp; have hlq := lt_of_at hq; have hbn := hb.n; 
  refine run_walkQ eok Tryz.func104 rfl (by kernel_rfl) ?_
  conv => whnf
  repeat' (first
    | ((with_reducible refine call_go ?_); (first | refine call_step (run_view (c132 b.ws t (by omega)) rfl (vlc (view_own_k hq hE rfl hO) (vlc rfl (vlc rfl vln)))) ?_ | refine call_step (run_view (c55 _ _) rfl rfl) ?_); conv => whnf)
    | (refine nthG (x := ?_) ?_ ?_; rotate_left; (focus ((repeat (first | assumption )); done)); conv => whnf)
    | ((with_reducible refine endq_go ?_); first | (exact endq ⟨rfl, rfl⟩; done))
    | fail
    )

theorem del_known {Es : List AV} {n a : Nat} (hE : n ≤ Es.length) (hk : ∀ j, j < n → ∃ e, Es[j]? = some e ∧ e.known = true) : ((Es.drop a).take (n - a)).all AV.known = true := by
  rw [List.all_eq_true]
  intro x hx
  obtain ⟨j, hj, rfl⟩ := List.getElem_of_mem hx
  rw [List.length_take, List.length_drop] at hj
  obtain ⟨e, h1, h2⟩ := hk (a + j) (by omega)
  rw [List.getElem_take, List.getElem_drop]
  rw [List.getElem?_eq_getElem (by omega)] at h1; cases h1
  exact h2
theorem del_len {Es : List AV} {n a : Nat} (hE : n ≤ Es.length) (ha : a < n) : ((Es.drop (a + 1)).take (n - (a + 1))).length = n - (a + 1) := by
  rw [List.length_take, List.length_drop]; omega
theorem del_at {Es : List AV} {n a : Nat} {z : List AV} (hE : n ≤ Es.length) (ha : a < n) (hz : z.length = 1) (j : Nat) (hj : j < n - 1) : (over (over Es a ((Es.drop (a + 1)).take (n - (a + 1)))) (n - 1) z)[j]? = Es[if j < a then j else j + 1]? := by
  have hl := del_len hE ha
  have h1 : (over Es a ((Es.drop (a + 1)).take (n - (a + 1)))).length = Es.length := over_length (by omega)
  rw [over_get (by omega), if_pos hj, over_get (by omega), hl]
  by_cases h : j < a
  · rw [if_pos h, if_pos h]
  · rw [if_neg h, if_neg h, if_pos (by omega), List.getElem?_take_of_lt (by omega), List.getElem?_drop]
    congr 1; omega
theorem del_len2 {Es : List AV} {n a : Nat} {z : List AV} (hE : n ≤ Es.length) (ha : a < n) (hz : z.length = 1) : n - 1 ≤ (over (over Es a ((Es.drop (a + 1)).take (n - (a + 1)))) (n - 1) z).length := by
  have hl := del_len hE ha
  have h1 : (over Es a ((Es.drop (a + 1)).take (n - (a + 1)))).length = Es.length := over_length (by omega)
  rw [over_length (by omega), h1]; omega

theorem del_at2 {Es : List AV} {n a s1 s2 : Nat} {z : List AV} (hE : n ≤ Es.length) (ha : a < n) (h1 : s1 = a) (h2 : s2 = n - 1) (hz : z.length = 1) : n - 1 ≤ (over (over Es s1 ((Es.drop (a + 1)).take (n - (a + 1)))) s2 z).length ∧ ∀ j, j < n - 1 → (over (over Es s1 ((Es.drop (a + 1)).take (n - (a + 1)))) s2 z)[j]? = Es[if j < a then j else j + 1]? := by
  subst h1; subst h2
  exact ⟨del_len2 hE ha hz, fun j hj => del_at hE ha hz j hj⟩
theorem row_len {Es : List AV} {n a s1 : Nat} (hE : n ≤ Es.length) (ha : a < n) (h1 : s1 = a) : (over Es s1 ((Es.drop (a + 1)).take (n - (a + 1)))).length = Es.length := by
  subst h1
  exact over_length (by have := del_len hE ha; omega)

theorem c108 (n q a : Nat) (Es : List AV) (H0 : Heap) (hq : H0[q]? = some ⟨Es, 7, 0⟩) (hE : n ≤ Es.length) (ha : a < n) (hn : n < 1000000) (hk : ∀ j, j < n → ∃ e, Es[j]? = some e ∧ e.known = true) : ∃ r H, Run Tryz.prog 108 [.sl q 0 n 7 none, .d (i a), .d (i ((a : Int) + 1))] H0 r H ∧ (r = .sl q 0 (n - 1) 7 none ∧ ∃ Fs, H[q]? = some ⟨Fs, 7, 0⟩ ∧ n - 1 ≤ Fs.length ∧ (∀ j, j < n - 1 → Fs[j]? = Es[if j < a then j else j + 1]?) ∧ H.length = H0.length ∧ ∀ i, i ≠ q → H[i]? = H0[i]?) := by
  have hlq := lt_of_at hq; have hdl := del_len hE ha
  refine run_walkQ eok Tryz.func108 rfl (by kernel_rfl) ?_
  conv => whnf
  repeat' (first
    | ((with_reducible refine on_dec_f ?_ ?_); (focus ((try simp only [List.length_map, List.length_cons, List.length_nil, List.length_append]); omega)); conv => whnf)
    | ((with_reducible refine on_dec_t ?_ ?_); (focus ((try simp only [List.length_map, List.length_cons, List.length_nil, List.length_append]); omega)); conv => whnf)
    | (refine ⟨[], [], (by decide +kernel), ?_⟩; conv => whnf)
    | (refine own_slr (n - 1) n _ (by (repeat (first | assumption ))) Nat.two_pos (show ((a - 0 + ((Es.drop (a + 1)).take (n - (a + 1))).length : Nat) : Int) = ((n - 1 : Nat) : Int) by rw [hdl]; omega) rfl ⟨by omega, (by have h9 := row_len (s1 := 0 + 0 + (a - 0)) hE ha (by omega); show 0 + 0 + n ≤ (over Es (0 + 0 + (a - 0)) ((Es.drop (a + 1)).take (n - (a + 1)))).length; omega)⟩ ?_; conv => whnf)
    | (refine ⟨(by have h9 := row_len (s1 := 0 + 0 + (a - 0)) hE ha (by omega); show 0 + 0 + (n - 1) + (n - (n - 1)) ≤ (over Es (0 + 0 + (a - 0)) ((Es.drop (a + 1)).take (n - (a + 1)))).length; omega), ?_⟩; conv => whnf)
    | (refine own_sl 0 a rfl rfl ⟨by omega, by omega⟩ ?_; conv => whnf)
    | (refine own_sl (a + 1) n rfl rfl ⟨by omega, by omega⟩ ?_; conv => whnf)
    | (refine srcB0 (by dsimp only; omega) (del_known hE hk) ?_; conv => whnf)
    | (refine setG (by first | omega ) (fun H hl hf ho => ?_); (try dsimp only at hl hf); conv => whnf)
    | (refine nthG (x := ?_) ?_ ?_; rotate_left; (focus ((repeat (first | assumption )); done)); conv => whnf)
    | (refine ⟨⟨by omega, by omega⟩, ?_⟩; conv => whnf)
    | ((with_reducible refine endq_go ?_); first | (have h8 := del_at2 (s1 := 0 + 0 + (a - 0)) (s2 := 0 + 0 + (n - 1)) (z := List.replicate (n - (n - 1)) (E (E 37).elem).zero) hE ha (by omega) (by omega) (by rw [List.length_replicate]; omega); refine endq ⟨sl_len (show a - 0 + ((Es.drop (a + 1)).take (n - (a + 1))).length = n - 1 by rw [hdl]; omega), _, (by (repeat (first | assumption ))), h8.1, h8.2, by omega, ?_⟩; intro i hi; (repeat (first | rfl | refine look_set (by assumption) (by omega) ?_)); done))
    | fail
    )

theorem c104o (b : Bd) (t : Int) (a : Nat) (hb : SB b) (hc : asc b.ws) (ha : ixB t b.ws 0 = a) (m p : Nat) (H0 : Heap) (hB : BH m H0 p b) : Run Tryz.prog 104 [.ptr p 0 0, .d (i t)] H0 (.tup [.d (i (a : Int)), .d (i 0)]) H0 := by
  obtain ⟨r, H, h1, h2, h3⟩ := c104 b t hb m p H0 hB
  subst h2; subst h3
  obtain ⟨f1, f2⟩ := find_ok (t := t) hc
  obtain ⟨f3, _⟩ := f2 (by omega)
  rw [f3, f1, ha, if_pos (by simp)] at h1
  exact h1
theorem c104n (b : Bd) (t : Int) (hb : SB b) (hc : asc b.ws) (ha : ¬ 0 ≤ ixB t b.ws 0) (m p : Nat) (H0 : Heap) (hB : BH m H0 p b) : ∃ x, Run Tryz.prog 104 [.ptr p 0 0, .d (i t)] H0 (.tup [.d (i x), .d (i 6)]) H0 := by
  obtain ⟨r, H, h1, h2, h3⟩ := c104 b t hb m p H0 hB
  subst h2; subst h3
  obtain ⟨f1, f2⟩ := find_ok (t := t) hc
  rw [f1, decide_eq_false ha, if_neg (by decide)] at h1
  exact ⟨_, h1⟩
def dropB (b : Bd) (t : Int) : Bd := ⟨b.ws.filter (fun x => !decide (x.id = t)), b.next⟩
theorem drop_erase {ws : List BW} {t : Int} {a : Nat} (h : asc ws) (ha : ixB t ws 0 = a) : a < ws.length ∧ ws.filter (fun x => !decide (x.id = t)) = ws.eraseIdx a := by
  obtain ⟨_, f2⟩ := find_ok (t := t) h
  obtain ⟨_, f3⟩ := f2 (by omega)
  have hlt : a < ws.length := by omega
  refine ⟨hlt, ?_⟩
  have hid : ws[a].id = t := by
    have key : ∀ (l : List BW) (k : Nat), ixB t l k = ((a : Nat) : Int) → k ≤ a → ∃ (h : a - k < l.length), l[a - k].id = t := by
      intro l
      induction l with
      | nil => intro k h _; unfold ixB at h; omega
      | cons x l ih =>
        intro k h hk
        unfold ixB at h
        by_cases e : x.id = t
        · rw [if_pos e] at h
          have : k = a := by omega
          subst this
          exact ⟨by simp, by simp [e]⟩
        · rw [if_neg e] at h
          by_cases e2 : k = a
          · subst e2
            exfalso
            have : ∀ (l : List BW) (k : Nat), 0 ≤ ixB t l k → (k : Int) ≤ ixB t l k := by
              intro l
              induction l with
              | nil => intro k h; unfold ixB at h; omega
              | cons x l ih =>
                intro k h
                unfold ixB at h ⊢
                split
                · omega
                · rename_i e3
                  rw [if_neg e3] at h
                  have := ih (k + 1) h; omega
            have := this l (k + 1) (by omega)
            omega
          · obtain ⟨h1, h2⟩ := ih (k + 1) h (by omega)
            refine ⟨by simp only [List.length_cons]; omega, ?_⟩
            have e3 : a - k = a - (k + 1) + 1 := by omega
            simp only [e3, List.getElem_cons_succ]
            exact h2
    obtain ⟨h1, h2⟩ := key ws 0 ha (Nat.zero_le _)
    simpa using h2
  have key2 : ∀ (l : List BW) (a : Nat) (h : a < l.length), l[a].id = t → (∀ j (hj : j < l.length), j ≠ a → l[j].id ≠ t) → l.filter (fun x => !decide (x.id = t)) = l.eraseIdx a := by
    intro l
    induction l with
    | nil => intro a h; simp at h
    | cons x l ih =>
      intro a h h1 h2
      cases a with
      | zero =>
        rw [List.filter_cons_of_neg (by simpa using h1), List.eraseIdx_cons_zero]
        refine List.filter_eq_self.2 fun y hy => ?_
        obtain ⟨j, hj, rfl⟩ := List.getElem_of_mem hy
        have := h2 (j + 1) (by simpa using hj) (by omega)
        simpa using this
      | succ a =>
        have h0 := h2 0 (by simp) (by omega)
        rw [List.filter_cons_of_pos (by simpa using h0), List.eraseIdx_cons_succ, ih a (by simpa using h) h1 (fun j hj hja => h2 (j + 1) (by simpa using hj) (by omega))]
  refine key2 ws a hlt hid fun j hj hja e => ?_
  rcases Nat.lt_or_gt_of_ne hja with hlt' | hgt
  · have := h j a hlt' hlt; omega
  · have := h a j hgt hj; omega
theorem dropB_len {b : Bd} {t : Int} {a : Nat} (h : asc b.ws) (ha : ixB t b.ws 0 = a) : b.ws.length - 1 = (dropB b t).ws.length := by
  obtain ⟨h1, h2⟩ := drop_erase h ha
  unfold dropB
  simp only [h2, List.length_eraseIdx, if_pos h1]
theorem dropB_next (b : Bd) (t : Int) : (dropB b t).next = b.next := rfl
attribute [local irreducible] dropB

end Go.Proofs.YtbkmjpmgiaiacaaGreatDoor

/-! Wv -/
namespace Go.Proofs.YtbkmjpmgiaiacaaGreatDoor
open Go Dw
set_option maxRecDepth 10000
set_option linter.unusedVariables false
set_option linter.unusedSimpArgs false
attribute [local irreducible] Run
set_option maxHeartbeats 4000000

open Paths
attribute [local irreducible] newD Own checkB addErr roomy bsR ixB dropB addB

def dropErr (b : Bd) (t : Int) : Int := if (checkB b).2 = 0 then (if ixB t b.ws 0 < 0 then 6 else 0) else (checkB b).2
def addE (b : Bd) (w : Wt) : Int := if (checkB b).2 = 0 then addErr b w else (checkB b).2
end Go.Proofs.YtbkmjpmgiaiacaaGreatDoor

/-! Va -/
namespace Go.Proofs.YtbkmjpmgiaiacaaGreatDoor
open Go Dw
set_option maxRecDepth 10000
set_option linter.unusedVariables false
set_option linter.unusedSimpArgs false
attribute [local irreducible] Run
set_option maxHeartbeats 4000000

open Paths
attribute [local irreducible] Own checkB addErr roomy bsR ixB dropB addB
theorem addErr_a {b : Bd} {w : Wt} (h : ¬ watchErr w.path w.filter w.room = 0) : addErr b w = watchErr w.path w.filter w.room := by
  unfold addErr; rw [firstE_cons, if_neg h]
theorem addErr_b {b : Bd} {w : Wt} (h : watchErr w.path w.filter w.room = 0) (h8 : ¬ (b.ws.length : Int) < 8 ∨ ¬ b.next < 2147483647) : addErr b w = 16 := by
  unfold addErr roomy; rw [firstE_cons, if_pos h, firstE_cons]
  have : (decide ((b.ws.length : Int) < 8) && decide (b.next < 2147483647)) = false := by
    rcases h8 with h | h <;> simp [h]
  rw [this]; rfl
theorem addErr_c {b : Bd} {w : Wt} (h : watchErr w.path w.filter w.room = 0) (h8 : (b.ws.length : Int) < 8) (h9 : b.next < 2147483647) : addErr b w = 0 := by
  unfold addErr roomy; rw [firstE_cons, if_pos h, firstE_cons, decide_eq_true h8, decide_eq_true h9]; rfl
theorem addE_c {b : Bd} {w : Wt} (h : (checkB b).2 = 0) : addE b w = addErr b w := by unfold addE; rw [if_pos h]
theorem addE_n {b : Bd} {w : Wt} (h : ¬ (checkB b).2 = 0) : addE b w = (checkB b).2 := by unfold addE; rw [if_neg h]
theorem dropE_c {b : Bd} {t : Int} (h : (checkB b).2 = 0) (h2 : ¬ ixB t b.ws 0 < 0) : dropErr b t = 0 := by unfold dropErr; rw [if_pos h, if_neg h2]
theorem dropE_m {b : Bd} {t : Int} (h : (checkB b).2 = 0) (h2 : ixB t b.ws 0 < 0) : dropErr b t = 6 := by unfold dropErr; rw [if_pos h, if_pos h2]
theorem dropE_n {b : Bd} {t : Int} (h : ¬ (checkB b).2 = 0) : dropErr b t = (checkB b).2 := by unfold dropErr; rw [if_neg h]

theorem c25 (b : Bd) (hb : SB b) : Fn 25 [b.enc] (i (checkB b).2) := by
  refine run_walkF eok Tryz.func25 rfl (by kernel_rfl) ?_
  conv => whnf
  repeat' (first
    | ((with_reducible refine call_go ?_); (first | refine call_step (run_view (c35 b hb) rfl rfl) ?_); conv => whnf)
    | ((with_reducible refine endx_go ?_); first | (exact endx rfl; done))
    | fail
    )

theorem c36n (b : Bd) (w : Wt) (hb : SB b) (hc : ¬ (checkB b).2 = 0) : Fn 36 [b.enc, w.enc] (i (addE b w)) := by
  refine run_walkF eok Tryz.func36 rfl (by kernel_rfl) ?_
  conv => whnf
  repeat' (first
    | ((with_reducible refine on_ndec_f (by assumption) ?_); conv => whnf)
    | ((with_reducible refine call_go ?_); (first | refine call_step (run_view (c25 b hb) rfl rfl) ?_ ); conv => whnf)
    | ((with_reducible refine endx_go ?_); first | (exact endx (congrArg i (addE_n hc).symm); done))
    | fail
    )

theorem c36o (b : Bd) (w : Wt) (hb : SB b) (hc : (checkB b).2 = 0) : Fn 36 [b.enc, w.enc] (i (addE b w)) := by
  have hn := checkB_next hc
  refine run_walkF eok Tryz.func36 rfl (by kernel_rfl) ?_
  conv => whnf
  repeat' (first
    | ((with_reducible refine on_ndec_t (by first | assumption ) ?_); conv => whnf)
    | ((with_reducible refine on_dec (fun h => ?_) (fun h => ?_)) <;> (try simp only [List.length_map] at h) <;> conv => whnf)
    | ((with_reducible refine on_ndec (fun h => ?_) (fun h => ?_)) <;> (try simp only [List.length_map] at h) <;> conv => whnf)
    | ((with_reducible refine call_go ?_); (first | refine call_step (run_view (c25 b hb) rfl rfl) ?_ | refine call_step (run_view (c13 w) rfl rfl) ?_); conv => whnf)
    | ((with_reducible refine endx_go ?_); first | (refine endx (congrArg i ?_); rw [addE_c hc]; first | exact (addErr_a (by assumption)).symm | exact (addErr_b (by assumption) (by omega)).symm | exact (addErr_c (by assumption) (by omega) (by omega)).symm; done))
    | fail
    )

theorem c36 (b : Bd) (w : Wt) (hb : SB b) : Fn 36 [b.enc, w.enc] (i (addE b w)) := by
  by_cases hc : (checkB b).2 = 0
  · exact c36o b w hb hc
  · exact c36n b w hb hc
theorem ixB_at {t : Int} {ws : List BW} {k : Nat} (h : k < ws.length) : ixB t (ws.drop k) k = if ws[k].id = t then (k : Int) else ixB t (ws.drop (k + 1)) (k + 1) := by
  rw [List.drop_eq_getElem_cons h]; (conv => lhs; unfold ixB)
theorem ixB_end {t : Int} {ws : List BW} {k : Nat} (h : ws.length ≤ k) : ixB t (ws.drop k) k = -1 := by
  rw [List.drop_eq_nil_of_le h]; unfold ixB; rfl

theorem c70 (b : Bd) (t : Int) (hb : b.ws.length < 1000) : Fn 70 [b.enc, i t] (i (ixB t b.ws 0)) := by
  refine run_walkF eok Tryz.func70 rfl (by kernel_rfl) ?_
  conv => whnf
  repeat' (first
    | ((with_reducible refine on_dec (fun h => ?_) (fun h => ?_)) <;> (try simp only [List.length_map] at h) <;> conv => whnf)
    | ((with_reducible refine loop_go ?_); first | (refine loop1 (fun (k : Nat) => b.ws.length - k) (fun (k : Nat) => k ≤ b.ws.length ∧ ixB t b.ws 0 = ixB t (b.ws.drop k) k) (fun (k : Nat) => [(1, .d (i t)), (2, .ptr 0 0 0), (5, .d (i k))]) (fun (k : Nat) => [⟨[.d b.enc], 2, 0⟩]) (0) (by exact ⟨Nat.zero_le _, rfl⟩) ?_ (fun k C hI hC => ?_); (exact ⟨[.old 0], rfl, rfl, ⟨(by first | (show (_ : D) = _; with_reducible rfl) ), ⟨rfl, rfl, rfl⟩, (by first | exact congrArg (D.int .i64) (by omega) ), trivial⟩, ⟨⟨rfl, rfl, .inl ⟨[_], rfl, rfl⟩⟩, trivial⟩⟩); all_goals (conv => whnf)))
    | ((with_reducible show C _ _); first | (refine hC (k + 1) _ _ ?_ (by omega) ?_; clear hC; rotate_left; (exact ⟨[.old 0], rfl, rfl, ⟨(by first | (show (_ : D) = _; with_reducible rfl) ), ⟨rfl, rfl, rfl⟩, (by first | exact congrArg (D.int .i64) (by omega) ), trivial⟩, ⟨⟨rfl, rfl, .inl ⟨[_], rfl, rfl⟩⟩, trivial⟩⟩); (exact ⟨by omega, by rw [hI.2, ixB_at (by omega), if_neg h]⟩)))
    | (refine ix_map (by omega) ?_; conv => whnf)
    | (refine wrap64 (by omega) ?_; conv => whnf)
    | ((with_reducible refine endx_go ?_); first | (exact endx (congrArg i (by rw [hI.2, ixB_at (by omega), if_pos h])); done) | (exact endx (congrArg i (by rw [hI.2, ixB_end (by omega)])); done))
    | fail
    )

theorem c38 (b : Bd) (t : Int) (hb : SB b) : Fn 38 [b.enc, i t] (i (dropErr b t)) := by
  refine run_walkF eok Tryz.func38 rfl (by kernel_rfl) ?_
  conv => whnf
  repeat' (first
    | ((with_reducible refine on_dec (fun h => ?_) (fun h => ?_)) <;> (try simp only [List.length_map] at h) <;> conv => whnf)
    | ((with_reducible refine on_ndec (fun h => ?_) (fun h => ?_)) <;> (try simp only [List.length_map] at h) <;> conv => whnf)
    | ((with_reducible refine call_go ?_); (first | refine call_step (run_view (c25 b hb) rfl rfl) ?_ | refine call_step (run_view (c70 b t hb.n) rfl rfl) ?_); conv => whnf)
    | ((with_reducible refine endx_go ?_); first | (refine endx (congrArg i ?_); first | exact (dropE_n (by assumption)).symm | exact (dropE_m (by assumption) (by assumption)).symm | exact (dropE_c (by assumption) (by assumption)).symm; done))
    | fail
    )

end Go.Proofs.YtbkmjpmgiaiacaaGreatDoor
