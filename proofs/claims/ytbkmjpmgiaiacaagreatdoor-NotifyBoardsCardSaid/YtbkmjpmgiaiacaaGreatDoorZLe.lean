/-
  Chapter 28: NotifyBoards holds at every input: no condition of ours (its card lists two tables of the library, tied to the text).
-/
import Derived.Test.YtbkmjpmgiaiacaaGreatDoorGrpK
set_option linter.unusedVariables false
set_option linter.unusedSimpArgs false

/-! Vc -/
namespace Go.Proofs.YtbkmjpmgiaiacaaGreatDoor
open Go Dw
set_option maxRecDepth 10000
set_option linter.unusedVariables false
set_option linter.unusedSimpArgs false
attribute [local irreducible] Run
set_option maxHeartbeats 4000000

open Paths
attribute [local irreducible] Own checkB addErr roomy bsR ixB dropB addB sz roomOf putB seesW belowI tellB told isAct fewB fewW addE dropErr tellErr eventErr
theorem SB0 : SB bd0 := ⟨by decide, fun x h => by cases h⟩
theorem c22z : Fn 22 [bd0.enc, bd0.enc] (.bool true) := c22 bd0 SB0
theorem tell_SB {b : Bd} {e : Rec} (h : tellErr b e = 0) : SB (tellB b e) ∧ (checkB (tellB b e)).2 = 0 ∧ (checkB b).2 = 0 ∧ eventErr e.act e.path = 0 := by
  have h1 : (checkB b).2 = 0 := by
    by_cases h0 : (checkB b).2 = 0
    · exact h0
    · rw [tellE_n h0] at h; exact absurd h h0
  rw [tellE_c h1] at h
  have hv := (checkB_iff.1 h1).tell h
  exact ⟨hv.small, checkB_iff.2 hv, h1, h⟩
theorem told_len (e : Rec) (ws : List BW) : (told e ws).length ≤ ws.length := by
  unfold told; rw [List.length_map]; exact List.length_filter_le _ _
theorem f19o (b : Bd) (e : Rec) (hea : e.act < 9223372036854775808) (hb : SB b) (h : tellErr b e = 0) : Fn 19 [b.enc, e.enc] (.tup [(tellB b e).enc, .fs ((told e b.ws).map i), i 0]) := by
  have := f19 b e hea hb; rwa [if_pos h] at this
theorem f19n (b : Bd) (e : Rec) (hea : e.act < 9223372036854775808) (hb : SB b) (h : ¬ tellErr b e = 0) : Fn 19 [b.enc, e.enc] (.tup [bd0.enc, .fs [], i (tellErr b e)]) := by
  have := f19 b e hea hb; rwa [if_neg h] at this

theorem c4o (b : Bd) (e : Rec) (hea : e.act < 9223372036854775808) (hb : SB b) (hf : fewB b = true) (h0 : tellErr b e = 0) : Fn 4 [b.enc, e.enc] (.bool true) := by
  obtain ⟨hsb, hv, hok, hev⟩ := tell_SB h0; have htl := told_len e b.ws; have hbn := hb.n
  refine run_walkF eok Tryz.func4 rfl (by kernel_rfl) ?_
  conv => whnf
  repeat' (first
    | ((with_reducible refine on_nt (by assumption) ?_); conv => whnf)
    | ((with_reducible refine on_ndec_t (by first | assumption ) ?_); conv => whnf)
    | ((with_reducible refine on_dec (fun h => ?_) (fun h => ?_)) <;> (try simp only [List.length_map] at h) <;> conv => whnf)
    | ((with_reducible refine call_go ?_); (first | refine call_step (run_view c11 rfl rfl) ?_ | refine call_step (run_view (c18 b) rfl rfl) ?_ | refine call_step (run_viewF (c20 b hb) rfl) ?_ | refine call_step (run_viewF (f19o b e hea hb h0) rfl) ?_ | refine call_step (run_view (c21 b e hb) rfl rfl) ?_ | refine call_step (run_view (c22 (tellB b e) hsb) rfl rfl) ?_ | refine call_step (run_viewF (f23 b e hb (checkB_w hok) hev) rfl) ?_ | refine call_step (run_view (c24 (told e b.ws) (by omega)) rfl rfl) ?_ | refine call_step (run_view (c25 (tellB b e) hsb) rfl rfl) ?_); conv => whnf)
    | (refine ⟨[], [(8, 1), (8, 3), (2, 1)], (by decide +kernel), ?_⟩; conv => whnf)
    | ((with_reducible refine endx_go ?_); first | (exact endx rfl; done) | (exact endx (congrArg D.bool (decide_eq_true hv)); done))
    | (refine ⟨rfl, ?_⟩; conv => whnf)
    | fail
    )

theorem c4e (b : Bd) (e : Rec) (hea : e.act < 9223372036854775808) (hb : SB b) (hf : fewB b = true) (h0 : ¬ tellErr b e = 0) : Fn 4 [b.enc, e.enc] (.bool true) := by
  refine run_walkF eok Tryz.func4 rfl (by kernel_rfl) ?_
  conv => whnf
  repeat' (first
    | ((with_reducible refine on_nt (by assumption) ?_); conv => whnf)
    | ((with_reducible refine on_ndec_f (by assumption) ?_); conv => whnf)
    | ((with_reducible refine on_dec_t rfl ?_); conv => whnf)
    | ((with_reducible refine on_dec (fun h => ?_) (fun h => ?_)) <;> (try simp only [List.length_map] at h) <;> conv => whnf)
    | ((with_reducible refine call_go ?_); (first | refine call_step (run_view c11 rfl rfl) ?_ | refine call_step (run_view (c18 b) rfl rfl) ?_ | refine call_step (run_viewF (c20 b hb) rfl) ?_ | refine call_step (run_viewF (f19n b e hea hb h0) rfl) ?_ | refine call_step (run_view (c21 b e hb) rfl rfl) ?_ | refine call_step (run_view c22z rfl rfl) ?_ ); conv => whnf)
    | (refine ⟨[], [(8, 1), (8, 3), (2, 1)], (by decide +kernel), ?_⟩; conv => whnf)
    | ((with_reducible refine endx_go ?_); first | (exact endx rfl; done))
    | (refine ⟨rfl, ?_⟩; conv => whnf)
    | fail
    )

theorem c4f (b : Bd) (e : Rec) (hf : fewB b = false) : Fn 4 [b.enc, e.enc] (.bool true) := by
  refine run_walkF eok Tryz.func4 rfl (by kernel_rfl) ?_
  conv => whnf
  repeat' (first
    | ((with_reducible refine on_nf (by assumption) ?_); conv => whnf)
    | ((with_reducible refine call_go ?_); (first | refine call_step (run_view c11 rfl rfl) ?_ | refine call_step (run_view (c18 b) rfl rfl) ?_ ); conv => whnf)
    | ((with_reducible refine endx_go ?_); first | (exact endx rfl; done))
    | fail
    )

theorem c4 (b : Bd) (e : Rec) (ha : actsOk b) (hea : e.act < 9223372036854775808) : Fn 4 [b.enc, e.enc] (.bool true) := by
  by_cases hf : fewB b = true
  · have hb := few_SB hf ha
    by_cases h0 : tellErr b e = 0
    · exact c4o b e hea hb hf h0
    · exact c4e b e hea hb hf h0
  · exact c4f b e (by simpa using hf)

end Go.Proofs.YtbkmjpmgiaiacaaGreatDoor

/-! Vd -/
namespace Go.Proofs.YtbkmjpmgiaiacaaGreatDoor
open Go Dw
set_option maxRecDepth 10000
set_option linter.unusedVariables false
set_option linter.unusedSimpArgs false
attribute [local irreducible] Run
set_option maxHeartbeats 4000000

open Paths
attribute [local irreducible] newD Own checkB addErr roomy bsR ixB sz roomOf putB seesW belowI tellB told appD
theorem Own.lookP {m : Nat} {H : Heap} {B : List Nat} {E : List AV} {ws : List BW} {n k : Nat} (h : Own m H B E ws n) (hn : n = ws.length) : n ≤ k ∨ (k < n ∧ ∃ (x : BW), ws[k]? = some x ∧
    ((x.recs = [] ∧ E[k]? = some (.agg [.d (i x.id), .d (.str x.w.path), .d (.bool x.w.deep), .d (i x.w.filter), .d (i x.w.room), .nilS, .d (.bool x.lost)]) ∧ OwnAt m H B E[k]? x none) ∨
    ∃ (id : Nat), E[k]? = some (.agg [.d (i x.id), .d (.str x.w.path), .d (.bool x.w.deep), .d (i x.w.filter), .d (i x.w.room), .sl id 0 x.recs.length 2 none, .d (.bool x.lost)]) ∧ OwnAt m H B E[k]? x (some id))) := by
  subst hn
  by_cases hk : k < ws.length
  · obtain ⟨o, h1, _⟩ := h.focus (Nat.le_refl _) hk
    refine .inr ⟨hk, ws[k], List.getElem?_eq_getElem hk, ?_⟩
    rcases h1.split with ⟨rfl, k1, k2⟩ | ⟨id, A, rfl, k1, _⟩
    · exact .inl ⟨k1, k2, h1⟩
    · exact .inr ⟨id, k1, h1⟩
  · exact .inl (by omega)
/-- A row that is only looked at. -/
def Vis (H : Heap) (B X : List Nat) (cv : AV) (l : List BW) : Prop := (l = [] ∧ cv = .nilS ∧ X = []) ∨ ∃ (t : Nat) (Fs : List AV), cv = .sl t 0 l.length 7 none ∧ H[t]? = some ⟨Fs, 7, 0⟩ ∧ Fs.length = l.length ∧ X = [t] ∧ ∀ (j : Nat) (y : BW), l[j]? = some y → ∃ o, OwnAt 0 H (t :: B) Fs[j]? y o
theorem Vis.cv {H : Heap} {B X : List Nat} {cv : AV} {l : List BW} (h : Vis H B X cv l) : cv = .nilS ∨ ∃ t, cv = .sl t 0 l.length 7 none := by
  rcases h with ⟨_, h, _⟩ | ⟨t, Fs, h, _⟩
  · exact .inl h
  · exact .inr ⟨t, h⟩
theorem Vis.bd {H : Heap} {B X : List Nat} {cv : AV} {l : List BW} (h : Vis H B X cv l) : ∀ i ∈ X, i < H.length := by
  rcases h with ⟨_, _, rfl⟩ | ⟨t, Fs, _, h2, _, rfl, _⟩
  · exact fun i h => by cases h
  · exact fun i hi => by rw [List.mem_singleton.1 hi]; exact lt_of_at h2
theorem Vis.frame {H H' : Heap} {B X : List Nat} {cv : AV} {l : List BW} (h : Vis H B X cv l) (hf : ∀ i, i ∉ B → i < H.length → H'[i]? = H[i]?) (hX : ∀ i ∈ X, i ∉ B) : Vis H' B X cv l := by
  rcases h with h | ⟨t, Fs, h1, h2, h3, h4, h5⟩
  · exact .inl h
  · subst h4
    refine .inr ⟨t, Fs, h1, by rw [hf t (hX t (by simp)) (lt_of_at h2)]; exact h2, h3, rfl, fun j y hy => ?_⟩
    obtain ⟨o, ho⟩ := h5 j y hy
    exact ⟨o, ho.frame (fun i hi => .inl hi) fun i hi _ hlt => hf i (fun hb => hi (List.mem_cons_of_mem _ hb)) hlt⟩
theorem Vis.view {H : Heap} {B X : List Nat} {cv : AV} {l : List BW} {n : Nat} (h : Vis H B X cv l) : view (n + 5) H cv = some (.fs (l.map BW.enc)) := by
  rcases h with ⟨rfl, rfl, _⟩ | ⟨t, Fs, rfl, h2, h3, _, h5⟩
  · rfl
  · show (match H[t]? with
      | some o => if o.st < 2 then (if 0 + l.length ≤ o.elems.length then (vl (Dw.view (n + 4) H) ((o.elems.drop 0).take l.length)).map D.fs else none) else none
      | none => none) = _
    simp only [h2]
    rw [if_pos (by decide), if_pos (by omega), List.drop_zero, List.take_of_length_le (by omega)]
    rw [vl_of (r := l.map BW.enc) (by rw [List.length_map]; exact h3) (fun j a x ha hx => ?_)]
    · rfl
    · rw [List.getElem?_map] at hx
      obtain ⟨y, hy, rfl⟩ := Option.map_eq_some_iff.1 hx
      obtain ⟨o, ho⟩ := h5 j y hy
      rw [ha] at ho
      exact view_bw ho
theorem appV {ti : TI} {H : Heap} {B X : List Nat} {cv : AV} {l : List BW} {y : BW} {e : AV} {o : Option Nat} {K : KV} (hT : Vis H B X cv l) (he : OwnAt 0 H (X ++ B) (some e) y o) (hl : l.length < 100000) (h1 : (ti.kind != 0 && Nat.blt 0 ti.bytes) = true) (h2 : 7 = ti.size) (h3 : ti.bytes ≤ 400)
    (k : ∀ (t : Nat) (H' : Heap), t = H.length → H.length < H'.length → (∀ i, i ∉ X → i < H.length → H'[i]? = H[i]?) → Vis H' B [t] (.sl t 0 (l.length + 1) 7 none) (l ++ [y]) → K (.sl t 0 (l.length + 1) 7 none) H') (hB : ∀ i ∈ B, i < H.length) : appD ti cv [e] H K := by
  rcases hT with ⟨rfl, rfl, rfl⟩ | ⟨t, Fs, rfl, ht, hlen, rfl, hv⟩
  · refine app1n h1 (by omega) fun t H' h4 h5 h6 h7 => ?_
    rw [← h2] at h7 ⊢
    refine k t H' h4.symm (by omega) (fun i _ hi => h6 i (by omega)) (.inr ⟨t, [e], rfl, h7, rfl, rfl, fun j y' hy => ?_⟩)
    cases j with
    | zero =>
      cases hy
      exact ⟨o, he.frame (fun i hi => by rcases List.mem_cons.1 hi with rfl | hi; exact .inr (by omega); exact .inl (by simpa using hi)) fun i hi _ hlt => h6 i (by omega)⟩
    | succ j => cases hy
  · refine app1 ht (by omega) h2 h1 (by have := Nat.mul_le_mul (show l.length + 1 ≤ 100000 by omega) h3; omega) fun id' A' H' g1 g2 g3 g4 g5 g6 g7 g8 g9 => ?_
    obtain ⟨e1, e2⟩ := g3 (by omega)
    refine k id' H' e2 (by omega) (fun i hi hl => g9 i (by simpa using hi) hl) (.inr ⟨id', A', by rw [List.length_append, List.length_singleton], g1, by rw [e1, List.length_append, List.length_append, hlen]; rfl, rfl, fun j y' hy => ?_⟩)
    have fr : ∀ {ee : Option AV} {yy : BW} {oo : Option Nat}, OwnAt 0 H ([t] ++ B) ee yy oo → OwnAt 0 H' (id' :: B) ee yy oo := fun h => h.frame (fun i hi => by
      rcases List.mem_cons.1 hi with rfl | hi
      · exact .inr (by omega)
      · exact .inl (List.mem_append_right _ hi)) fun i hi _ hlt => g9 i (fun e => hi (by rw [e]; simp)) hlt
    rw [List.getElem?_append] at hy
    split at hy
    · rename_i hj
      obtain ⟨oo, ho⟩ := hv j y' hy
      rw [g4 j hj]
      exact ⟨oo, fr ho⟩
    · have hj2 : j - l.length = 0 := by
        have := (List.getElem?_eq_some_iff.1 hy).1
        simp only [List.length_singleton] at this; omega
      have hj3 : j = l.length := by omega
      rw [hj2] at hy; cases hy
      rw [hj3, g5]
      exact ⟨o, fr he⟩
def keepP (t : Int) (x : BW) : Bool := !decide (x.id = t)
def selK (t : Int) (ws : List BW) (k : Nat) : List BW := (ws.take k).filter (keepP t)
theorem selK_t {t : Int} {ws : List BW} {k : Nat} {x : BW} (h : ws[k]? = some x) (h2 : ¬ x.id = t) : selK t ws (k + 1) = selK t ws k ++ [x] := by
  obtain ⟨hk, rfl⟩ := at_of h
  unfold selK; rw [List.take_succ_eq_append_getElem hk, List.filter_append]
  simp [keepP, h2]
theorem selK_f {t : Int} {ws : List BW} {k : Nat} {x : BW} (h : ws[k]? = some x) (h2 : x.id = t) : selK t ws (k + 1) = selK t ws k := by
  obtain ⟨hk, rfl⟩ := at_of h
  unfold selK; rw [List.take_succ_eq_append_getElem hk, List.filter_append]
  simp [keepP, h2]
theorem selK_len {t : Int} {ws : List BW} {k : Nat} : (selK t ws k).length ≤ ws.length := by
  unfold selK
  have := List.length_filter_le (keepP t) (ws.take k)
  rw [List.length_take] at this; omega
theorem selK_end {t : Int} {b : Bd} {k : Nat} (h : b.ws.length ≤ k) : selK t b.ws k = (dropB b t).ws := by
  unfold selK dropB; rw [List.take_of_length_le h]; rfl
theorem OwnAt.weak {m : Nat} {H : Heap} {B : List Nat} {e : Option AV} {x : BW} {o : Option Nat} (h : OwnAt m H B e x o) : OwnAt 0 H B e x o := by
  cases o with
  | none => exact h
  | some id => obtain ⟨a1, a2, a3⟩ := h; exact ⟨a1, a2, a3.1, Nat.zero_le _⟩
theorem dropB_enc (b : Bd) (t : Int) : (dropB b t).enc = .agg [.fs ((dropB b t).ws.map BW.enc), i b.next] := by unfold dropB; rfl
theorem selK_0 (t : Int) (ws : List BW) : selK t ws 0 = [] := rfl
theorem Vis.zero {H : Heap} {B : List Nat} : Vis H B [] .nilS [] := .inl ⟨rfl, rfl, rfl⟩
theorem Own.weak {m : Nat} {H : Heap} {B : List Nat} {E : List AV} {ws : List BW} {k : Nat} (h : Own m H B E ws k) : Own 0 H B E ws k := by
  unfold Own at h ⊢
  obtain ⟨ids, h1, h2⟩ := h
  exact ⟨ids, fun j x hj hx => (h1 j x hj hx).weak, h2⟩
theorem OwnAt.away {m : Nat} {H : Heap} {B B' : List Nat} {e : Option AV} {x : BW} {o : Option Nat} (h : OwnAt m H B e x o) (hB : ∀ i, i ∈ B' → i ∈ B ∨ i < m) : OwnAt m H B' e x o := by
  cases o with
  | none => exact h
  | some id =>
    obtain ⟨a1, a2, a3⟩ := h
    refine ⟨a1, a2, fun hb => ?_, a3.2⟩
    rcases hB _ hb with h | h
    · exact a3.1 h
    · omega
theorem Own.away {m : Nat} {H : Heap} {B B' : List Nat} {E : List AV} {ws : List BW} {k : Nat} (h : Own m H B E ws k) (hB : ∀ i, i ∈ B' → i ∈ B ∨ i < m) : Own m H B' E ws k := by
  unfold Own at h ⊢
  obtain ⟨ids, h1, h2⟩ := h
  exact ⟨ids, fun j x hj hx => (h1 j x hj hx).away hB, h2⟩
theorem RowK.away {m : Nat} {H : Heap} {B' : List Nat} {cw : AV} {ws : List BW} {k : Nat} (h : RowK m H [] cw ws k) (hB : ∀ i, i ∈ B' → i < m) : RowK m H B' cw ws k := by
  rcases h with h | ⟨q, Es, h1, h2, h3, ⟨h4, h4'⟩, h5⟩
  · exact .inl h
  · exact .inr ⟨q, Es, h1, h2, h3, ⟨fun hb => by have := hB _ hb; omega, h4'⟩, h5.away fun i hi => by
      rcases List.mem_cons.1 hi with rfl | hi
      · exact .inl (by simp)
      · exact .inr (hB _ hi)⟩
theorem RowK.weak {m : Nat} {H : Heap} {B : List Nat} {cw : AV} {ws : List BW} {k : Nat} (h : RowK m H B cw ws k) : RowK 0 H B cw ws k := by
  rcases h with h | ⟨q, Es, h1, h2, h3, ⟨h4, _⟩, h5⟩
  · exact .inl h
  · exact .inr ⟨q, Es, h1, h2, h3, ⟨h4, Nat.zero_le _⟩, h5.weak⟩
attribute [local irreducible] Vis selK

theorem c37o (b : Bd) (w : Wt) (hb : SB b) (hn : 1 ≤ b.next ∧ b.next < 2147483647) (H0 : Heap) : ∃ r H, Run Tryz.prog 37 [.d b.enc, .d w.enc] H0 r H ∧ view 8 H r = some (.tup [(addB b w).enc, i b.next]) := by
  have hbn := hb.n
  refine run_walkQ eok Tryz.func37 rfl (by kernel_rfl) ?_
  conv => whnf
  repeat' (first
    | (refine call_stepQ (c20o b hb _) (fun r H hQ => ?_); obtain ⟨cw, rfl, hR, hgl, hf⟩ := hQ; rcases hR with ⟨hk0, rfl⟩ | ⟨q, Es, rfl, hqq, hEl, ⟨hqB, hqm⟩, hO⟩; all_goals (try (have hlq := lt_of_at hqq)); all_goals (conv => whnf))
    | (refine ⟨[], [(2, 3)], (by decide +kernel), ?_⟩; conv => whnf)
    | (refine wrap64 (by omega) ?_; conv => whnf)
    | ((with_reducible refine appD_go ?_); (first | refine app1 (by (repeat (first | with_reducible assumption | refine look_new (by with_reducible assumption) (by omega) ?_ | refine look_set (by with_reducible assumption) (by omega) ?_ ))) hEl rfl rfl (Nat.le_trans (Nat.mul_le_mul (show _ ≤ 1001 by omega) (show _ ≤ 400 by decide)) (by decide)) (fun id9 A9 H h91 h92 h93 h94 h95 h96 hl9 hl9b hf9 => ?_) | refine app1n rfl (by decide) (fun id9 H ht9 hl9 hf9 h91 => ?_)); conv => whnf)
    | ((with_reducible refine newD_go ?_); (first | refine newG (fun n H hn hl hf ho => ?_)); conv => whnf)
    | ((with_reducible refine nthK_go ?_); (first | (refine nthG (x := ?_) ?_ ?_; rotate_left; (focus ((repeat (first | with_reducible assumption | refine look_new (by with_reducible assumption) (by omega) ?_ | refine look_set (by with_reducible assumption) (by omega) ?_ | refine look_app (by with_reducible assumption) (by omega) (by omega) ?_ )); done)); conv => whnf)))
    | ((with_reducible refine setK_go ?_); (first | (refine setG (by first | omega ) (fun H hl hf ho => ?_); (try dsimp only at hl hf); conv => whnf)))
    | (refine ⟨Nat.le_refl _, ?_⟩; conv => whnf)
    | (refine ⟨congrArg (Option.map AO.vis) (Eq.symm (by (repeat (first | with_reducible rfl | refine look_set (by with_reducible assumption) (by omega) ?_ )))), ?_⟩; conv => whnf)
    | ((with_reducible refine endq_go ?_); first | (refine endq ?_; exact view_tup (vlc (view_agg (vlc (view_own_k (by (repeat (first | with_reducible assumption | refine look_set (by with_reducible assumption) (by omega) ?_ ))) h92 (addB_len b w).symm (Own.snocN (x := ⟨b.next, w, [], false⟩) (B' := []) hO rfl h94 h95 (by (intro i hi hmi hlt; have hiq : i ≠ q := (fun e => hi (by rw [e]; simp)); (repeat (first | with_reducible rfl | refine look_new (by with_reducible assumption) (by omega) ?_ | refine look_set (by with_reducible assumption) (by omega) ?_ | refine look_app (by with_reducible assumption) (by omega) (by omega) ?_ )))) (fun _ h => by cases h))) (vlc rfl vln))) (vlc rfl vln)); done) | (refine endq ?_; have hw0 : b.ws = [] := List.eq_nil_of_length_eq_zero hk0; exact view_tup (vlc (view_agg (vlc (view_own_k (E := [bwX ⟨b.next, w, [], false⟩ .nilS]) (ws := b.ws ++ [⟨b.next, w, [], false⟩]) (m := 0) (B := []) (by (repeat (first | refine look_set (by with_reducible assumption) (by omega) ?_ | assumption))) (Nat.le_refl _) (by rw [hw0]; rfl) (by rw [hw0]; exact Own.snocN (ws := []) (B := []) (H := H) (E := []) (Own.zero (m := 0)) rfl (fun j hj => absurd hj (by simp)) rfl (fun _ _ _ _ => rfl) (fun _ h => .inl h))) (vlc rfl vln))) (vlc rfl vln)); done))
    | fail
    )

theorem c39o (b : Bd) (t : Int) (hb : SB b) (H0 : Heap) : ∃ r H, Run Tryz.prog 39 [.d b.enc, .d (i t)] H0 r H ∧ view 8 H r = some (dropB b t).enc := by
  refine run_walkQ eok Tryz.func39 rfl (by kernel_rfl) ?_
  conv => whnf
  repeat' (first
    | ((with_reducible refine on_dec_f ?_ ?_); (focus ((try simp only [List.length_map, List.length_cons, List.length_nil, List.length_append]); omega)); conv => whnf)
    | ((with_reducible refine on_dec_t ?_ ?_); (focus ((try simp only [List.length_map, List.length_cons, List.length_nil, List.length_append]); omega)); conv => whnf)
    | ((with_reducible refine on_ndec (fun h => ?_) (fun h => ?_)) <;> (try simp only [List.length_map] at h) <;> conv => whnf)
    | (refine call_stepQ (c20o b hb _) (fun r H hQ => ?_); obtain ⟨cw, rfl, hR, hgl, hf⟩ := hQ; conv => whnf)
    | (refine ⟨[], [(1, 6)], (by decide +kernel), ?_⟩; conv => whnf)
    | ((with_reducible refine loop_go ?_); first | (apply loopG4 (fun (k : Nat) (y : Nat) (p : Nat) (cw : AV) (H : Heap) => b.ws.length - k) (fun (k : Nat) (y : Nat) (p : Nat) (cw : AV) (H : Heap) => (k ≤ b.ws.length ∧ H[y]? = some ⟨[(E 39).zero], (E 39).size, 0⟩ ∧ y ≠ p) ∧ ∃ (cv : AV) (X : List Nat), H[p]? = some ⟨[.agg [cv, .d (i b.next)]], 2, 0⟩ ∧ (y ∉ X ∧ p ∉ X) ∧ Vis H [y, p] X cv (selK t b.ws k) ∧ RowK 0 H (y :: p :: X) cw b.ws b.ws.length) (fun (k : Nat) (y : Nat) (p : Nat) (cw : AV) (H : Heap) => [(1, .d (i t)), (4, .ptr y 0 0), (5, .ptr p 0 0), (6, cw), (7, .d (i k))]) (0); rotate_left; (focus (exact .inl ⟨rfl, ⟨(by first | rfl ), (by first | rfl ), (by first | rfl ), (by first | rfl ), (by first | rfl ), trivial⟩⟩)); rotate_left; (focus (exact ⟨⟨Nat.zero_le _, (by (repeat (first | with_reducible assumption | refine look_new (by with_reducible assumption) (by omega) ?_ | refine look_set (by with_reducible assumption) (by omega) ?_ ))), by omega⟩, .nilS, [], (by (repeat (first | refine look_new (by with_reducible assumption) (by omega) ?_ | assumption))), ⟨by simp, by simp⟩, (by rw [selK_0]; exact Vis.zero), (hR.away (fun i hi => by simp only [List.mem_cons, List.not_mem_nil, or_false] at hi; omega)).weak⟩)); intro k y p cw H C hI hC; have hbn := hb.n; obtain ⟨⟨hk, h0, hd⟩, cv, X, h1, ⟨hXy, hXp⟩, hV, hR⟩ := hI; have hl0 := lt_of_at h0; have hl1 := lt_of_at h1; rcases hR with ⟨hk0, rfl⟩ | ⟨q, Es, rfl, hq, hE, ⟨hqB, hqm⟩, hO⟩; rotate_left; have hlq := lt_of_at hq; have hqX := hqB; simp only [List.mem_cons, not_or] at hqX; obtain ⟨hqy, hqp, hqX⟩ := hqX; (rcases hO.lookP rfl (k := k) with hkk | ⟨hkk, x, hx, ⟨hx0, hEk, hOk⟩ | ⟨id, hEk, hOk⟩⟩); all_goals (try (rw [hEk] at hOk)); all_goals (rcases hV.cv with rfl | ⟨t8, rfl⟩); all_goals (conv => whnf)))
    | ((with_reducible show C _ _); first | (refine hC (k + 1) (y) (p) ((.sl q 0 b.ws.length 7 none)) _ _ ?_ (by omega) ?_; clear hC; rotate_left; (exact ⟨(by first | rfl ), (by first | rfl ), (by first | rfl ), (by first | rfl ), (by first | rfl ), trivial⟩); exact ⟨⟨by omega, (by (repeat (first | with_reducible assumption ))), by omega⟩, _, X, h1, ⟨hXy, hXp⟩, (by rw [selK_f hx (by first | assumption )]; exact hV), .inr ⟨q, Es, rfl, hq, hE, ⟨hqB, hqm⟩, hO⟩⟩) | (refine hC (k + 1) (y) (p) ((.sl q 0 b.ws.length 7 none)) _ _ ?_ (by omega) ?_; clear hC; rotate_left; (exact ⟨(by first | rfl ), (by first | rfl ), (by first | rfl ), (by first | rfl ), (by first | rfl ), trivial⟩); exact ⟨⟨by omega, (by (repeat (first | with_reducible assumption | refine look_new (by with_reducible assumption) (by omega) ?_ | refine look_set (by with_reducible assumption) (by omega) ?_ | refine look_appX (by with_reducible assumption) (by with_reducible assumption) (by omega) ?_ ))), by omega⟩, _, [t9], (by (repeat (first | with_reducible assumption ))), ⟨by (simp only [List.mem_cons, List.not_mem_nil, or_false, not_or]; omega), by (simp only [List.mem_cons, List.not_mem_nil, or_false, not_or]; omega)⟩, (by rw [selK_t hx (by first | assumption )]; exact Vis.frame hV9 (by (intro i hi hlt; simp only [List.mem_cons, List.not_mem_nil, or_false, not_or] at hi; (repeat (first | with_reducible rfl | refine look_set (by with_reducible assumption) (by omega) ?_ )))) (by intro i hi; simp only [List.mem_cons, List.not_mem_nil, or_false, not_or] at hi ⊢; omega)), RowK.frame (B := y :: p :: X) (.inr ⟨q, Es, rfl, hq, hE, ⟨hqB, hqm⟩, hO⟩) (by intro i hi; simp only [List.mem_cons, List.not_mem_nil, or_false] at hi ⊢; omega) (by (intro i hi hmi hlt; simp only [List.mem_cons, List.not_mem_nil, or_false, not_or] at hi; obtain ⟨hi1, hi2, hi3⟩ := hi; (repeat (first | with_reducible rfl | refine look_new (by with_reducible assumption) (by omega) ?_ | refine look_set (by with_reducible assumption) (by omega) ?_ | refine look_appX (by with_reducible assumption) (by with_reducible assumption) (by omega) ?_ ))))⟩))
    | (refine wrap64 (by omega) ?_; conv => whnf)
    | ((with_reducible refine appD_go ?_); (first | refine appV (B := [y, p]) (Vis.frame hV (by (intro i hi hlt; simp only [List.mem_cons, List.not_mem_nil, or_false, not_or] at hi; (repeat (first | with_reducible rfl | refine look_new (by with_reducible assumption) (by omega) ?_ )))) (by intro i hi; simp only [List.mem_cons, List.not_mem_nil, or_false, not_or]; exact ⟨fun e => hXy (by rw [← e]; exact hi), fun e => hXp (by rw [← e]; exact hi)⟩)) (OwnAt.frame hOk.weak (by intro i hi; simp only [List.mem_append, List.mem_cons, List.not_mem_nil, or_false] at hi ⊢; first | (exact .inl (by rcases hi with hi | hi | hi <;> simp [hi]))) (by (intro i hi hmi hlt; simp only [List.mem_cons, List.not_mem_nil, or_false, not_or] at hi; (repeat (first | with_reducible rfl | refine look_new (by with_reducible assumption) (by omega) ?_ ))))) (by have := selK_len (t := t) (ws := b.ws) (k := k); omega) rfl rfl (by decide) (fun t9 H ht9 hl9 hf9 hV9 => ?_) (by intro i hi; simp only [List.mem_cons, List.not_mem_nil, or_false] at hi; omega)); conv => whnf)
    | ((with_reducible refine newD_go ?_); (first | refine newG (fun n H hn hl hf ho => ?_)); conv => whnf)
    | ((with_reducible refine nthK_go ?_); (first | (refine nthGk (x := ?_) ?_ ?_; rotate_left; (focus ((repeat (first | with_reducible assumption )); done)); conv => whnf) | (refine nthG (x := ?_) ?_ ?_; rotate_left; (focus ((repeat (first | with_reducible assumption | refine look_new (by with_reducible assumption) (by omega) ?_ | refine look_set (by with_reducible assumption) (by omega) ?_ | refine look_appX (by with_reducible assumption) (by with_reducible assumption) (by omega) ?_ )); done)); conv => whnf)))
    | ((with_reducible refine setK_go ?_); (first | (refine setG (by first | omega ) (fun H hl hf ho => ?_); (try dsimp only at hl hf); conv => whnf)))
    | (refine ⟨⟨by omega, by omega⟩, ?_⟩; conv => whnf)
    | (refine ⟨Nat.le_refl _, ?_⟩; conv => whnf)
    | (refine ⟨congrArg (Option.map AO.vis) (Eq.symm (by (repeat (first | with_reducible rfl | refine look_new (by with_reducible assumption) (by omega) ?_ )))), ?_⟩; conv => whnf)
    | ((with_reducible refine endq_go ?_); first | (rw [dropB_enc]; refine endq ?_; rw [← selK_end (b := b) (t := t) (k := k) (by omega)]; exact view_agg (vlc (Vis.view (Vis.frame hV (by (intro i hi hlt; simp only [List.mem_cons, List.not_mem_nil, or_false, not_or] at hi; (repeat (first | with_reducible rfl | refine look_set (by with_reducible assumption) (by omega) ?_ )))) (by intro i hi; simp only [List.mem_cons, List.not_mem_nil, or_false, not_or]; exact ⟨fun e => hXy (by rw [← e]; exact hi), fun e => hXp (by rw [← e]; exact hi)⟩))) (vlc rfl vln)); done))
    | fail
    )

end Go.Proofs.YtbkmjpmgiaiacaaGreatDoor

/-! Ve -/
namespace Go.Proofs.YtbkmjpmgiaiacaaGreatDoor
open Go Dw
set_option maxRecDepth 10000
set_option linter.unusedVariables false
set_option linter.unusedSimpArgs false
attribute [local irreducible] Run
set_option maxHeartbeats 4000000

open Paths
attribute [local irreducible] Own checkB addErr roomy bsR ixB dropB addB sz roomOf putB seesW belowI tellB told isAct fewB fewW addE dropErr tellErr eventErr
theorem addE_0 {b : Bd} {w : Wt} (h : addE b w = 0) : (checkB b).2 = 0 ∧ addErr b w = 0 := by
  by_cases hc : (checkB b).2 = 0
  · rw [addE_c hc] at h; exact ⟨hc, h⟩
  · rw [addE_n hc] at h; exact absurd h hc
theorem addB_SB {b : Bd} {w : Wt} (hb : SB b) (h : addE b w = 0) : SB (addB b w) ∧ 1 ≤ b.next ∧ b.next < 2147483647 := by
  obtain ⟨hc, h⟩ := addE_0 h
  refine ⟨⟨by rw [addB_len]; have := checkB_len hc; omega, fun x hx => ?_⟩, (checkB_next hc).1, (add_ok h).2.2⟩
  unfold addB at hx
  rcases List.mem_append.1 hx with hx | hx
  · exact hb.r x hx
  · rw [List.mem_singleton.1 hx]; exact ⟨show (0 : Nat) < 1000 by decide, fun r hr => by cases hr⟩
theorem dropB_SB {b : Bd} (t : Int) (hb : SB b) : SB (dropB b t) := by
  unfold dropB
  refine ⟨Nat.lt_of_le_of_lt (List.length_filter_le _ _) hb.n, fun x hx => hb.r x (List.mem_filter.1 hx).1⟩
/-- The document's Add. -/
theorem f37 (b : Bd) (w : Wt) (hb : SB b) (hn : 1 ≤ b.next ∧ b.next < 2147483647) : Fn 37 [b.enc, w.enc] (.tup [(addB b w).enc, i b.next]) := by
  obtain ⟨r, H, h1, h2⟩ := c37o b w hb hn []
  exact run_give h1 h2
/-- The document's Drop. -/
theorem f39 (b : Bd) (t : Int) (hb : SB b) : Fn 39 [b.enc, i t] (dropB b t).enc := by
  obtain ⟨r, H, h1, h2⟩ := c39o b t hb []
  exact run_give h1 h2
theorem f30o (b : Bd) (w : Wt) (hb : SB b) (h : addE b w = 0) : Fn 30 [b.enc, w.enc] (.tup [(addB b w).enc, i b.next, i 0]) := by
  have := f30 b w hb; rwa [if_pos h] at this
theorem f30n (b : Bd) (w : Wt) (hb : SB b) (h : ¬ addE b w = 0) : Fn 30 [b.enc, w.enc] (.tup [bd0.enc, i 0, i (addE b w)]) := by
  have := f30 b w hb; rwa [if_neg h] at this
theorem f34o (b : Bd) (t : Int) (hb : SB b) (h : dropErr b t = 0) : Fn 34 [b.enc, i t] (.tup [(dropB b t).enc, i 0]) := by
  have := f34 b t hb; rwa [if_pos h] at this
theorem f34n (b : Bd) (t : Int) (hb : SB b) (h : ¬ dropErr b t = 0) : Fn 34 [b.enc, i t] (.tup [bd0.enc, i (dropErr b t)]) := by
  have := f34 b t hb; rwa [if_neg h] at this

theorem c8oo (b : Bd) (w : Wt) (t : Int) (hb : SB b) (hf : fewB b = true) (h1 : addE b w = 0) (h2 : dropErr b t = 0) : Fn 8 [b.enc, w.enc, i t] (.bool true) := by
  have hbn := hb.n; have hsd := dropB_SB t hb; obtain ⟨hsa, hnx⟩ := addB_SB hb h1
  refine run_walkF eok Tryz.func8 rfl (by kernel_rfl) ?_
  conv => whnf
  repeat' (first
    | ((with_reducible refine on_nt (by assumption) ?_); conv => whnf)
    | ((with_reducible refine on_ndec_t (by first | assumption | rfl) ?_); conv => whnf)
    | ((with_reducible refine on_dec (fun h => ?_) (fun h => ?_)) <;> (try simp only [List.length_map] at h) <;> conv => whnf)
    | ((with_reducible refine call_go ?_); (first | refine call_step (run_view c11 rfl rfl) ?_ | refine call_step (run_view (c18 b) rfl rfl) ?_ | refine call_step (run_viewF (c20 b hb) rfl) ?_ | refine call_step (run_view (c33 b hb) rfl rfl) ?_ | refine call_step (run_viewF (f30o b w hb h1) rfl) ?_ | refine call_step (run_viewF (f34o b t hb h2) rfl) ?_ | refine call_step (run_view (c35 b hb) rfl rfl) ?_ | refine call_step (run_view (c36 b w hb) rfl rfl) ?_ | refine call_step (run_view (c22 (addB b w) hsa) rfl rfl) ?_ | refine call_step (run_view (c22 (dropB b t) hsd) rfl rfl) ?_ | refine call_step (run_viewF (f37 b w hb hnx) rfl) ?_ | refine call_step (run_view (c38 b t hb) rfl rfl) ?_ | refine call_step (run_viewF (f39 b t hb) rfl) ?_); conv => whnf)
    | (refine ⟨[], [(8, 1), (8, 3), (2, 1)], (by decide +kernel), ?_⟩; conv => whnf)
    | (refine ⟨[], [(3, 6)], (by decide +kernel), ?_⟩; conv => whnf)
    | ((with_reducible refine endx_go ?_); first | (exact endx rfl; done))
    | (refine ⟨rfl, ?_⟩; conv => whnf)
    | fail
    )

theorem c8on (b : Bd) (w : Wt) (t : Int) (hb : SB b) (hf : fewB b = true) (h1 : addE b w = 0) (h2 : ¬ dropErr b t = 0) : Fn 8 [b.enc, w.enc, i t] (.bool true) := by
  have hbn := hb.n; have hsd := dropB_SB t hb; obtain ⟨hsa, hnx⟩ := addB_SB hb h1
  refine run_walkF eok Tryz.func8 rfl (by kernel_rfl) ?_
  conv => whnf
  repeat' (first
    | ((with_reducible refine on_nt (by assumption) ?_); conv => whnf)
    | ((with_reducible refine on_ndec_t (by first | assumption | rfl) ?_); conv => whnf)
    | ((with_reducible refine on_ndec_f (by assumption) ?_); conv => whnf)
    | ((with_reducible refine on_dec_t rfl ?_); conv => whnf)
    | ((with_reducible refine on_dec (fun h => ?_) (fun h => ?_)) <;> (try simp only [List.length_map] at h) <;> conv => whnf)
    | ((with_reducible refine call_go ?_); (first | refine call_step (run_view c11 rfl rfl) ?_ | refine call_step (run_view (c18 b) rfl rfl) ?_ | refine call_step (run_viewF (c20 b hb) rfl) ?_ | refine call_step (run_view (c33 b hb) rfl rfl) ?_ | refine call_step (run_viewF (f30o b w hb h1) rfl) ?_ | refine call_step (run_viewF (f34n b t hb h2) rfl) ?_ | refine call_step (run_view (c35 b hb) rfl rfl) ?_ | refine call_step (run_view (c36 b w hb) rfl rfl) ?_ | refine call_step (run_view (c22 (addB b w) hsa) rfl rfl) ?_ | refine call_step (run_view c22z rfl rfl) ?_ | refine call_step (run_viewF (f37 b w hb hnx) rfl) ?_ | refine call_step (run_view (c38 b t hb) rfl rfl) ?_ ); conv => whnf)
    | (refine ⟨[], [(8, 1), (8, 3), (2, 1)], (by decide +kernel), ?_⟩; conv => whnf)
    | ((with_reducible refine endx_go ?_); first | (exact endx rfl; done))
    | (refine ⟨rfl, ?_⟩; conv => whnf)
    | fail
    )

theorem c8no (b : Bd) (w : Wt) (t : Int) (hb : SB b) (hf : fewB b = true) (h1 : ¬ addE b w = 0) (h2 : dropErr b t = 0) : Fn 8 [b.enc, w.enc, i t] (.bool true) := by
  have hbn := hb.n; have hsd := dropB_SB t hb
  refine run_walkF eok Tryz.func8 rfl (by kernel_rfl) ?_
  conv => whnf
  repeat' (first
    | ((with_reducible refine on_nt (by assumption) ?_); conv => whnf)
    | ((with_reducible refine on_ndec_t (by first | assumption | rfl) ?_); conv => whnf)
    | ((with_reducible refine on_ndec_f (by assumption) ?_); conv => whnf)
    | ((with_reducible refine on_dec (fun h => ?_) (fun h => ?_)) <;> (try simp only [List.length_map] at h) <;> conv => whnf)
    | ((with_reducible refine call_go ?_); (first | refine call_step (run_view c11 rfl rfl) ?_ | refine call_step (run_view (c18 b) rfl rfl) ?_ | refine call_step (run_viewF (c20 b hb) rfl) ?_ | refine call_step (run_view (c33 b hb) rfl rfl) ?_ | refine call_step (run_viewF (f30n b w hb h1) rfl) ?_ | refine call_step (run_viewF (f34o b t hb h2) rfl) ?_ | refine call_step (run_view (c35 b hb) rfl rfl) ?_ | refine call_step (run_view (c36 b w hb) rfl rfl) ?_ | refine call_step (run_view (c22 (dropB b t) hsd) rfl rfl) ?_ | refine call_step (run_view c22z rfl rfl) ?_ | refine call_step (run_view (c38 b t hb) rfl rfl) ?_ | refine call_step (run_viewF (f39 b t hb) rfl) ?_); conv => whnf)
    | (refine ⟨[], [(8, 1), (8, 3), (2, 1)], (by decide +kernel), ?_⟩; conv => whnf)
    | (refine ⟨[], [(3, 6)], (by decide +kernel), ?_⟩; conv => whnf)
    | ((with_reducible refine endx_go ?_); first | (exact endx rfl; done))
    | (refine ⟨rfl, ?_⟩; conv => whnf)
    | fail
    )

theorem c8nn (b : Bd) (w : Wt) (t : Int) (hb : SB b) (hf : fewB b = true) (h1 : ¬ addE b w = 0) (h2 : ¬ dropErr b t = 0) : Fn 8 [b.enc, w.enc, i t] (.bool true) := by
  have hbn := hb.n; have hsd := dropB_SB t hb
  refine run_walkF eok Tryz.func8 rfl (by kernel_rfl) ?_
  conv => whnf
  repeat' (first
    | ((with_reducible refine on_nt (by assumption) ?_); conv => whnf)
    | ((with_reducible refine on_ndec_t (by first | assumption | rfl) ?_); conv => whnf)
    | ((with_reducible refine on_ndec_f (by assumption) ?_); conv => whnf)
    | ((with_reducible refine on_dec_t rfl ?_); conv => whnf)
    | ((with_reducible refine on_dec (fun h => ?_) (fun h => ?_)) <;> (try simp only [List.length_map] at h) <;> conv => whnf)
    | ((with_reducible refine call_go ?_); (first | refine call_step (run_view c11 rfl rfl) ?_ | refine call_step (run_view (c18 b) rfl rfl) ?_ | refine call_step (run_viewF (c20 b hb) rfl) ?_ | refine call_step (run_view (c33 b hb) rfl rfl) ?_ | refine call_step (run_viewF (f30n b w hb h1) rfl) ?_ | refine call_step (run_viewF (f34n b t hb h2) rfl) ?_ | refine call_step (run_view (c35 b hb) rfl rfl) ?_ | refine call_step (run_view (c36 b w hb) rfl rfl) ?_ | refine call_step (run_view c22z rfl rfl) ?_ | refine call_step (run_view (c38 b t hb) rfl rfl) ?_ ); conv => whnf)
    | (refine ⟨[], [(8, 1), (8, 3), (2, 1)], (by decide +kernel), ?_⟩; conv => whnf)
    | ((with_reducible refine endx_go ?_); first | (exact endx rfl; done))
    | (refine ⟨rfl, ?_⟩; conv => whnf)
    | fail
    )

theorem c8f (b : Bd) (w : Wt) (t : Int) (hf : fewB b = false) : Fn 8 [b.enc, w.enc, i t] (.bool true) := by
  refine run_walkF eok Tryz.func8 rfl (by kernel_rfl) ?_
  conv => whnf
  repeat' (first
    | ((with_reducible refine on_nf (by assumption) ?_); conv => whnf)
    | ((with_reducible refine call_go ?_); (first | refine call_step (run_view c11 rfl rfl) ?_ | refine call_step (run_view (c18 b) rfl rfl) ?_ ); conv => whnf)
    | ((with_reducible refine endx_go ?_); first | (exact endx rfl; done))
    | fail
    )

theorem c8 (b : Bd) (w : Wt) (t : Int) (ha : actsOk b) : Fn 8 [b.enc, w.enc, i t] (.bool true) := by
  by_cases hf : fewB b = true
  · have hb := few_SB hf ha
    by_cases h1 : addE b w = 0 <;> by_cases h2 : dropErr b t = 0
    · exact c8oo b w t hb hf h1 h2
    · exact c8on b w t hb hf h1 h2
    · exact c8no b w t hb hf h1 h2
    · exact c8nn b w t hb hf h1 h2
  · exact c8f b w t (by simpa using hf)

end Go.Proofs.YtbkmjpmgiaiacaaGreatDoor

/-! Le -/
namespace Go.Proofs.YtbkmjpmgiaiacaaGreatDoor
open Go Dw Go.ChangeShapes Go.WideShapes Go.RowKit

section
attribute [local irreducible] Run
theorem hrun8 : ∀ xs, shps E 6 Tryz.f8.params.toList xs → Run Tryz.prog 8 (xs.map .d) [] (.d (.bool true)) [] := by
  intro xs h
  obtain ⟨x1, r1, rfl, h1, x2, r2, rfl, h2, x3, r3, rfl, h3, rfl⟩ := h
  obtain ⟨b, rfl, ha⟩ := shpBd h1
  obtain ⟨w, rfl⟩ := shpWt h2
  obtain ⟨t, rfl, _⟩ := h3
  exact c8 b w t ha
end

set_option maxRecDepth 100000 in
theorem lifted8 (os : Os) (started : os.Started) (H : Type) (enc : TypeId × Value → H) :
    ReturnsInHanded {} Tryz.checked os 8 .any (fun w args => (Rows.notifyBoardsSpec.pre enc Tryz.prog Tryz.f8 [] false w args ∧ laidMetH Tryz.prog laid28 w) ∧ sizedMet enc Tryz.prog Tryz.f8 (OpenSpec.ofChange Rows.notifyBoardsSpec) false w args)
      (Rows.notifyBoardsSpec.post enc Tryz.prog Tryz.f8 false true false false) := by
  refine returnsInHanded_of_change_and (C := Tryz.checked) (X := fun w _ => laidMetH Tryz.prog laid28 w) (fun _ _ _ hh h => h.of_heap hh) own28 started (by kernel_rfl) Tryz.func8
    (ChangeSpec.witness_shaped (enc := enc) (C := Tryz.checked) (os := os) (X := fun w _ => laidMetH Tryz.prog laid28 w) false (wit28 os) #[.agg #[.slice none 0 0, .int .i64 0], .agg #[.string ⟨#[]⟩, .bool false, .int .i64 0, .int .i64 0], .int .i64 0] 8 rfl (shaped28 os _) (by kernel_rfl) (by kernel_rfl) (by kernel_rfl) (door_met28 os _)) ?_
  intro W base args ds gs before hval hW _ _ _ _
  refine law_lift (n := 6) (t4 := 4) eok Tryz.func8 (by kernel_rfl) rfl laidOut28 rfl ?_ rfl Tryz.underlying4 (by kernel_rfl) hrun8 W base args ds gs before hval hW
  intro H ds hds
  match ds, hds with
  | [a, b, c], _ => rfl

theorem over8 : Rows.NotifyBoardsSaid :=
  OpenClaim.holds_of_wide 8 Tryz.f8 rfl rfl rfl rfl rfl rfl rfl ⟨rfl, rfl, rfl, rfl, rfl⟩ rfl rfl rfl rfl rfl (by kernel_rfl) Tryz.func8 (by kernel_rfl)
    (of_decide_eq_true (by kernel_rfl)) (by unfold Func.isWrapper; first | (rw [if_pos (by decide +kernel)]; kernel_rfl) | (rw [if_neg (by decide +kernel)]; exact ⟨rfl, rfl⟩))
    (fun os started H enc _ => lifted8 os started H enc)

theorem notifyBoards_proved : Rows.NotifyBoardsCardSaid :=
  Claim7.holds_tied_plain_at .later [] [.data, .pinned] true (true, "109c5384165a96825d1f2089578ad2bcbcab01a966bcbf40a0fdea72bc267f3f") false
    over8 (fun _ h => by cases h) (by kernel_rfl) (fun _ h => by cases h) notifyBoards_row_tie rfl ⟨rfl, rfl⟩ (by kernel_rfl) rfl
    (card_hl (f0 := 8) (fn0 := Tryz.f8) (by kernel_rfl) Tryz.func8 (by kernel_rfl) (by kernel_rfl)) (by kernel_rfl)
end Go.Proofs.YtbkmjpmgiaiacaaGreatDoor
