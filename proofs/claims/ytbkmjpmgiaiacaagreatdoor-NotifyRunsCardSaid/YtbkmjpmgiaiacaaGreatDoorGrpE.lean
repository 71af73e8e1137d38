/-
  Own lemmas, no conditions: We, Wf, Wg, Wh, Wi, Aw.
-/
import Derived.Test.YtbkmjpmgiaiacaaGreatDoorGrpD
set_option linter.unusedVariables false
set_option linter.unusedSimpArgs false

/-! We -/
namespace Go.Proofs.YtbkmjpmgiaiacaaGreatDoor
open Go Dw
set_option maxRecDepth 10000
set_option linter.unusedVariables false
set_option linter.unusedSimpArgs false
attribute [local irreducible] Run
set_option maxHeartbeats 4000000

open Paths
attribute [local irreducible] nameErr cut normal

theorem c94 (p : PP) (hn : p.parts.length < 100000) : Fn 94 [PPe p] (i (plainErr p)) := by
  refine run_walkF eok Tryz.func94 rfl (by kernel_rfl) ?_
  conv => whnf
  repeat' (first
    | ((with_reducible refine on_ndec (fun h => ?_) (fun h => ?_)) <;> (try simp only [List.length_map] at h) <;> conv => whnf)
    | ((with_reducible refine on_not (fun h => ?_) (fun h => ?_)) <;> conv => whnf)
    | ((with_reducible refine call_go ?_); (first | refine call_step (run_view (c126 p (by omega)) rfl rfl) ?_); conv => whnf)
    | ((with_reducible refine endx_go ?_); first | (refine endx (congrArg i ?_); unfold plainErr; (simp_all; done); done) )
    | fail
    )

theorem lastIx {l : List Bs} (h : l ≠ []) : l.length - 1 < l.length := by have := List.length_pos_iff.2 h; omega
theorem cut_one {c : UInt8} {x : Bs} : (cut c x).length ≤ 1 ↔ x.contains c = false := by
  rw [cut_len]
  have := List.count_eq_zero (a := c) (l := x)
  constructor
  · intro h
    have : x.count c = 0 := by omega
    rw [List.count_eq_zero] at this; simpa using this
  · intro h
    have h2 : ¬ c ∈ x := by simpa using h
    rw [List.count_eq_zero.2 h2]; exact Nat.le_refl _
theorem wp_take {l : List Bs} {k : Nat} (h : wellParts (l.take k) = true) (hk : k < l.length) (h1 : ¬ l[k] = []) (h2 : ¬ (1 : Int) < (cut 58 l[k]).length) : wellParts (l.take (k + 1)) = true := by
  unfold wellParts at h ⊢
  rw [List.take_succ_eq_append_getElem hk, List.all_append, h]
  have := cut_one (c := 58) (x := l[k])
  have h3 : l[k].contains 58 = false := this.1 (by omega)
  have h4 : ¬ 58 ∈ l[k] := by simpa using h3
  simp [h1, h4]
theorem wp_bad {l : List Bs} {k : Nat} (hk : k < l.length) (h : l[k] = [] ∨ (1 : Int) < (cut 58 l[k]).length) : wellParts l = false := by
  unfold wellParts
  rw [List.all_eq_false]
  refine ⟨l[k], List.getElem_mem _, ?_⟩
  rcases h with h | h
  · simp [h]
  · have := cut_one (c := 58) (x := l[k])
    cases hc : l[k].contains 58
    · have := this.2 hc; omega
    · have h4 : 58 ∈ l[k] := by simpa using hc
      simp [h4]
theorem pe_drop {l : List Bs} {k : Nat} (hk : k < l.length) : firstE ((l.drop k).map partErr) = if partErr l[k] = 0 then firstE ((l.drop (k + 1)).map partErr) else partErr l[k] := by
  rw [List.drop_eq_getElem_cons hk, List.map_cons, firstE_cons]
theorem pe_dots {x : Bs} (h : dots x = true) : partErr x = 0 := if_pos h
theorem pe_name {x : Bs} (h : dots x = false) : partErr x = nameErr x := if_neg (by rw [h]; decide)
theorem restOf_c (x : UInt8) (r : Bs) : restOf (x :: r) = if x = 47 then r else x :: r := by
  unfold restOf
  by_cases h : x = 47
  · rw [if_pos (by rw [h]; rfl), if_pos h]; rfl
  · rw [if_neg (by simpa using h), if_neg h]
theorem isAbs_c (x : UInt8) (r : Bs) : isAbs (x :: r) = decide ((x.toNat : Int) = 47) := by
  unfold isAbs
  rw [decide_eq_decide]
  show some x = some 47 ↔ _
  constructor
  · intro h; cases h; rfl
  · intro h; rw [u8_inj (a := x) (b := 47) (by rw [h]; rfl)]
attribute [local irreducible] wellParts partErr restOf isAbs

theorem c97r (s : Bs) (c : UInt8) (l : List Bs) (hl : cut c s = l) (hs : s.length < 1000000) : Run Tryz.prog 97 [.d (.str s), .d (u8 c)] [] (.sl 0 0 l.length 1 none) [⟨(l.map D.str).map .d, 1, 0⟩] := by
  refine run_walkV eok Tryz.func97 rfl (by kernel_rfl) [] (by rfl) [] ?_
  conv => whnf
  repeat' (first
    | ((with_reducible refine on_dec_f ?_ ?_); (focus ((try simp only [List.length_map, List.length_cons, List.length_nil, List.length_append]); omega)); conv => whnf)
    | ((with_reducible refine on_dec (fun h => ?_) (fun h => ?_)) <;> (try simp only [List.length_map] at h) <;> conv => whnf)
    | ((with_reducible refine loop_go ?_); first | (refine loop3 (fun (out : List Bs) (a : Nat) (k : Nat) => s.length - k) (fun (out : List Bs) (a : Nat) (k : Nat) => k ≤ s.length ∧ a ≤ k ∧ out.length ≤ k ∧ CutI c s out a k) (fun (out : List Bs) (a : Nat) (k : Nat) => [(0, .d (.str s)), (1, .d (u8 c)), (5, .sl 0 0 out.length 1 none), (6, .d (i a)), (7, .d (i k))]) (fun (out : List Bs) (a : Nat) (k : Nat) => [⟨(out.map D.str).map .d, 1, 0⟩]) ([]) (0) (0) (by exact ⟨Nat.zero_le _, Nat.le_refl _, Nat.le_refl _, CutI.zero _ _⟩) ?_ (fun out a k C hI hC => ?_); (exact ⟨[.void 1], rfl, rfl, ⟨rfl, rfl, ⟨rfl, rfl, rfl, rfl⟩, rfl, rfl, trivial⟩, ⟨⟨rfl, rfl, (by decide), rfl⟩, trivial⟩⟩); all_goals (conv => whnf)))
    | ((with_reducible show C _ _); first | (refine hC (out ++ [(s.take k).drop a]) (k + 1) (k + 1) _ _ ?_ (by omega) ?_; clear hC; rotate_left; (exact ⟨[.old 2], rfl, rfl, ⟨(by first | (show (_ : D) = _; with_reducible rfl) ), (by first | (show (_ : D) = _; with_reducible rfl) ), ⟨rfl, rfl, (by simp), rfl, rfl⟩, (by first | exact congrArg (D.int .i64) (by omega) ), (by first | exact congrArg (D.int .i64) (by omega) ), trivial⟩, ⟨⟨rfl, rfl, .inr (wks_add (wksd _ _) rfl)⟩, trivial⟩⟩); (exact ⟨by omega, by omega, by simp; omega, hI.2.2.2.hit (by omega) (u8_inj h)⟩)) | (refine hC (out) (a) (k + 1) _ _ ?_ (by omega) ?_; clear hC; rotate_left; (exact ⟨[.old 0], rfl, rfl, ⟨(by first | (show (_ : D) = _; with_reducible rfl) ), (by first | (show (_ : D) = _; with_reducible rfl) ), (by first | exact ⟨rfl, rfl, rfl, rfl, rfl⟩ ), (by first | (show (_ : D) = _; with_reducible rfl) ), (by first | exact congrArg (D.int .i64) (by omega) ), trivial⟩, ⟨⟨rfl, rfl, .inr (wksd _ _)⟩, trivial⟩⟩); (exact ⟨by omega, by omega, by omega, hI.2.2.2.miss (by omega) (fun e => h (by rw [e]))⟩)))
    | (refine ⟨⟨(by first | (simp; done)), cap_ok (by simp only [List.length_map, List.length_cons, List.length_nil, List.length_append]; omega) rfl⟩, ?_⟩; conv => whnf)
    | (refine ix_str (by omega) ?_; conv => whnf)
    | (refine wrap64 (by omega) ?_; conv => whnf)
    | (refine sl_str a s.length (by omega) (by omega) (by omega) ?_; conv => whnf)
    | (refine sl_str a k (by omega) (by omega) (by omega) ?_; conv => whnf)
    | (refine ⟨Nat.le_refl _, ?_⟩; conv => whnf)
    | ((with_reducible refine endx_go ?_); first | (refine endX_of (.inl ⟨[.old 2], rfl, rfl, ⟨⟨rfl, rfl, ?_, rfl, rfl⟩, trivial⟩, ⟨⟨rfl, rfl, .inr ?_⟩, trivial⟩⟩); (focus (rw [← hl, ← hI.2.2.2.done (by omega)]; simp)); rw [← hl, ← hI.2.2.2.done (by omega)]; exact wks_add (wksd _ _) (congrArg D.str (by rw [List.take_length])); done))
    | fail
    )

theorem set_str {l L : List Bs} {n m : Nat} {a : Bs} {K : List AV → Prop} (e : n = m) (hL : l.set m a = L) (hk : K ((L.map D.str).map .d)) : setK ((l.map D.str).map AV.d) n (.d (.str a)) K := by
  subst e; subst hL
  rw [setK_eq, set_row]; exact hk
def res (ab : Bool) (L : List Bs) (T : Bs) : PP × Int := if wellParts L = false then (noPP, 7) else if partsErr L T ≠ 0 then (noPP, partsErr L T) else (⟨ab, L, T⟩, 0)
theorem wp_nil (l : List Bs) : wellParts (l.take 0) = true := by rw [List.take_zero]; unfold wellParts; rfl
theorem wp_end {l : List Bs} {k : Nat} (h : wellParts (l.take k) = true) (hk : ¬ ((k : Int) < l.length)) : wellParts l = true := by
  rwa [List.take_of_length_le (by omega)] at h
theorem res_bad {ab : Bool} {L : List Bs} {T : Bs} (h : wellParts L = false) : D.tup [PPe noPP, i 7] = .tup [PPe (res ab L T).1, i (res ab L T).2] := by
  unfold res; rw [if_pos h]
theorem res_err {ab : Bool} {L : List Bs} {T : Bs} {e : Int} (h : wellParts L = true) (h2 : partsErr L T = e) (h3 : ¬ e = 0) : D.tup [PPe noPP, i e] = .tup [PPe (res ab L T).1, i (res ab L T).2] := by
  unfold res; rw [if_neg (by rw [h]; decide), if_pos (by rw [h2]; exact h3), h2]
theorem res_ok {ab : Bool} {L : List Bs} {T : Bs} (h : wellParts L = true) (h2 : partsErr L T = 0) : D.tup [PPe ⟨ab, L, T⟩, i 0] = .tup [PPe (res ab L T).1, i (res ab L T).2] := by
  unfold res; rw [if_neg (by rw [h]; decide), if_neg (by rw [h2]; simp)]
theorem pe_part {L : List Bs} {T : Bs} {k : Nat} (hk : k < L.length) (hi : firstE (L.map partErr) = firstE ((L.drop k).map partErr)) (hd : dots L[k] = false) (hn : ¬ nameErr L[k] = 0) : partsErr L T = nameErr L[k] := by
  unfold partsErr
  rw [hi, pe_drop hk, pe_name hd, if_neg hn, firstE_cons, if_neg hn]
theorem pe_parts {L : List Bs} {T : Bs} {k : Nat} (hk : ¬ ((k : Int) < L.length)) (hi : firstE (L.map partErr) = firstE ((L.drop k).map partErr)) : partsErr L T = firstE [if T = [] then 0 else nameErr T, if 16 < L.length then 8 else 0] := by
  unfold partsErr
  rw [hi, List.drop_eq_nil_of_le (by omega), List.map_nil, firstE_nil, firstE_cons, if_pos rfl]
theorem pe_tail {L : List Bs} {T : Bs} (h : ¬ ((16 : Int) < L.length)) (hT : T = [] ∨ nameErr T = 0) : firstE [if T = [] then 0 else nameErr T, if 16 < L.length then 8 else 0] = 0 := by
  rw [if_neg (show ¬ 16 < L.length by omega)]
  rcases hT with hT | hT
  · rw [if_pos hT]; rfl
  · rw [hT]; simp [firstE_cons, firstE_nil]
theorem pe_tail_8 {L : List Bs} {T : Bs} (h : (16 : Int) < L.length) (hT : T = [] ∨ nameErr T = 0) : firstE [if T = [] then 0 else nameErr T, if 16 < L.length then 8 else 0] = 8 := by
  rw [if_pos (show 16 < L.length by omega)]
  rcases hT with hT | hT
  · rw [if_pos hT]; rfl
  · rw [hT]; simp [firstE_cons, firstE_nil]
theorem pe_tail_n {L : List Bs} {T : Bs} (hT : ¬ T = []) (hn : ¬ nameErr T = 0) : firstE [if T = [] then 0 else nameErr T, if 16 < L.length then 8 else 0] = nameErr T := by
  rw [if_neg hT, firstE_cons, if_neg hn]
theorem set_small {l L : List Bs} {m : Nat} {a : Bs} (hL : l.set m a = L) (h : ∀ y ∈ l, y.length < 1000) (ha : a.length < 1000) : ∀ y ∈ L, y.length < 1000 := by
  intro y hy
  rw [← hL] at hy
  rcases List.mem_or_eq_of_mem_set hy with hy | rfl
  · exact h y hy
  · exact ha
theorem cut_small {c : UInt8} {s y : Bs} {l : List Bs} (h : cut c s = l) (hs : s.length < 1000) (hy : y ∈ l) : y.length < 1000 := by
  rw [← h] at hy
  have := (cut_mem hy).2; omega
theorem rest_len (x : UInt8) (r : Bs) : (restOf (x :: r)).length ≤ r.length + 1 := by
  rw [restOf_c]; split <;> simp

theorem c62at (x : UInt8) (r q : Bs) (l cs : List Bs) (hlen : r.length ≤ 199) (h47 : ¬ x :: r = [47]) (hq : restOf (x :: r) = q) (hl : cut 47 q = l) (hcs : cut 58 (l[l.length - 1]'(lastIx (by rw [← hl]; exact cut_ne _ _))) = cs) (hx : (x.toNat : Int) = 47) (h2 : 2 < cs.length) : Fn 62 [.str (x :: r)] (.tup [PPe noPP, i 7]) := by
  have hl0 : 0 < l.length := List.length_pos_iff.2 (by rw [← hl]; exact cut_ne _ _); have hll : l.length < 1000 := (by rw [← hl, cut_len]; have := List.count_le_length (a := 47) (l := q); have := rest_len x r; rw [hq] at this; omega); have hpl : ∀ x ∈ l, x.length < 1000 := (by intro y hy; rw [← hl] at hy; have := (cut_mem hy).2; have := rest_len x r; rw [hq] at this; omega); have h97t : ((x :: r).take (r.length + 1)).drop 1 = q := (by rw [← hq, restOf_c, if_pos (u8_inj (b := 47) hx)]; simp); have hql : q.length ≤ 200 := (by have := rest_len x r; rw [hq] at this; omega)
  refine run_walkF eok Tryz.func62 rfl (by kernel_rfl) ?_
  conv => whnf
  repeat' (first
    | ((with_reducible refine on_dec_t (by assumption) ?_); conv => whnf)
    | ((with_reducible refine on_dec_f (by assumption) ?_); conv => whnf)
    | ((with_reducible refine on_dec_f ?_ ?_); (focus ((try simp only [List.length_map, List.length_cons, List.length_nil, List.length_append]); omega)); conv => whnf)
    | ((with_reducible refine on_dec_t ?_ ?_); (focus ((try simp only [List.length_map, List.length_cons, List.length_nil, List.length_append]); omega)); conv => whnf)
    | ((with_reducible refine call_go ?_); (first | refine call_step (run_new (l := l) (c97r (((x :: r).take (r.length + 1)).drop 1) 47 l (by rw [h97t, hl]) (by rw [h97t]; omega)) (fun _ => rfl) rfl) ?_ | refine call_step (run_new (l := cs) (c97r (l[l.length - 1]'(by omega)) 58 cs hcs (by have := hpl _ (List.getElem_mem (l := l) (n := l.length - 1) (by omega)); omega)) (fun _ => rfl) rfl) ?_ ); conv => whnf)
    | (refine wrap64 (by omega) ?_; conv => whnf)
    | (refine sl_str 1 (r.length + 1) (by omega) (by simp) (by simp) ?_; conv => whnf)
    | (refine ⟨Int.le_refl 0, ?_⟩; conv => whnf)
    | (refine ⟨⟨by omega, by first | omega | (simp; done)⟩, ?_⟩; conv => whnf)
    | (refine nthK_rowi (l := l) (l.length - 1) (by omega) (by omega) ?_; conv => whnf)
    | ((with_reducible refine endx_go ?_); first | (exact endxv rfl rfl; done))
    | fail
    )

theorem c62bt (x : UInt8) (r q : Bs) (l : List Bs) (a b : Bs) (hlen : r.length ≤ 199) (h47 : ¬ x :: r = [47]) (hq : restOf (x :: r) = q) (hl : cut 47 q = l) (hcs : cut 58 (l[l.length - 1]'(lastIx (by rw [← hl]; exact cut_ne _ _))) = [a, b]) (hx : (x.toNat : Int) = 47) (h2 : dots a = true) : Fn 62 [.str (x :: r)] (.tup [PPe noPP, i 7]) := by
  have hl0 : 0 < l.length := List.length_pos_iff.2 (by rw [← hl]; exact cut_ne _ _); have hll : l.length < 1000 := (by rw [← hl, cut_len]; have := List.count_le_length (a := 47) (l := q); have := rest_len x r; rw [hq] at this; omega); have hpl : ∀ x ∈ l, x.length < 1000 := (by intro y hy; rw [← hl] at hy; have := (cut_mem hy).2; have := rest_len x r; rw [hq] at this; omega); have h97t : ((x :: r).take (r.length + 1)).drop 1 = q := (by rw [← hq, restOf_c, if_pos (u8_inj (b := 47) hx)]; simp); have hql : q.length ≤ 200 := (by have := rest_len x r; rw [hq] at this; omega)
  refine run_walkF eok Tryz.func62 rfl (by kernel_rfl) ?_
  conv => whnf
  repeat' (first
    | ((with_reducible refine on_dec_t (by assumption) ?_); conv => whnf)
    | ((with_reducible refine on_dec_f (by assumption) ?_); conv => whnf)
    | ((with_reducible refine onBool_t (by assumption) ?_); conv => whnf)
    | ((with_reducible refine on_dec_f ?_ ?_); (focus ((try simp only [List.length_map, List.length_cons, List.length_nil, List.length_append]); omega)); conv => whnf)
    | ((with_reducible refine call_go ?_); (first | refine call_step (run_new (l := l) (c97r (((x :: r).take (r.length + 1)).drop 1) 47 l (by rw [h97t, hl]) (by rw [h97t]; omega)) (fun _ => rfl) rfl) ?_ | refine call_step (run_new (l := [a, b]) (c97r (l[l.length - 1]'(by omega)) 58 [a, b] hcs (by have := hpl _ (List.getElem_mem (l := l) (n := l.length - 1) (by omega)); omega)) (fun _ => rfl) rfl) ?_ | refine call_step (run_view (c98 _) rfl rfl) ?_); conv => whnf)
    | (refine wrap64 (by omega) ?_; conv => whnf)
    | (refine sl_str 1 (r.length + 1) (by omega) (by simp) (by simp) ?_; conv => whnf)
    | (refine ⟨Int.le_refl 0, ?_⟩; conv => whnf)
    | (refine ⟨⟨by omega, by first | omega | (simp; done)⟩, ?_⟩; conv => whnf)
    | (refine nthK_rowi (l := l) (l.length - 1) (by omega) (by omega) ?_; conv => whnf)
    | ((with_reducible refine endx_go ?_); first | (exact endxv rfl rfl; done))
    | fail
    )

theorem c62ct (x : UInt8) (r q : Bs) (l : List Bs) (a b : Bs) (hlen : r.length ≤ 199) (h47 : ¬ x :: r = [47]) (hq : restOf (x :: r) = q) (hl : cut 47 q = l) (hcs : cut 58 (l[l.length - 1]'(lastIx (by rw [← hl]; exact cut_ne _ _))) = [a, b]) (hx : (x.toNat : Int) = 47) (h2 : dots a = false) (h3 : b = []) : Fn 62 [.str (x :: r)] (.tup [PPe noPP, i 7]) := by
  have hl0 : 0 < l.length := List.length_pos_iff.2 (by rw [← hl]; exact cut_ne _ _); have hll : l.length < 1000 := (by rw [← hl, cut_len]; have := List.count_le_length (a := 47) (l := q); have := rest_len x r; rw [hq] at this; omega); have hpl : ∀ x ∈ l, x.length < 1000 := (by intro y hy; rw [← hl] at hy; have := (cut_mem hy).2; have := rest_len x r; rw [hq] at this; omega); have h97t : ((x :: r).take (r.length + 1)).drop 1 = q := (by rw [← hq, restOf_c, if_pos (u8_inj (b := 47) hx)]; simp); have hql : q.length ≤ 200 := (by have := rest_len x r; rw [hq] at this; omega)
  refine run_walkF eok Tryz.func62 rfl (by kernel_rfl) ?_
  conv => whnf
  repeat' (first
    | ((with_reducible refine on_dec_t (by assumption) ?_); conv => whnf)
    | ((with_reducible refine on_dec_f (by assumption) ?_); conv => whnf)
    | ((with_reducible refine onBool_f (by assumption) ?_); conv => whnf)
    | ((with_reducible refine on_dec_f ?_ ?_); (focus ((try simp only [List.length_map, List.length_cons, List.length_nil, List.length_append]); omega)); conv => whnf)
    | ((with_reducible refine onBool_split (fun h => ?_) (fun h => ?_)) <;> conv => whnf)
    | ((with_reducible refine call_go ?_); (first | refine call_step (run_new (l := l) (c97r (((x :: r).take (r.length + 1)).drop 1) 47 l (by rw [h97t, hl]) (by rw [h97t]; omega)) (fun _ => rfl) rfl) ?_ | refine call_step (run_new (l := [a, b]) (c97r (l[l.length - 1]'(by omega)) 58 [a, b] hcs (by have := hpl _ (List.getElem_mem (l := l) (n := l.length - 1) (by omega)); omega)) (fun _ => rfl) rfl) ?_ | refine call_step (run_view (c98 _) rfl rfl) ?_); conv => whnf)
    | (refine ⟨[], [], (by decide +kernel), ?_⟩; conv => whnf)
    | (refine wrap64 (by omega) ?_; conv => whnf)
    | (exact absurd h3 (of_decide_eq_false h))
    | (refine sl_str 1 (r.length + 1) (by omega) (by simp) (by simp) ?_; conv => whnf)
    | (refine ⟨Int.le_refl 0, ?_⟩; conv => whnf)
    | (refine ⟨⟨by omega, by first | omega | (simp; done)⟩, ?_⟩; conv => whnf)
    | (refine nthK_rowi (l := l) (l.length - 1) (by omega) (by omega) ?_; conv => whnf)
    | ((with_reducible refine endx_go ?_); first | (exact endxv rfl rfl; done) )
    | fail
    )

theorem c62af (x : UInt8) (r q : Bs) (l cs : List Bs) (hlen : r.length ≤ 199) (h47 : ¬ x :: r = [47]) (hq : restOf (x :: r) = q) (hl : cut 47 q = l) (hcs : cut 58 (l[l.length - 1]'(lastIx (by rw [← hl]; exact cut_ne _ _))) = cs) (hx : ¬ (x.toNat : Int) = 47) (h2 : 2 < cs.length) : Fn 62 [.str (x :: r)] (.tup [PPe noPP, i 7]) := by
  have hl0 : 0 < l.length := List.length_pos_iff.2 (by rw [← hl]; exact cut_ne _ _); have hll : l.length < 1000 := (by rw [← hl, cut_len]; have := List.count_le_length (a := 47) (l := q); have := rest_len x r; rw [hq] at this; omega); have hpl : ∀ x ∈ l, x.length < 1000 := (by intro y hy; rw [← hl] at hy; have := (cut_mem hy).2; have := rest_len x r; rw [hq] at this; omega); have h97f : x :: r = q := (by rw [← hq, restOf_c, if_neg (fun e => hx (by rw [e]; rfl))]); have hql : q.length ≤ 200 := (by have := rest_len x r; rw [hq] at this; omega)
  refine run_walkF eok Tryz.func62 rfl (by kernel_rfl) ?_
  conv => whnf
  repeat' (first
    | ((with_reducible refine on_dec_f (by assumption) ?_); conv => whnf)
    | ((with_reducible refine on_dec_f ?_ ?_); (focus ((try simp only [List.length_map, List.length_cons, List.length_nil, List.length_append]); omega)); conv => whnf)
    | ((with_reducible refine on_dec_t ?_ ?_); (focus ((try simp only [List.length_map, List.length_cons, List.length_nil, List.length_append]); omega)); conv => whnf)
    | ((with_reducible refine call_go ?_); (first | refine call_step (run_new (l := l) (c97r (x :: r) 47 l (by rw [h97f, hl]) (by rw [h97f]; omega)) (fun _ => rfl) rfl) ?_ | refine call_step (run_new (l := cs) (c97r (l[l.length - 1]'(by omega)) 58 cs hcs (by have := hpl _ (List.getElem_mem (l := l) (n := l.length - 1) (by omega)); omega)) (fun _ => rfl) rfl) ?_ ); conv => whnf)
    | (refine wrap64 (by omega) ?_; conv => whnf)
    | (refine ⟨Int.le_refl 0, ?_⟩; conv => whnf)
    | (refine ⟨⟨by omega, by first | omega | (simp; done)⟩, ?_⟩; conv => whnf)
    | (refine nthK_rowi (l := l) (l.length - 1) (by omega) (by omega) ?_; conv => whnf)
    | ((with_reducible refine endx_go ?_); first | (exact endxv rfl rfl; done))
    | fail
    )

theorem c62bf (x : UInt8) (r q : Bs) (l : List Bs) (a b : Bs) (hlen : r.length ≤ 199) (h47 : ¬ x :: r = [47]) (hq : restOf (x :: r) = q) (hl : cut 47 q = l) (hcs : cut 58 (l[l.length - 1]'(lastIx (by rw [← hl]; exact cut_ne _ _))) = [a, b]) (hx : ¬ (x.toNat : Int) = 47) (h2 : dots a = true) : Fn 62 [.str (x :: r)] (.tup [PPe noPP, i 7]) := by
  have hl0 : 0 < l.length := List.length_pos_iff.2 (by rw [← hl]; exact cut_ne _ _); have hll : l.length < 1000 := (by rw [← hl, cut_len]; have := List.count_le_length (a := 47) (l := q); have := rest_len x r; rw [hq] at this; omega); have hpl : ∀ x ∈ l, x.length < 1000 := (by intro y hy; rw [← hl] at hy; have := (cut_mem hy).2; have := rest_len x r; rw [hq] at this; omega); have h97f : x :: r = q := (by rw [← hq, restOf_c, if_neg (fun e => hx (by rw [e]; rfl))]); have hql : q.length ≤ 200 := (by have := rest_len x r; rw [hq] at this; omega)
  refine run_walkF eok Tryz.func62 rfl (by kernel_rfl) ?_
  conv => whnf
  repeat' (first
    | ((with_reducible refine on_dec_f (by assumption) ?_); conv => whnf)
    | ((with_reducible refine onBool_t (by assumption) ?_); conv => whnf)
    | ((with_reducible refine on_dec_f ?_ ?_); (focus ((try simp only [List.length_map, List.length_cons, List.length_nil, List.length_append]); omega)); conv => whnf)
    | ((with_reducible refine call_go ?_); (first | refine call_step (run_new (l := l) (c97r (x :: r) 47 l (by rw [h97f, hl]) (by rw [h97f]; omega)) (fun _ => rfl) rfl) ?_ | refine call_step (run_new (l := [a, b]) (c97r (l[l.length - 1]'(by omega)) 58 [a, b] hcs (by have := hpl _ (List.getElem_mem (l := l) (n := l.length - 1) (by omega)); omega)) (fun _ => rfl) rfl) ?_ | refine call_step (run_view (c98 _) rfl rfl) ?_); conv => whnf)
    | (refine wrap64 (by omega) ?_; conv => whnf)
    | (refine ⟨Int.le_refl 0, ?_⟩; conv => whnf)
    | (refine ⟨⟨by omega, by first | omega | (simp; done)⟩, ?_⟩; conv => whnf)
    | (refine nthK_rowi (l := l) (l.length - 1) (by omega) (by omega) ?_; conv => whnf)
    | ((with_reducible refine endx_go ?_); first | (exact endxv rfl rfl; done))
    | fail
    )

theorem c62cf (x : UInt8) (r q : Bs) (l : List Bs) (a b : Bs) (hlen : r.length ≤ 199) (h47 : ¬ x :: r = [47]) (hq : restOf (x :: r) = q) (hl : cut 47 q = l) (hcs : cut 58 (l[l.length - 1]'(lastIx (by rw [← hl]; exact cut_ne _ _))) = [a, b]) (hx : ¬ (x.toNat : Int) = 47) (h2 : dots a = false) (h3 : b = []) : Fn 62 [.str (x :: r)] (.tup [PPe noPP, i 7]) := by
  have hl0 : 0 < l.length := List.length_pos_iff.2 (by rw [← hl]; exact cut_ne _ _); have hll : l.length < 1000 := (by rw [← hl, cut_len]; have := List.count_le_length (a := 47) (l := q); have := rest_len x r; rw [hq] at this; omega); have hpl : ∀ x ∈ l, x.length < 1000 := (by intro y hy; rw [← hl] at hy; have := (cut_mem hy).2; have := rest_len x r; rw [hq] at this; omega); have h97f : x :: r = q := (by rw [← hq, restOf_c, if_neg (fun e => hx (by rw [e]; rfl))]); have hql : q.length ≤ 200 := (by have := rest_len x r; rw [hq] at this; omega)
  refine run_walkF eok Tryz.func62 rfl (by kernel_rfl) ?_
  conv => whnf
  repeat' (first
    | ((with_reducible refine on_dec_f (by assumption) ?_); conv => whnf)
    | ((with_reducible refine onBool_f (by assumption) ?_); conv => whnf)
    | ((with_reducible refine on_dec_f ?_ ?_); (focus ((try simp only [List.length_map, List.length_cons, List.length_nil, List.length_append]); omega)); conv => whnf)
    | ((with_reducible refine onBool_split (fun h => ?_) (fun h => ?_)) <;> conv => whnf)
    | ((with_reducible refine call_go ?_); (first | refine call_step (run_new (l := l) (c97r (x :: r) 47 l (by rw [h97f, hl]) (by rw [h97f]; omega)) (fun _ => rfl) rfl) ?_ | refine call_step (run_new (l := [a, b]) (c97r (l[l.length - 1]'(by omega)) 58 [a, b] hcs (by have := hpl _ (List.getElem_mem (l := l) (n := l.length - 1) (by omega)); omega)) (fun _ => rfl) rfl) ?_ | refine call_step (run_view (c98 _) rfl rfl) ?_); conv => whnf)
    | (refine ⟨[], [], (by decide +kernel), ?_⟩; conv => whnf)
    | (refine wrap64 (by omega) ?_; conv => whnf)
    | (exact absurd h3 (of_decide_eq_false h))
    | (refine ⟨Int.le_refl 0, ?_⟩; conv => whnf)
    | (refine ⟨⟨by omega, by first | omega | (simp; done)⟩, ?_⟩; conv => whnf)
    | (refine nthK_rowi (l := l) (l.length - 1) (by omega) (by omega) ?_; conv => whnf)
    | ((with_reducible refine endx_go ?_); first | (exact endxv rfl rfl; done) )
    | fail
    )

attribute [local irreducible] res

theorem c62dt (x : UInt8) (r q : Bs) (l L : List Bs) (a T : Bs) (hlen : r.length ≤ 199) (h47 : ¬ x :: r = [47]) (hq : restOf (x :: r) = q) (hl : cut 47 q = l) (hcs : cut 58 (l[l.length - 1]'(lastIx (by rw [← hl]; exact cut_ne _ _))) = [a, T]) (hL : l.set (l.length - 1) a = L) (hx : (x.toNat : Int) = 47) (h2 : dots a = false) (h3 : ¬ T = []) : Fn 62 [.str (x :: r)] (.tup [PPe (res (decide ((x.toNat : Int) = 47)) L T).1, i (res (decide ((x.toNat : Int) = 47)) L T).2]) := by
  have hl0 : 0 < l.length := List.length_pos_iff.2 (by rw [← hl]; exact cut_ne _ _); have hll : l.length < 1000 := (by rw [← hl, cut_len]; have := List.count_le_length (a := 47) (l := q); have := rest_len x r; rw [hq] at this; omega); have hpl : ∀ x ∈ l, x.length < 1000 := (by intro y hy; rw [← hl] at hy; have := (cut_mem hy).2; have := rest_len x r; rw [hq] at this; omega); have h97t : ((x :: r).take (r.length + 1)).drop 1 = q := (by rw [← hq, restOf_c, if_pos (u8_inj (b := 47) hx)]; simp); have hql : q.length ≤ 200 := (by have := rest_len x r; rw [hq] at this; omega); have hLl : l.length = L.length := (by rw [← hL]; simp); have hls : (l[l.length - 1]'(by omega)).length < 1000 := hpl _ (List.getElem_mem _); have hpT : T.length < 1000 := cut_small hcs hls (by simp); have hpL : ∀ y ∈ L, y.length < 1000 := set_small hL hpl (cut_small hcs hls (by simp))
  refine run_walkF eok Tryz.func62 rfl (by kernel_rfl) ?_
  conv => whnf
  repeat' (first
    | ((with_reducible refine on_dec_t (by assumption) ?_); conv => whnf)
    | ((with_reducible refine on_dec_f (by assumption) ?_); conv => whnf)
    | ((with_reducible refine onBool_f (by assumption) ?_); conv => whnf)
    | ((with_reducible refine on_nf (by assumption) ?_); conv => whnf)
    | ((with_reducible refine on_dec_f ?_ ?_); (focus ((try simp only [List.length_map, List.length_cons, List.length_nil, List.length_append]); omega)); conv => whnf)
    | ((with_reducible refine on_dec (fun h => ?_) (fun h => ?_)) <;> (try simp only [List.length_map] at h) <;> conv => whnf)
    | ((with_reducible refine on_ndec (fun h => ?_) (fun h => ?_)) <;> (try simp only [List.length_map] at h) <;> conv => whnf)
    | ((with_reducible refine onBool_split (fun h => ?_) (fun h => ?_)) <;> conv => whnf)
    | ((with_reducible refine call_go ?_); (first | refine call_step (run_new (l := l) (c97r (((x :: r).take (r.length + 1)).drop 1) 47 l (by rw [h97t, hl]) (by rw [h97t]; omega)) (fun _ => rfl) rfl) ?_ | refine call_step (run_new (l := [a, T]) (c97r (l[l.length - 1]'(by omega)) 58 [a, T] hcs (by have := hpl _ (List.getElem_mem (l := l) (n := l.length - 1) (by omega)); omega)) (fun _ => rfl) rfl) ?_ | refine call_step (run_viewF (c97 (L[k]'(by omega)) 58 (by have := hpL _ (List.getElem_mem (l := L) (n := k) (by omega)); omega)) rfl) ?_ | refine call_step (run_view (c98 _) rfl rfl) ?_ | refine call_step (run_view (c99 (L[k]'(by omega)) (by have := hpL _ (List.getElem_mem (l := L) (n := k) (by omega)); omega)) rfl rfl) ?_ | refine call_step (run_view (c99 T (by have := hpT; omega)) rfl rfl) ?_); conv => whnf)
    | (refine ⟨[], [], (by decide +kernel), ?_⟩; conv => whnf)
    | ((with_reducible refine loop_go ?_); first | (refine loop1 (fun (k : Nat) => L.length - k) (fun (k : Nat) => k ≤ L.length ∧ wellParts (L.take k) = true) (fun (k : Nat) => [(2, .ptr 0 0 0), (4, .d (i 7)), (5, .ptr 1 0 0), (8, .d (i k))]) (fun (k : Nat) => [⟨[.junk], 3, 0⟩, ⟨[.agg [.d (.bool (decide ((x.toNat : Int) = 47))), .sl 2 0 L.length 1 none, .d (.str T)]], 3, 0⟩, ⟨(L.map D.str).map .d, 1, 0⟩]) (0) (by exact ⟨Nat.zero_le _, wp_nil _⟩) ?_ (fun k C hI hC => ?_); (exact ⟨[.old 0, .old 1, .old 2], rfl, rfl, ⟨⟨rfl, rfl, rfl⟩, (by first | (show (_ : D) = _; with_reducible rfl) ), ⟨rfl, rfl, rfl⟩, (by first | exact congrArg (D.int .i64) (by omega) ), trivial⟩, ⟨⟨rfl, rfl, .inr ⟨trivial, trivial⟩⟩, ⟨rfl, rfl, .inr ⟨⟨rfl, ⟨rfl, rfl, hLl, rfl, rfl⟩, rfl, trivial⟩, trivial⟩⟩, ⟨rfl, rfl, .inr (wksd _ _)⟩, trivial⟩⟩); all_goals (conv => whnf)) | (refine loop1 (fun (k : Nat) => L.length - k) (fun (k : Nat) => k ≤ L.length ∧ wellParts L = true ∧ firstE (L.map partErr) = firstE ((L.drop k).map partErr)) (fun (k : Nat) => [(2, .ptr 0 0 0), (5, .ptr 1 0 0), (9, .d (i k))]) (fun (k : Nat) => [⟨[.junk], 3, 0⟩, ⟨[.agg [.d (.bool (decide ((x.toNat : Int) = 47))), .sl 2 0 L.length 1 none, .d (.str T)]], 3, 0⟩, ⟨(L.map D.str).map .d, 1, 0⟩]) (0) (by exact ⟨Nat.zero_le _, wp_end hI.2 (by assumption), rfl⟩) ?_ (fun k C2 hI2 hC2 => ?_); (exact ⟨[.old 0, .old 1, .old 2], rfl, rfl, ⟨⟨rfl, rfl, rfl⟩, ⟨rfl, rfl, rfl⟩, (by first | exact congrArg (D.int .i64) (by omega) ), trivial⟩, ⟨⟨rfl, rfl, .inr ⟨trivial, trivial⟩⟩, ⟨rfl, rfl, .inr ⟨⟨rfl, ⟨rfl, rfl, rfl, rfl, rfl⟩, rfl, trivial⟩, trivial⟩⟩, ⟨rfl, rfl, .inr (wksd _ _)⟩, trivial⟩⟩); all_goals (conv => whnf)))
    | ((with_reducible show C _ _); first | (refine hC (k + 1) _ _ ?_ (by omega) ?_; clear hC; rotate_left; (exact ⟨[.old 0, .old 1, .old 2], rfl, rfl, ⟨⟨rfl, rfl, rfl⟩, (by first | (show (_ : D) = _; with_reducible rfl) ), ⟨rfl, rfl, rfl⟩, (by first | exact congrArg (D.int .i64) (by omega) ), trivial⟩, ⟨⟨rfl, rfl, .inr ⟨trivial, trivial⟩⟩, ⟨rfl, rfl, .inr ⟨⟨rfl, ⟨rfl, rfl, rfl, rfl, rfl⟩, rfl, trivial⟩, trivial⟩⟩, ⟨rfl, rfl, .inr (wksd _ _)⟩, trivial⟩⟩); (exact ⟨by omega, wp_take hI.2 (by omega) (of_decide_eq_false (by assumption)) (by assumption)⟩)))
    | ((with_reducible show C2 _ _); first | (refine hC2 (k + 1) _ _ ?_ (by omega) ?_; clear hC2; rotate_left; (exact ⟨[.old 0, .old 1, .old 2], rfl, rfl, ⟨⟨rfl, rfl, rfl⟩, ⟨rfl, rfl, rfl⟩, (by first | exact congrArg (D.int .i64) (by omega) ), trivial⟩, ⟨⟨rfl, rfl, .inr ⟨trivial, trivial⟩⟩, ⟨rfl, rfl, .inr ⟨⟨rfl, ⟨rfl, rfl, rfl, rfl, rfl⟩, rfl, trivial⟩, trivial⟩⟩, ⟨rfl, rfl, .inr (wksd _ _)⟩, trivial⟩⟩); (exact ⟨by omega, hI2.2.1, by rw [hI2.2.2, pe_drop (by omega), if_pos (by first | exact pe_dots (by assumption) | (rw [pe_name (by assumption)]; assumption))]⟩)))
    | (refine wrap64 (by omega) ?_; conv => whnf)
    | (exact absurd (of_decide_eq_true h) h3)
    | (refine nthK_rowi (l := L) k (by omega) (by omega) ?_; conv => whnf)
    | (refine set_str (l := l) (L := L) (m := l.length - 1) (by omega) hL ?_; conv => whnf)
    | (refine sl_str 1 (r.length + 1) (by omega) (by simp) (by simp) ?_; conv => whnf)
    | (refine ⟨Int.le_refl 0, ?_⟩; conv => whnf)
    | (refine ⟨⟨by omega, by first | omega | (simp; done)⟩, ?_⟩; conv => whnf)
    | (refine nthK_rowi (l := l) (l.length - 1) (by omega) (by omega) ?_; conv => whnf)
    | ((with_reducible refine endx_go ?_); first | (exact endxv rfl (res_bad (wp_bad (k := k) (by omega) (by first | exact .inl (of_decide_eq_true (by assumption)) | exact .inr (by assumption)))); done) | (exact endxv rfl (res_err hI2.2.1 (pe_part (by omega) hI2.2.2 (by assumption) (by assumption)) (by assumption)); done) | (exact endxv rfl (res_err hI2.2.1 (by rw [pe_parts (by assumption) hI2.2.2]; exact pe_tail_8 (by assumption) (.inr (by assumption))) (by decide)); done) | (exact endxv rfl (res_err hI2.2.1 (by rw [pe_parts (by assumption) hI2.2.2]; exact pe_tail_n (by assumption) (by assumption)) (by assumption)); done) | (exact endxv (view_tup (vlc (view_agg (vlc rfl (vlc (view_map rfl Nat.two_pos) (vlc rfl vln)))) (vlc rfl vln))) (res_ok hI2.2.1 (by rw [pe_parts (by assumption) hI2.2.2]; exact pe_tail (by assumption) (.inr (by assumption)))); done))
    | fail
    )

theorem c62et (x : UInt8) (r q : Bs) (l : List Bs) (a : Bs) (hlen : r.length ≤ 199) (h47 : ¬ x :: r = [47]) (hq : restOf (x :: r) = q) (hl : cut 47 q = l) (hcs : cut 58 (l[l.length - 1]'(lastIx (by rw [← hl]; exact cut_ne _ _))) = [a]) (hx : (x.toNat : Int) = 47) : Fn 62 [.str (x :: r)] (.tup [PPe (res (decide ((x.toNat : Int) = 47)) l []).1, i (res (decide ((x.toNat : Int) = 47)) l []).2]) := by
  have hl0 : 0 < l.length := List.length_pos_iff.2 (by rw [← hl]; exact cut_ne _ _); have hll : l.length < 1000 := (by rw [← hl, cut_len]; have := List.count_le_length (a := 47) (l := q); have := rest_len x r; rw [hq] at this; omega); have hpl : ∀ x ∈ l, x.length < 1000 := (by intro y hy; rw [← hl] at hy; have := (cut_mem hy).2; have := rest_len x r; rw [hq] at this; omega); have h97t : ((x :: r).take (r.length + 1)).drop 1 = q := (by rw [← hq, restOf_c, if_pos (u8_inj (b := 47) hx)]; simp); have hql : q.length ≤ 200 := (by have := rest_len x r; rw [hq] at this; omega)
  refine run_walkF eok Tryz.func62 rfl (by kernel_rfl) ?_
  conv => whnf
  repeat' (first
    | ((with_reducible refine on_dec_t (by assumption) ?_); conv => whnf)
    | ((with_reducible refine on_dec_f (by assumption) ?_); conv => whnf)
    | ((with_reducible refine on_dec_f ?_ ?_); (focus ((try simp only [List.length_map, List.length_cons, List.length_nil, List.length_append]); omega)); conv => whnf)
    | ((with_reducible refine on_dec (fun h => ?_) (fun h => ?_)) <;> (try simp only [List.length_map] at h) <;> conv => whnf)
    | ((with_reducible refine on_ndec (fun h => ?_) (fun h => ?_)) <;> (try simp only [List.length_map] at h) <;> conv => whnf)
    | ((with_reducible refine onBool_split (fun h => ?_) (fun h => ?_)) <;> conv => whnf)
    | ((with_reducible refine call_go ?_); (first | refine call_step (run_new (l := l) (c97r (((x :: r).take (r.length + 1)).drop 1) 47 l (by rw [h97t, hl]) (by rw [h97t]; omega)) (fun _ => rfl) rfl) ?_ | refine call_step (run_new (l := [a]) (c97r (l[l.length - 1]'(by omega)) 58 [a] hcs (by have := hpl _ (List.getElem_mem (l := l) (n := l.length - 1) (by omega)); omega)) (fun _ => rfl) rfl) ?_ | refine call_step (run_viewF (c97 (l[k]'(by omega)) 58 (by have := hpl _ (List.getElem_mem (l := l) (n := k) (by omega)); omega)) rfl) ?_ | refine call_step (run_view (c98 _) rfl rfl) ?_ | refine call_step (run_view (c99 (l[k]'(by omega)) (by have := hpl _ (List.getElem_mem (l := l) (n := k) (by omega)); omega)) rfl rfl) ?_); conv => whnf)
    | ((with_reducible refine loop_go ?_); first | (refine loop1 (fun (k : Nat) => l.length - k) (fun (k : Nat) => k ≤ l.length ∧ wellParts (l.take k) = true) (fun (k : Nat) => [(2, .ptr 0 0 0), (4, .d (i 7)), (5, .ptr 1 0 0), (8, .d (i k))]) (fun (k : Nat) => [⟨[.junk], 3, 0⟩, ⟨[.agg [.d (.bool (decide ((x.toNat : Int) = 47))), .sl 2 0 l.length 1 none, .d (.str [])]], 3, 0⟩, ⟨(l.map D.str).map .d, 1, 0⟩]) (0) (by exact ⟨Nat.zero_le _, wp_nil _⟩) ?_ (fun k C hI hC => ?_); (exact ⟨[.old 0, .old 1, .old 2], rfl, rfl, ⟨⟨rfl, rfl, rfl⟩, (by first | (show (_ : D) = _; with_reducible rfl) ), ⟨rfl, rfl, rfl⟩, (by first | exact congrArg (D.int .i64) (by omega) ), trivial⟩, ⟨⟨rfl, rfl, .inr ⟨trivial, trivial⟩⟩, ⟨rfl, rfl, .inr ⟨⟨rfl, ⟨rfl, rfl, rfl, rfl, rfl⟩, rfl, trivial⟩, trivial⟩⟩, ⟨rfl, rfl, .inr (wksd _ _)⟩, trivial⟩⟩); all_goals (conv => whnf)) | (refine loop1 (fun (k : Nat) => l.length - k) (fun (k : Nat) => k ≤ l.length ∧ wellParts l = true ∧ firstE (l.map partErr) = firstE ((l.drop k).map partErr)) (fun (k : Nat) => [(2, .ptr 0 0 0), (5, .ptr 1 0 0), (9, .d (i k))]) (fun (k : Nat) => [⟨[.junk], 3, 0⟩, ⟨[.agg [.d (.bool (decide ((x.toNat : Int) = 47))), .sl 2 0 l.length 1 none, .d (.str [])]], 3, 0⟩, ⟨(l.map D.str).map .d, 1, 0⟩]) (0) (by exact ⟨Nat.zero_le _, wp_end hI.2 (by assumption), rfl⟩) ?_ (fun k C2 hI2 hC2 => ?_); (exact ⟨[.old 0, .old 1, .old 2], rfl, rfl, ⟨⟨rfl, rfl, rfl⟩, ⟨rfl, rfl, rfl⟩, (by first | exact congrArg (D.int .i64) (by omega) ), trivial⟩, ⟨⟨rfl, rfl, .inr ⟨trivial, trivial⟩⟩, ⟨rfl, rfl, .inr ⟨⟨rfl, ⟨rfl, rfl, rfl, rfl, rfl⟩, rfl, trivial⟩, trivial⟩⟩, ⟨rfl, rfl, .inr (wksd _ _)⟩, trivial⟩⟩); all_goals (conv => whnf)))
    | ((with_reducible show C _ _); first | (refine hC (k + 1) _ _ ?_ (by omega) ?_; clear hC; rotate_left; (exact ⟨[.old 0, .old 1, .old 2], rfl, rfl, ⟨⟨rfl, rfl, rfl⟩, (by first | (show (_ : D) = _; with_reducible rfl) ), ⟨rfl, rfl, rfl⟩, (by first | exact congrArg (D.int .i64) (by omega) ), trivial⟩, ⟨⟨rfl, rfl, .inr ⟨trivial, trivial⟩⟩, ⟨rfl, rfl, .inr ⟨⟨rfl, ⟨rfl, rfl, rfl, rfl, rfl⟩, rfl, trivial⟩, trivial⟩⟩, ⟨rfl, rfl, .inr (wksd _ _)⟩, trivial⟩⟩); (exact ⟨by omega, wp_take hI.2 (by omega) (of_decide_eq_false (by assumption)) (by assumption)⟩)))
    | ((with_reducible show C2 _ _); first | (refine hC2 (k + 1) _ _ ?_ (by omega) ?_; clear hC2; rotate_left; (exact ⟨[.old 0, .old 1, .old 2], rfl, rfl, ⟨⟨rfl, rfl, rfl⟩, ⟨rfl, rfl, rfl⟩, (by first | exact congrArg (D.int .i64) (by omega) ), trivial⟩, ⟨⟨rfl, rfl, .inr ⟨trivial, trivial⟩⟩, ⟨rfl, rfl, .inr ⟨⟨rfl, ⟨rfl, rfl, rfl, rfl, rfl⟩, rfl, trivial⟩, trivial⟩⟩, ⟨rfl, rfl, .inr (wksd _ _)⟩, trivial⟩⟩); (exact ⟨by omega, hI2.2.1, by rw [hI2.2.2, pe_drop (by omega), if_pos (by first | exact pe_dots (by assumption) | (rw [pe_name (by assumption)]; assumption))]⟩)))
    | (refine wrap64 (by omega) ?_; conv => whnf)
    | (refine nthK_rowi (l := l) k (by omega) (by omega) ?_; conv => whnf)
    | (refine sl_str 1 (r.length + 1) (by omega) (by simp) (by simp) ?_; conv => whnf)
    | (refine ⟨Int.le_refl 0, ?_⟩; conv => whnf)
    | (refine ⟨⟨by omega, by first | omega | (simp; done)⟩, ?_⟩; conv => whnf)
    | (refine nthK_rowi (l := l) (l.length - 1) (by omega) (by omega) ?_; conv => whnf)
    | ((with_reducible refine endx_go ?_); first | (exact endxv rfl (res_bad (wp_bad (k := k) (by omega) (by first | exact .inl (of_decide_eq_true (by assumption)) | exact .inr (by assumption)))); done) | (exact endxv rfl (res_err hI2.2.1 (pe_part (by omega) hI2.2.2 (by assumption) (by assumption)) (by assumption)); done) | (exact endxv rfl (res_err hI2.2.1 (by rw [pe_parts (by assumption) hI2.2.2]; exact pe_tail_8 (by assumption) (.inl rfl)) (by decide)); done) | (exact endxv (view_tup (vlc (view_agg (vlc rfl (vlc (view_map rfl Nat.two_pos) (vlc rfl vln)))) (vlc rfl vln))) (res_ok hI2.2.1 (by rw [pe_parts (by assumption) hI2.2.2]; exact pe_tail (by assumption) (.inl rfl))); done))
    | fail
    )

theorem c62df (x : UInt8) (r q : Bs) (l L : List Bs) (a T : Bs) (hlen : r.length ≤ 199) (h47 : ¬ x :: r = [47]) (hq : restOf (x :: r) = q) (hl : cut 47 q = l) (hcs : cut 58 (l[l.length - 1]'(lastIx (by rw [← hl]; exact cut_ne _ _))) = [a, T]) (hL : l.set (l.length - 1) a = L) (hx : ¬ (x.toNat : Int) = 47) (h2 : dots a = false) (h3 : ¬ T = []) : Fn 62 [.str (x :: r)] (.tup [PPe (res (decide ((x.toNat : Int) = 47)) L T).1, i (res (decide ((x.toNat : Int) = 47)) L T).2]) := by
  have hl0 : 0 < l.length := List.length_pos_iff.2 (by rw [← hl]; exact cut_ne _ _); have hll : l.length < 1000 := (by rw [← hl, cut_len]; have := List.count_le_length (a := 47) (l := q); have := rest_len x r; rw [hq] at this; omega); have hpl : ∀ x ∈ l, x.length < 1000 := (by intro y hy; rw [← hl] at hy; have := (cut_mem hy).2; have := rest_len x r; rw [hq] at this; omega); have h97f : x :: r = q := (by rw [← hq, restOf_c, if_neg (fun e => hx (by rw [e]; rfl))]); have hql : q.length ≤ 200 := (by have := rest_len x r; rw [hq] at this; omega); have hLl : l.length = L.length := (by rw [← hL]; simp); have hls : (l[l.length - 1]'(by omega)).length < 1000 := hpl _ (List.getElem_mem _); have hpT : T.length < 1000 := cut_small hcs hls (by simp); have hpL : ∀ y ∈ L, y.length < 1000 := set_small hL hpl (cut_small hcs hls (by simp))
  refine run_walkF eok Tryz.func62 rfl (by kernel_rfl) ?_
  conv => whnf
  repeat' (first
    | ((with_reducible refine on_dec_f (by assumption) ?_); conv => whnf)
    | ((with_reducible refine onBool_f (by assumption) ?_); conv => whnf)
    | ((with_reducible refine on_nf (by assumption) ?_); conv => whnf)
    | ((with_reducible refine on_dec_f ?_ ?_); (focus ((try simp only [List.length_map, List.length_cons, List.length_nil, List.length_append]); omega)); conv => whnf)
    | ((with_reducible refine on_dec (fun h => ?_) (fun h => ?_)) <;> (try simp only [List.length_map] at h) <;> conv => whnf)
    | ((with_reducible refine on_ndec (fun h => ?_) (fun h => ?_)) <;> (try simp only [List.length_map] at h) <;> conv => whnf)
    | ((with_reducible refine onBool_split (fun h => ?_) (fun h => ?_)) <;> conv => whnf)
    | ((with_reducible refine call_go ?_); (first | refine call_step (run_new (l := l) (c97r (x :: r) 47 l (by rw [h97f, hl]) (by rw [h97f]; omega)) (fun _ => rfl) rfl) ?_ | refine call_step (run_new (l := [a, T]) (c97r (l[l.length - 1]'(by omega)) 58 [a, T] hcs (by have := hpl _ (List.getElem_mem (l := l) (n := l.length - 1) (by omega)); omega)) (fun _ => rfl) rfl) ?_ | refine call_step (run_viewF (c97 (L[k]'(by omega)) 58 (by have := hpL _ (List.getElem_mem (l := L) (n := k) (by omega)); omega)) rfl) ?_ | refine call_step (run_view (c98 _) rfl rfl) ?_ | refine call_step (run_view (c99 (L[k]'(by omega)) (by have := hpL _ (List.getElem_mem (l := L) (n := k) (by omega)); omega)) rfl rfl) ?_ | refine call_step (run_view (c99 T (by have := hpT; omega)) rfl rfl) ?_); conv => whnf)
    | (refine ⟨[], [], (by decide +kernel), ?_⟩; conv => whnf)
    | ((with_reducible refine loop_go ?_); first | (refine loop1 (fun (k : Nat) => L.length - k) (fun (k : Nat) => k ≤ L.length ∧ wellParts (L.take k) = true) (fun (k : Nat) => [(2, .ptr 0 0 0), (4, .d (i 7)), (5, .ptr 1 0 0), (8, .d (i k))]) (fun (k : Nat) => [⟨[.junk], 3, 0⟩, ⟨[.agg [.d (.bool (decide ((x.toNat : Int) = 47))), .sl 2 0 L.length 1 none, .d (.str T)]], 3, 0⟩, ⟨(L.map D.str).map .d, 1, 0⟩]) (0) (by exact ⟨Nat.zero_le _, wp_nil _⟩) ?_ (fun k C hI hC => ?_); (exact ⟨[.old 0, .old 1, .old 2], rfl, rfl, ⟨⟨rfl, rfl, rfl⟩, (by first | (show (_ : D) = _; with_reducible rfl) ), ⟨rfl, rfl, rfl⟩, (by first | exact congrArg (D.int .i64) (by omega) ), trivial⟩, ⟨⟨rfl, rfl, .inr ⟨trivial, trivial⟩⟩, ⟨rfl, rfl, .inr ⟨⟨rfl, ⟨rfl, rfl, hLl, rfl, rfl⟩, rfl, trivial⟩, trivial⟩⟩, ⟨rfl, rfl, .inr (wksd _ _)⟩, trivial⟩⟩); all_goals (conv => whnf)) | (refine loop1 (fun (k : Nat) => L.length - k) (fun (k : Nat) => k ≤ L.length ∧ wellParts L = true ∧ firstE (L.map partErr) = firstE ((L.drop k).map partErr)) (fun (k : Nat) => [(2, .ptr 0 0 0), (5, .ptr 1 0 0), (9, .d (i k))]) (fun (k : Nat) => [⟨[.junk], 3, 0⟩, ⟨[.agg [.d (.bool (decide ((x.toNat : Int) = 47))), .sl 2 0 L.length 1 none, .d (.str T)]], 3, 0⟩, ⟨(L.map D.str).map .d, 1, 0⟩]) (0) (by exact ⟨Nat.zero_le _, wp_end hI.2 (by assumption), rfl⟩) ?_ (fun k C2 hI2 hC2 => ?_); (exact ⟨[.old 0, .old 1, .old 2], rfl, rfl, ⟨⟨rfl, rfl, rfl⟩, ⟨rfl, rfl, rfl⟩, (by first | exact congrArg (D.int .i64) (by omega) ), trivial⟩, ⟨⟨rfl, rfl, .inr ⟨trivial, trivial⟩⟩, ⟨rfl, rfl, .inr ⟨⟨rfl, ⟨rfl, rfl, rfl, rfl, rfl⟩, rfl, trivial⟩, trivial⟩⟩, ⟨rfl, rfl, .inr (wksd _ _)⟩, trivial⟩⟩); all_goals (conv => whnf)))
    | ((with_reducible show C _ _); first | (refine hC (k + 1) _ _ ?_ (by omega) ?_; clear hC; rotate_left; (exact ⟨[.old 0, .old 1, .old 2], rfl, rfl, ⟨⟨rfl, rfl, rfl⟩, (by first | (show (_ : D) = _; with_reducible rfl) ), ⟨rfl, rfl, rfl⟩, (by first | exact congrArg (D.int .i64) (by omega) ), trivial⟩, ⟨⟨rfl, rfl, .inr ⟨trivial, trivial⟩⟩, ⟨rfl, rfl, .inr ⟨⟨rfl, ⟨rfl, rfl, rfl, rfl, rfl⟩, rfl, trivial⟩, trivial⟩⟩, ⟨rfl, rfl, .inr (wksd _ _)⟩, trivial⟩⟩); (exact ⟨by omega, wp_take hI.2 (by omega) (of_decide_eq_false (by assumption)) (by assumption)⟩)))
    | ((with_reducible show C2 _ _); first | (refine hC2 (k + 1) _ _ ?_ (by omega) ?_; clear hC2; rotate_left; (exact ⟨[.old 0, .old 1, .old 2], rfl, rfl, ⟨⟨rfl, rfl, rfl⟩, ⟨rfl, rfl, rfl⟩, (by first | exact congrArg (D.int .i64) (by omega) ), trivial⟩, ⟨⟨rfl, rfl, .inr ⟨trivial, trivial⟩⟩, ⟨rfl, rfl, .inr ⟨⟨rfl, ⟨rfl, rfl, rfl, rfl, rfl⟩, rfl, trivial⟩, trivial⟩⟩, ⟨rfl, rfl, .inr (wksd _ _)⟩, trivial⟩⟩); (exact ⟨by omega, hI2.2.1, by rw [hI2.2.2, pe_drop (by omega), if_pos (by first | exact pe_dots (by assumption) | (rw [pe_name (by assumption)]; assumption))]⟩)))
    | (refine wrap64 (by omega) ?_; conv => whnf)
    | (exact absurd (of_decide_eq_true h) h3)
    | (refine nthK_rowi (l := L) k (by omega) (by omega) ?_; conv => whnf)
    | (refine set_str (l := l) (L := L) (m := l.length - 1) (by omega) hL ?_; conv => whnf)
    | (refine ⟨Int.le_refl 0, ?_⟩; conv => whnf)
    | (refine ⟨⟨by omega, by first | omega | (simp; done)⟩, ?_⟩; conv => whnf)
    | (refine nthK_rowi (l := l) (l.length - 1) (by omega) (by omega) ?_; conv => whnf)
    | ((with_reducible refine endx_go ?_); first | (exact endxv rfl (res_bad (wp_bad (k := k) (by omega) (by first | exact .inl (of_decide_eq_true (by assumption)) | exact .inr (by assumption)))); done) | (exact endxv rfl (res_err hI2.2.1 (pe_part (by omega) hI2.2.2 (by assumption) (by assumption)) (by assumption)); done) | (exact endxv rfl (res_err hI2.2.1 (by rw [pe_parts (by assumption) hI2.2.2]; exact pe_tail_8 (by assumption) (.inr (by assumption))) (by decide)); done) | (exact endxv rfl (res_err hI2.2.1 (by rw [pe_parts (by assumption) hI2.2.2]; exact pe_tail_n (by assumption) (by assumption)) (by assumption)); done) | (exact endxv (view_tup (vlc (view_agg (vlc rfl (vlc (view_map rfl Nat.two_pos) (vlc rfl vln)))) (vlc rfl vln))) (res_ok hI2.2.1 (by rw [pe_parts (by assumption) hI2.2.2]; exact pe_tail (by assumption) (.inr (by assumption)))); done))
    | fail
    )

theorem c62ef (x : UInt8) (r q : Bs) (l : List Bs) (a : Bs) (hlen : r.length ≤ 199) (h47 : ¬ x :: r = [47]) (hq : restOf (x :: r) = q) (hl : cut 47 q = l) (hcs : cut 58 (l[l.length - 1]'(lastIx (by rw [← hl]; exact cut_ne _ _))) = [a]) (hx : ¬ (x.toNat : Int) = 47) : Fn 62 [.str (x :: r)] (.tup [PPe (res (decide ((x.toNat : Int) = 47)) l []).1, i (res (decide ((x.toNat : Int) = 47)) l []).2]) := by
  have hl0 : 0 < l.length := List.length_pos_iff.2 (by rw [← hl]; exact cut_ne _ _); have hll : l.length < 1000 := (by rw [← hl, cut_len]; have := List.count_le_length (a := 47) (l := q); have := rest_len x r; rw [hq] at this; omega); have hpl : ∀ x ∈ l, x.length < 1000 := (by intro y hy; rw [← hl] at hy; have := (cut_mem hy).2; have := rest_len x r; rw [hq] at this; omega); have h97f : x :: r = q := (by rw [← hq, restOf_c, if_neg (fun e => hx (by rw [e]; rfl))]); have hql : q.length ≤ 200 := (by have := rest_len x r; rw [hq] at this; omega)
  refine run_walkF eok Tryz.func62 rfl (by kernel_rfl) ?_
  conv => whnf
  repeat' (first
    | ((with_reducible refine on_dec_f (by assumption) ?_); conv => whnf)
    | ((with_reducible refine on_dec_f ?_ ?_); (focus ((try simp only [List.length_map, List.length_cons, List.length_nil, List.length_append]); omega)); conv => whnf)
    | ((with_reducible refine on_dec (fun h => ?_) (fun h => ?_)) <;> (try simp only [List.length_map] at h) <;> conv => whnf)
    | ((with_reducible refine on_ndec (fun h => ?_) (fun h => ?_)) <;> (try simp only [List.length_map] at h) <;> conv => whnf)
    | ((with_reducible refine onBool_split (fun h => ?_) (fun h => ?_)) <;> conv => whnf)
    | ((with_reducible refine call_go ?_); (first | refine call_step (run_new (l := l) (c97r (x :: r) 47 l (by rw [h97f, hl]) (by rw [h97f]; omega)) (fun _ => rfl) rfl) ?_ | refine call_step (run_new (l := [a]) (c97r (l[l.length - 1]'(by omega)) 58 [a] hcs (by have := hpl _ (List.getElem_mem (l := l) (n := l.length - 1) (by omega)); omega)) (fun _ => rfl) rfl) ?_ | refine call_step (run_viewF (c97 (l[k]'(by omega)) 58 (by have := hpl _ (List.getElem_mem (l := l) (n := k) (by omega)); omega)) rfl) ?_ | refine call_step (run_view (c98 _) rfl rfl) ?_ | refine call_step (run_view (c99 (l[k]'(by omega)) (by have := hpl _ (List.getElem_mem (l := l) (n := k) (by omega)); omega)) rfl rfl) ?_); conv => whnf)
    | ((with_reducible refine loop_go ?_); first | (refine loop1 (fun (k : Nat) => l.length - k) (fun (k : Nat) => k ≤ l.length ∧ wellParts (l.take k) = true) (fun (k : Nat) => [(2, .ptr 0 0 0), (4, .d (i 7)), (5, .ptr 1 0 0), (8, .d (i k))]) (fun (k : Nat) => [⟨[.junk], 3, 0⟩, ⟨[.agg [.d (.bool (decide ((x.toNat : Int) = 47))), .sl 2 0 l.length 1 none, .d (.str [])]], 3, 0⟩, ⟨(l.map D.str).map .d, 1, 0⟩]) (0) (by exact ⟨Nat.zero_le _, wp_nil _⟩) ?_ (fun k C hI hC => ?_); (exact ⟨[.old 0, .old 1, .old 2], rfl, rfl, ⟨⟨rfl, rfl, rfl⟩, (by first | (show (_ : D) = _; with_reducible rfl) ), ⟨rfl, rfl, rfl⟩, (by first | exact congrArg (D.int .i64) (by omega) ), trivial⟩, ⟨⟨rfl, rfl, .inr ⟨trivial, trivial⟩⟩, ⟨rfl, rfl, .inr ⟨⟨rfl, ⟨rfl, rfl, rfl, rfl, rfl⟩, rfl, trivial⟩, trivial⟩⟩, ⟨rfl, rfl, .inr (wksd _ _)⟩, trivial⟩⟩); all_goals (conv => whnf)) | (refine loop1 (fun (k : Nat) => l.length - k) (fun (k : Nat) => k ≤ l.length ∧ wellParts l = true ∧ firstE (l.map partErr) = firstE ((l.drop k).map partErr)) (fun (k : Nat) => [(2, .ptr 0 0 0), (5, .ptr 1 0 0), (9, .d (i k))]) (fun (k : Nat) => [⟨[.junk], 3, 0⟩, ⟨[.agg [.d (.bool (decide ((x.toNat : Int) = 47))), .sl 2 0 l.length 1 none, .d (.str [])]], 3, 0⟩, ⟨(l.map D.str).map .d, 1, 0⟩]) (0) (by exact ⟨Nat.zero_le _, wp_end hI.2 (by assumption), rfl⟩) ?_ (fun k C2 hI2 hC2 => ?_); (exact ⟨[.old 0, .old 1, .old 2], rfl, rfl, ⟨⟨rfl, rfl, rfl⟩, ⟨rfl, rfl, rfl⟩, (by first | exact congrArg (D.int .i64) (by omega) ), trivial⟩, ⟨⟨rfl, rfl, .inr ⟨trivial, trivial⟩⟩, ⟨rfl, rfl, .inr ⟨⟨rfl, ⟨rfl, rfl, rfl, rfl, rfl⟩, rfl, trivial⟩, trivial⟩⟩, ⟨rfl, rfl, .inr (wksd _ _)⟩, trivial⟩⟩); all_goals (conv => whnf)))
    | ((with_reducible show C _ _); first | (refine hC (k + 1) _ _ ?_ (by omega) ?_; clear hC; rotate_left; (exact ⟨[.old 0, .old 1, .old 2], rfl, rfl, ⟨⟨rfl, rfl, rfl⟩, (by first | (show (_ : D) = _; with_reducible rfl) ), ⟨rfl, rfl, rfl⟩, (by first | exact congrArg (D.int .i64) (by omega) ), trivial⟩, ⟨⟨rfl, rfl, .inr ⟨trivial, trivial⟩⟩, ⟨rfl, rfl, .inr ⟨⟨rfl, ⟨rfl, rfl, rfl, rfl, rfl⟩, rfl, trivial⟩, trivial⟩⟩, ⟨rfl, rfl, .inr (wksd _ _)⟩, trivial⟩⟩); (exact ⟨by omega, wp_take hI.2 (by omega) (of_decide_eq_false (by assumption)) (by assumption)⟩)))
    | ((with_reducible show C2 _ _); first | (refine hC2 (k + 1) _ _ ?_ (by omega) ?_; clear hC2; rotate_left; (exact ⟨[.old 0, .old 1, .old 2], rfl, rfl, ⟨⟨rfl, rfl, rfl⟩, ⟨rfl, rfl, rfl⟩, (by first | exact congrArg (D.int .i64) (by omega) ), trivial⟩, ⟨⟨rfl, rfl, .inr ⟨trivial, trivial⟩⟩, ⟨rfl, rfl, .inr ⟨⟨rfl, ⟨rfl, rfl, rfl, rfl, rfl⟩, rfl, trivial⟩, trivial⟩⟩, ⟨rfl, rfl, .inr (wksd _ _)⟩, trivial⟩⟩); (exact ⟨by omega, hI2.2.1, by rw [hI2.2.2, pe_drop (by omega), if_pos (by first | exact pe_dots (by assumption) | (rw [pe_name (by assumption)]; assumption))]⟩)))
    | (refine wrap64 (by omega) ?_; conv => whnf)
    | (refine nthK_rowi (l := l) k (by omega) (by omega) ?_; conv => whnf)
    | (refine ⟨Int.le_refl 0, ?_⟩; conv => whnf)
    | (refine ⟨⟨by omega, by first | omega | (simp; done)⟩, ?_⟩; conv => whnf)
    | (refine nthK_rowi (l := l) (l.length - 1) (by omega) (by omega) ?_; conv => whnf)
    | ((with_reducible refine endx_go ?_); first | (exact endxv rfl (res_bad (wp_bad (k := k) (by omega) (by first | exact .inl (of_decide_eq_true (by assumption)) | exact .inr (by assumption)))); done) | (exact endxv rfl (res_err hI2.2.1 (pe_part (by omega) hI2.2.2 (by assumption) (by assumption)) (by assumption)); done) | (exact endxv rfl (res_err hI2.2.1 (by rw [pe_parts (by assumption) hI2.2.2]; exact pe_tail_8 (by assumption) (.inl rfl)) (by decide)); done) | (exact endxv (view_tup (vlc (view_agg (vlc rfl (vlc (view_map rfl Nat.two_pos) (vlc rfl vln)))) (vlc rfl vln))) (res_ok hI2.2.1 (by rw [pe_parts (by assumption) hI2.2.2]; exact pe_tail (by assumption) (.inl rfl))); done))
    | fail
    )

theorem c62L (s : Bs) (h1 : (200 : Int) < s.length) : Fn 62 [.str s] (.tup [PPe noPP, i 8]) := by
  refine run_walkF eok Tryz.func62 rfl (by kernel_rfl) ?_
  conv => whnf
  repeat' (first
    | ((with_reducible refine on_dec_t (by assumption) ?_); conv => whnf)
    | ((with_reducible refine endx_go ?_); first | (exact endxv rfl rfl; done))
    | fail
    )

theorem c62n : Fn 62 [.str []] (.tup [PPe noPP, i 7]) :=
  run_ev2 (fs := Tryz.prog.funcs.toList) (orc := orc28) eok horc28 (xs := [.str []]) rfl names_ok (fun _ => false) 300 5 (by kernel_rfl) rfl rfl
theorem c62s : Fn 62 [.str [47]] (.tup [PPe ⟨true, [], []⟩, i 0]) :=
  run_ev2 (fs := Tryz.prog.funcs.toList) (orc := orc28) eok horc28 (xs := [.str [47]]) rfl names_ok (fun _ => false) 300 5 (by kernel_rfl) rfl rfl
theorem parse_c {x : UInt8} {r : Bs} (hlen : r.length ≤ 199) (h47 : ¬ x :: r = [47]) : parse (x :: r) = match colons (cut 47 (restOf (x :: r))) with
    | none => (noPP, 7)
    | some (l, t) => res (decide ((x.toNat : Int) = 47)) l t := by
  unfold parse
  rw [if_neg (by simp; omega), if_neg (by simp), if_neg h47, isAbs_c]
  split <;> rename_i h
  · rw [h]
  · rw [h]; unfold res; rfl
theorem last_get {l : List Bs} (h : l ≠ []) : l.getLastD [] = l[l.length - 1]'(lastIx h) := by
  rw [List.getLastD_eq_getLast?, List.getLast?_eq_some_getLast h, Option.getD_some, List.getLast_eq_getElem]
theorem set_last {l : List Bs} (h : l ≠ []) (a : Bs) : l.set (l.length - 1) a = l.dropLast ++ [a] := by
  conv => lhs; rw [← List.dropLast_concat_getLast h]
  rw [List.set_append_right _ _ (by simp)]
  simp
theorem c62 (s : Bs) : Fn 62 [.str s] (.tup [PPe (parse s).1, i (parse s).2]) := by
  by_cases h1 : 200 < s.length
  · have e : parse s = (noPP, 8) := by unfold parse; rw [if_pos h1]
    rw [e]; exact c62L s (by omega)
  cases s with
  | nil => exact c62n
  | cons x r =>
    by_cases h47 : x :: r = [47]
    · rw [h47]; exact c62s
    have hlen : r.length ≤ 199 := by simp at h1; omega
    have hne : cut 47 (restOf (x :: r)) ≠ [] := cut_ne _ _
    rw [parse_c hlen h47]
    unfold colons
    rw [last_get hne]
    by_cases hx : (x.toNat : Int) = 47
    · match hcs : cut 58 ((cut 47 (restOf (x :: r)))[(cut 47 (restOf (x :: r))).length - 1]'(lastIx hne)) with
      | [] => exact absurd hcs (cut_ne _ _)
      | [a] => exact c62et x r _ _ a hlen h47 rfl rfl hcs hx
      | [a, b] =>
        simp only
        by_cases h2 : dots a = true
        · rw [if_pos (.inl h2)]
          exact c62bt x r _ _ a b hlen h47 rfl rfl hcs hx h2
        · have h2' : dots a = false := by simpa using h2
          by_cases h3 : b = []
          · rw [if_pos (.inr h3)]
            exact c62ct x r _ _ a b hlen h47 rfl rfl hcs hx h2' h3
          · rw [if_neg (by rintro (h | h); exact h2 h; exact h3 h)]
            exact c62dt x r _ _ _ a b hlen h47 rfl rfl hcs (set_last hne a) hx h2' h3
      | a :: b :: c :: cs =>
        simp only
        exact c62at x r _ _ _ hlen h47 rfl rfl hcs hx (by simp)
    · match hcs : cut 58 ((cut 47 (restOf (x :: r)))[(cut 47 (restOf (x :: r))).length - 1]'(lastIx hne)) with
      | [] => exact absurd hcs (cut_ne _ _)
      | [a] => exact c62ef x r _ _ a hlen h47 rfl rfl hcs hx
      | [a, b] =>
        simp only
        by_cases h2 : dots a = true
        · rw [if_pos (.inl h2)]
          exact c62bf x r _ _ a b hlen h47 rfl rfl hcs hx h2
        · have h2' : dots a = false := by simpa using h2
          by_cases h3 : b = []
          · rw [if_pos (.inr h3)]
            exact c62cf x r _ _ a b hlen h47 rfl rfl hcs hx h2' h3
          · rw [if_neg (by rintro (h | h); exact h2 h; exact h3 h)]
            exact c62df x r _ _ _ a b hlen h47 rfl rfl hcs (set_last hne a) hx h2' h3
      | a :: b :: c :: cs =>
        simp only
        exact c62af x r _ _ _ hlen h47 rfl rfl hcs hx (by simp)
theorem parse_parts (s : Bs) : (parse s).1.parts.length ≤ 1000 := by
  by_cases h : (parse s).2 = 0
  · have := (parse_good h).2; omega
  · have : (parse s).1 = noPP := by
      revert h
      unfold parse
      split
      · intro _; rfl
      · split
        · intro _; rfl
        · split
          · intro h; exact absurd rfl h
          · split
            · intro _; rfl
            · split
              · intro _; rfl
              · split
                · intro _; rfl
                · intro h; exact absurd rfl h
    rw [this]; exact Nat.zero_le _

attribute [local irreducible] parse

theorem c57 (s : Bs) : Fn 57 [.str s] (i (pathErr s)) := by
  refine run_walkF eok Tryz.func57 rfl (by kernel_rfl) ?_
  conv => whnf
  repeat' (first
    | ((with_reducible refine on_ndec (fun h => ?_) (fun h => ?_)) <;> (try simp only [List.length_map] at h) <;> conv => whnf)
    | ((with_reducible refine call_go ?_); (first | refine call_step (run_viewF (c62 s) rfl) ?_ | refine call_step (run_view (c94 (parse s).1 (by have := parse_parts s; omega)) rfl rfl) ?_); conv => whnf)
    | ((with_reducible refine endx_go ?_); first | (refine endx (congrArg i ?_); unfold pathErr; simp_all; done))
    | fail
    )

end Go.Proofs.YtbkmjpmgiaiacaaGreatDoor

/-! Wf -/
namespace Go.Proofs.YtbkmjpmgiaiacaaGreatDoor
open Go Dw
set_option maxRecDepth 10000
set_option linter.unusedVariables false
set_option linter.unusedSimpArgs false
attribute [local irreducible] Run
set_option maxHeartbeats 4000000

open Paths
attribute [local irreducible] nameErr cut normal
theorem run_newC {P : Program} {f k : Nat} {c : Option Nat} {xs : List D} {α : Type} {g : α → D} {l : List α} (hf : Run P f (xs.map .d) [] (.sl 0 0 l.length k c) [⟨(l.map g).map .d, k, 0⟩]) (hg : ∀ x, (g x).flat = true) {H : Heap} {args : List AV} (hv : vl (view 8 H) args = some xs) :
    Run P f args H (.sl H.length 0 l.length k c) (H ++ [⟨(l.map g).map .d, k, 0⟩]) := by
  refine run_at (σ := []) (F := args.flatMap (reach 8 H)) (fl := true) hf List.nodup_nil (fun _ _ h => by cases h) (embs_views H args xs _ (fun _ h => h) hv) (by simp [embH]) (fun _ => ⟨rfl, fun o ho => ?_⟩) ?_ ?_
  · simp only [List.mem_singleton] at ho
    subst ho
    exact ⟨flats_map _ (flat_of_map hg), Nat.zero_ne_one⟩
  · simp [ren, tau]
  · simp only [outH, setAll, List.length_nil, List.drop_zero, List.map_cons, List.map_nil, renO, rens_D, if_true]
theorem u8i (c : UInt8) : (c.toNat : Int).toNat.toUInt8 = c := by simp
def idx (s : Bs) (c : UInt8) : Int := if c ∈ s then (s.idxOf c : Int) else -1
theorem idx_eq (s : Bs) (c : UInt8) : Lib.indexByte s (c.toNat : Int).toNat.toUInt8 = idx s c := by rw [u8i, indexByte_eq]; rfl

theorem c177 (s : Bs) (c : UInt8) : Fn 177 [.str s, .str [c]] (i (idx s c)) := by
  refine run_walkF eok Tryz.func177 rfl (by kernel_rfl) ?_
  conv => whnf
  repeat' (first
    | ((with_reducible refine on_dec (fun h => ?_) (fun h => ?_)) <;> (try simp only [List.length_map] at h) <;> conv => whnf)
    | ((with_reducible refine call_go ?_); (first | refine call_step (run_view (c181 _ _) rfl rfl) ?_); conv => whnf)
    | (refine ⟨Int.le_refl 0, ?_⟩; conv => whnf)
    | ((with_reducible refine endx_go ?_); first | (refine endx (congrArg i ?_); exact idx_eq s c; done) | (refine endx (congrArg i ?_); subst h; simp [idx]; done))
    | fail
    )

theorem c163 (s : Bs) (c : UInt8) : Fn 163 [.str s, .str [c]] (i (idx s c)) := by
  refine run_walkF eok Tryz.func163 rfl (by kernel_rfl) ?_
  conv => whnf
  repeat' (first
    | ((with_reducible refine call_go ?_); (first | refine call_step (run_view (c177 _ _) rfl rfl) ?_); conv => whnf)
    | ((with_reducible refine endx_go ?_); first | (exact endx rfl; done))
    | fail
    )

theorem idx_ge (s : Bs) (c : UInt8) : decide (0 ≤ idx s c) = s.contains c := by
  unfold idx
  by_cases h : c ∈ s
  · rw [if_pos h]; simp [h]
  · rw [if_neg h]; simp [h]
theorem idx_in {s : Bs} {c : UInt8} (h : c ∈ s) : idx s c = (s.idxOf c : Int) ∧ s.idxOf c < s.length := ⟨if_pos h, List.idxOf_lt_length_iff.2 h⟩
theorem idx_out {s : Bs} {c : UInt8} (h : ¬ c ∈ s) : idx s c = -1 := if_neg h
attribute [local irreducible] idx

theorem c144 (s : Bs) (c : UInt8) : Fn 144 [.str s, .str [c]] (.bool (s.contains c)) := by
  refine run_walkF eok Tryz.func144 rfl (by kernel_rfl) ?_
  conv => whnf
  repeat' (first
    | ((with_reducible refine call_go ?_); (first | refine call_step (run_view (c163 _ _) rfl rfl) ?_); conv => whnf)
    | ((with_reducible refine endx_go ?_); first | (exact endx (congrArg D.bool (idx_ge s c)); done))
    | fail
    )

theorem c162t (s : Bs) (c : UInt8) (hs : s.length < 1000000) (hc : c ∈ s) : Fn 162 [.str s, .str [c]] (.tup [.str (s.take (s.idxOf c)), .str (s.drop (s.idxOf c + 1)), .bool true]) := by
  obtain ⟨he, hl⟩ := idx_in hc
  refine run_walkF eok Tryz.func162 rfl (by kernel_rfl) ?_
  conv => whnf
  repeat' (first
    | ((with_reducible refine on_dec_t ?_ ?_); (focus ((try simp only [List.length_map, List.length_cons, List.length_nil, List.length_append]); omega)); conv => whnf)
    | ((with_reducible refine call_go ?_); (first | refine call_step (run_view (c177 _ _) rfl rfl) ?_); conv => whnf)
    | (refine ⟨[], [], (by decide +kernel), ?_⟩; conv => whnf)
    | (refine sl_str 0 (s.idxOf c) (by omega) (by omega) (by omega) ?_; conv => whnf)
    | (refine sl_str (s.idxOf c + 1) s.length (by simp only [List.length_cons, List.length_nil]; omega) (by omega) (by omega) ?_; conv => whnf)
    | (refine wrap64 (by simp only [List.length_cons, List.length_nil]; omega) ?_; conv => whnf)
    | ((with_reducible refine endx_go ?_); first | (exact endx3 (by rw [List.drop_zero, List.take_length]); done))
    | fail
    )

theorem c162f (s : Bs) (c : UInt8) (hs : s.length < 1000000) (hc : ¬ c ∈ s) : Fn 162 [.str s, .str [c]] (.tup [.str s, .str [], .bool false]) := by
  have he := idx_out hc
  refine run_walkF eok Tryz.func162 rfl (by kernel_rfl) ?_
  conv => whnf
  repeat' (first
    | ((with_reducible refine on_dec_f ?_ ?_); (focus ((try simp only [List.length_map, List.length_cons, List.length_nil, List.length_append]); omega)); conv => whnf)
    | ((with_reducible refine call_go ?_); (first | refine call_step (run_view (c177 _ _) rfl rfl) ?_); conv => whnf)
    | ((with_reducible refine endx_go ?_); first | (exact endx3 rfl; done))
    | fail
    )

theorem c142t (s : Bs) (c : UInt8) (hs : s.length < 1000000) (hc : c ∈ s) : Fn 142 [.str s, .str [c]] (.tup [.str (s.take (s.idxOf c)), .str (s.drop (s.idxOf c + 1)), .bool true]) := by
  refine run_walkF eok Tryz.func142 rfl (by kernel_rfl) ?_
  conv => whnf
  repeat' (first
    | ((with_reducible refine call_go ?_); (first | refine call_step (run_view (c162t s c hs hc) rfl rfl) ?_); conv => whnf)
    | ((with_reducible refine endx_go ?_); first | (exact endx3 rfl; done))
    | fail
    )

theorem c142f (s : Bs) (c : UInt8) (hs : s.length < 1000000) (hc : ¬ c ∈ s) : Fn 142 [.str s, .str [c]] (.tup [.str s, .str [], .bool false]) := by
  refine run_walkF eok Tryz.func142 rfl (by kernel_rfl) ?_
  conv => whnf
  repeat' (first
    | ((with_reducible refine call_go ?_); (first | refine call_step (run_view (c162f s c hs hc) rfl rfl) ?_); conv => whnf)
    | ((with_reducible refine endx_go ?_); first | (exact endx3 rfl; done))
    | fail
    )

theorem c174 (x c : UInt8) (s : Bs) (hs : s.length < 1000000) : Fn 174 [.str (x :: s), .str [c]] (.bool (decide (x = c))) := by
  refine run_walkF eok Tryz.func174 rfl (by kernel_rfl) ?_
  conv => whnf
  repeat' (first
    | ((with_reducible refine on_dec_t ?_ ?_); (focus ((try simp only [List.length_map, List.length_cons, List.length_nil, List.length_append]); omega)); conv => whnf)
    | (refine sl_str 0 1 (by omega) (by simp) (by simp) ?_; conv => whnf)
    | ((with_reducible refine endx_go ?_); first | (refine endx (congrArg D.bool ?_); rw [decide_eq_decide]; simp; done))
    | fail
    )

theorem c174n (c : UInt8) : Fn 174 [.str [], .str [c]] (.bool false) := by
  refine run_walkF eok Tryz.func174 rfl (by kernel_rfl) ?_
  conv => whnf
  repeat' (first
    | ((with_reducible refine endx_go ?_); first | (exact endx rfl; done))
    | fail
    )

theorem c160t (x : UInt8) (s : Bs) (hs : s.length < 1000000) (hx : x = 47) : Fn 160 [.str (x :: s), .str [47]] (.tup [.str s, .bool true]) := by
  refine run_walkF eok Tryz.func160 rfl (by kernel_rfl) ?_
  conv => whnf
  repeat' (first
    | ((with_reducible refine on_ndec_t (by first | assumption ) ?_); conv => whnf)
    | ((with_reducible refine call_go ?_); (first | refine call_step (run_view (c174 x 47 s hs) rfl rfl) ?_); conv => whnf)
    | (refine sl_str 1 (s.length + 1) (by simp) (by simp) (by simp) ?_; conv => whnf)
    | ((with_reducible refine endx_go ?_); first | (exact endx2 (by simp); done))
    | fail
    )

theorem c160f (x : UInt8) (s : Bs) (hs : s.length < 1000000) (hx : ¬ x = 47) : Fn 160 [.str (x :: s), .str [47]] (.tup [.str (x :: s), .bool false]) := by
  refine run_walkF eok Tryz.func160 rfl (by kernel_rfl) ?_
  conv => whnf
  repeat' (first
    | ((with_reducible refine on_ndec_f (by assumption) ?_); conv => whnf)
    | ((with_reducible refine call_go ?_); (first | refine call_step (run_view (c174 x 47 s hs) rfl rfl) ?_); conv => whnf)
    | ((with_reducible refine endx_go ?_); first | (exact endx2 rfl; done))
    | fail
    )

theorem c160n : Fn 160 [.str [], .str [47]] (.tup [.str [], .bool false]) := by
  refine run_walkF eok Tryz.func160 rfl (by kernel_rfl) ?_
  conv => whnf
  repeat' (first
    | ((with_reducible refine call_go ?_); (first | refine call_step (run_view (c174n 47) rfl rfl) ?_); conv => whnf)
    | ((with_reducible refine endx_go ?_); first | (exact endx2 rfl; done))
    | fail
    )

theorem c160 (s : Bs) (hs : s.length < 1000000) : Fn 160 [.str s, .str [47]] (.tup [.str (restOf s), .bool (isAbs s)]) := by
  cases s with
  | nil => exact c160n
  | cons x r =>
    have hr : r.length < 1000000 := by simp at hs; omega
    rw [restOf_c, isAbs_c]
    by_cases h : x = 47
    · rw [if_pos h, decide_eq_true (show (x.toNat : Int) = 47 by rw [h]; rfl)]; exact c160t x r hr h
    · rw [if_neg h, decide_eq_false (show ¬ (x.toNat : Int) = 47 from fun e => h (u8_inj (b := 47) e))]; exact c160f x r hr h

theorem c140 (s : Bs) (hs : s.length < 1000000) : Fn 140 [.str s, .str [47]] (.tup [.str (restOf s), .bool (isAbs s)]) := by
  refine run_walkF eok Tryz.func140 rfl (by kernel_rfl) ?_
  conv => whnf
  repeat' (first
    | ((with_reducible refine call_go ?_); (first | refine call_step (run_view (c160 s hs) rfl rfl) ?_); conv => whnf)
    | ((with_reducible refine endx_go ?_); first | (exact endx2 rfl; done))
    | fail
    )

theorem c176 (s : Bs) (c : UInt8) : Fn 176 [.str s, .str [c]] (i (s.count c)) := by
  refine run_walkF eok Tryz.func176 rfl (by kernel_rfl) ?_
  conv => whnf
  repeat' (first
    | ((with_reducible refine call_go ?_); (first | refine call_step (run_view (c183 _ _) rfl rfl) ?_ ); conv => whnf)
    | (refine ⟨Int.le_refl 0, ?_⟩; conv => whnf)
    | ((with_reducible refine endx_go ?_); first | (refine endx (congrArg i ?_); rw [u8i]; rfl; done))
    | fail
    )

def rowS (out : List Bs) (n : Nat) : List Bs := out ++ List.replicate n []
theorem rowS_len (out : List Bs) (n : Nat) : (rowS out n).length = out.length + n := by unfold rowS; simp
theorem rowS_set (out : List Bs) (n : Nat) (p : Bs) : (rowS out (n + 1)).set out.length p = rowS (out ++ [p]) n := by
  unfold rowS
  rw [List.set_append_right _ _ (Nat.le_refl _), Nat.sub_self, List.replicate_succ, List.set_cons_zero, List.append_assoc]; rfl
theorem rowS_setN {out : List Bs} {n : Nat} {p : Bs} (h : out.length < n) : (rowS out (n - out.length)).set out.length p = rowS (out ++ [p]) (n - (out ++ [p]).length) := by
  have e : n - out.length = (n - (out ++ [p]).length) + 1 := by simp; omega
  rw [e, rowS_set]
theorem rowS_zero (n : Nat) : (List.replicate n (AV.d (D.str []))) = ((rowS [] n).map D.str).map .d := by
  unfold rowS; simp
theorem rowS_end (out : List Bs) : rowS out 0 = out := by unfold rowS; simp
structure SpI (c : UInt8) (s : Bs) (l out : List Bs) (cur : Bs) : Prop where
  eq : out ++ cut c cur = l
  le : cur.length ≤ s.length
theorem SpI.len {c : UInt8} {s cur : Bs} {l out : List Bs} (I : SpI c s l out cur) : l.length = out.length + (cut c cur).length := by rw [← I.eq]; simp
theorem SpI.step {c : UInt8} {s cur : Bs} {l out : List Bs} (I : SpI c s l out cur) (h : c ∈ cur) : SpI c s l (out ++ [cur.take (cur.idxOf c)]) (cur.drop (cur.idxOf c + 1)) := by
  refine ⟨?_, by have := I.le; rw [List.length_drop]; omega⟩
  rw [← I.eq, cut_mem_at h, List.append_assoc]; rfl
theorem SpI.in {c : UInt8} {s cur : Bs} {l out : List Bs} (I : SpI c s l out cur) (h : (out.length : Int) < (l.length : Int) - 1) : c ∈ cur := by
  have e := I.len
  rw [cut_len] at e
  exact List.count_pos_iff.1 (by omega)
theorem SpI.out {c : UInt8} {s cur : Bs} {l out : List Bs} (I : SpI c s l out cur) (h : ¬ (out.length : Int) < (l.length : Int) - 1) : l = out ++ [cur] := by
  have e := I.len
  rw [cut_len] at e
  rw [← I.eq, cut_none (List.count_eq_zero.1 (by omega))]
attribute [local irreducible] rowS

theorem c161 (s : Bs) (c : UInt8) (l : List Bs) (hl : cut c s = l) (hs : s.length < 1000000) : Run Tryz.prog 161 [.d (.str s), .d (.str [c]), .d (i 0), .d (i (-1))] [] (.sl 0 0 l.length 1 (some l.length)) [⟨(l.map D.str).map .d, 1, 0⟩] := by
  have hcn : s.count c + 1 = l.length := (by rw [← hl, cut_len]); have hcl := List.count_le_length (a := c) (l := s); have hl1 : ([] : List Bs).length < l.length := (by rw [List.length_nil]; omega); have hgm : goMin (((s.count c : Nat) : Int) + 1) ((s.length : Int) + 1) = (l.length : Int) := (by unfold goMin; split <;> omega)
  refine run_walkV eok Tryz.func161 rfl (by kernel_rfl) [] (by rfl) [] ?_
  conv => whnf
  repeat' (first
    | ((with_reducible refine on_dec_f ?_ ?_); (focus (have := hix (by omega); omega)); conv => whnf)
    | ((with_reducible refine on_dec (fun h => ?_) (fun h => ?_)) <;> (try simp only [List.length_map] at h) <;> conv => whnf)
    | ((with_reducible refine call_go ?_); (first | refine call_step (run_view (c176 _ _) rfl rfl) ?_ | refine call_step (run_view (c163 _ _) rfl rfl) ?_); conv => whnf)
    | ((with_reducible refine loop_go ?_); first | (refine loop2 (fun (out : List Bs) (cur : Bs) => l.length - out.length) (fun (out : List Bs) (cur : Bs) => SpI c s l out cur ∧ out.length < l.length) (fun (out : List Bs) (cur : Bs) => [(0, .d (.str cur)), (1, .d (.str [c])), (2, .d (i 0)), (3, .d (i ((l.length : Int) - 1))), (9, .sl 0 0 l.length 1 (some l.length)), (10, .d (i out.length))]) (fun (out : List Bs) (cur : Bs) => [⟨((rowS out (l.length - out.length)).map D.str).map .d, 1, 0⟩]) ([]) (s) (by exact ⟨⟨hl, Nat.le_refl _⟩, hl1⟩) ?_ (fun out cur C hI hC => ?_); (exact ⟨[.old 0], rfl, rfl, ⟨(by first | (show (_ : D) = _; with_reducible rfl) ), (by first | (show (_ : D) = _; with_reducible rfl) ), (by first | (show (_ : D) = _; with_reducible rfl) ), (by first | (show (_ : D) = _; with_reducible rfl) ), (by first | exact ⟨rfl, rfl, rfl, rfl, rfl⟩ ), (by first | exact rfl), trivial⟩, ⟨⟨rfl, rfl, .inl ⟨_, (by rw [← rowS_zero]; rfl), rfl⟩⟩, trivial⟩⟩); have hix : (out.length : Int) < (l.length : Int) - 1 → idx cur c = (cur.idxOf c : Int) ∧ cur.idxOf c < cur.length := fun h => idx_in (hI.1.in h); have hcu := hI.1.le; have hol := hI.2; all_goals (conv => whnf)))
    | ((with_reducible show C _ _); first | (refine hC (out ++ [cur.take (cur.idxOf c)]) (cur.drop (cur.idxOf c + 1)) _ _ ?_ (by simp only [List.length_append, List.length_cons, List.length_nil]; omega) ?_; clear hC; rotate_left; (exact ⟨[.old 0], rfl, rfl, ⟨(congrArg D.str (by rw [List.take_length])), (by first | (show (_ : D) = _; with_reducible rfl) ), (by first | (show (_ : D) = _; with_reducible rfl) ), (by first | (show (_ : D) = _; with_reducible rfl) ), (by first | exact ⟨rfl, rfl, rfl, rfl, rfl⟩ ), (congrArg (D.int .i64) (by simp)), trivial⟩, ⟨⟨rfl, rfl, .inl ⟨_, rfl, rfl⟩⟩, trivial⟩⟩); (exact ⟨hI.1.step (hI.1.in (by assumption)), by simp; omega⟩)))
    | (refine wrap64 (by omega) ?_; conv => whnf)
    | (rw [hgm]; refine ⟨⟨by omega, Int.le_refl _, by omega, (capI (by omega) rfl).2.2⟩, ?_⟩; conv => whnf)
    | (refine ⟨⟨by omega, by omega⟩, ?_⟩; conv => whnf)
    | (refine sl_str 0 (cur.idxOf c) (by omega) (by have := hix (by omega); omega) (by have := hix (by omega); omega) ?_; conv => whnf)
    | (refine sl_str (cur.idxOf c + 1) cur.length (by have := hix (by omega); simp only [List.length_cons, List.length_nil]; omega) (by omega) (by have := hix (by omega); omega) ?_; conv => whnf)
    | (refine nthK_rowi (l := rowS out (l.length - out.length)) out.length (by omega) (by rw [rowS_len]; omega) ?_; conv => whnf)
    | (refine set_str (m := out.length) (by omega) (rowS_setN hI.2) ?_; conv => whnf)
    | (refine own_sl 0 (out.length + 1) (by omega) (by omega) (by omega) ?_; conv => whnf)
    | (refine wrap64 (by have := hix (by omega); simp only [List.length_cons, List.length_nil]; omega) ?_; conv => whnf)
    | ((with_reducible refine endx_go ?_); first | (have hlo := hI.1.out (by assumption); refine endX_of (.inl ⟨[.old 0], rfl, rfl, ⟨⟨rfl, rfl, ?_, rfl, ?_⟩, trivial⟩, ⟨⟨rfl, rfl, .inl ⟨_, ?_, rfl⟩⟩, trivial⟩⟩); (focus (rw [hlo]; simp)); (focus (rfl)); (rw [hlo]; simp [rowS_end]); done))
    | fail
    )

theorem c141 (s : Bs) (c : UInt8) (l : List Bs) (hl : cut c s = l) (hs : s.length < 1000000) : Run Tryz.prog 141 [.d (.str s), .d (.str [c])] [] (.sl 0 0 l.length 1 (some l.length)) [⟨(l.map D.str).map .d, 1, 0⟩] := by
  refine run_walkV eok Tryz.func141 rfl (by kernel_rfl) [] (by rfl) [] ?_
  conv => whnf
  repeat' (first
    | ((with_reducible refine call_go ?_); (first | refine call_step (run_newC (l := l) (c161 s c l hl hs) (fun _ => rfl) rfl) ?_); conv => whnf)
    | ((with_reducible refine endx_go ?_); first | (exact endX_of (.inl ⟨[.old 0], rfl, rfl, ⟨⟨rfl, rfl, rfl, rfl, rfl⟩, trivial⟩, ⟨⟨rfl, rfl, .inl ⟨_, rfl, rfl⟩⟩, trivial⟩⟩); done))
    | fail
    )

theorem c143 (s : Bs) : Fn 143 [.str s] (.bool (bad s)) := by
  refine run_walkF eok Tryz.func143 rfl (by kernel_rfl) ?_
  conv => whnf
  repeat' (first
    | ((with_reducible refine onBool_split (fun h => ?_) (fun h => ?_)) <;> conv => whnf)
    | ((with_reducible refine call_go ?_); (first | refine call_step (run_view (c144 _ _) rfl rfl) ?_); conv => whnf)
    | ((with_reducible refine endx_go ?_); first | (refine endx (congrArg D.bool ?_); unfold bad; (simp_all; done); done) )
    | fail
    )

def ixBad : List Bs → Nat → Int
  | [], _ => -1
  | x :: l, k => if bad x = true then (k : Int) else ixBad l (k + 1)
theorem ixBad_drop {l : List Bs} {k : Nat} (h : k < l.length) : ixBad (l.drop k) k = if bad l[k] = true then (k : Int) else ixBad (l.drop (k + 1)) (k + 1) := by
  rw [List.drop_eq_getElem_cons h]; rfl
theorem ixBad_end {l : List Bs} {k : Nat} (h : l.length ≤ k) : ixBad (l.drop k) k = -1 := by
  rw [List.drop_eq_nil_of_le h]; rfl
theorem ixBad_any : ∀ (l : List Bs) (k : Nat), decide (0 ≤ ixBad l k) = l.any bad
  | [], k => rfl
  | x :: l, k => by
    have ih := ixBad_any l (k + 1)
    rw [ixBad, List.any_cons, ← ih]
    by_cases h : bad x = true
    · rw [if_pos h, h]; simp
    · rw [if_neg h]; simp [h]
attribute [local irreducible] bad

theorem c164 (l : List Bs) (hs : l.length < 1000000) : Fn 164 [.fs (l.map .str), .fn 143 [] []] (i (ixBad l 0)) := by
  refine run_walkF eok Tryz.func164 rfl (by kernel_rfl) ?_
  conv => whnf
  repeat' (first
    | ((with_reducible refine on_dec (fun h => ?_) (fun h => ?_)) <;> (try simp only [List.length_map] at h) <;> conv => whnf)
    | ((with_reducible refine onBool_split (fun h => ?_) (fun h => ?_)) <;> conv => whnf)
    | ((with_reducible refine call_go ?_); (first | refine call_step (run_view (c143 _) rfl rfl) ?_); conv => whnf)
    | ((with_reducible refine loop_go ?_); first | (refine loop1 (fun (k : Nat) => l.length - k) (fun (k : Nat) => k ≤ l.length ∧ ixBad l 0 = ixBad (l.drop k) k) (fun (k : Nat) => [(0, .d (.fs (l.map .str))), (1, .d (.fn 143 [] [])), (7, .d (i l.length)), (8, .d (i k))]) (fun (k : Nat) => []) (0) (by first | (simp; done) ) ?_ (fun k C hI hC => ?_); (exact ⟨[], rfl, rfl, ⟨(by first | (show (_ : D) = _; with_reducible rfl) ), (by first | (show (_ : D) = _; with_reducible rfl) ), (by first | exact congrArg (D.int .i64) (by simp only [List.length_map]) ), (by first | exact congrArg (D.int .i64) (by omega) ), trivial⟩, trivial⟩); all_goals (conv => whnf)))
    | ((with_reducible show C _ _); first | (refine hC (k + 1) _ _ ?_ (by omega) ?_; clear hC; rotate_left; (exact ⟨[], rfl, rfl, ⟨(by first | (show (_ : D) = _; with_reducible rfl) ), (by first | (show (_ : D) = _; with_reducible rfl) ), (by first | (show (_ : D) = _; with_reducible rfl) ), (by first | exact congrArg (D.int .i64) (by omega) ), trivial⟩, trivial⟩); (exact ⟨by omega, by rw [hI.2, ixBad_drop (by omega), if_neg (by simpa using h)]⟩)))
    | (refine ix_map (by omega) ?_; conv => whnf)
    | (refine wrap64 (by omega) ?_; conv => whnf)
    | ((with_reducible refine endx_go ?_); first | (exact endx (congrArg i (by rw [hI.2, ixBad_drop (by omega), if_pos h])); done) | (exact endx (congrArg i (by rw [hI.2, ixBad_end (by omega)])); done))
    | fail
    )

theorem c145 (l : List Bs) (hs : l.length < 1000000) : Fn 145 [.fs (l.map .str), .fn 143 [] []] (.bool (l.any bad)) := by
  refine run_walkF eok Tryz.func145 rfl (by kernel_rfl) ?_
  conv => whnf
  repeat' (first
    | ((with_reducible refine call_go ?_); (first | refine call_step (run_view (c164 l hs) rfl rfl) ?_); conv => whnf)
    | ((with_reducible refine endx_go ?_); first | (exact endx (congrArg D.bool (ixBad_any l 0)); done))
    | fail
    )

attribute [local irreducible] restOf isAbs dots

theorem c119n (s : Bs) (hs : s.length < 1000000) (hr : restOf s = []) : Fn 119 [.str s] (.tup [PPe ⟨isAbs s, [], []⟩, .bool (isAbs s)]) := by
  refine run_walkF eok Tryz.func119 rfl (by kernel_rfl) ?_
  conv => whnf
  repeat' (first
    | (exact absurd (by assumption) (of_decide_eq_false h))
    | ((with_reducible refine onBool_split (fun h => ?_) (fun h => ?_)) <;> conv => whnf)
    | ((with_reducible refine call_go ?_); (first | refine call_step (run_view (c140 s hs) rfl rfl) ?_ ); conv => whnf)
    | ((with_reducible refine endx_go ?_); first | (exact endxv rfl rfl; done))
    | fail
    )

theorem rest_le (s : Bs) : (restOf s).length ≤ s.length := by
  cases s with
  | nil => unfold restOf; decide
  | cons x r => exact rest_len x r

theorem c119f (s : Bs) (l : List Bs) (hs : s.length < 100000) (hr : ¬ restOf s = []) (hl : cut 47 (restOf s) = l) (hc : ¬ 58 ∈ (l[l.length - 1]'(lastIx (by rw [← hl]; exact cut_ne _ _)))) : Fn 119 [.str s] (.tup [PPe ⟨isAbs s, l, []⟩, .bool (!l.any bad)]) := by
  have hs : s.length < 1000000 := (by omega); have hl0 : 0 < l.length := List.length_pos_iff.2 (by rw [← hl]; exact cut_ne _ _); have hrl := rest_le s; have hll : l.length < 200000 := (by rw [← hl, cut_len]; have := List.count_le_length (a := 47) (l := restOf s); omega); have hpl : ∀ x ∈ l, x.length < 1000000 := (by intro y hy; rw [← hl] at hy; have := (cut_mem hy).2; omega); have hls : (l[l.length - 1]'(by omega)).length < 1000000 := hpl _ (List.getElem_mem _)
  refine run_walkF eok Tryz.func119 rfl (by kernel_rfl) ?_
  conv => whnf
  repeat' (first
    | (exact absurd (of_decide_eq_true h) (by assumption))
    | ((with_reducible refine on_not (fun h => ?_) (fun h => ?_)) <;> conv => whnf)
    | ((with_reducible refine onBool_split (fun h => ?_) (fun h => ?_)) <;> conv => whnf)
    | ((with_reducible refine call_go ?_); (first | refine call_step (run_view (c140 s hs) rfl rfl) ?_ | refine call_step (run_newC (l := l) (c141 (restOf s) 47 l hl (by have := rest_le s; omega)) (fun _ => rfl) rfl) ?_ | refine call_step (run_view (c142f _ 58 hls hc) rfl rfl) ?_ | refine call_step (run_view (c145 l (by omega)) rfl (vl2 (view_map rfl Nat.two_pos) rfl)) ?_ ); conv => whnf)
    | (refine ⟨[], [(0, 4), (0, 12), (0, 16)], (by decide +kernel), ?_⟩; conv => whnf)
    | (refine wrap64 (by omega) ?_; conv => whnf)
    | (refine ⟨⟨by omega, by omega⟩, ?_⟩; conv => whnf)
    | (refine nthK_rowi (l := l) (l.length - 1) (by omega) (by omega) ?_; conv => whnf)
    | ((with_reducible refine endx_go ?_); first | (refine endxv (view_tup (vlc (view_agg (vlc rfl (vlc (view_map rfl Nat.two_pos) (vlc rfl vln)))) (vlc rfl vln))) ?_; rw [h]; rfl; done))
    | (refine ⟨rfl, ?_⟩; conv => whnf)
    | fail
    )

theorem view_mapL {α : Type} {f : α → D} {l : List α} {H : Heap} {id k k' st n len : Nat} {cap : Option Nat} (e : len = l.length) (h : H[id]? = some ⟨(l.map f).map .d, k, st⟩) (hst : st < 2) : view (n + 2) H (.sl id 0 len k' cap) = some (.fs (l.map f)) := by
  subst e; exact view_map h hst

theorem c119t (s : Bs) (l L : List Bs) (hs : s.length < 100000) (hr : ¬ restOf s = []) (hl : cut 47 (restOf s) = l) (hc : 58 ∈ (l[l.length - 1]'(lastIx (by rw [← hl]; exact cut_ne _ _)))) (hL : l.set (l.length - 1) (pieceA (l[l.length - 1]'(lastIx (by rw [← hl]; exact cut_ne _ _)))) = L) : Fn 119 [.str s] (.tup [PPe ⟨isAbs s, L, pieceB (l[l.length - 1]'(lastIx (by rw [← hl]; exact cut_ne _ _)))⟩, .bool (!L.any bad && (!bad (pieceB (l[l.length - 1]'(lastIx (by rw [← hl]; exact cut_ne _ _)))) && !dots (pieceA (l[l.length - 1]'(lastIx (by rw [← hl]; exact cut_ne _ _))))))]) := by
  have hs : s.length < 1000000 := (by omega); have hl0 : 0 < l.length := List.length_pos_iff.2 (by rw [← hl]; exact cut_ne _ _); have hrl := rest_le s; have hll : l.length < 200000 := (by rw [← hl, cut_len]; have := List.count_le_length (a := 47) (l := restOf s); omega); have hpl : ∀ x ∈ l, x.length < 1000000 := (by intro y hy; rw [← hl] at hy; have := (cut_mem hy).2; omega); have hls : (l[l.length - 1]'(by omega)).length < 1000000 := hpl _ (List.getElem_mem _); have hLl : L.length = l.length := (by rw [← hL]; simp)
  refine run_walkF eok Tryz.func119 rfl (by kernel_rfl) ?_
  conv => whnf
  repeat' (first
    | (exact absurd (of_decide_eq_true h) (by assumption))
    | ((with_reducible refine on_not (fun h => ?_) (fun h => ?_)) <;> conv => whnf)
    | ((with_reducible refine onBool_split (fun h => ?_) (fun h => ?_)) <;> conv => whnf)
    | ((with_reducible refine call_go ?_); (first | refine call_step (run_view (c140 s hs) rfl rfl) ?_ | refine call_step (run_newC (l := l) (c141 (restOf s) 47 l hl (by have := rest_le s; omega)) (fun _ => rfl) rfl) ?_ | refine call_step (run_view (c142t _ 58 hls hc) rfl rfl) ?_ | refine call_step (run_view (c145 L (by omega)) rfl (vl2 (view_mapL hLl.symm rfl Nat.two_pos) rfl)) ?_ | refine call_step (run_view (c146 _) rfl rfl) ?_ | refine call_step (run_view (c143 _) rfl rfl) ?_); conv => whnf)
    | (refine ⟨[], [(0, 4), (0, 12), (0, 16)], (by decide +kernel), ?_⟩; conv => whnf)
    | (refine wrap64 (by omega) ?_; conv => whnf)
    | (refine set_str (m := l.length - 1) (L := L) (by omega) hL ?_; conv => whnf)
    | (refine ⟨⟨by omega, by omega⟩, ?_⟩; conv => whnf)
    | (refine nthK_rowi (l := l) (l.length - 1) (by omega) (by omega) ?_; conv => whnf)
    | ((with_reducible refine endx_go ?_); first | (refine endxv (view_tup (vlc (view_agg (vlc rfl (vlc (view_mapL hLl.symm rfl Nat.two_pos) (vlc rfl vln)))) (vlc rfl vln))) ?_; (simp_all [PPe, pieceA, pieceB]; done); done) | (refine endxv (view_tup (vlc (view_agg (vlc rfl (vlc (view_mapL hLl.symm rfl Nat.two_pos) (vlc rfl vln)))) (vlc rfl vln))) ?_; rw [h]; rfl; done))
    | (refine ⟨rfl, ?_⟩; conv => whnf)
    | fail
    )

theorem c119 (s : Bs) (hs : s.length < 100000) : Fn 119 [.str s] (.tup [PPe (splitI s).1, .bool (splitI s).2]) := by
  by_cases hr : restOf s = []
  · have e : splitI s = (⟨isAbs s, [], []⟩, isAbs s) := by unfold splitI; rw [if_pos hr]
    rw [e]; exact c119n s (by omega) hr
  · have hne : cut 47 (restOf s) ≠ [] := cut_ne _ _
    have el : lastOf (cut 47 (restOf s)) = (cut 47 (restOf s))[(cut 47 (restOf s)).length - 1]'(lastIx hne) := last_get hne
    by_cases hc : (lastOf (cut 47 (restOf s))).contains 58 = true
    · rw [splitI_c hr hc]
      have hm : 58 ∈ lastOf (cut 47 (restOf s)) := by simpa using hc
      rw [el] at hm ⊢
      have := c119t s (cut 47 (restOf s)) _ hs hr rfl hm rfl
      rw [set_last hne] at this
      exact this
    · rw [splitI_n hr hc]
      have hm : ¬ 58 ∈ lastOf (cut 47 (restOf s)) := by simpa using hc
      rw [el] at hm
      exact c119f s _ hs hr rfl hm

end Go.Proofs.YtbkmjpmgiaiacaaGreatDoor

/-! Wg -/
namespace Go.Proofs.YtbkmjpmgiaiacaaGreatDoor
open Go Dw
set_option maxRecDepth 10000
set_option linter.unusedVariables false
set_option linter.unusedSimpArgs false
attribute [local irreducible] Run
set_option maxHeartbeats 4000000

open Paths
attribute [local irreducible] nameErr cut normal dots partErr
theorem cut_sum {c : UInt8} {s x : Bs} (h : x ∈ cut c s) : x.length ≤ s.length := (cut_mem h).2
theorem split_len (s : Bs) : (∀ x ∈ (splitI s).1.parts, x.length ≤ s.length) ∧ (splitI s).1.stream.length ≤ s.length ∧ (splitI s).1.parts.length ≤ s.length + 1 := by
  have hr := rest_le s
  unfold splitI
  split
  · exact ⟨fun x h => (by cases h), Nat.zero_le _, Nat.zero_le _⟩
  · have hn : (cut 47 (restOf s)).length ≤ s.length + 1 := by rw [cut_len]; have := List.count_le_length (a := 47) (l := restOf s); omega
    have hne : cut 47 (restOf s) ≠ [] := cut_ne _ _
    have hl : (lastOf (cut 47 (restOf s))).length ≤ s.length := by
      rw [show lastOf (cut 47 (restOf s)) = _ from last_get hne]
      have := cut_sum (List.getElem_mem (l := cut 47 (restOf s)) (lastIx hne)); omega
    split
    · refine ⟨fun x h => ?_, ?_, ?_⟩
      · rcases List.mem_append.1 h with h | h
        · have := cut_sum ((List.dropLast_sublist _).mem h); omega
        · rw [List.mem_singleton] at h; subst h
          unfold pieceA; rw [List.length_take]; omega
      · unfold pieceB; simp only [List.length_drop]; omega
      · simp only [List.length_append, List.length_dropLast, List.length_cons, List.length_nil]; omega
    · refine ⟨fun x h => ?_, Nat.zero_le _, hn⟩
      have := cut_sum h; omega
def eachP : List Bs → Nat → Int × Int
  | [], _ => (0, 0)
  | x :: l, k => if partErr x = 0 then eachP l (k + 1) else ((k : Int), partErr x)
theorem eachP_drop {l : List Bs} {k : Nat} (h : k < l.length) : eachP (l.drop k) k = if partErr l[k] = 0 then eachP (l.drop (k + 1)) (k + 1) else ((k : Int), partErr l[k]) := by
  rw [List.drop_eq_getElem_cons h]; rfl
theorem eachP_end {l : List Bs} {k : Nat} (h : l.length ≤ k) : eachP (l.drop k) k = (0, 0) := by
  rw [List.drop_eq_nil_of_le h]; rfl
theorem eachP_first : ∀ (l : List Bs) (k : Nat), (eachP l k).2 = firstE (l.map partErr)
  | [], k => rfl
  | x :: l, k => by
    rw [eachP, List.map_cons, firstE_cons]
    split
    · exact eachP_first l (k + 1)
    · rfl

theorem c148 (n : Int) (s : Bs) (hs : s.length < 1000000) : Fn 148 [i n, .str s] (i (partErr s)) := by
  refine run_walkF eok Tryz.func148 rfl (by kernel_rfl) ?_
  conv => whnf
  repeat' (first
    | ((with_reducible refine onBool_split (fun h => ?_) (fun h => ?_)) <;> conv => whnf)
    | ((with_reducible refine call_go ?_); (first | refine call_step (run_view (c146 _) rfl rfl) ?_ | refine call_step (run_view (c149 s hs) rfl rfl) ?_); conv => whnf)
    | ((with_reducible refine endx_go ?_); first | (exact endx (congrArg i (pe_dots h).symm); done) | (exact endx (congrArg i (pe_name h).symm); done))
    | fail
    )

theorem c147 (l : List Bs) (hl : l.length < 1000000) (hb : ∀ x ∈ l, x.length < 1000000) : Fn 147 [.fs (l.map .str), .fn 148 [] []] (.tup [i (eachP l 0).1, i (eachP l 0).2]) := by
  refine run_walkF eok Tryz.func147 rfl (by kernel_rfl) ?_
  conv => whnf
  repeat' (first
    | ((with_reducible refine on_dec (fun h => ?_) (fun h => ?_)) <;> (try simp only [List.length_map] at h) <;> conv => whnf)
    | ((with_reducible refine on_ndec (fun h => ?_) (fun h => ?_)) <;> (try simp only [List.length_map] at h) <;> conv => whnf)
    | ((with_reducible refine call_go ?_); (first | refine call_step (run_view (c148 _ _ (hb _ (List.getElem_mem _))) rfl rfl) ?_); conv => whnf)
    | ((with_reducible refine loop_go ?_); first | (refine loop1 (fun (k : Nat) => l.length - k) (fun (k : Nat) => k ≤ l.length ∧ eachP l 0 = eachP (l.drop k) k) (fun (k : Nat) => [(1, .d (.fn 148 [] [])), (9, .d (.fs (l.map .str))), (10, .d (i l.length)), (11, .d (i k))]) (fun (k : Nat) => []) (0) (by first | (simp; done) ) ?_ (fun k C hI hC => ?_); (exact ⟨[], rfl, rfl, ⟨(by first | (show (_ : D) = _; with_reducible rfl) ), (by first | (show (_ : D) = _; with_reducible rfl) ), (by first | exact congrArg (D.int .i64) (by simp only [List.length_map]) ), (by first | exact congrArg (D.int .i64) (by omega) ), trivial⟩, trivial⟩); all_goals (conv => whnf)))
    | ((with_reducible show C _ _); first | (refine hC (k + 1) _ _ ?_ (by omega) ?_; clear hC; rotate_left; (exact ⟨[], rfl, rfl, ⟨(by first | (show (_ : D) = _; with_reducible rfl) ), (by first | (show (_ : D) = _; with_reducible rfl) ), (by first | (show (_ : D) = _; with_reducible rfl) ), (by first | exact congrArg (D.int .i64) (by omega) ), trivial⟩, trivial⟩); (exact ⟨by omega, by rw [hI.2, eachP_drop (by omega), if_pos h]⟩)))
    | (refine ix_map (by omega) ?_; conv => whnf)
    | (refine wrap64 (by omega) ?_; conv => whnf)
    | ((with_reducible refine endx_go ?_); first | (refine endx2 ?_; (rw [hI.2, eachP_drop (by omega), if_neg h]) <;> rfl; done) | (refine endx2 ?_; (rw [hI.2, eachP_end (by omega)]) <;> rfl; done))
    | fail
    )

theorem c122 (l : List Bs) (hl : l.length < 1000000) (hb : ∀ x ∈ l, x.length < 1000000) : Fn 122 [.fs (l.map .str)] (i (firstE (l.map partErr))) := by
  refine run_walkF eok Tryz.func122 rfl (by kernel_rfl) ?_
  conv => whnf
  repeat' (first
    | ((with_reducible refine call_go ?_); (first | refine call_step (run_view (c147 l hl hb) rfl rfl) ?_); conv => whnf)
    | ((with_reducible refine endx_go ?_); first | (exact endx (congrArg i (eachP_first l 0)); done))
    | fail
    )

theorem c123 (s : Bs) (hs : s.length < 1000000) : Fn 123 [.str s] (i (streamErr s)) := by
  refine run_walkF eok Tryz.func123 rfl (by kernel_rfl) ?_
  conv => whnf
  repeat' (first
    | ((with_reducible refine onBool_split (fun h => ?_) (fun h => ?_)) <;> conv => whnf)
    | ((with_reducible refine call_go ?_); (first | refine call_step (run_view (c149 s hs) rfl rfl) ?_); conv => whnf)
    | ((with_reducible refine endx_go ?_); first | (refine endx (congrArg i ?_); have h9 : s = [] := of_decide_eq_true h; unfold streamErr; rw [if_pos h9]; done) | (refine endx (congrArg i ?_); have h9 : ¬ s = [] := of_decide_eq_false h; unfold streamErr; rw [if_neg h9]; done))
    | fail
    )

attribute [local irreducible] splitI streamErr
theorem errI_eq (s : Bs) : errI s = firstE [if (splitI s).2 = true then 0 else 7, firstE ((splitI s).1.parts.map partErr), streamErr (splitI s).1.stream, if decide (((splitI s).1.parts.length : Int) ≤ 16) = true then 0 else 8] := by
  unfold errI
  have e : (if (splitI s).1.parts.length ≤ 16 then (0 : Int) else 8) = if decide (((splitI s).1.parts.length : Int) ≤ 16) = true then 0 else 8 := by
    by_cases h : (splitI s).1.parts.length ≤ 16
    · rw [if_pos h, if_pos (decide_eq_true (by omega))]
    · rw [if_neg h, if_neg (by simp; omega)]
  rw [e]
theorem parse_big {s : Bs} (h : (200 : Int) < s.length) : parse s = (noPP, 8) := by
  rw [← parse_eq]; unfold parseI; rw [if_pos (by omega)]
theorem parse_okI {s : Bs} (h : ¬ (200 : Int) < s.length) (h2 : errI s = 0) : parse s = ((splitI s).1, 0) := by
  rw [← parse_eq]; unfold parseI; rw [if_neg (by omega), if_pos h2]
theorem parse_noI {s : Bs} (h : ¬ (200 : Int) < s.length) (h2 : ¬ errI s = 0) : parse s = (noPP, errI s) := by
  rw [← parse_eq]; unfold parseI; rw [if_neg (by omega), if_neg h2]
attribute [local irreducible] parse

theorem c92 (s : Bs) : Fn 92 [.str s] (.tup [PPe (parse s).1, i (parse s).2]) := by
  obtain ⟨hp1, hp2, hp3⟩ := split_len s
  refine run_walkF eok Tryz.func92 rfl (by kernel_rfl) ?_
  conv => whnf
  repeat' (first
    | ((with_reducible refine on_dec (fun h => ?_) (fun h => ?_)) <;> (try simp only [List.length_map] at h) <;> conv => whnf)
    | ((with_reducible refine on_ndec (fun h => ?_) (fun h => ?_)) <;> (try simp only [List.length_map] at h) <;> conv => whnf)
    | ((with_reducible refine call_go ?_); (first | refine call_step (run_viewF (c119 s (by omega)) rfl) ?_ | refine call_step (run_view (c121 _ _) rfl rfl) ?_ | refine call_step (run_view (c122 _ (by omega) (fun x hx => by have := hp1 x hx; omega)) rfl rfl) ?_ | refine call_step (run_view (c123 _ (by omega)) rfl rfl) ?_ | refine call_step (run_view (c120 [_, _, _, _] (by simp)) rfl rfl) ?_); conv => whnf)
    | (refine ⟨[], [(3, 1), (6, 1), (9, 1), (6, 4), (9, 4), (9, 7)], (by decide +kernel), ?_⟩; conv => whnf)
    | ((with_reducible refine endx_go ?_); first | (refine endxv rfl ?_; (rw [parse_big h]) <;> rfl; done) | (refine endxv rfl ?_; rw [← errI_eq] at h; rw [parse_noI (by assumption) h]; simp only [List.length_map]; (rw [errI_eq]) <;> rfl; done) | (refine endxv rfl ?_; rw [← errI_eq] at h; (rw [parse_okI (by assumption) h]) <;> rfl; done))
    | (refine ⟨rfl, ?_⟩; conv => whnf)
    | fail
    )

theorem c96' (l : List Bs) (h1 : l.length < 1000000) (h2 : (glue 47 l).length < 1000000) : Fn 96 [.fs (l.map .str), .str [47]] (.str (glue 47 l)) := c96 l 47 (by omega) (by omega)
theorem glue_le (p : PP) : (glue 47 p.parts).length ≤ (text p).length := by unfold text; simp only [List.length_append]; omega
attribute [local irreducible] glue
theorem text_t {p : PP} (h : p.abs = true) (h2 : p.stream = []) : [47] ++ glue 47 p.parts = text p := by unfold text; simp [h, h2]
theorem text_tt {p : PP} (h : p.abs = true) (h2 : ¬ p.stream = []) : [47] ++ glue 47 p.parts ++ ([58] ++ p.stream) = text p := by unfold text; simp [h, h2]
theorem text_f {p : PP} (h : p.abs = false) (h2 : p.stream = []) : glue 47 p.parts = text p := by unfold text; simp [h, h2]
theorem text_ft {p : PP} (h : p.abs = false) (h2 : ¬ p.stream = []) : glue 47 p.parts ++ ([58] ++ p.stream) = text p := by unfold text; simp [h, h2]

theorem c124 (p : PP) (hn : p.parts.length < 1000000) (ht : (text p).length < 1000000) : Fn 124 [PPe p] (.str (text p)) := by
  have hg := glue_le p; have hs := stream_len p
  refine run_walkF eok Tryz.func124 rfl (by kernel_rfl) ?_
  conv => whnf
  repeat' (first
    | ((with_reducible refine on_not (fun h => ?_) (fun h => ?_)) <;> conv => whnf)
    | ((with_reducible refine onBool_split (fun h => ?_) (fun h => ?_)) <;> conv => whnf)
    | ((with_reducible refine call_go ?_); (first | refine call_step (run_view (c96' p.parts hn (by omega)) rfl rfl) ?_); conv => whnf)
    | (refine str_add (by constructor <;> (try simp only [List.length_append, List.length_cons, List.length_nil, lit1]) <;> omega) ?_; conv => whnf)
    | ((with_reducible refine endx_go ?_); first | (exact endx (congrArg D.str (text_tt (by assumption) (of_decide_eq_false h))); done) | (exact endx (congrArg D.str (text_t (by assumption) (of_decide_eq_true h))); done) | (exact endx (congrArg D.str (text_ft (by assumption) (of_decide_eq_false h))); done) | (exact endx (congrArg D.str (text_f (by assumption) (of_decide_eq_true h))); done))
    | fail
    )

theorem nd_keep {ab : Bool} {out out' : List Bs} {s : Bs} (h : ab = true → ∀ x ∈ out, dots x = false) (e : normStep ab out s = out') : ab = true → ∀ x ∈ out', dots x = false := by
  intro ha
  subst ha; subst e
  exact step_nodots (h rfl)
theorem nd_no {ab : Bool} {out : List Bs} (h : ab = true → ∀ x ∈ out, dots x = false) (ha : ab = true) {n : Nat} {hn : n < out.length} (e : out[n] = [46, 46]) : False := by
  have := h ha _ (List.getElem_mem hn)
  rw [e] at this
  unfold dots at this
  exact absurd this (by decide)

theorem c125t (p : PP) (hab : p.abs = true) (hn : p.parts.length < 1000000) : Fn 125 [PPe p] (PPe (normal p)) := by
  refine run_walkF eok Tryz.func125 rfl (by kernel_rfl) ?_
  conv => whnf
  repeat' (first
    | ((with_reducible refine on_dec_t (by assumption) ?_); conv => whnf)
    | ((with_reducible refine on_dec_f (by assumption) ?_); conv => whnf)
    | ((with_reducible refine onBool_t (by assumption) ?_); conv => whnf)
    | ((with_reducible refine on_nt (by assumption) ?_); conv => whnf)
    | ((with_reducible refine on_dec_f ?_ ?_); (focus ((try simp only [List.length_map, List.length_cons, List.length_nil, List.length_append]); omega)); conv => whnf)
    | ((with_reducible refine on_dec_t ?_ ?_); (focus ((try simp only [List.length_map, List.length_cons, List.length_nil, List.length_append]); omega)); conv => whnf)
    | ((with_reducible refine on_dec (fun h => ?_) (fun h => ?_)) <;> (try simp only [List.length_map] at h) <;> conv => whnf)
    | ((with_reducible refine on_ndec (fun h => ?_) (fun h => ?_)) <;> (try simp only [List.length_map] at h) <;> conv => whnf)
    | ((with_reducible refine loop_go ?_); first | (refine loop2 (fun (k : Nat) (out : List Bs) => p.parts.length - k) (fun (k : Nat) (out : List Bs) => k ≤ p.parts.length ∧ out.length ≤ k ∧ p.parts.foldl (normStep p.abs) [] = (p.parts.drop k).foldl (normStep p.abs) out ∧ (p.abs = true → ∀ x ∈ out, dots x = false)) (fun (k : Nat) (out : List Bs) => [(1, .ptr 0 0 0), (2, .ptr 1 0 0), (3, .ptr 2 0 0), (13, .d (.fs (p.parts.map .str))), (14, .d (i p.parts.length)), (15, .d (i k))]) (fun (k : Nat) (out : List Bs) => [⟨[.d (PPe p)], 3, 0⟩, ⟨[.junk], 3, 0⟩, ⟨[.agg [.d (.bool p.abs), .sl 3 0 out.length 1 none, .d (.str p.stream)]], 3, 0⟩, ⟨(out.map D.str).map .d, 1, 0⟩]) (0) ([]) (by exact ⟨Nat.zero_le _, Nat.zero_le _, rfl, fun _ x hx => (by cases hx)⟩) ?_ (fun k out C hI hC => ?_); (exact ⟨[.old 0, .old 1, .old 2, .void 1], rfl, rfl, ⟨⟨rfl, rfl, rfl⟩, ⟨rfl, rfl, rfl⟩, ⟨rfl, rfl, rfl⟩, (by first | (show (_ : D) = _; with_reducible rfl) ), (by first | exact congrArg (D.int .i64) (by simp only [List.length_map]) ), (by first | exact congrArg (D.int .i64) (by omega) ), trivial⟩, ⟨⟨rfl, rfl, .inl ⟨[_], rfl, rfl⟩⟩, ⟨rfl, rfl, .inr ⟨trivial, trivial⟩⟩, ⟨rfl, rfl, .inr ⟨⟨rfl, ⟨rfl, rfl, rfl, rfl⟩, rfl, trivial⟩, trivial⟩⟩, ⟨rfl, rfl, (by decide), rfl⟩, trivial⟩⟩); all_goals (conv => whnf)))
    | ((with_reducible show C _ _); first | (refine hC (k + 1) (out) _ _ ?_ (by omega) ?_; clear hC; rotate_left; (exact ⟨[.old 0, .old 1, .old 2, .old 3], rfl, rfl, ⟨⟨rfl, rfl, rfl⟩, ⟨rfl, rfl, rfl⟩, ⟨rfl, rfl, rfl⟩, (by first | (show (_ : D) = _; with_reducible rfl) ), (by first | (show (_ : D) = _; with_reducible rfl) ), (by first | exact congrArg (D.int .i64) (by omega) ), trivial⟩, ⟨⟨rfl, rfl, .inl ⟨[_], rfl, rfl⟩⟩, ⟨rfl, rfl, .inr ⟨trivial, trivial⟩⟩, ⟨rfl, rfl, .inr ⟨⟨rfl, ⟨rfl, rfl, rfl, rfl, rfl⟩, rfl, trivial⟩, trivial⟩⟩, ⟨rfl, rfl, .inr (wksd _ _)⟩, trivial⟩⟩); (exact ⟨by omega, by omega, by rw [hI.2.2.1, norm_drop (by omega), st_dot (by assumption)], nd_keep hI.2.2.2 (st_dot (by assumption))⟩)) | (refine hC (k + 1) (out ++ [p.parts[k]]) _ _ ?_ (by omega) ?_; clear hC; rotate_left; (exact ⟨[.old 0, .old 1, .old 2, .old 5], rfl, rfl, ⟨⟨rfl, rfl, rfl⟩, ⟨rfl, rfl, rfl⟩, ⟨rfl, rfl, rfl⟩, (by first | (show (_ : D) = _; with_reducible rfl) ), (by first | (show (_ : D) = _; with_reducible rfl) ), (by first | exact congrArg (D.int .i64) (by omega) ), trivial⟩, ⟨⟨rfl, rfl, .inl ⟨[_], rfl, rfl⟩⟩, ⟨rfl, rfl, .inr ⟨trivial, trivial⟩⟩, ⟨rfl, rfl, .inr ⟨⟨rfl, ⟨rfl, rfl, (by simp), rfl, rfl⟩, rfl, trivial⟩, trivial⟩⟩, ⟨rfl, rfl, .inr (wks_add (wksd _ _) rfl)⟩, trivial⟩⟩); (exact ⟨by omega, by (simp; omega), by rw [hI.2.2.1, norm_drop (by omega), st_app (by assumption) (by assumption)], nd_keep hI.2.2.2 (st_app (by assumption) (by assumption))⟩)) | (refine hC (k + 1) (out.dropLast) _ _ ?_ (by omega) ?_; clear hC; rotate_left; (exact ⟨[.old 0, .old 1, .old 2, .cut 3 (out.length - 1)], rfl, rfl, ⟨⟨rfl, rfl, rfl⟩, ⟨rfl, rfl, rfl⟩, ⟨rfl, rfl, rfl⟩, (by first | (show (_ : D) = _; with_reducible rfl) ), (by first | (show (_ : D) = _; with_reducible rfl) ), (by first | exact congrArg (D.int .i64) (by omega) ), trivial⟩, ⟨⟨rfl, rfl, .inl ⟨[_], rfl, rfl⟩⟩, ⟨rfl, rfl, .inr ⟨trivial, trivial⟩⟩, ⟨rfl, rfl, .inr ⟨⟨rfl, ⟨⟨rfl, fun _ => (by omega)⟩, rfl, (by simp), rfl, rfl⟩, rfl, trivial⟩, trivial⟩⟩, ⟨rfl, rfl, ((out.dropLast.map D.str).map .d), _, (pop_eq (by omega)), (by simp), .inl ⟨_, rfl, rfl⟩⟩, trivial⟩⟩); (exact ⟨by omega, by (simp; omega), by rw [hI.2.2.1, norm_drop (by omega), st_pop (by assumption) (by omega) (by assumption)], nd_keep hI.2.2.2 (st_pop (by assumption) (by omega) (by assumption))⟩)) | (refine hC (k + 1) (out) _ _ ?_ (by omega) ?_; clear hC; rotate_left; (exact ⟨[.old 0, .old 1, .old 2, .old 3], rfl, rfl, ⟨⟨rfl, rfl, rfl⟩, ⟨rfl, rfl, rfl⟩, ⟨rfl, rfl, rfl⟩, (by first | (show (_ : D) = _; with_reducible rfl) ), (by first | (show (_ : D) = _; with_reducible rfl) ), (by first | exact congrArg (D.int .i64) (by omega) ), trivial⟩, ⟨⟨rfl, rfl, .inl ⟨[_], rfl, rfl⟩⟩, ⟨rfl, rfl, .inr ⟨trivial, trivial⟩⟩, ⟨rfl, rfl, .inr ⟨⟨rfl, ⟨rfl, rfl, rfl, rfl, rfl⟩, rfl, trivial⟩, trivial⟩⟩, ⟨rfl, rfl, .inr (wksd _ _)⟩, trivial⟩⟩); (exact ⟨by omega, by omega, by rw [hI.2.2.1, norm_drop (by omega), (st_top (by assumption) (by first | (left; omega) )).trans (if_pos hab)], nd_keep hI.2.2.2 ((st_top (by assumption) (by first | (left; omega) )).trans (if_pos hab))⟩)) )
    | (refine ⟨⟨(by first | (simp; done)), cap_ok (by simp only [List.length_map, List.length_cons, List.length_nil, List.length_append]; omega) rfl⟩, ?_⟩; conv => whnf)
    | (refine ix_map (by omega) ?_; conv => whnf)
    | (refine wrap64 (by omega) ?_; conv => whnf)
    | (exact (nd_no hI.2.2.2 hab h).elim)
    | (refine ⟨⟨by omega, by omega⟩, ?_⟩; conv => whnf)
    | (refine nthK_rowi (l := out) (out.length - 1) (by omega) (by omega) ?_; conv => whnf)
    | (refine ⟨Nat.le_refl _, ?_⟩; conv => whnf)
    | (refine own_sl 0 (out.length - 1) (by omega) (by omega) (by omega) ?_; conv => whnf)
    | ((with_reducible refine endx_go ?_); first | (exact endxv (view_agg (vlc rfl (vlc (view_map rfl Nat.two_pos) (vlc rfl vln)))) (norm_end (by assumption) hI.2.2.1 (by first | exact .inr hab )); done) )
    | fail
    )

theorem c125f (p : PP) (hab : p.abs = false) (hn : p.parts.length < 1000000) : Fn 125 [PPe p] (PPe (normal p)) := by
  refine run_walkF eok Tryz.func125 rfl (by kernel_rfl) ?_
  conv => whnf
  repeat' (first
    | ((with_reducible refine on_dec_t (by assumption) ?_); conv => whnf)
    | ((with_reducible refine on_dec_f (by assumption) ?_); conv => whnf)
    | ((with_reducible refine onBool_f (by assumption) ?_); conv => whnf)
    | ((with_reducible refine on_nf (by assumption) ?_); conv => whnf)
    | ((with_reducible refine on_dec_f ?_ ?_); (focus ((try simp only [List.length_map, List.length_cons, List.length_nil, List.length_append]); omega)); conv => whnf)
    | ((with_reducible refine on_dec_t ?_ ?_); (focus ((try simp only [List.length_map, List.length_cons, List.length_nil, List.length_append]); omega)); conv => whnf)
    | ((with_reducible refine on_dec (fun h => ?_) (fun h => ?_)) <;> (try simp only [List.length_map] at h) <;> conv => whnf)
    | ((with_reducible refine on_ndec (fun h => ?_) (fun h => ?_)) <;> (try simp only [List.length_map] at h) <;> conv => whnf)
    | ((with_reducible refine loop_go ?_); first | (refine loop2 (fun (k : Nat) (out : List Bs) => p.parts.length - k) (fun (k : Nat) (out : List Bs) => k ≤ p.parts.length ∧ out.length ≤ k ∧ p.parts.foldl (normStep p.abs) [] = (p.parts.drop k).foldl (normStep p.abs) out ∧ (p.abs = true → ∀ x ∈ out, dots x = false)) (fun (k : Nat) (out : List Bs) => [(1, .ptr 0 0 0), (2, .ptr 1 0 0), (3, .ptr 2 0 0), (13, .d (.fs (p.parts.map .str))), (14, .d (i p.parts.length)), (15, .d (i k))]) (fun (k : Nat) (out : List Bs) => [⟨[.d (PPe p)], 3, 0⟩, ⟨[.junk], 3, 0⟩, ⟨[.agg [.d (.bool p.abs), .sl 3 0 out.length 1 none, .d (.str p.stream)]], 3, 0⟩, ⟨(out.map D.str).map .d, 1, 0⟩]) (0) ([]) (by exact ⟨Nat.zero_le _, Nat.zero_le _, rfl, fun _ x hx => (by cases hx)⟩) ?_ (fun k out C hI hC => ?_); (exact ⟨[.old 0, .old 1, .old 2, .void 1], rfl, rfl, ⟨⟨rfl, rfl, rfl⟩, ⟨rfl, rfl, rfl⟩, ⟨rfl, rfl, rfl⟩, (by first | (show (_ : D) = _; with_reducible rfl) ), (by first | exact congrArg (D.int .i64) (by simp only [List.length_map]) ), (by first | exact congrArg (D.int .i64) (by omega) ), trivial⟩, ⟨⟨rfl, rfl, .inl ⟨[_], rfl, rfl⟩⟩, ⟨rfl, rfl, .inr ⟨trivial, trivial⟩⟩, ⟨rfl, rfl, .inr ⟨⟨rfl, ⟨rfl, rfl, rfl, rfl⟩, rfl, trivial⟩, trivial⟩⟩, ⟨rfl, rfl, (by decide), rfl⟩, trivial⟩⟩); all_goals (conv => whnf)))
    | ((with_reducible show C _ _); first | (refine hC (k + 1) (out) _ _ ?_ (by omega) ?_; clear hC; rotate_left; (exact ⟨[.old 0, .old 1, .old 2, .old 3], rfl, rfl, ⟨⟨rfl, rfl, rfl⟩, ⟨rfl, rfl, rfl⟩, ⟨rfl, rfl, rfl⟩, (by first | (show (_ : D) = _; with_reducible rfl) ), (by first | (show (_ : D) = _; with_reducible rfl) ), (by first | exact congrArg (D.int .i64) (by omega) ), trivial⟩, ⟨⟨rfl, rfl, .inl ⟨[_], rfl, rfl⟩⟩, ⟨rfl, rfl, .inr ⟨trivial, trivial⟩⟩, ⟨rfl, rfl, .inr ⟨⟨rfl, ⟨rfl, rfl, rfl, rfl, rfl⟩, rfl, trivial⟩, trivial⟩⟩, ⟨rfl, rfl, .inr (wksd _ _)⟩, trivial⟩⟩); (exact ⟨by omega, by omega, by rw [hI.2.2.1, norm_drop (by omega), st_dot (by assumption)], nd_keep hI.2.2.2 (st_dot (by assumption))⟩)) | (refine hC (k + 1) (out ++ [p.parts[k]]) _ _ ?_ (by omega) ?_; clear hC; rotate_left; (exact ⟨[.old 0, .old 1, .old 2, .old 5], rfl, rfl, ⟨⟨rfl, rfl, rfl⟩, ⟨rfl, rfl, rfl⟩, ⟨rfl, rfl, rfl⟩, (by first | (show (_ : D) = _; with_reducible rfl) ), (by first | (show (_ : D) = _; with_reducible rfl) ), (by first | exact congrArg (D.int .i64) (by omega) ), trivial⟩, ⟨⟨rfl, rfl, .inl ⟨[_], rfl, rfl⟩⟩, ⟨rfl, rfl, .inr ⟨trivial, trivial⟩⟩, ⟨rfl, rfl, .inr ⟨⟨rfl, ⟨rfl, rfl, (by simp), rfl, rfl⟩, rfl, trivial⟩, trivial⟩⟩, ⟨rfl, rfl, .inr (wks_add (wksd _ _) rfl)⟩, trivial⟩⟩); (exact ⟨by omega, by (simp; omega), by rw [hI.2.2.1, norm_drop (by omega), st_app (by assumption) (by assumption)], nd_keep hI.2.2.2 (st_app (by assumption) (by assumption))⟩)) | (refine hC (k + 1) (out.dropLast) _ _ ?_ (by omega) ?_; clear hC; rotate_left; (exact ⟨[.old 0, .old 1, .old 2, .cut 3 (out.length - 1)], rfl, rfl, ⟨⟨rfl, rfl, rfl⟩, ⟨rfl, rfl, rfl⟩, ⟨rfl, rfl, rfl⟩, (by first | (show (_ : D) = _; with_reducible rfl) ), (by first | (show (_ : D) = _; with_reducible rfl) ), (by first | exact congrArg (D.int .i64) (by omega) ), trivial⟩, ⟨⟨rfl, rfl, .inl ⟨[_], rfl, rfl⟩⟩, ⟨rfl, rfl, .inr ⟨trivial, trivial⟩⟩, ⟨rfl, rfl, .inr ⟨⟨rfl, ⟨⟨rfl, fun _ => (by omega)⟩, rfl, (by simp), rfl, rfl⟩, rfl, trivial⟩, trivial⟩⟩, ⟨rfl, rfl, ((out.dropLast.map D.str).map .d), _, (pop_eq (by omega)), (by simp), .inl ⟨_, rfl, rfl⟩⟩, trivial⟩⟩); (exact ⟨by omega, by (simp; omega), by rw [hI.2.2.1, norm_drop (by omega), st_pop (by assumption) (by omega) (by assumption)], nd_keep hI.2.2.2 (st_pop (by assumption) (by omega) (by assumption))⟩)) | (refine hC (k + 1) (out ++ [p.parts[k]]) _ _ ?_ (by omega) ?_; clear hC; rotate_left; (exact ⟨[.old 0, .old 1, .old 2, .old 5], rfl, rfl, ⟨⟨rfl, rfl, rfl⟩, ⟨rfl, rfl, rfl⟩, ⟨rfl, rfl, rfl⟩, (by first | (show (_ : D) = _; with_reducible rfl) ), (by first | (show (_ : D) = _; with_reducible rfl) ), (by first | exact congrArg (D.int .i64) (by omega) ), trivial⟩, ⟨⟨rfl, rfl, .inl ⟨[_], rfl, rfl⟩⟩, ⟨rfl, rfl, .inr ⟨trivial, trivial⟩⟩, ⟨rfl, rfl, .inr ⟨⟨rfl, ⟨rfl, rfl, (by simp), rfl, rfl⟩, rfl, trivial⟩, trivial⟩⟩, ⟨rfl, rfl, .inr (wks_add (wksd _ _) rfl)⟩, trivial⟩⟩); (exact ⟨by omega, by (simp; omega), by rw [hI.2.2.1, norm_drop (by omega), (st_top (by assumption) (by first | (left; omega) | (right; exact ⟨by omega, by assumption⟩))).trans (if_neg (by rw [hab]; decide))], nd_keep hI.2.2.2 ((st_top (by assumption) (by first | (left; omega) | (right; exact ⟨by omega, by assumption⟩))).trans (if_neg (by rw [hab]; decide)))⟩)))
    | (refine ⟨⟨(by first | (simp; done)), cap_ok (by simp only [List.length_map, List.length_cons, List.length_nil, List.length_append]; omega) rfl⟩, ?_⟩; conv => whnf)
    | (refine ix_map (by omega) ?_; conv => whnf)
    | (refine wrap64 (by omega) ?_; conv => whnf)
    | (refine ⟨⟨by omega, by omega⟩, ?_⟩; conv => whnf)
    | (refine nthK_rowi (l := out) (out.length - 1) (by omega) (by omega) ?_; conv => whnf)
    | (refine ⟨Nat.le_refl _, ?_⟩; conv => whnf)
    | (refine own_sl 0 (out.length - 1) (by omega) (by omega) (by omega) ?_; conv => whnf)
    | ((with_reducible refine endx_go ?_); first | (exact endxv (view_agg (vlc rfl (vlc (view_map rfl Nat.two_pos) (vlc rfl vln)))) (norm_end (by assumption) hI.2.2.1 (by first | exact .inl (by omega))); done) | (exact endxv (view_agg (vlc rfl (vlc rfl (vlc rfl vln)))) (norm_end0 (by assumption) hI.2.2.1 (by omega) hab); done))
    | fail
    )

theorem c125 (p : PP) (hn : p.parts.length < 1000000) : Fn 125 [PPe p] (PPe (normal p)) := by
  cases h : p.abs with
  | true => exact c125t p h hn
  | false => exact c125f p h hn
theorem step_mem {ab : Bool} {out : List Bs} {s x : Bs} (h : x ∈ normStep ab out s) : x ∈ out ∨ x = s := by
  unfold normStep at h
  split at h
  · exact .inl h
  · split at h
    · rcases List.mem_append.1 h with h | h
      · exact .inl h
      · exact .inr (List.mem_singleton.1 h)
    · split at h
      · exact .inl ((List.dropLast_sublist _).mem h)
      · split at h
        · exact .inl h
        · rcases List.mem_append.1 h with h | h
          · exact .inl h
          · exact .inr (List.mem_singleton.1 h)
theorem foldl_mem {ab : Bool} : ∀ (l out : List Bs) (x : Bs), x ∈ l.foldl (normStep ab) out → x ∈ out ∨ x ∈ l
  | [], out, x, h => .inl h
  | s :: l, out, x, h => by
    rcases foldl_mem l _ x h with h | h
    · rcases step_mem h with h | h
      · exact .inl h
      · exact .inr (by simp [h])
    · exact .inr (by simp [h])
theorem norm_mem {p : PP} {x : Bs} (h : x ∈ (normal p).parts) : x = [46] ∨ x ∈ p.parts := by
  unfold normal at h
  simp only at h
  split at h
  · exact .inl (List.mem_singleton.1 h)
  · rcases foldl_mem _ _ _ h with h | h
    · cases h
    · exact .inr h
theorem glue_bound (c : UInt8) (m : Nat) : ∀ (l : List Bs), (∀ x ∈ l, x.length ≤ m) → (glue c l).length ≤ l.length * (m + 1)
  | [], _ => by unfold glue; simp
  | [x], h => by unfold glue; have := h x (by simp); simp; omega
  | x :: y :: l, h => by
    have ih := glue_bound c m (y :: l) (fun z hz => h z (by simp [hz]))
    have h1 := h x (by simp)
    have e : (x :: y :: l).length * (m + 1) = (y :: l).length * (m + 1) + (m + 1) := by rw [List.length_cons, Nat.succ_mul]
    rw [e]
    unfold glue
    rw [List.length_append, List.length_cons]
    generalize (y :: l).length * (m + 1) = q at *
    generalize (glue c (y :: l)).length = g at *
    omega
theorem stream_ok {s : Bs} (h : (parse s).2 = 0) : (parse s).1.stream.length ≤ 200 := by
  have h1 := stream_len (parse s).1
  rw [text_parse h] at h1
  have : s.length ≤ 200 := by
    by_cases hb : (200 : Int) < s.length
    · rw [parse_big hb] at h; exact absurd h (by decide)
    · omega
  omega
theorem norm_text {s : Bs} (h : (parse s).2 = 0) : (text (normal (parse s).1)).length < 100000 ∧ (normal (parse s).1).parts.length < 100 := by
  obtain ⟨h1, h2⟩ := parse_good h
  have h3 := norm_len (parse s).1
  have h4 := stream_ok h
  have h5 := glue_bound 47 32 (normal (parse s).1).parts (fun x hx => by
    rcases norm_mem hx with rfl | hx
    · decide
    · exact (part_no (h1 x hx).2).2.2.2)
  have h6 : (normal (parse s).1).stream = (parse s).1.stream := (normal_abs _).2
  refine ⟨?_, by omega⟩
  unfold text
  rw [h6]
  simp only [List.length_append]
  have h7 : (if (normal (parse s).1).abs = true then ([47] : Bs) else []).length ≤ 1 := by split <;> simp
  have h8 : (if (parse s).1.stream = [] then ([] : Bs) else 58 :: (parse s).1.stream).length ≤ 201 := by
    split
    · simp
    · simp only [List.length_cons]; omega
  have h9 : (normal (parse s).1).parts.length * (32 + 1) ≤ 17 * 33 := by omega
  omega
attribute [local irreducible] text

theorem c93t (s : Bs) (h0 : (parse s).2 = 0) : Fn 93 [.str s] (.tup [.str (text (normal (parse s).1)), i 0]) := by
  obtain ⟨hn1, hn2⟩ := norm_text h0; have hpp := parse_parts s
  refine run_walkF eok Tryz.func93 rfl (by kernel_rfl) ?_
  conv => whnf
  repeat' (first
    | ((with_reducible refine on_ndec_t (by first | assumption ) ?_); conv => whnf)
    | ((with_reducible refine call_go ?_); (first | refine call_step (run_viewF (c92 s) rfl) ?_ | refine call_step (run_viewF (c125 (parse s).1 (by omega)) rfl) ?_ | refine call_step (run_view (c124 (normal (parse s).1) (by omega) (by omega)) rfl rfl) ?_); conv => whnf)
    | ((with_reducible refine endx_go ?_); first | (exact endx2 rfl; done))
    | fail
    )

end Go.Proofs.YtbkmjpmgiaiacaaGreatDoor

/-! Wh -/
namespace Go.Proofs.YtbkmjpmgiaiacaaGreatDoor
open Go Dw
set_option maxRecDepth 10000
set_option linter.unusedVariables false
set_option linter.unusedSimpArgs false
attribute [local irreducible] Run
set_option maxHeartbeats 4000000

open Paths
attribute [local irreducible] nameErr cut normal dots partErr parse text
structure Wt where
  path : Bs
  deep : Bool
  filter : Int
  room : Int
deriving DecidableEq
structure Rec where
  act : Int
  path : Bs
deriving DecidableEq
def Wt.enc (w : Wt) : D := .agg [.str w.path, .bool w.deep, i w.filter, i w.room]
def Rec.enc (x : Rec) : D := .agg [i x.act, .str x.path]
theorem normI_err0 {s : Bs} {a : Bool} (h : ¬ (parse s).2 = 0) : normI s a = ([], (parse s).2) := by unfold normI; rw [if_neg h]
theorem normI_ok0 {s : Bs} {a : Bool} (h : (parse s).2 = 0) : normI s a = ((parse s).1.parts, if text (normal (parse s).1) = s ∧ (parse s).1.abs = a ∧ (parse s).1.stream = [] then 0 else 3) := by unfold normI; rw [if_pos h]

theorem c53f (s : Bs) (a : Bool) (h0 : ¬ (parse s).2 = 0) : Fn 53 [.str s, .bool a] (.tup [.fs ((normI s a).1.map .str), i (normI s a).2]) := by
  refine run_walkF eok Tryz.func53 rfl (by kernel_rfl) ?_
  conv => whnf
  repeat' (first
    | ((with_reducible refine on_ndec_f (by assumption) ?_); conv => whnf)
    | ((with_reducible refine call_go ?_); (first | refine call_step (run_viewF (c92 s) rfl) ?_ ); conv => whnf)
    | ((with_reducible refine endx_go ?_); first | (refine endxv (view_tup (vlc rfl (vlc rfl vln))) ?_; (rw [normI_err0 h0]) <;> rfl; done))
    | fail
    )

theorem c53t (s : Bs) (a : Bool) (h0 : (parse s).2 = 0) : Fn 53 [.str s, .bool a] (.tup [.fs ((normI s a).1.map .str), i (normI s a).2]) := by
  refine run_walkF eok Tryz.func53 rfl (by kernel_rfl) ?_
  conv => whnf
  repeat' (first
    | ((with_reducible refine on_ndec_t (by first | assumption ) ?_); conv => whnf)
    | ((with_reducible refine on_dec (fun h => ?_) (fun h => ?_)) <;> (try simp only [List.length_map] at h) <;> conv => whnf)
    | ((with_reducible refine onBool_split (fun h => ?_) (fun h => ?_)) <;> conv => whnf)
    | ((with_reducible refine call_go ?_); (first | refine call_step (run_viewF (c92 s) rfl) ?_ | refine call_step (run_view (c93t s h0) rfl rfl) ?_ | refine call_step (run_view (c55 _ _) rfl rfl) ?_); conv => whnf)
    | (refine ⟨[], [(1, 20)], (by decide +kernel), ?_⟩; conv => whnf)
    | ((with_reducible refine endx_go ?_); first | (refine endxv (view_tup (vlc rfl (vlc rfl vln))) ?_; rw [normI_ok0 h0]; simp_all; done; done))
    | (refine ⟨rfl, ?_⟩; conv => whnf)
    | fail
    )

theorem c53 (s : Bs) (a : Bool) : Fn 53 [.str s, .bool a] (.tup [.fs ((normI s a).1.map .str), i (normI s a).2]) := by
  by_cases h : (parse s).2 = 0
  · exact c53t s a h
  · exact c53f s a h
theorem normI_len (s : Bs) (a : Bool) : (normI s a).1.length ≤ 1000 := by
  unfold normI
  split
  · exact parse_parts s
  · exact Nat.zero_le _
def actB (n f : Int) : Bool := decide (0 < n) && (decide ((n.toNat &&& (n - 1).toNat : Nat) = (0 : Int)) && decide (((n.toNat &&& f.toNat : Nat) : Int) = n))
theorem act_tab : ∀ n f : Fin 64, (decide ((0 : Int) < n.val) && (decide (((n.val &&& (n.val - 1) : Nat) : Int) = (0 : Int)) && decide (((n.val &&& f.val : Nat) : Int) = n.val))) = (isAct n.val && hasBit f.val n.val) := by decide +kernel
theorem actB_eq {n f : Int} (hf : 0 ≤ f ∧ f ≤ 63) : actB n f = (isAct n && hasBit f n) := by
  by_cases h : 0 ≤ n ∧ n < 64
  · have := act_tab ⟨n.toNat, by omega⟩ ⟨f.toNat, by omega⟩
    simp only at this
    rw [show ((n.toNat : Nat) : Int) = n by omega, show ((f.toNat : Nat) : Int) = f by omega] at this
    rw [← this]
    unfold actB
    rw [show (n - 1).toNat = n.toNat - 1 by omega]
  · have h1 : isAct n = false := by
      unfold isAct
      simp only [Bool.or_eq_false_iff, decide_eq_false_iff_not]
      omega
    rw [h1, Bool.false_and]
    unfold actB
    by_cases h2 : 0 < n
    · have h3 : ¬ ((n.toNat &&& f.toNat : Nat) : Int) = n := by
        intro e
        have := Nat.and_le_right (n := n.toNat) (m := f.toNat)
        omega
      simp [h3]
    · simp [h2]
theorem act63 (n : Int) : actB n 63 = isAct n := by
  rw [actB_eq (by omega)]
  by_cases h : isAct n = true
  · have : hasBit 63 n = true := by
      rcases isAct_iff.1 h with rfl | rfl | rfl | rfl | rfl | rfl <;> decide
    rw [h, this]; rfl
  · have h1 : isAct n = false := by simpa using h
    rw [h1]; rfl
attribute [local irreducible] normI isAct hasBit

theorem c59 (n f : Int) (hn : n < 9223372036854775808) (hf : 0 ≤ f ∧ f ≤ 63) : Fn 59 [i n, i f] (.bool (actB n f)) := by
  refine run_walkF eok Tryz.func59 rfl (by kernel_rfl) ?_
  conv => whnf
  repeat' (first
    | ((with_reducible refine on_dec (fun h => ?_) (fun h => ?_)) <;> (try simp only [List.length_map] at h) <;> conv => whnf)
    | (refine wrap64 (by omega) ?_; conv => whnf)
    | (refine bit_and (by omega) ?_; conv => whnf)
    | ((with_reducible refine endx_go ?_); first | (refine endx (congrArg D.bool ?_); unfold actB; (simp_all; done); done) | (refine endx (congrArg D.bool ?_); unfold actB; rw [decide_eq_false h]; rfl; done))
    | fail
    )

theorem watch_eq (p : Bs) (f r : Int) : watchErr p f r = firstE [(normI p true).2, if (within f 1 63 && within r 0 400) = true then 0 else 2] := by
  rw [normI_err]
  unfold watchErr
  rw [firstE_cons, firstE_cons, firstE_nil]
  by_cases h : pathErr p = 0
  · rw [if_pos h, if_pos h]
    by_cases h2 : 1 ≤ f ∧ f ≤ 63 ∧ 0 ≤ r ∧ r ≤ 400
    · rw [if_pos h2]; simp [within, h2]
    · rw [if_neg h2]
      have h3 : ¬ (within f 1 63 && within r 0 400) = true := by
        intro e
        simp only [within, Bool.and_eq_true, decide_eq_true_eq] at e
        exact h2 ⟨e.1.1, e.1.2, e.2.1, e.2.2⟩
      rw [if_neg h3, if_neg (by decide)]
  · rw [if_neg h, if_neg h]
theorem event_eq (a : Int) (p : Bs) : eventErr a p = firstE [if isAct a = true then 0 else 15, (normI p true).2, if decide ((0 : Int) < (normI p true).1.length) = true then 0 else 3] := by
  rw [normI_err]
  unfold eventErr
  rw [firstE_cons, firstE_cons, firstE_cons, firstE_nil]
  by_cases h0 : isAct a = true
  · rw [if_pos h0, if_pos h0, if_pos rfl]
    by_cases h : pathErr p = 0
    · rw [if_pos h, if_pos h, normI_ok h]
      have hr := root_iff h
      by_cases h2 : p = [47]
      · have h3 := hr.1 h2
        rw [if_pos h2]; simp [h3]
      · have h3 : partsOf p ≠ [] := fun e => h2 (hr.2 e)
        have h4 := List.length_pos_iff.2 h3
        have h5 : decide ((0 : Int) < (partsOf p).length) = true := decide_eq_true (by omega)
        rw [if_neg h2]; simp only [h5]; rfl
    · rw [if_neg h, if_neg h]
  · rw [if_neg h0, if_neg h0, if_neg (by decide)]
attribute [local irreducible] watchErr eventErr pathErr within

theorem c12 (w : Wt) : Fn 12 [w.enc] (i (watchErr w.path w.filter w.room)) := by
  refine run_walkF eok Tryz.func12 rfl (by kernel_rfl) ?_
  conv => whnf
  repeat' (first
    | ((with_reducible refine onBool_split (fun h => ?_) (fun h => ?_)) <;> conv => whnf)
    | ((with_reducible refine call_go ?_); (first | refine call_step (run_viewF (c53 _ _) rfl) ?_ | refine call_step (run_view (c56 _ _ _) rfl rfl) ?_ | refine call_step (run_view (c55 _ _) rfl rfl) ?_ | refine call_step (run_view (c54 [_, _] (by simp)) rfl rfl) ?_ ); conv => whnf)
    | ((with_reducible refine endx_go ?_); first | (refine endx (congrArg i ?_); rw [watch_eq]; (simp_all; done); done))
    | fail
    )

theorem c14 (x : Rec) (hx : x.act < 9223372036854775808) : Fn 14 [x.enc] (i (eventErr x.act x.path)) := by
  have hl := normI_len x.path true
  refine run_walkF eok Tryz.func14 rfl (by kernel_rfl) ?_
  conv => whnf
  repeat' (first
    | ((with_reducible refine call_go ?_); (first | refine call_step (run_viewF (c53 _ _) rfl) ?_ | refine call_step (run_view (c59 x.act 63 hx (by omega)) rfl rfl) ?_ | refine call_step (run_view (c55 _ _) rfl rfl) ?_ | refine call_step (run_view (c54 [_, _, _] (by simp)) rfl rfl) ?_ ); conv => whnf)
    | ((with_reducible refine endx_go ?_); first | (refine endx (congrArg i ?_); rw [event_eq, ← act63]; (simp_all; done); done))
    | fail
    )

theorem c95 (s : Bs) (hs : s.length < 1000000) (h0 : nameErr s = 0) : Fn 95 [.str s] (.str (fold s)) := by
  refine run_walkF eok Tryz.func95 rfl (by kernel_rfl) ?_
  conv => whnf
  repeat' (first
    | ((with_reducible refine call_go ?_); (first | refine call_step (run_view (c127 s hs h0) rfl rfl) ?_); conv => whnf)
    | ((with_reducible refine endx_go ?_); first | (exact endx rfl; done))
    | fail
    )

def belowI (bit deep : Bool) (a b : List Bs) : Bs × Bool :=
  if bit = false ∨ b.length ≤ a.length ∨ (deep = false ∧ a.length + 1 < b.length) then ([], false)
  else if sameHead a b = true then (glue 47 (b.drop a.length), true) else ([], false)
theorem bel_1 {bit deep : Bool} {a b : List Bs} (h : bit = false) : belowI bit deep a b = ([], false) := if_pos (.inl h)
theorem bel_2 {bit deep : Bool} {a b : List Bs} (h : (b.length : Int) ≤ a.length) : belowI bit deep a b = ([], false) := if_pos (.inr (.inl (by omega)))
theorem bel_3 {bit deep : Bool} {a b : List Bs} (h : deep = false) (h2 : (a.length : Int) + 1 < b.length) : belowI bit deep a b = ([], false) := if_pos (.inr (.inr ⟨h, by omega⟩))
theorem bel_4 {bit deep : Bool} {a b : List Bs} {k : Nat} (hk : k < a.length) (hkb : k < b.length) (h : ¬ fold a[k] = fold b[k]) : belowI bit deep a b = ([], false) := by
  unfold belowI
  split
  · rfl
  · rw [if_neg]
    unfold sameHead
    intro e
    have e := of_decide_eq_true e
    have e2 : (a.map fold)[k]? = ((b.take a.length).map fold)[k]? := by rw [e]
    rw [List.getElem?_map, List.getElem?_map, List.getElem?_take_of_lt hk, List.getElem?_eq_getElem hk, List.getElem?_eq_getElem hkb] at e2
    exact h (Option.some.inj e2)
theorem bel_5 {bit deep : Bool} {a b : List Bs} (h1 : ¬ bit = false) (h2 : ¬ (b.length : Int) ≤ a.length) (h3 : ¬ (deep = false ∧ (a.length : Int) + 1 < b.length)) (h : a.map fold = (b.take a.length).map fold) : belowI bit deep a b = (glue 47 (b.drop a.length), true) := by
  unfold belowI
  rw [if_neg, if_pos (show sameHead a b = true from decide_eq_true h)]
  rintro (e | e | ⟨e1, e2⟩)
  · exact h1 e
  · omega
  · exact h3 ⟨e1, by omega⟩
theorem fold_take {a b : List Bs} {k : Nat} (h : (a.take k).map fold = (b.take k).map fold) (hk : k < a.length) (hkb : k < b.length) (e : fold a[k] = fold b[k]) : (a.take (k + 1)).map fold = (b.take (k + 1)).map fold := by
  rw [List.take_succ_eq_append_getElem hk, List.take_succ_eq_append_getElem hkb, List.map_append, List.map_append, h]
  simp [e]
theorem and_tab : ∀ f n : Fin 64, isAct n.val = true → decide (((f.val &&& n.val : Nat) : Int) = 0) = !hasBit f.val n.val := by unfold isAct hasBit; decide +kernel
theorem and_bit {f n : Int} (hf : 0 ≤ f ∧ f ≤ 63) (hn : isAct n = true) : decide (((f.toNat &&& n.toNat : Nat) : Int) = 0) = !hasBit f n := by
  have h := isAct_iff.1 hn
  have := and_tab ⟨f.toNat, by omega⟩ ⟨n.toNat, by omega⟩ (by simp only; rw [show ((n.toNat : Nat) : Int) = n by omega]; exact hn)
  simp only at this
  rwa [show ((n.toNat : Nat) : Int) = n by omega, show ((f.toNat : Nat) : Int) = f by omega] at this
theorem plain_small {s : Bs} (h : pathErr s = 0) : (partsOf s).length ≤ 16 ∧ ∀ x ∈ partsOf s, nameErr x = 0 ∧ x.length ≤ 32 :=
  ⟨(parse_good (pathErr_ok h).1).2, fun x hx => ⟨plain_legal h x hx, (legal_no (plain_legal h x hx)).2.2.2⟩⟩
theorem glue_drop {l : List Bs} (h1 : l.length ≤ 16) (h2 : ∀ x ∈ l, nameErr x = 0 ∧ x.length ≤ 32) (n : Nat) : (glue 47 (l.drop n)).length < 1000 := by
  have h3 := glue_bound 47 32 (l.drop n) (fun x hx => (h2 x (List.mem_of_mem_drop hx)).2)
  have h4 : (l.drop n).length ≤ 16 := by rw [List.length_drop]; omega
  have h5 : (l.drop n).length * (32 + 1) ≤ 16 * 33 := Nat.mul_le_mul h4 (Nat.le_refl _)
  omega
attribute [local irreducible] belowI

theorem c61 (w : Wt) (x : Rec) (a b : List Bs) (hw : pathErr w.path = 0) (hx : pathErr x.path = 0) (hf : 0 ≤ w.filter ∧ w.filter ≤ 63) (ha : isAct x.act = true) (ea : partsOf w.path = a) (eb : partsOf x.path = b) : Fn 61 [w.enc, x.enc] (.tup [.str (belowI (hasBit w.filter x.act) w.deep a b).1, .bool (belowI (hasBit w.filter x.act) w.deep a b).2]) := by
  have hbit := and_bit hf ha; have hact := isAct_iff.1 ha; obtain ⟨ha1, ha2⟩ := plain_small hw; obtain ⟨hb1, hb2⟩ := plain_small hx; rw [ea] at ha1 ha2; rw [eb] at hb1 hb2; have h53w : Fn 53 [.str w.path, .bool true] (.tup [.fs (a.map .str), i 0]) := (by have := c53 w.path true; rw [normI_ok hw, ea] at this; exact this); have h53x : Fn 53 [.str x.path, .bool true] (.tup [.fs (b.map .str), i 0]) := (by have := c53 x.path true; rw [normI_ok hx, eb] at this; exact this); have h96 : Fn 96 [.fs ((List.drop a.length (List.take b.length b)).map .str), .str [47]] (.str (glue 47 (b.drop a.length))) := (by rw [List.take_length]; exact c96' _ (by rw [List.length_drop]; omega) (by have := glue_drop hb1 hb2 a.length; omega)); have hbn : ¬ ((w.filter.toNat &&& x.act.toNat : Nat) : Int) = 0 → ¬ hasBit w.filter x.act = false := (fun e e2 => e (of_decide_eq_true (by rw [hbit, e2]; rfl)))
  refine run_walkF eok Tryz.func61 rfl (by kernel_rfl) ?_
  conv => whnf
  repeat' (first
    | ((with_reducible refine on_dec (fun h => ?_) (fun h => ?_)) <;> (try simp only [List.length_map] at h) <;> conv => whnf)
    | ((with_reducible refine on_ndec (fun h => ?_) (fun h => ?_)) <;> (try simp only [List.length_map] at h) <;> conv => whnf)
    | ((with_reducible refine on_not (fun h => ?_) (fun h => ?_)) <;> conv => whnf)
    | ((with_reducible refine call_go ?_); (first | refine call_step (run_viewF h53w rfl) ?_ | refine call_step (run_viewF h53x rfl) ?_ | refine call_step (run_view (c95 (a[k]'(by omega)) (by have := (ha2 _ (List.getElem_mem (l := a) (n := k) (by omega))).2; omega) (ha2 _ (List.getElem_mem (l := a) (n := k) (by omega))).1) rfl rfl) ?_ | refine call_step (run_view (c95 (b[k]'(by omega)) (by have := (hb2 _ (List.getElem_mem (l := b) (n := k) (by omega))).2; omega) (hb2 _ (List.getElem_mem (l := b) (n := k) (by omega))).1) rfl rfl) ?_ | refine call_step (run_view h96 rfl rfl) ?_); conv => whnf)
    | (refine ⟨[], [(5, 1)], (by decide +kernel), ?_⟩; conv => whnf)
    | ((with_reducible refine loop_go ?_); first | (refine loop1 (fun (k : Nat) => a.length - k) (fun (k : Nat) => k ≤ a.length ∧ (a.take k).map fold = (b.take k).map fold) (fun (k : Nat) => [(6, .d (.fs (a.map .str))), (8, .d (.fs (b.map .str))), (50, .d (.fs (a.map .str))), (51, .d (i a.length)), (52, .d (i k))]) (fun (k : Nat) => []) (0) (by first | (simp; done) ) ?_ (fun k C hI hC => ?_); (exact ⟨[], rfl, rfl, ⟨(by first | (show (_ : D) = _; with_reducible rfl) ), (by first | (show (_ : D) = _; with_reducible rfl) ), (by first | (show (_ : D) = _; with_reducible rfl) ), (by first | exact congrArg (D.int .i64) (by simp only [List.length_map]) ), (by first | exact congrArg (D.int .i64) (by omega) ), trivial⟩, trivial⟩); all_goals (conv => whnf)))
    | ((with_reducible show C _ _); first | (refine hC (k + 1) _ _ ?_ (by omega) ?_; clear hC; rotate_left; (exact ⟨[], rfl, rfl, ⟨(by first | (show (_ : D) = _; with_reducible rfl) ), (by first | (show (_ : D) = _; with_reducible rfl) ), (by first | (show (_ : D) = _; with_reducible rfl) ), (by first | (show (_ : D) = _; with_reducible rfl) ), (by first | exact congrArg (D.int .i64) (by omega) ), trivial⟩, trivial⟩); (exact ⟨by omega, fold_take hI.2 (by omega) (by omega) (by assumption)⟩)))
    | (refine ix_map (by omega) ?_; conv => whnf)
    | (refine wrap64 (by omega) ?_; conv => whnf)
    | (refine bit_and (by omega) ?_; conv => whnf)
    | (refine wrap64 (by simp only [List.length_map]; omega) ?_; conv => whnf)
    | (refine sl_map (f := D.str) (l := b) a.length b.length (by simp only [List.length_map]) (by simp only [List.length_map]) (by omega) (fun x => rfl) ?_; conv => whnf)
    | ((with_reducible refine endx_go ?_); first | (exact endx2 (by rw [bel_1 (by simpa using hbit.symm.trans (decide_eq_true h))]); done) | (exact endx2 (by rw [bel_2 (by assumption)]); done) | (exact endx2 (by rw [bel_3 (by assumption) (by omega)]); done) | (exact endx2 (by rw [bel_4 (k := k) (by omega) (by omega) (by assumption)]); done) | (exact endx2 (by have h9 := hI.2; rw [List.take_of_length_le (by omega), show k = a.length by omega] at h9; rw [bel_5 (hbn (by assumption)) (by assumption) (by rintro ⟨e1, e2⟩; first | omega | simp_all) h9]); done))
    | fail
    )

theorem watchErr_ok {p : Bs} {f r : Int} (h : watchErr p f r = 0) : pathErr p = 0 ∧ 1 ≤ f ∧ f ≤ 63 ∧ 0 ≤ r ∧ r ≤ 400 := by
  unfold watchErr at h
  split at h
  · rename_i h1
    split at h
    · rename_i h2; exact ⟨h1, h2⟩
    · cases h
  · rename_i h1; exact absurd h h1
theorem eventErr_ok {a : Int} {p : Bs} (h : eventErr a p = 0) : isAct a = true ∧ pathErr p = 0 ∧ p ≠ [47] := by
  unfold eventErr at h
  split at h
  · rename_i h1
    split at h
    · rename_i h2
      split at h
      · cases h
      · rename_i h3; exact ⟨h1, h2, h3⟩
    · rename_i h2; exact absurd h h2
  · cases h
/-- What a watch sees, for the program and the document alike. -/
def seesW (w : Wt) (x : Rec) : Bs × Bool := belowI (hasBit w.filter x.act) w.deep (partsOf w.path) (partsOf x.path)
attribute [local irreducible] seesW
def bothErr (w : Wt) (x : Rec) : Int := if watchErr w.path w.filter w.room = 0 then eventErr x.act x.path else watchErr w.path w.filter w.room
theorem c61' (w : Wt) (x : Rec) (hw : watchErr w.path w.filter w.room = 0) (hx : eventErr x.act x.path = 0) : Fn 61 [w.enc, x.enc] (.tup [.str (seesW w x).1, .bool (seesW w x).2]) := by
  obtain ⟨h1, h2, h3, _, _⟩ := watchErr_ok hw
  obtain ⟨h4, h5, _⟩ := eventErr_ok hx
  unfold seesW
  exact c61 w x _ _ h1 h5 (by omega) h4 rfl rfl

end Go.Proofs.YtbkmjpmgiaiacaaGreatDoor

/-! Wi -/
namespace Go.Proofs.YtbkmjpmgiaiacaaGreatDoor
open Go Dw
set_option maxRecDepth 10000
set_option linter.unusedVariables false
set_option linter.unusedSimpArgs false
attribute [local irreducible] Run
set_option maxHeartbeats 4000000

open Paths
attribute [local irreducible] nameErr cut normal dots partErr parse text watchErr eventErr pathErr within isAct hasBit seesW belowI
def bitL (n : Int) : List Nat → Int
  | [] => -1
  | j :: l => if n = ((2 ^ j : Nat) : Int) then (j : Int) else bitL n l
def bits6 : List Nat := [0, 1, 2, 3, 4, 5]
def bitI (n : Int) : Int := bitL n bits6
theorem bits_drop {n : Int} {k : Nat} (h : k < 6) : bitL n (bits6.drop k) = if n = ((2 ^ k : Nat) : Int) then (k : Int) else bitL n (bits6.drop (k + 1)) := by
  have : k = 0 ∨ k = 1 ∨ k = 2 ∨ k = 3 ∨ k = 4 ∨ k = 5 := by omega
  rcases this with rfl | rfl | rfl | rfl | rfl | rfl <;> rfl
theorem bits_end {n : Int} {k : Nat} (h : ¬ ((k : Int) < 6)) : bitL n (bits6.drop k) = -1 := by
  rw [List.drop_eq_nil_of_le (show bits6.length ≤ k by show 6 ≤ k; omega)]; rfl
theorem bit_act (n : Int) : decide (0 ≤ bitI n) = isAct n := by
  unfold bitI bits6 isAct
  simp only [bitL]
  by_cases h1 : n = 1
  · subst h1; decide
  by_cases h2 : n = 2
  · subst h2; decide
  by_cases h3 : n = 4
  · subst h3; decide
  by_cases h4 : n = 8
  · subst h4; decide
  by_cases h5 : n = 16
  · subst h5; decide
  by_cases h6 : n = 32
  · subst h6; decide
  simp [h1, h2, h3, h4, h5, h6]
theorem p2 {k : Nat} (h : k < 7) : (2 : Int) ^ (min ((k : Int)).toNat 64) = ((2 ^ k : Nat) : Int) := by
  rw [Int.toNat_natCast, Nat.min_eq_left (by omega)]; simp
theorem p2_le {k : Nat} (h : k < 7) : (2 ^ k : Nat) ≤ 64 := Nat.pow_le_pow_right (by decide) (show k ≤ 6 by omega)

theorem c88 (k : Nat) (h : k < 7) : Fn 88 [i k] (i ((2 ^ k : Nat) : Int)) := by
  refine run_walkF eok Tryz.func88 rfl (by kernel_rfl) ?_
  conv => whnf
  repeat' (first
    | (refine shl_at ((2 ^ k : Nat) : Int) (by simp) (p2 h) ?_; conv => whnf)
    | (refine wrap64 (by have := p2_le h; generalize (2 ^ k : Nat) = q at *; omega) ?_; conv => whnf)
    | ((with_reducible refine endx_go ?_); first | (exact endx (congrArg i (Int.one_mul _)); done))
    | fail
    )

theorem c90 (n : Int) : Fn 90 [i n] (i (bitI n)) := by
  refine run_walkF eok Tryz.func90 rfl (by kernel_rfl) ?_
  conv => whnf
  repeat' (first
    | ((with_reducible refine on_dec (fun h => ?_) (fun h => ?_)) <;> (try simp only [List.length_map] at h) <;> conv => whnf)
    | ((with_reducible refine call_go ?_); (first | refine call_step (run_view (c88 k (by omega)) rfl rfl) ?_); conv => whnf)
    | ((with_reducible refine loop_go ?_); first | (refine loop1 (fun (k : Nat) => 6 - k) (fun (k : Nat) => k ≤ 6 ∧ bitL n bits6 = bitL n (bits6.drop k)) (fun (k : Nat) => [(0, .d (i n)), (3, .d (i k))]) (fun (k : Nat) => []) (0) (by first | (simp; done) ) ?_ (fun k C hI hC => ?_); (exact ⟨[], rfl, rfl, ⟨(by first | (show (_ : D) = _; with_reducible rfl) ), (by first | exact congrArg (D.int .i64) (by omega) ), trivial⟩, trivial⟩); all_goals (conv => whnf)))
    | ((with_reducible show C _ _); first | (refine hC (k + 1) _ _ ?_ (by omega) ?_; clear hC; rotate_left; (exact ⟨[], rfl, rfl, ⟨(by first | (show (_ : D) = _; with_reducible rfl) ), (by first | exact congrArg (D.int .i64) (by omega) ), trivial⟩, trivial⟩); (exact ⟨by omega, by rw [hI.2, bits_drop (by omega), if_neg (by assumption)]⟩)))
    | (refine wrap64 (by omega) ?_; conv => whnf)
    | ((with_reducible refine endx_go ?_); first | (exact endx (congrArg i (by unfold bitI; rw [hI.2, bits_drop (by omega), if_pos (by assumption)])); done) | (exact endx (congrArg i (by unfold bitI; rw [hI.2, bits_end (by assumption)])); done))
    | fail
    )

theorem c60 (n : Int) : Fn 60 [i n] (.bool (isAct n)) := by
  refine run_walkF eok Tryz.func60 rfl (by kernel_rfl) ?_
  conv => whnf
  repeat' (first
    | ((with_reducible refine call_go ?_); (first | refine call_step (run_view (c90 _) rfl rfl) ?_); conv => whnf)
    | ((with_reducible refine endx_go ?_); first | (exact endx (congrArg D.bool (bit_act n)); done))
    | fail
    )

theorem watch_a {p : Bs} {f r : Int} (h : ¬ pathErr p = 0) : watchErr p f r = pathErr p := by unfold watchErr; rw [if_neg h]
theorem watch_b {p : Bs} {f r : Int} (h : pathErr p = 0) (h2 : within f 1 63 = false ∨ within r 0 400 = false) : watchErr p f r = 2 := by
  unfold watchErr
  rw [if_pos h, if_neg]
  rintro ⟨a1, a2, a3, a4⟩
  unfold within at h2
  simp only [Bool.and_eq_false_iff, decide_eq_false_iff_not] at h2
  omega
theorem watch_c {p : Bs} {f r : Int} (h : pathErr p = 0) (h2 : within f 1 63 = true) (h3 : within r 0 400 = true) : watchErr p f r = 0 := by
  unfold watchErr
  unfold within at h2 h3
  simp only [Bool.and_eq_true, decide_eq_true_eq] at h2 h3
  rw [if_pos h, if_pos (by omega)]
theorem event_a {a : Int} {p : Bs} (h : isAct a = false) : eventErr a p = 15 := by unfold eventErr; rw [if_neg (by rw [h]; decide)]
theorem event_b {a : Int} {p : Bs} (h : isAct a = true) (h2 : ¬ pathErr p = 0) : eventErr a p = pathErr p := by unfold eventErr; rw [if_pos h, if_neg h2]
theorem event_c {a : Int} {p : Bs} (h : isAct a = true) (h2 : pathErr p = 0) (h3 : p = [47]) : eventErr a p = 3 := by unfold eventErr; rw [if_pos h, if_pos h2, if_pos h3]
theorem event_d {a : Int} {p : Bs} (h : isAct a = true) (h2 : pathErr p = 0) (h3 : ¬ p = [47]) : eventErr a p = 0 := by unfold eventErr; rw [if_pos h, if_pos h2, if_neg h3]

theorem c13 (w : Wt) : Fn 13 [w.enc] (i (watchErr w.path w.filter w.room)) := by
  refine run_walkF eok Tryz.func13 rfl (by kernel_rfl) ?_
  conv => whnf
  repeat' (first
    | ((with_reducible refine on_ndec (fun h => ?_) (fun h => ?_)) <;> (try simp only [List.length_map] at h) <;> conv => whnf)
    | ((with_reducible refine on_not (fun h => ?_) (fun h => ?_)) <;> conv => whnf)
    | ((with_reducible refine call_go ?_); (first | refine call_step (run_view (c57 _) rfl rfl) ?_ | refine call_step (run_view (c58 _ _ _) rfl rfl) ?_); conv => whnf)
    | ((with_reducible refine endx_go ?_); first | (exact endx (congrArg i (watch_a (by assumption)).symm); done) | (exact endx (congrArg i (watch_b (by assumption) (by first | exact .inl (by assumption) | exact .inr (by assumption))).symm); done) | (exact endx (congrArg i (watch_c (by assumption) (by assumption) (by assumption)).symm); done))
    | fail
    )

theorem c15 (x : Rec) : Fn 15 [x.enc] (i (eventErr x.act x.path)) := by
  refine run_walkF eok Tryz.func15 rfl (by kernel_rfl) ?_
  conv => whnf
  repeat' (first
    | ((with_reducible refine on_dec (fun h => ?_) (fun h => ?_)) <;> (try simp only [List.length_map] at h) <;> conv => whnf)
    | ((with_reducible refine on_ndec (fun h => ?_) (fun h => ?_)) <;> (try simp only [List.length_map] at h) <;> conv => whnf)
    | ((with_reducible refine on_not (fun h => ?_) (fun h => ?_)) <;> conv => whnf)
    | ((with_reducible refine call_go ?_); (first | refine call_step (run_view (c60 _) rfl rfl) ?_ | refine call_step (run_view (c57 _) rfl rfl) ?_); conv => whnf)
    | ((with_reducible refine endx_go ?_); first | (exact endx (congrArg i (event_a (by assumption)).symm); done) | (exact endx (congrArg i (event_b (by assumption) (by assumption)).symm); done) | (exact endx (congrArg i (event_c (by assumption) (by assumption) (by assumption)).symm); done) | (exact endx (congrArg i (event_d (by assumption) (by assumption) (by assumption)).symm); done))
    | fail
    )

attribute [local irreducible] glue
theorem div_tab : ∀ f n : Fin 64, isAct n.val = true → decide ((f.val : Int) / n.val % 2 = 0) = !hasBit f.val n.val := by unfold isAct hasBit; decide +kernel
theorem div_bit {f n : Int} (hf : 0 ≤ f ∧ f ≤ 63) (hn : isAct n = true) : decide (f / n % 2 = 0) = !hasBit f n := by
  have h := isAct_iff.1 hn
  have := div_tab ⟨f.toNat, by omega⟩ ⟨n.toNat, by omega⟩ (by simp only; rw [show ((n.toNat : Nat) : Int) = n by omega]; exact hn)
  simp only at this
  rwa [show ((n.toNat : Nat) : Int) = n by omega, show ((f.toNat : Nat) : Int) = f by omega] at this
theorem text_plain (l : List Bs) : text ⟨false, l, []⟩ = glue 47 l := by unfold text; simp

theorem c17 (w : Wt) (x : Rec) (a b : List Bs) (hw : pathErr w.path = 0) (hx : pathErr x.path = 0) (hf : 0 ≤ w.filter ∧ w.filter ≤ 63) (ha : isAct x.act = true) (ea : partsOf w.path = a) (eb : partsOf x.path = b) (s1 s2 : Bs) (b1 b2 : Bool) (e1 : (parse w.path).1 = ⟨b1, a, s1⟩) (e2 : (parse x.path).1 = ⟨b2, b, s2⟩) : Fn 17 [w.enc, x.enc] (.tup [.str (belowI (hasBit w.filter x.act) w.deep a b).1, .bool (belowI (hasBit w.filter x.act) w.deep a b).2]) := by
  have hbit := div_bit hf ha; have hact := isAct_iff.1 ha; have hdn : 0 ≤ w.filter / x.act := Int.ediv_nonneg (by omega) (by omega); obtain ⟨ha1, ha2⟩ := plain_small hw; obtain ⟨hb1, hb2⟩ := plain_small hx; rw [ea] at ha1 ha2; rw [eb] at hb1 hb2; have h62w : Fn 62 [.str w.path] (.tup [PPe ⟨b1, a, s1⟩, i 0]) := (by have := c62 w.path; rw [(pathErr_ok hw).1, e1] at this; exact this); have h62x : Fn 62 [.str x.path] (.tup [PPe ⟨b2, b, s2⟩, i 0]) := (by have := c62 x.path; rw [(pathErr_ok hx).1, e2] at this; exact this); have hgd := glue_drop hb1 hb2 a.length; have h64 : Fn 64 [PPe ⟨false, List.drop a.length (List.take b.length b), []⟩] (.str (glue 47 (b.drop a.length))) := (by rw [List.take_length]; have := c64 ⟨false, b.drop a.length, []⟩ (by rw [text_plain]; omega) (by show (b.drop a.length).length < 1000000; rw [List.length_drop]; omega); rw [text_plain] at this; exact this); have hbn : ¬ w.filter / x.act % 2 = 0 → ¬ hasBit w.filter x.act = false := (fun e e2 => e (of_decide_eq_true (by rw [hbit, e2]; rfl)))
  refine run_walkF eok Tryz.func17 rfl (by kernel_rfl) ?_
  conv => whnf
  repeat' (first
    | ((with_reducible refine on_dec (fun h => ?_) (fun h => ?_)) <;> (try simp only [List.length_map] at h) <;> conv => whnf)
    | ((with_reducible refine on_ndec (fun h => ?_) (fun h => ?_)) <;> (try simp only [List.length_map] at h) <;> conv => whnf)
    | ((with_reducible refine on_not (fun h => ?_) (fun h => ?_)) <;> conv => whnf)
    | ((with_reducible refine call_go ?_); (first | refine call_step (run_viewF h62w rfl) ?_ | refine call_step (run_viewF h62x rfl) ?_ | refine call_step (run_view (c63 (a[k]'(by omega)) (b[k]'(by omega)) (by have := (ha2 _ (List.getElem_mem (l := a) (n := k) (by omega))).2; omega) (by have := (hb2 _ (List.getElem_mem (l := b) (n := k) (by omega))).2; omega)) rfl rfl) ?_ | refine call_step (run_view h64 rfl rfl) ?_); conv => whnf)
    | (refine ⟨[], [], (by decide +kernel), ?_⟩; conv => whnf)
    | ((with_reducible refine loop_go ?_); first | (refine loop1 (fun (k : Nat) => a.length - k) (fun (k : Nat) => k ≤ a.length ∧ (a.take k).map fold = (b.take k).map fold) (fun (k : Nat) => [(6, .ptr 2 0 0), (8, .ptr 3 0 0), (10, .d (i a.length)), (11, .d (i k))]) (fun (k : Nat) => [⟨[.d w.enc], 4, 0⟩, ⟨[.d x.enc], 2, 0⟩, ⟨[.d (PPe ⟨b1, a, s1⟩)], 3, 0⟩, ⟨[.d (PPe ⟨b2, b, s2⟩)], 3, 0⟩]) (0) (by first | (simp; done) ) ?_ (fun k C hI hC => ?_); (exact ⟨[.old 0, .old 1, .old 2, .old 3], rfl, rfl, ⟨⟨rfl, rfl, rfl⟩, ⟨rfl, rfl, rfl⟩, (by first | exact congrArg (D.int .i64) (by simp only [List.length_map]) ), (by first | exact congrArg (D.int .i64) (by omega) ), trivial⟩, ⟨⟨rfl, rfl, .inl ⟨[_], rfl, rfl⟩⟩, ⟨rfl, rfl, .inl ⟨[_], rfl, rfl⟩⟩, ⟨rfl, rfl, .inl ⟨[_], rfl, rfl⟩⟩, ⟨rfl, rfl, .inl ⟨[_], rfl, rfl⟩⟩, trivial⟩⟩); all_goals (conv => whnf)))
    | ((with_reducible show C _ _); first | (refine hC (k + 1) _ _ ?_ (by omega) ?_; clear hC; rotate_left; (exact ⟨[.old 0, .old 1, .old 2, .old 3], rfl, rfl, ⟨⟨rfl, rfl, rfl⟩, ⟨rfl, rfl, rfl⟩, (by first | (show (_ : D) = _; with_reducible rfl) ), (by first | exact congrArg (D.int .i64) (by omega) ), trivial⟩, ⟨⟨rfl, rfl, .inl ⟨[_], rfl, rfl⟩⟩, ⟨rfl, rfl, .inl ⟨[_], rfl, rfl⟩⟩, ⟨rfl, rfl, .inl ⟨[_], rfl, rfl⟩⟩, ⟨rfl, rfl, .inl ⟨[_], rfl, rfl⟩⟩, trivial⟩⟩); (exact ⟨by omega, fold_take hI.2 (by omega) (by omega) (by assumption)⟩)))
    | (refine wrap64 (by omega) ?_; conv => whnf)
    | (refine ix_map (l := a) (f := D.str) (by omega) ?_; conv => whnf)
    | (refine ix_map (l := b) (f := D.str) (by omega) ?_; conv => whnf)
    | (refine div64 (by omega) ?_; conv => whnf)
    | (refine rem_nn (by omega) ?_; conv => whnf)
    | (refine wrap64 (by simp only [List.length_map]; omega) ?_; conv => whnf)
    | (refine sl_map (f := D.str) (l := b) a.length b.length (by simp only [List.length_map]) (by simp only [List.length_map]) (by omega) (fun x => rfl) ?_; conv => whnf)
    | ((with_reducible refine endx_go ?_); first | (exact endx2 (by rw [bel_1 (by simpa using hbit.symm.trans (decide_eq_true h))]); done) | (exact endx2 (by rw [bel_2 (by assumption)]); done) | (exact endx2 (by rw [bel_3 (by assumption) (by omega)]); done) | (exact endx2 (by rw [bel_4 (k := k) (by omega) (by omega) (by assumption)]); done) | (exact endx2 (by have h9 := hI.2; rw [List.take_of_length_le (by omega), show k = a.length by omega] at h9; rw [bel_5 (hbn (by assumption)) (by assumption) (by rintro ⟨e1, e2⟩; first | omega | simp_all) h9]); done))
    | fail
    )

theorem c17' (w : Wt) (x : Rec) (hw : watchErr w.path w.filter w.room = 0) (hx : eventErr x.act x.path = 0) : Fn 17 [w.enc, x.enc] (.tup [.str (seesW w x).1, .bool (seesW w x).2]) := by
  obtain ⟨h1, h2, h3, _, _⟩ := watchErr_ok hw
  obtain ⟨h4, h5, _⟩ := eventErr_ok hx
  unfold seesW
  exact c17 w x _ _ h1 h5 (by omega) h4 rfl rfl _ _ _ _ rfl rfl

end Go.Proofs.YtbkmjpmgiaiacaaGreatDoor

/-! Aw -/
namespace Go.Proofs.YtbkmjpmgiaiacaaGreatDoor
open Go Dw Paths
set_option maxRecDepth 100000
def g12 : List D → Option D
  | [.agg [.str p, .bool _, .int .i64 f, .int .i64 r]] => frcI (watchErr p f r) fun n => some (i n)
  | _ => none
def g14 : List D → Option D
  | [.agg [.int .i64 a, .str p]] => if decide (a < 9223372036854775808) then frcI (eventErr a p) fun n => some (i n) else none
  | _ => none
def g61 : List D → Option D
  | [.agg [.str p, .bool d, .int .i64 f, .int .i64 r], .agg [.int .i64 a, .str q]] =>
    if decide (watchErr p f r = 0) && decide (eventErr a q = 0) then some (.tup [.str (seesW ⟨p, d, f, r⟩ ⟨a, q⟩).1, .bool (seesW ⟨p, d, f, r⟩ ⟨a, q⟩).2]) else none
  | _ => none
def g149 : List D → Option D
  | [.str s] => if decide (s.length < 1000000) then frcI (nameErr s) fun n => some (i n) else none
  | _ => none
def orcA (f : Nat) : Option Orc := if Nat.beq f 12 then some (.fn g12) else if Nat.beq f 14 then some (.fn g14) else if Nat.beq f 61 then some (.fn g61) else if Nat.beq f 149 then some (.fn g149) else orc28 f
theorem horcA : OrcOk Tryz.prog orcA := by
  intro f o h
  unfold orcA at h
  split at h
  · rename_i h1; cases h; rw [Nat.eq_of_beq_eq_true h1]
    intro xs y e
    unfold g12 at e
    split at e
    · rename_i p d f r
      rw [frcI_eq] at e; cases e; exact c12 ⟨p, d, f, r⟩
    · cases e
  split at h
  · rename_i h1; cases h; rw [Nat.eq_of_beq_eq_true h1]
    intro xs y e
    unfold g14 at e
    split at e
    · split at e
      · rename_i a p h2
        rw [frcI_eq] at e; cases e; exact c14 ⟨a, p⟩ (of_decide_eq_true h2)
      · cases e
    · cases e
  split at h
  · rename_i h1; cases h; rw [Nat.eq_of_beq_eq_true h1]
    intro xs y e
    unfold g61 at e
    split at e
    · rename_i p d f r a q
      split at e
      · rename_i h2
        rw [Bool.and_eq_true] at h2
        cases e; exact c61' ⟨p, d, f, r⟩ ⟨a, q⟩ (of_decide_eq_true h2.1) (of_decide_eq_true h2.2)
      · cases e
    · cases e
  split at h
  · rename_i h1; cases h; rw [Nat.eq_of_beq_eq_true h1]
    intro xs y e
    unfold g149 at e
    split at e
    · split at e
      · rename_i h2
        rw [frcI_eq] at e; cases e; exact c149 _ (of_decide_eq_true h2)
      · cases e
    · cases e
  · exact horc28 f o h
def dmA (f : Nat) : Bool := [45, 54, 55, 56, 59, 84, 93, 120, 121, 122, 123, 124, 146, 148, 165, 166, 33, 107, 77, 140, 160, 174, 187, 180].any (Nat.beq f)
theorem c11 : Fn 11 [] (.bool true) :=
  run_ev2 (fs := Tryz.prog.funcs.toList) (orc := orcA) eok horcA (xs := []) rfl names_ok dmA 300 60 (by kernel_rfl) rfl rfl
end Go.Proofs.YtbkmjpmgiaiacaaGreatDoor
