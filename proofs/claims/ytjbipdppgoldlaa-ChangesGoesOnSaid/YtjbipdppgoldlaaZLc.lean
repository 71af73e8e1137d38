/-
  Chapter 24: ChangesGoesOn holds at every input: no condition of ours.
-/
import Derived.Test.YtjbipdppgoldlaaGrpH
set_option linter.unusedVariables false
set_option linter.unusedSimpArgs false

/-! Xd -/
namespace Go.Proofs.Ytjbipdppgoldlaa
open Go Dw
set_option maxRecDepth 10000
set_option linter.unusedVariables false
set_option linter.unusedSimpArgs false
attribute [local irreducible] Run
set_option maxHeartbeats 4000000

def rdrD (R : Nat) (only : Bool) (l : List UInt8) : D := .agg [.int .u16 R, .bool only, .fs (l.map fun b => .int .u8 b.toNat)]
theorem c12all {j : Jrn} (hf : fewB j = true) (hj : (checkJ j).2 = 0) {R : Int} {only : Bool} (hR : 0 ≤ R ∧ R ≤ 4095) : Fn 12 [j.enc, .agg [i j.id, i j.first, i R, .bool only, i 200]] (.tup [.fs ((kp R only j.recs).map Chg.enc), i j.next, i 0]) := by
  have := c12 j ⟨j.id, j.first, R, only, 200⟩ (fewB_bd hf).1 (fewB_bd hf).2.1 (fewB_bd hf).2.2
  rw [goes_all hj hR] at this
  exact this
theorem c12k {j : Jrn} (hf : fewB j = true) (hj : (checkJ j).2 = 0) {R : Int} {only : Bool} (k : Nat) (c : Int) (hk : k ≤ j.recs.length) (hR : 0 ≤ R ∧ R ≤ 4095) (hc : 1 ≤ c ∧ c ≤ 200) : Fn 12 [j.enc, .agg [i j.id, i (posA j k), i R, .bool only, i c]] (.tup [.fs ((seg j R only k c).map Chg.enc), i (posA j (k + mAt j R only k c)), i 0]) := by
  have := c12 j (qk j R only k c) (fewB_bd hf).1 (fewB_bd hf).2.1 (fewB_bd hf).2.2
  rw [(goes_at hj hk hR hc).2.2.1] at this
  exact this
theorem on_end {j : Jrn} (V : Valid j) {k : Nat} (hk : k ≤ j.recs.length) {p : Int} (hp : p = posA j k) {A B : Prop} (ha : k < j.recs.length → A) (hb : j.recs.length ≤ k → B) : onBool (!decide (p = j.next)) A B := by
  subst hp
  by_cases h : k < j.recs.length
  · have := posA_lt V h (Nat.le_refl _)
    rw [posA_end V] at this
    exact on_ndec_f (by omega) (ha h)
  · have e : k = j.recs.length := by omega
    exact on_ndec_t (by rw [e, posA_end V]) (hb (by omega))
attribute [local irreducible] fewB checkJ within kp seg gotK posA mAt woI hasR

theorem c3m (j : Jrn) (R : Nat) (hR : R < 65536) (only : Bool) (l : List UInt8) (hf : fewB j = true) (hj : (checkJ j).2 = 0) (hl : l.length ≤ 20) : Fn 3 [j.enc, rdrD R only l] (.bool true) := by
  have V := valid_of hj; have vn := V.nums; have vr := V.recs; have hkl := kp_len ((R : Int) % 4096) only j.recs; have hfn : j.first ≤ j.next := (by have := posA_le V (Nat.zero_le _) (Nat.le_refl _); rw [posA_zero, posA_end V] at this; exact this)
  refine run_walkF eok Try.func3 rfl (by kernel_rfl) ?_
  conv => whnf
  repeat' (first
    | ((with_reducible refine on_dec_t (by assumption) ?_); conv => whnf)
    | ((with_reducible refine onBool_t (by assumption) ?_); conv => whnf)
    | ((with_reducible refine onBool_f (by assumption) ?_); conv => whnf)
    | ((with_reducible refine on_nt (by assumption) ?_); conv => whnf)
    | ((with_reducible refine on_ndec_t (by first | assumption | rfl) ?_); conv => whnf)
    | ((with_reducible refine on_end V hI.1 hpos (fun hk1 => ?_) (fun hk2 => ?_)) <;> conv => whnf)
    | ((with_reducible refine on_dec_f ?_ ?_); (focus ((try simp only [List.length_map, List.length_cons, List.length_nil, List.length_append]); omega)); conv => whnf)
    | ((with_reducible refine on_dec_t ?_ ?_); (focus ((try simp only [List.length_map, List.length_cons, List.length_nil, List.length_append]); omega)); conv => whnf)
    | ((with_reducible refine on_dec (fun h => ?_) (fun h => ?_)) <;> (try simp only [List.length_map] at h) <;> conv => whnf)
    | ((with_reducible refine on_ndec (fun h => ?_) (fun h => ?_)) <;> (try simp only [List.length_map] at h) <;> conv => whnf)
    | ((with_reducible refine on_not (fun h => ?_) (fun h => ?_)) <;> conv => whnf)
    | ((with_reducible refine onBool_split (fun h => ?_) (fun h => ?_)) <;> conv => whnf)
    | ((with_reducible refine call_go ?_); (obtain ⟨g11, g12, -, g14, -⟩ := goes_at hj (R := ((R : Int) % 4096)) (only := only) (k := k) (c := 1) hI.1 (by omega) (by omega)); (have g13 := g12 hk1); (have g15 := posA_lt V (i := k) (k := k + mAt j ((R : Int) % 4096) only k 1) (by omega) g11); (have g16 := seg_len V ((R : Int) % 4096) only k 1); refine call_step (run_viewF (c12k (R := ((R : Int) % 4096)) (only := only) hf hj k 1 (by omega) (by omega) (by omega)) rfl) ?_; conv => whnf)
    | ((with_reducible refine call_go ?_); (first | refine call_step (run_view c9 rfl rfl) ?_ | refine call_step (run_view (c10g _) rfl rfl) ?_ | refine call_step (run_view (c11 _ (fewB_bd hf).1 (fewB_bd hf).2.1 (fewB_bd hf).2.2) rfl rfl) ?_ | refine call_step (run_data (c13 _ (fewB_bd hf).1 (fewB_bd hf).2.2) _) ?_ | refine call_step (run_viewF (c12all hf hj (by omega)) rfl) ?_ | refine call_step (run_viewF (c12k (R := ((R : Int) % 4096)) (only := only) hf hj k c2 (by omega) (by omega) (by omega)) rfl) ?_ | refine call_step (run_view (c14 ((kp ((R : Int) % 4096) only j.recs)[k]'(by omega)).reasons ((R : Int) % 4096) (kp_wanted V (by omega) (List.getElem_mem _)).2.2 (by omega)) rfl rfl) ?_ | refine call_step (run_view (c15 _ 2048 (by decide)) rfl rfl) ?_ | refine call_step (run_view (c16 (gotK j ((R : Int) % 4096) only k) (kp ((R : Int) % 4096) only j.recs) (by omega) (by omega)) rfl (vlc (view_map rfl Nat.two_pos) (vlc rfl vln))) ?_); conv => whnf)
    | (refine ⟨[], [], (by decide +kernel), ?_⟩; conv => whnf)
    | (refine ⟨[], [(2, 1)], (by decide +kernel), ?_⟩; conv => whnf)
    | (refine ⟨[], [(12, 7)], (by decide +kernel), ?_⟩; conv => whnf)
    | ((with_reducible refine loop_go ?_); first | (refine loop1 (fun (k : Nat) => (kp ((R : Int) % 4096) only j.recs).length - k) (fun (k : Nat) => k ≤ (kp ((R : Int) % 4096) only j.recs).length) (fun (k : Nat) => [(2, .ptr 0 0 0), (3, .ptr 1 0 0), (6, .d (.bool only)), (7, .d (.fs (l.map fun b => .int .u8 b.toNat))), (8, .ptr 2 0 0), (9, .d (.fs ((kp ((R : Int) % 4096) only j.recs).map Chg.enc))), (12, .d (i k))]) (fun (k : Nat) => [⟨[.d j.enc], 6, 0⟩, ⟨[.d (rdrD R only l)], 3, 0⟩, ⟨[.d (qk j ((R : Int) % 4096) only 0 200).enc], 5, 0⟩]) (0) (by exact Nat.zero_le _) ?_ (fun k C hI hC => ?_); (exact ⟨[.old 0, .old 1, .old 2], rfl, rfl, ⟨⟨rfl, rfl, rfl⟩, ⟨rfl, rfl, rfl⟩, (by first | (show (_ : D) = _; with_reducible rfl) | (refine congrArg D.bool ?_; simp_all)), (by first | (show (_ : D) = _; with_reducible rfl) | exact rfl), ⟨rfl, rfl, rfl⟩, (by first | (show (_ : D) = _; with_reducible rfl) | exact rfl), (by first | (show (_ : D) = _; with_reducible rfl) | exact congrArg (D.int .i64) (by omega)), trivial⟩, ⟨⟨rfl, rfl, .inl ⟨[_], rfl, rfl⟩⟩, ⟨rfl, rfl, .inl ⟨[_], rfl, rfl⟩⟩, ⟨rfl, rfl, .inr ⟨⟨rfl, rfl, (congrArg (D.int .i64) (posA_zero j).symm), rfl, rfl, rfl, trivial⟩, trivial⟩⟩, trivial⟩⟩); all_goals (conv => whnf)) | (refine loop3 (fun (k : Nat) (n : Nat) (c : Int) => j.recs.length - k) (fun (k : Nat) (n : Nat) (c : Int) => k ≤ j.recs.length ∧ n ≤ k) (fun (k : Nat) (n : Nat) (c : Int) => [(2, .ptr 0 0 0), (7, .d (.fs (l.map fun b => .int .u8 b.toNat))), (8, .ptr 2 0 0), (9, .d (.fs ((kp ((R : Int) % 4096) only j.recs).map Chg.enc))), (13, .sl 3 0 (gotK j ((R : Int) % 4096) only k).length 8 none), (14, .d (i n))]) (fun (k : Nat) (n : Nat) (c : Int) => [⟨[.d j.enc], 6, 0⟩, ⟨[.d (rdrD R only l)], 3, 0⟩, ⟨[.d (qk j ((R : Int) % 4096) only k c).enc], 5, 0⟩, ⟨((gotK j ((R : Int) % 4096) only k).map Chg.enc).map .d, 8, 0⟩]) (0) (0) (200) (by exact ⟨Nat.zero_le _, Nat.le_refl _⟩) ?_ (fun k n c C hI hC => ?_); (exact ⟨[.old 0, .old 1, .old 2, .void 8], rfl, rfl, ⟨⟨rfl, rfl, rfl⟩, rfl, ⟨rfl, rfl, rfl⟩, rfl, ⟨rfl, rfl, (by rw [got_zero]; rfl), rfl⟩, rfl, trivial⟩, ⟨⟨rfl, rfl, .inl ⟨[_], rfl, rfl⟩⟩, ⟨rfl, rfl, .inl ⟨[_], rfl, rfl⟩⟩, ⟨rfl, rfl, .inl ⟨[_], rfl, rfl⟩⟩, ⟨(by rw [got_zero]; rfl), rfl, (by decide), rfl⟩, trivial⟩⟩); have hpos : (qk j ((R : Int) % 4096) only k c).pos = posA j k := rfl; have hp0 := posA_bd V hI.1; have lg := got_len V ((R : Int) % 4096) only k; all_goals (conv => whnf)))
    | ((with_reducible show C _ _); first | (refine hC (k + 1) _ _ ?_ (by omega) ?_; clear hC; rotate_left; (exact ⟨[.old 0, .old 1, .old 2], rfl, rfl, ⟨⟨rfl, rfl, rfl⟩, ⟨rfl, rfl, rfl⟩, (by first | (show (_ : D) = _; with_reducible rfl) | (refine congrArg D.bool ?_; simp_all)), (by first | (show (_ : D) = _; with_reducible rfl) | exact rfl), ⟨rfl, rfl, rfl⟩, (by first | (show (_ : D) = _; with_reducible rfl) | exact rfl), (by first | (show (_ : D) = _; with_reducible rfl) | exact congrArg (D.int .i64) (by omega)), trivial⟩, ⟨⟨rfl, rfl, .inl ⟨[_], rfl, rfl⟩⟩, ⟨rfl, rfl, .inl ⟨[_], rfl, rfl⟩⟩, ⟨rfl, rfl, .inl ⟨[_], rfl, rfl⟩⟩, trivial⟩⟩); (exact (by omega : k + 1 ≤ (kp ((R : Int) % 4096) only j.recs).length))) | (refine hC (k + mAt j ((R : Int) % 4096) only k 1) (n + 1) (1) _ _ ?_ (by omega) ?_; clear hC; rotate_left; (exact ⟨[.old 0, .old 1, .old 2, .old 4], rfl, rfl, ⟨⟨rfl, rfl, rfl⟩, (by first | (show (_ : D) = _; with_reducible rfl) | exact rfl), ⟨rfl, rfl, rfl⟩, (by first | (show (_ : D) = _; with_reducible rfl) | exact rfl), ⟨rfl, rfl, (by rw [(got_add j ((R : Int) % 4096) only k 1)]; (simp only [List.length_append, List.length_map]) <;> rfl), rfl, rfl⟩, (by first | (show (_ : D) = _; with_reducible rfl) | exact congrArg (D.int .i64) (by omega)), trivial⟩, ⟨⟨rfl, rfl, .inl ⟨[_], rfl, rfl⟩⟩, ⟨rfl, rfl, .inl ⟨[_], rfl, rfl⟩⟩, ⟨rfl, rfl, .inr ⟨⟨rfl, rfl, rfl, rfl, rfl, rfl, trivial⟩, trivial⟩⟩, ⟨rfl, rfl, .inl ⟨(gotK j ((R : Int) % 4096) only k ++ seg j ((R : Int) % 4096) only k 1).map Chg.enc, (by simp only [List.map_append]), (by rw [(got_add j ((R : Int) % 4096) only k 1)])⟩⟩, trivial⟩⟩); (exact ⟨by omega, by omega⟩)) | (refine hC (k + mAt j ((R : Int) % 4096) only k 1) (n + 1) (1) _ _ ?_ (by omega) ?_; clear hC; rotate_left; (exact ⟨[.old 0, .old 1, .old 2, .old 3], rfl, rfl, ⟨⟨rfl, rfl, rfl⟩, (by first | (show (_ : D) = _; with_reducible rfl) | exact rfl), ⟨rfl, rfl, rfl⟩, (by first | (show (_ : D) = _; with_reducible rfl) | exact rfl), ⟨rfl, rfl, (by (have hz : seg j ((R : Int) % 4096) only k 1 = [] := List.eq_nil_of_length_eq_zero (by (try simp only [List.length_map] at h); omega)); rw [(got_add j ((R : Int) % 4096) only k 1), hz]; simp), rfl, rfl⟩, (by first | (show (_ : D) = _; with_reducible rfl) | exact congrArg (D.int .i64) (by omega)), trivial⟩, ⟨⟨rfl, rfl, .inl ⟨[_], rfl, rfl⟩⟩, ⟨rfl, rfl, .inl ⟨[_], rfl, rfl⟩⟩, ⟨rfl, rfl, .inr ⟨⟨rfl, rfl, rfl, rfl, rfl, rfl, trivial⟩, trivial⟩⟩, ⟨rfl, rfl, .inl ⟨(gotK j ((R : Int) % 4096) only k).map Chg.enc, (by (have hz : seg j ((R : Int) % 4096) only k 1 = [] := List.eq_nil_of_length_eq_zero (by (try simp only [List.length_map] at h); omega)); rw [hz]; exact over_nil), (by (have hz : seg j ((R : Int) % 4096) only k 1 = [] := List.eq_nil_of_length_eq_zero (by (try simp only [List.length_map] at h); omega)); rw [(got_add j ((R : Int) % 4096) only k 1), hz, List.append_nil])⟩⟩, trivial⟩⟩); (exact ⟨by omega, by omega⟩)) | (refine hC (k + mAt j ((R : Int) % 4096) only k c2) (n + 1) (c2) _ _ ?_ (by omega) ?_; clear hC; rotate_left; (exact ⟨[.old 0, .old 1, .old 2, .old 4], rfl, rfl, ⟨⟨rfl, rfl, rfl⟩, (by first | (show (_ : D) = _; with_reducible rfl) | exact rfl), ⟨rfl, rfl, rfl⟩, (by first | (show (_ : D) = _; with_reducible rfl) | exact rfl), ⟨rfl, rfl, (by rw [(got_add j ((R : Int) % 4096) only k c2)]; (simp only [List.length_append, List.length_map]) <;> rfl), rfl, rfl⟩, (by first | (show (_ : D) = _; with_reducible rfl) | exact congrArg (D.int .i64) (by omega)), trivial⟩, ⟨⟨rfl, rfl, .inl ⟨[_], rfl, rfl⟩⟩, ⟨rfl, rfl, .inl ⟨[_], rfl, rfl⟩⟩, ⟨rfl, rfl, .inr ⟨⟨rfl, rfl, rfl, rfl, rfl, rfl, trivial⟩, trivial⟩⟩, ⟨rfl, rfl, .inl ⟨(gotK j ((R : Int) % 4096) only k ++ seg j ((R : Int) % 4096) only k c2).map Chg.enc, (by simp only [List.map_append]), (by rw [(got_add j ((R : Int) % 4096) only k c2)])⟩⟩, trivial⟩⟩); (exact ⟨by omega, by omega⟩)) | (refine hC (k + mAt j ((R : Int) % 4096) only k c2) (n + 1) (c2) _ _ ?_ (by omega) ?_; clear hC; rotate_left; (exact ⟨[.old 0, .old 1, .old 2, .old 3], rfl, rfl, ⟨⟨rfl, rfl, rfl⟩, (by first | (show (_ : D) = _; with_reducible rfl) | exact rfl), ⟨rfl, rfl, rfl⟩, (by first | (show (_ : D) = _; with_reducible rfl) | exact rfl), ⟨rfl, rfl, (by (have hz : seg j ((R : Int) % 4096) only k c2 = [] := List.eq_nil_of_length_eq_zero (by (try simp only [List.length_map] at h); omega)); rw [(got_add j ((R : Int) % 4096) only k c2), hz]; simp), rfl, rfl⟩, (by first | (show (_ : D) = _; with_reducible rfl) | exact congrArg (D.int .i64) (by omega)), trivial⟩, ⟨⟨rfl, rfl, .inl ⟨[_], rfl, rfl⟩⟩, ⟨rfl, rfl, .inl ⟨[_], rfl, rfl⟩⟩, ⟨rfl, rfl, .inr ⟨⟨rfl, rfl, rfl, rfl, rfl, rfl, trivial⟩, trivial⟩⟩, ⟨rfl, rfl, .inl ⟨(gotK j ((R : Int) % 4096) only k).map Chg.enc, (by (have hz : seg j ((R : Int) % 4096) only k c2 = [] := List.eq_nil_of_length_eq_zero (by (try simp only [List.length_map] at h); omega)); rw [hz]; exact over_nil), (by (have hz : seg j ((R : Int) % 4096) only k c2 = [] := List.eq_nil_of_length_eq_zero (by (try simp only [List.length_map] at h); omega)); rw [(got_add j ((R : Int) % 4096) only k c2), hz, List.append_nil])⟩⟩, trivial⟩⟩); (exact ⟨by omega, by omega⟩)))
    | (refine wrap64g 1 5 (by omega) (by decide) (fun c2 hc2 => ?_); (obtain ⟨g21, g22, -, g24, -⟩ := goes_at hj (R := ((R : Int) % 4096)) (only := only) (k := k) (c := c2) hI.1 (by omega) (by omega)); (have g23 := g22 hk1); (have g25 := posA_lt V (i := k) (k := k + mAt j ((R : Int) % 4096) only k c2) (by omega) g21); (have g26 := seg_len V ((R : Int) % 4096) only k c2); conv => whnf)
    | (refine ⟨⟨(by first | rfl | (simp; done)), cap_ok (by simp only [List.length_map, List.length_cons, List.length_nil, List.length_append]; omega) rfl⟩, ?_⟩; conv => whnf)
    | (refine ⟨mem_one ⟨rfl, rfl⟩, ?_⟩; conv => whnf)
    | (refine ⟨(by intro y hy; obtain ⟨x, _, rfl⟩ := List.mem_map.1 hy; first | rfl | exact ⟨rfl, rfl⟩), ?_⟩; conv => whnf)
    | (refine ⟨cap_ok (by first | omega | (simp only [List.length_map]; omega)) rfl, ?_⟩; conv => whnf)
    | (refine ix_map (by omega) ?_; conv => whnf)
    | (refine ix_str (by omega) ?_; conv => whnf)
    | (refine wrap64 (by omega) ?_; conv => whnf)
    | (refine rem_nat (by rw [List.length_map]; omega) ?_; conv => whnf)
    | (refine ix_map (l := l) (k := n % (l.map fun b => D.int .u8 b.toNat).length) (f := fun b => D.int .u8 b.toNat) (by rw [List.length_map]; exact Nat.mod_lt _ (by omega)) ?_; conv => whnf)
    | (refine wrap64u8 ?_; conv => whnf)
    | (refine rem_nn (by omega) ?_; conv => whnf)
    | (refine ix_at (l := (kp ((R : Int) % 4096) only j.recs)) (f := Chg.enc) (k - 1) (by omega) (by omega) ?_; conv => whnf)
    | (refine ⟨⟨(by simp), cap_ok (by simp only [List.length_map]; omega) rfl⟩, ?_⟩; conv => whnf)
    | (refine wrap64 (by omega) ?_; conv => whnf)
    | ((have hw := kp_wanted V (R := ((R : Int) % 4096)) (only := only) (by omega) (List.getElem_mem (n := k) (by omega))); exact absurd h hw.1)
    | ((have hw := kp_wanted V (R := ((R : Int) % 4096)) (only := only) (by omega) (List.getElem_mem (n := k) (by omega))); simp_all; done)
    | ((have hs := kp_sorted V ((R : Int) % 4096) only (k := k - 1) (by omega)); exfalso; simp only [show k - 1 + 1 = k by omega] at hs; omega)
    | (exfalso; simp only [List.length_map, List.length_cons, List.length_nil, List.length_append] at h; omega)
    | ((with_reducible refine endx_go ?_); first | (exact endx rfl; done) | (exact endx (congrArg D.bool (by rw [got_all j ((R : Int) % 4096) only hk2]; simp)); done))
    | (refine ⟨rfl, ?_⟩; conv => whnf)
    | fail
    )

theorem c3f (j : Jrn) (R : Nat) (hR : R < 65536) (only : Bool) (l : List UInt8) (hf : fewB j = false) : Fn 3 [j.enc, rdrD R only l] (.bool true) := by
  refine run_walkF eok Try.func3 rfl (by kernel_rfl) ?_
  conv => whnf
  repeat' (first
    | ((with_reducible refine on_dec_t (by assumption) ?_); conv => whnf)
    | ((with_reducible refine onBool_t (by assumption) ?_); conv => whnf)
    | ((with_reducible refine onBool_f (by assumption) ?_); conv => whnf)
    | ((with_reducible refine on_nt (by assumption) ?_); conv => whnf)
    | ((with_reducible refine on_ndec_t (by first | assumption | rfl) ?_); conv => whnf)
    | ((with_reducible refine on_nf (by assumption) ?_); conv => whnf)
    | ((with_reducible refine on_ndec_f (by assumption) ?_); conv => whnf)
    | ((with_reducible refine on_dec_f ?_ ?_); (focus ((try simp only [List.length_map, List.length_cons, List.length_nil, List.length_append]); omega)); conv => whnf)
    | ((with_reducible refine on_dec_t ?_ ?_); (focus ((try simp only [List.length_map, List.length_cons, List.length_nil, List.length_append]); omega)); conv => whnf)
    | ((with_reducible refine on_dec (fun h => ?_) (fun h => ?_)) <;> (try simp only [List.length_map] at h) <;> conv => whnf)
    | ((with_reducible refine on_ndec (fun h => ?_) (fun h => ?_)) <;> (try simp only [List.length_map] at h) <;> conv => whnf)
    | ((with_reducible refine on_not (fun h => ?_) (fun h => ?_)) <;> conv => whnf)
    | ((with_reducible refine onBool_split (fun h => ?_) (fun h => ?_)) <;> conv => whnf)
    | ((with_reducible refine call_go ?_); (obtain ⟨g11, g12, -, g14, -⟩ := goes_at hj (R := ((R : Int) % 4096)) (only := only) (k := k) (c := 1) hI.1 (by omega) (by omega)); (have g13 := g12 hk1); (have g15 := posA_lt V (i := k) (k := k + mAt j ((R : Int) % 4096) only k 1) (by omega) g11); (have g16 := seg_len V ((R : Int) % 4096) only k 1); refine call_step (run_viewF (c12k (R := ((R : Int) % 4096)) (only := only) hf hj k 1 (by omega) (by omega) (by omega)) rfl) ?_; conv => whnf)
    | ((with_reducible refine call_go ?_); (first | refine call_step (run_view c9 rfl rfl) ?_ | refine call_step (run_view (c10g _) rfl rfl) ?_ | refine call_step (run_view (c11 _ (fewB_bd hf).1 (fewB_bd hf).2.1 (fewB_bd hf).2.2) rfl rfl) ?_ | refine call_step (run_data (c13 _ (fewB_bd hf).1 (fewB_bd hf).2.2) _) ?_ | refine call_step (run_viewF (c12all hf hj (by omega)) rfl) ?_ | refine call_step (run_viewF (c12k (R := ((R : Int) % 4096)) (only := only) hf hj k c2 (by omega) (by omega) (by omega)) rfl) ?_ | refine call_step (run_view (c14 ((kp ((R : Int) % 4096) only j.recs)[k]'(by omega)).reasons ((R : Int) % 4096) (kp_wanted V (by omega) (List.getElem_mem _)).2.2 (by omega)) rfl rfl) ?_ | refine call_step (run_view (c15 _ 2048 (by decide)) rfl rfl) ?_ | refine call_step (run_view (c16 (gotK j ((R : Int) % 4096) only k) (kp ((R : Int) % 4096) only j.recs) (by omega) (by omega)) rfl (vlc (view_map rfl Nat.two_pos) (vlc rfl vln))) ?_); conv => whnf)
    | (refine ⟨[], [], (by decide +kernel), ?_⟩; conv => whnf)
    | (refine ⟨[], [(2, 1)], (by decide +kernel), ?_⟩; conv => whnf)
    | (refine ⟨[], [(12, 7)], (by decide +kernel), ?_⟩; conv => whnf)
    | (refine ⟨⟨(by first | rfl | (simp; done)), cap_ok (by simp only [List.length_map, List.length_cons, List.length_nil, List.length_append]; omega) rfl⟩, ?_⟩; conv => whnf)
    | (refine ⟨mem_one ⟨rfl, rfl⟩, ?_⟩; conv => whnf)
    | (refine ⟨(by intro y hy; obtain ⟨x, _, rfl⟩ := List.mem_map.1 hy; first | rfl | exact ⟨rfl, rfl⟩), ?_⟩; conv => whnf)
    | (refine ⟨cap_ok (by first | omega | (simp only [List.length_map]; omega)) rfl, ?_⟩; conv => whnf)
    | (refine ix_map (by omega) ?_; conv => whnf)
    | (refine ix_str (by omega) ?_; conv => whnf)
    | (refine wrap64 (by omega) ?_; conv => whnf)
    | (refine wrap64 (by omega) ?_; conv => whnf)
    | (exfalso; simp only [List.length_map, List.length_cons, List.length_nil, List.length_append] at h; omega)
    | ((with_reducible refine endx_go ?_); first | (exact endx rfl; done))
    | (refine ⟨rfl, ?_⟩; conv => whnf)
    | fail
    )

theorem c3e (j : Jrn) (R : Nat) (hR : R < 65536) (only : Bool) (l : List UInt8) (hf : fewB j = true) (hj : ¬ (checkJ j).2 = 0) : Fn 3 [j.enc, rdrD R only l] (.bool true) := by
  refine run_walkF eok Try.func3 rfl (by kernel_rfl) ?_
  conv => whnf
  repeat' (first
    | ((with_reducible refine on_dec_t (by assumption) ?_); conv => whnf)
    | ((with_reducible refine onBool_t (by assumption) ?_); conv => whnf)
    | ((with_reducible refine onBool_f (by assumption) ?_); conv => whnf)
    | ((with_reducible refine on_nt (by assumption) ?_); conv => whnf)
    | ((with_reducible refine on_ndec_t (by first | assumption | rfl) ?_); conv => whnf)
    | ((with_reducible refine on_nf (by assumption) ?_); conv => whnf)
    | ((with_reducible refine on_ndec_f (by assumption) ?_); conv => whnf)
    | ((with_reducible refine on_dec_f ?_ ?_); (focus ((try simp only [List.length_map, List.length_cons, List.length_nil, List.length_append]); omega)); conv => whnf)
    | ((with_reducible refine on_dec_t ?_ ?_); (focus ((try simp only [List.length_map, List.length_cons, List.length_nil, List.length_append]); omega)); conv => whnf)
    | ((with_reducible refine on_dec (fun h => ?_) (fun h => ?_)) <;> (try simp only [List.length_map] at h) <;> conv => whnf)
    | ((with_reducible refine on_ndec (fun h => ?_) (fun h => ?_)) <;> (try simp only [List.length_map] at h) <;> conv => whnf)
    | ((with_reducible refine on_not (fun h => ?_) (fun h => ?_)) <;> conv => whnf)
    | ((with_reducible refine onBool_split (fun h => ?_) (fun h => ?_)) <;> conv => whnf)
    | ((with_reducible refine call_go ?_); (obtain ⟨g11, g12, -, g14, -⟩ := goes_at hj (R := ((R : Int) % 4096)) (only := only) (k := k) (c := 1) hI.1 (by omega) (by omega)); (have g13 := g12 hk1); (have g15 := posA_lt V (i := k) (k := k + mAt j ((R : Int) % 4096) only k 1) (by omega) g11); (have g16 := seg_len V ((R : Int) % 4096) only k 1); refine call_step (run_viewF (c12k (R := ((R : Int) % 4096)) (only := only) hf hj k 1 (by omega) (by omega) (by omega)) rfl) ?_; conv => whnf)
    | ((with_reducible refine call_go ?_); (first | refine call_step (run_view c9 rfl rfl) ?_ | refine call_step (run_view (c10g _) rfl rfl) ?_ | refine call_step (run_view (c11 _ (fewB_bd hf).1 (fewB_bd hf).2.1 (fewB_bd hf).2.2) rfl rfl) ?_ | refine call_step (run_data (c13 _ (fewB_bd hf).1 (fewB_bd hf).2.2) _) ?_ | refine call_step (run_viewF (c12all hf hj (by omega)) rfl) ?_ | refine call_step (run_viewF (c12k (R := ((R : Int) % 4096)) (only := only) hf hj k c2 (by omega) (by omega) (by omega)) rfl) ?_ | refine call_step (run_view (c14 ((kp ((R : Int) % 4096) only j.recs)[k]'(by omega)).reasons ((R : Int) % 4096) (kp_wanted V (by omega) (List.getElem_mem _)).2.2 (by omega)) rfl rfl) ?_ | refine call_step (run_view (c15 _ 2048 (by decide)) rfl rfl) ?_ | refine call_step (run_view (c16 (gotK j ((R : Int) % 4096) only k) (kp ((R : Int) % 4096) only j.recs) (by omega) (by omega)) rfl (vlc (view_map rfl Nat.two_pos) (vlc rfl vln))) ?_); conv => whnf)
    | (refine ⟨[], [], (by decide +kernel), ?_⟩; conv => whnf)
    | (refine ⟨[], [(2, 1)], (by decide +kernel), ?_⟩; conv => whnf)
    | (refine ⟨[], [(12, 7)], (by decide +kernel), ?_⟩; conv => whnf)
    | (refine ⟨⟨(by first | rfl | (simp; done)), cap_ok (by simp only [List.length_map, List.length_cons, List.length_nil, List.length_append]; omega) rfl⟩, ?_⟩; conv => whnf)
    | (refine ⟨mem_one ⟨rfl, rfl⟩, ?_⟩; conv => whnf)
    | (refine ⟨(by intro y hy; obtain ⟨x, _, rfl⟩ := List.mem_map.1 hy; first | rfl | exact ⟨rfl, rfl⟩), ?_⟩; conv => whnf)
    | (refine ⟨cap_ok (by first | omega | (simp only [List.length_map]; omega)) rfl, ?_⟩; conv => whnf)
    | (refine ix_map (by omega) ?_; conv => whnf)
    | (refine ix_str (by omega) ?_; conv => whnf)
    | (refine wrap64 (by omega) ?_; conv => whnf)
    | (refine wrap64 (by omega) ?_; conv => whnf)
    | (exfalso; simp only [List.length_map, List.length_cons, List.length_nil, List.length_append] at h; omega)
    | ((with_reducible refine endx_go ?_); first | (exact endx rfl; done))
    | (refine ⟨rfl, ?_⟩; conv => whnf)
    | fail
    )

theorem c3l (j : Jrn) (R : Nat) (hR : R < 65536) (only : Bool) (l : List UInt8) (hf : fewB j = true) (hj : (checkJ j).2 = 0) (hl : ¬ l.length ≤ 20) : Fn 3 [j.enc, rdrD R only l] (.bool true) := by
  refine run_walkF eok Try.func3 rfl (by kernel_rfl) ?_
  conv => whnf
  repeat' (first
    | ((with_reducible refine on_dec_t (by assumption) ?_); conv => whnf)
    | ((with_reducible refine onBool_t (by assumption) ?_); conv => whnf)
    | ((with_reducible refine onBool_f (by assumption) ?_); conv => whnf)
    | ((with_reducible refine on_nt (by assumption) ?_); conv => whnf)
    | ((with_reducible refine on_ndec_t (by first | assumption | rfl) ?_); conv => whnf)
    | ((with_reducible refine on_nf (by assumption) ?_); conv => whnf)
    | ((with_reducible refine on_ndec_f (by assumption) ?_); conv => whnf)
    | ((with_reducible refine on_dec_f ?_ ?_); (focus ((try simp only [List.length_map, List.length_cons, List.length_nil, List.length_append]); omega)); conv => whnf)
    | ((with_reducible refine on_dec_t ?_ ?_); (focus ((try simp only [List.length_map, List.length_cons, List.length_nil, List.length_append]); omega)); conv => whnf)
    | ((with_reducible refine on_dec (fun h => ?_) (fun h => ?_)) <;> (try simp only [List.length_map] at h) <;> conv => whnf)
    | ((with_reducible refine on_ndec (fun h => ?_) (fun h => ?_)) <;> (try simp only [List.length_map] at h) <;> conv => whnf)
    | ((with_reducible refine on_not (fun h => ?_) (fun h => ?_)) <;> conv => whnf)
    | ((with_reducible refine onBool_split (fun h => ?_) (fun h => ?_)) <;> conv => whnf)
    | ((with_reducible refine call_go ?_); (obtain ⟨g11, g12, -, g14, -⟩ := goes_at hj (R := ((R : Int) % 4096)) (only := only) (k := k) (c := 1) hI.1 (by omega) (by omega)); (have g13 := g12 hk1); (have g15 := posA_lt V (i := k) (k := k + mAt j ((R : Int) % 4096) only k 1) (by omega) g11); (have g16 := seg_len V ((R : Int) % 4096) only k 1); refine call_step (run_viewF (c12k (R := ((R : Int) % 4096)) (only := only) hf hj k 1 (by omega) (by omega) (by omega)) rfl) ?_; conv => whnf)
    | ((with_reducible refine call_go ?_); (first | refine call_step (run_view c9 rfl rfl) ?_ | refine call_step (run_view (c10g _) rfl rfl) ?_ | refine call_step (run_view (c11 _ (fewB_bd hf).1 (fewB_bd hf).2.1 (fewB_bd hf).2.2) rfl rfl) ?_ | refine call_step (run_data (c13 _ (fewB_bd hf).1 (fewB_bd hf).2.2) _) ?_ | refine call_step (run_viewF (c12all hf hj (by omega)) rfl) ?_ | refine call_step (run_viewF (c12k (R := ((R : Int) % 4096)) (only := only) hf hj k c2 (by omega) (by omega) (by omega)) rfl) ?_ | refine call_step (run_view (c14 ((kp ((R : Int) % 4096) only j.recs)[k]'(by omega)).reasons ((R : Int) % 4096) (kp_wanted V (by omega) (List.getElem_mem _)).2.2 (by omega)) rfl rfl) ?_ | refine call_step (run_view (c15 _ 2048 (by decide)) rfl rfl) ?_ | refine call_step (run_view (c16 (gotK j ((R : Int) % 4096) only k) (kp ((R : Int) % 4096) only j.recs) (by omega) (by omega)) rfl (vlc (view_map rfl Nat.two_pos) (vlc rfl vln))) ?_); conv => whnf)
    | (refine ⟨[], [], (by decide +kernel), ?_⟩; conv => whnf)
    | (refine ⟨[], [(2, 1)], (by decide +kernel), ?_⟩; conv => whnf)
    | (refine ⟨[], [(12, 7)], (by decide +kernel), ?_⟩; conv => whnf)
    | (refine ⟨⟨(by first | rfl | (simp; done)), cap_ok (by simp only [List.length_map, List.length_cons, List.length_nil, List.length_append]; omega) rfl⟩, ?_⟩; conv => whnf)
    | (refine ⟨mem_one ⟨rfl, rfl⟩, ?_⟩; conv => whnf)
    | (refine ⟨(by intro y hy; obtain ⟨x, _, rfl⟩ := List.mem_map.1 hy; first | rfl | exact ⟨rfl, rfl⟩), ?_⟩; conv => whnf)
    | (refine ⟨cap_ok (by first | omega | (simp only [List.length_map]; omega)) rfl, ?_⟩; conv => whnf)
    | (refine ix_map (by omega) ?_; conv => whnf)
    | (refine ix_str (by omega) ?_; conv => whnf)
    | (refine wrap64 (by omega) ?_; conv => whnf)
    | (refine wrap64 (by omega) ?_; conv => whnf)
    | (exfalso; simp only [List.length_map, List.length_cons, List.length_nil, List.length_append] at h; omega)
    | ((with_reducible refine endx_go ?_); first | (exact endx rfl; done))
    | (refine ⟨rfl, ?_⟩; conv => whnf)
    | fail
    )

theorem c3 (j : Jrn) (R : Nat) (hR : R < 65536) (only : Bool) (l : List UInt8) : Fn 3 [j.enc, rdrD R only l] (.bool true) := by
  by_cases hf : fewB j = true
  · by_cases hj : (checkJ j).2 = 0
    · by_cases hl : l.length ≤ 20
      · exact c3m j R hR only l hf hj hl
      · exact c3l j R hR only l hf hj hl
    · exact c3e j R hR only l hf hj
  · exact c3f j R hR only l (by simpa using hf)

end Go.Proofs.Ytjbipdppgoldlaa

/-! Se -/
namespace Go.Proofs.Ytjbipdppgoldlaa
open Go Dw
theorem wf_u16 {k : Int} (h : (Lit.int .u16 k).wf = true) : 0 ≤ k ∧ k < 65536 := by
  simp only [Lit.wf, Bool.and_eq_true, decide_eq_true_eq] at h
  have h1 : IntKind.u16.min = 0 := rfl
  have h2 : IntKind.u16.max = 65535 := rfl
  omega
theorem wf_u8 {k : Int} (h : (Lit.int .u8 k).wf = true) : 0 ≤ k ∧ k < 256 := by
  simp only [Lit.wf, Bool.and_eq_true, decide_eq_true_eq] at h
  have h1 : IntKind.u8.min = 0 := rfl
  have h2 : IntKind.u8.max = 255 := rfl
  omega
theorem shpByte {n : Nat} {x : D} (h : shp E (n + 1) 5 x) : ∃ b : UInt8, x = .int .u8 b.toNat := by
  obtain ⟨k, rfl, hw⟩ := h
  have hk := wf_u8 hw
  refine ⟨UInt8.ofNat k.toNat, ?_⟩
  have : (UInt8.ofNat k.toNat).toNat = k.toNat := by simp [UInt8.toNat_ofNat']; omega
  rw [this, show ((k.toNat : Nat) : Int) = k by omega]
  rfl
theorem shpRdr {n : Nat} {x : D} (h : shp E (n + 5) 29 x) : ∃ (R : Nat) (only : Bool) (l : List UInt8), R < 65536 ∧ x = rdrD R only l := by
  obtain ⟨cs, rfl, y1, r1, ⟨k1, rfl, hw⟩, rfl, y2, r2, ⟨b, rfl⟩, rfl, y3, r3, ⟨l, rfl, _, h3⟩, rfl, rfl⟩ := h
  obtain ⟨a, rfl⟩ := map_of l fun y hy => shpByte (h3 y hy)
  have hk := wf_u16 hw
  obtain ⟨R, rfl⟩ := Int.eq_ofNat_of_zero_le hk.1
  exact ⟨R, b, a, by omega, rfl⟩
end Go.Proofs.Ytjbipdppgoldlaa

/-! Lc -/
namespace Go.Proofs.Ytjbipdppgoldlaa
open Go Dw Go.ChangeShapes Go.RowKit
theorem own3 : ownKnob Try.prog.godebug = none := by kernel_rfl
theorem laidOut3 : laidOutB Try.prog = true := by kernel_rfl

section
attribute [local irreducible] Run
theorem hrun3 : ∀ xs, shps E 5 Try.f3.params.toList xs → Run Try.prog 3 (xs.map .d) [] (.d (.bool true)) [] := by
  intro xs h
  obtain ⟨x1, r1, rfl, h1, x2, r2, rfl, h2, rfl⟩ := h
  obtain ⟨j, rfl⟩ := shpJrn h1
  obtain ⟨R, only, l, hR, rfl⟩ := shpRdr h2
  exact c3 j R hR only l
end

set_option maxRecDepth 100000 in
theorem lifted3 (os : Os) (started : os.Started) (H : Type) (enc : TypeId × Value → H) :
    ReturnsInHanded {} Try.checked os 3 .any (Rows.changesGoesOnSpec.pre6 enc Try.prog Try.f3 Rows.changesGoesOnRow.domain false) (Rows.changesGoesOnSpec.post enc Try.prog Try.f3 false true false false) := by
  refine returnsInHanded_of_change (C := Try.checked) own3 started (by kernel_rfl) Try.func3
    (ChangeSpec.witness6 (enc := enc) (C := Try.checked) false ⟨#[], #[.agg #[.int .i64 0, .int .i64 0, .int .i64 0, .int .i64 0, .slice none 0 0, .slice none 0 0], .agg #[.int .u16 0, .bool false, .slice none 0 0]], []⟩ 8 (by kernel_rfl) (by kernel_rfl) (by kernel_rfl) (by kernel_rfl)) ?_
  intro W base args ds gs before hval hW _ _
  refine law_lift (n := 5) (t4 := 4) eok Try.func3 (by kernel_rfl) rfl laidOut3 rfl ?_ rfl Try.underlying4 (by kernel_rfl) hrun3 W base args ds gs before hval hW
  intro H ds hds
  match ds, hds with
  | [a, b], _ => rfl

theorem over3 : Rows.changesGoesOnRow.holds Try.pinned (OpenSpec.ofChange Rows.changesGoesOnSpec) :=
  OpenClaim.holds_of_wide 3 Try.f3 rfl rfl rfl rfl rfl rfl rfl ⟨rfl, rfl, rfl, rfl, rfl⟩ rfl rfl rfl rfl rfl (by kernel_rfl) Try.func3 (by kernel_rfl)
    (of_decide_eq_true (by kernel_rfl)) (by unfold Func.isWrapper; first | (rw [if_pos (by decide +kernel)]; kernel_rfl) | (rw [if_neg (by decide +kernel)]; exact ⟨rfl, rfl⟩))
    (fun os started H enc _ => lifted3 os started H enc)
theorem changesGoesOn_proved : Rows.ChangesGoesOnSaid := over3
end Go.Proofs.Ytjbipdppgoldlaa
