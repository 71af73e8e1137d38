/-
  Own lemmas, no conditions: Wu, Pa, Pc.
-/
import Derived.Test.YtjbipdppgoldlaaGrpF
set_option linter.unusedVariables false
set_option linter.unusedSimpArgs false

/-! Wu -/
namespace Go.Proofs.Ytjbipdppgoldlaa
open Go Dw
set_option maxRecDepth 10000
set_option linter.unusedVariables false
set_option linter.unusedSimpArgs false
attribute [local irreducible] Run
set_option maxHeartbeats 4000000

theorem bsGo_le {α : Type} {c : α → Int} {l : List α} : ∀ (n a b : Nat), a ≤ b → bsGo c l n a b ≤ b
  | 0, a, b, h => h
  | n + 1, a, b, h => by
    simp only [bsGo]
    split
    · split
      · exact bsGo_le n _ _ (by omega)
      · exact Nat.le_trans (bsGo_le n _ _ (by omega)) (by omega)
    · exact h
def Rd.skip (q : Qry) (x : Chg) : Bool := decide (bitsOf .and .i64 x.reasons q.reasons = 0) || (q.only && !has x.reasons 2048)
def rfGo (q : Qry) (nx : Int) : List Chg → List Chg → List Chg × Int
  | [], out => (out, nx)
  | x :: l, out => if Rd.skip q x then rfGo q nx l out else if ((out.length + 1 : Nat) : Int) = q.count then (out ++ [x], IntKind.i64.wrap (x.usn + size x.name.length)) else rfGo q nx l (out ++ [x])
theorem rfGo_drop {q : Qry} {nx : Int} {l : List Chg} {k : Nat} {out : List Chg} (h : k < l.length) : rfGo q nx (l.drop k) out =
    if Rd.skip q l[k] then rfGo q nx (l.drop (k + 1)) out else if ((out.length + 1 : Nat) : Int) = q.count then (out ++ [l[k]], IntKind.i64.wrap (l[k].usn + size l[k].name.length)) else rfGo q nx (l.drop (k + 1)) (out ++ [l[k]]) := by
  rw [List.drop_eq_getElem_cons h]; rfl
theorem rfGo_end {q : Qry} {nx : Int} {l : List Chg} {k : Nat} {out : List Chg} (h : l.length ≤ k) : rfGo q nx (l.drop k) out = (out, nx) := by
  rw [List.drop_eq_nil_of_le h]; rfl
def rdAt (j : Jrn) (q : Qry) : Nat × Bool := bsR (fun x => cmp x.usn q.pos) j.recs
def rdFrom (j : Jrn) (q : Qry) : List Chg := (j.recs.take j.recs.length).drop (rdAt j q).1
theorem rdAt_le (j : Jrn) (q : Qry) : (rdAt j q).1 ≤ j.recs.length := bsGo_le _ _ _ (Nat.zero_le _)
def rdErr (j : Jrn) (q : Qry) : Int := first [(checkJ j).2, if decide (q.id = j.id) && decide (j.first ≤ q.pos) then 0 else 32, if decide (q.pos ≤ j.next) && (within q.reasons 0 4095 && within q.count 1 200) then 0 else 2, if (rdAt j q).2 || decide (q.pos = j.next) then 0 else 14]
def readF (j : Jrn) (q : Qry) : List Chg × Int × Int :=
  if rdErr j q ≠ 0 then ([], 0, rdErr j q) else ((rfGo q j.next (rdFrom j q) []).1, (rfGo q j.next (rdFrom j q) []).2, 0)
theorem rdFrom_len (j : Jrn) (q : Qry) : (rdFrom j q).length ≤ j.recs.length := by
  simp only [rdFrom, List.length_drop, List.length_take]; omega
theorem rdFrom_mem (j : Jrn) (q : Qry) : ∀ x ∈ rdFrom j q, x ∈ j.recs := fun x hx => List.mem_of_mem_take (List.mem_of_mem_drop hx)
theorem c48q (j : Jrn) (q : Qry) (hr : j.recs.length < 1000000) : Fn 48 [.fs (j.recs.map Chg.enc), i q.pos, .fn 49 [] []] (.tup [i (rdAt j q).1, .bool (rdAt j q).2]) := c48 _ _ hr
theorem c51w (n lo hi : Int) : Fn 51 [i n, i lo, i hi] (.bool (within n lo hi)) := c51 n lo hi
theorem skip_eq (q : Qry) (x : Chg) : Rd.skip q x = (decide (bitsOf .and .i64 x.reasons q.reasons = 0) || (q.only && !has x.reasons 2048)) := rfl
theorem rdErr_eq (j : Jrn) (q : Qry) : rdErr j q = first [(checkJ j).2, if decide (q.id = j.id) && decide (j.first ≤ q.pos) then 0 else 32, if decide (q.pos ≤ j.next) && (within q.reasons 0 4095 && within q.count 1 200) then 0 else 2, if (rdAt j q).2 || decide (q.pos = j.next) then 0 else 14] := rfl
theorem rdErr_ok {j : Jrn} {q : Qry} (h : rdErr j q = 0) : (checkJ j).2 = 0 ∧ q.id = j.id ∧ j.first ≤ q.pos ∧ q.pos ≤ j.next ∧ within q.reasons 0 4095 = true ∧ within q.count 1 200 = true ∧ ((rdAt j q).2 = true ∨ q.pos = j.next) := by
  rw [rdErr_eq] at h
  by_cases h1 : (checkJ j).2 = 0
  · rw [first_cons, if_pos h1] at h
    by_cases h2 : (decide (q.id = j.id) && decide (j.first ≤ q.pos)) = true
    · rw [if_pos h2, first_cons, if_pos rfl] at h
      by_cases h3 : (decide (q.pos ≤ j.next) && (within q.reasons 0 4095 && within q.count 1 200)) = true
      · rw [if_pos h3, first_cons, if_pos rfl] at h
        by_cases h4 : ((rdAt j q).2 || decide (q.pos = j.next)) = true
        · simp only [Bool.and_eq_true, Bool.or_eq_true, decide_eq_true_eq] at h2 h3 h4
          exact ⟨h1, h2.1, h2.2, h3.1, h3.2.1, h3.2.2, h4⟩
        · rw [if_neg h4, first_cons, if_neg (by decide)] at h; exact absurd h (by decide)
      · rw [if_neg h3, first_cons, if_neg (by decide)] at h; exact absurd h (by decide)
    · rw [if_neg h2, first_cons, if_neg (by decide)] at h; exact absurd h (by decide)
  · rw [first_cons, if_neg h1] at h; exact absurd h h1
attribute [local irreducible] has within size rfGo Rd.skip compare cmp rdAt rdErr

theorem c12e (j : Jrn) (q : Qry) (hr : j.recs.length < 1000000) (hn : ∀ x ∈ j.recs, x.name.length < 1000000) (ho : j.opens.length < 1000000) (hne : rdErr j q ≠ 0) : Fn 12 [j.enc, q.enc] (.tup [.fs [], i 0, i (rdErr j q)]) := by
  refine run_walkF eok Try.func12 rfl (by kernel_rfl) ?_
  conv => whnf
  repeat' (first
    | ((with_reducible refine on_dec_f ?_ ?_); (focus ((try simp only [List.length_map, List.length_cons, List.length_nil, List.length_append]); omega)); conv => whnf)
    | ((with_reducible refine on_dec_t ?_ ?_); (focus ((try simp only [List.length_map, List.length_cons, List.length_nil, List.length_append]); omega)); conv => whnf)
    | ((with_reducible refine on_dec (fun h => ?_) (fun h => ?_)) <;> (try simp only [List.length_map] at h) <;> conv => whnf)
    | ((with_reducible refine on_ndec (fun h => ?_) (fun h => ?_)) <;> (try simp only [List.length_map] at h) <;> conv => whnf)
    | ((with_reducible refine on_not (fun h => ?_) (fun h => ?_)) <;> conv => whnf)
    | ((with_reducible refine onBool_split (fun h => ?_) (fun h => ?_)) <;> conv => whnf)
    | ((with_reducible refine call_go ?_); (first | refine call_step (run_view (c48q j q hr) rfl rfl) ?_ | refine call_step (run_view (c51w _ _ _) rfl rfl) ?_ | refine call_step (run_view (c53 _ hr hn ho) rfl rfl) ?_ | refine call_step (run_view (c54 _ _) rfl rfl) ?_ | refine call_step (run_view (c52 [_, _, _, _] (by simp)) rfl rfl) ?_ | refine call_step (run_view (c55 _ _) rfl rfl) ?_ | refine call_step (run_view (c56 (rdFrom j q)[k] (hn _ (rdFrom_mem _ _ _ (List.getElem_mem _)))) rfl rfl) ?_); conv => whnf)
    | (refine ⟨[], [(3, 1), (5, 1)], (by decide +kernel), ?_⟩; conv => whnf)
    | (refine ⟨[], [(2, 4)], (by decide +kernel), ?_⟩; conv => whnf)
    | (refine ⟨[], [], (by decide +kernel), ?_⟩; conv => whnf)
    | (refine ⟨⟨(by first | rfl | (simp; done)), cap_ok (by simp only [List.length_map, List.length_cons, List.length_nil, List.length_append]; omega) rfl⟩, ?_⟩; conv => whnf)
    | (refine ⟨mem_one ⟨rfl, rfl⟩, ?_⟩; conv => whnf)
    | (refine ⟨(by intro y hy; obtain ⟨x, _, rfl⟩ := List.mem_map.1 hy; first | rfl | exact ⟨rfl, rfl⟩), ?_⟩; conv => whnf)
    | (refine ⟨cap_ok (by first | omega | (simp only [List.length_map]; omega)) rfl, ?_⟩; conv => whnf)
    | (refine ix_map (by omega) ?_; conv => whnf)
    | (refine ix_str (by omega) ?_; conv => whnf)
    | (refine wrap64 (by omega) ?_; conv => whnf)
    | ((with_reducible have hz : first (_ :: _) = 0 := h); refine absurd (Eq.trans ?_ hz) hne; rw [rdErr_eq]; clear h hne hz; simp [*])
    | (refine wrap64 (by omega) ?_; conv => whnf)
    | (exfalso; simp only [List.length_map, List.length_cons, List.length_nil, List.length_append] at h; omega)
    | ((with_reducible refine endx_go ?_); first | (refine endxv (view_tup (vlc rfl (vlc rfl (vlc rfl vln)))) ?_; refine congrArg (fun e => D.tup [D.fs [], i 0, i e]) ?_; rw [rdErr_eq]; clear h hne; simp [*]; done))
    | (refine ⟨rfl, ?_⟩; conv => whnf)
    | fail
    )

theorem c12a (j : Jrn) (q : Qry) (hr : j.recs.length < 1000000) (hn : ∀ x ∈ j.recs, x.name.length < 1000000) (ho : j.opens.length < 1000000) (he0 : rdErr j q = 0) (hf : (rdAt j q).2 = true) : Fn 12 [j.enc, q.enc] (.tup [.fs ((readF j q).1.map Chg.enc), i (readF j q).2.1, i (readF j q).2.2]) := by
  obtain ⟨g1, g2, g3, g4, g5, g6, g7⟩ := rdErr_ok he0
  refine run_walkF eok Try.func12 rfl (by kernel_rfl) ?_
  conv => whnf
  repeat' (first
    | ((with_reducible refine on_dec_t (by assumption) ?_); conv => whnf)
    | ((with_reducible refine onBool_t (by assumption) ?_); conv => whnf)
    | ((with_reducible refine onBool_f (by assumption) ?_); conv => whnf)
    | ((with_reducible have hz : ¬ first (_ :: _) = 0 := h); refine absurd (Eq.trans ?_ he0) hz; rw [rdErr_eq]; clear h hz he0; simp [*])
    | ((with_reducible refine on_dec_f ?_ ?_); (focus ((try simp only [List.length_map, List.length_cons, List.length_nil, List.length_append]); omega)); conv => whnf)
    | ((with_reducible refine on_dec_t ?_ ?_); (focus ((try simp only [List.length_map, List.length_cons, List.length_nil, List.length_append]); omega)); conv => whnf)
    | ((with_reducible refine on_dec (fun h => ?_) (fun h => ?_)) <;> (try simp only [List.length_map] at h) <;> conv => whnf)
    | ((with_reducible refine on_ndec (fun h => ?_) (fun h => ?_)) <;> (try simp only [List.length_map] at h) <;> conv => whnf)
    | ((with_reducible refine on_not (fun h => ?_) (fun h => ?_)) <;> conv => whnf)
    | ((with_reducible refine onBool_split (fun h => ?_) (fun h => ?_)) <;> conv => whnf)
    | ((with_reducible refine call_go ?_); (first | refine call_step (run_view (c48q j q hr) rfl rfl) ?_ | refine call_step (run_view (c51w _ _ _) rfl rfl) ?_ | refine call_step (run_view (c53 _ hr hn ho) rfl rfl) ?_ | refine call_step (run_view (c54 _ _) rfl rfl) ?_ | refine call_step (run_view (c52 [_, _, _, _] (by simp)) rfl rfl) ?_ | refine call_step (run_view (c55 _ _) rfl rfl) ?_ | refine call_step (run_view (c56 (rdFrom j q)[k] (hn _ (rdFrom_mem _ _ _ (List.getElem_mem _)))) rfl rfl) ?_); conv => whnf)
    | (refine ⟨[], [(3, 1), (5, 1)], (by decide +kernel), ?_⟩; conv => whnf)
    | (refine ⟨[], [(2, 4)], (by decide +kernel), ?_⟩; conv => whnf)
    | (refine ⟨[], [], (by decide +kernel), ?_⟩; conv => whnf)
    | ((with_reducible refine loop_go ?_); first | (refine loop2 (fun (k : Nat) (out : List Chg) => (rdFrom j q).length - k) (fun (k : Nat) (out : List Chg) => k ≤ (rdFrom j q).length ∧ out.length ≤ k ∧ rfGo q j.next (rdFrom j q) [] = rfGo q j.next ((rdFrom j q).drop k) out) (fun (k : Nat) (out : List Chg) => [(2, .ptr 0 0 0), (3, .ptr 1 0 0), (11, .sl 2 0 out.length 8 none), (71, .d (.fs ((rdFrom j q).map Chg.enc))), (72, .d (i (rdFrom j q).length)), (73, .d (i k))]) (fun (k : Nat) (out : List Chg) => [⟨[.d j.enc], 6, 0⟩, ⟨[.d q.enc], 5, 0⟩, ⟨(out.map Chg.enc).map .d, 8, 0⟩]) (0) ([]) (by exact ⟨by omega, by simp, rfl⟩) ?_ (fun k out C hI hC => ?_); (exact ⟨[.old 0, .old 1, .void 8], rfl, rfl, ⟨⟨rfl, rfl, rfl⟩, ⟨rfl, rfl, rfl⟩, ⟨rfl, rfl, rfl, rfl⟩, rfl, (congrArg (D.int .i64) (by (rw [List.length_map]) <;> rfl)), rfl, trivial⟩, ⟨⟨rfl, rfl, .inl ⟨[_], rfl, rfl⟩⟩, ⟨rfl, rfl, .inl ⟨[_], rfl, rfl⟩⟩, ⟨rfl, rfl, (by decide), rfl⟩, trivial⟩⟩); have hlen := rdFrom_len j q; all_goals (conv => whnf)))
    | ((with_reducible show C _ _); first | (refine hC (k + 1) (out) _ _ ?_ (by omega) ?_; clear hC; rotate_left; (exact ⟨[.old 0, .old 1, .old 2], rfl, rfl, ⟨⟨rfl, rfl, rfl⟩, ⟨rfl, rfl, rfl⟩, ⟨rfl, rfl, (by simp), rfl, rfl⟩, (by first | (show (_ : D) = _; with_reducible rfl) | exact rfl), (by first | (show (_ : D) = _; with_reducible rfl) | exact congrArg (D.int .i64) (by omega)), (by first | (show (_ : D) = _; with_reducible rfl) | exact congrArg (D.int .i64) (by omega)), trivial⟩, ⟨⟨rfl, rfl, .inl ⟨[_], rfl, rfl⟩⟩, ⟨rfl, rfl, .inl ⟨[_], rfl, rfl⟩⟩, ⟨rfl, rfl, .inr (wksd _ _)⟩, trivial⟩⟩); (exact ⟨by omega, by omega, by rw [hI.2.2, rfGo_drop (by omega), if_pos (by rw [skip_eq]; simp [*])]⟩)) | (refine hC (k + 1) (out ++ [((rdFrom j q)[k]'(by omega))]) _ _ ?_ (by omega) ?_; clear hC; rotate_left; (exact ⟨[.old 0, .old 1, .old 5], rfl, rfl, ⟨⟨rfl, rfl, rfl⟩, ⟨rfl, rfl, rfl⟩, ⟨rfl, rfl, (by simp), rfl, rfl⟩, (by first | (show (_ : D) = _; with_reducible rfl) | exact rfl), (by first | (show (_ : D) = _; with_reducible rfl) | exact congrArg (D.int .i64) (by omega)), (by first | (show (_ : D) = _; with_reducible rfl) | exact congrArg (D.int .i64) (by omega)), trivial⟩, ⟨⟨rfl, rfl, .inl ⟨[_], rfl, rfl⟩⟩, ⟨rfl, rfl, .inl ⟨[_], rfl, rfl⟩⟩, ⟨rfl, rfl, .inr (wks_add (wksd _ _) rfl)⟩, trivial⟩⟩); (exact ⟨by omega, (by simp; omega), by rw [hI.2.2, rfGo_drop (by omega), if_neg (by rw [skip_eq]; simp [*]), if_neg (by simpa using h)]⟩)))
    | (refine ⟨⟨(by first | rfl | (simp; done)), cap_ok (by simp only [List.length_map, List.length_cons, List.length_nil, List.length_append]; omega) rfl⟩, ?_⟩; conv => whnf)
    | (refine ⟨mem_one ⟨rfl, rfl⟩, ?_⟩; conv => whnf)
    | (refine ⟨(by intro y hy; obtain ⟨x, _, rfl⟩ := List.mem_map.1 hy; first | rfl | exact ⟨rfl, rfl⟩), ?_⟩; conv => whnf)
    | (refine ⟨cap_ok (by first | omega | (simp only [List.length_map]; omega)) rfl, ?_⟩; conv => whnf)
    | (refine ix_map (by omega) ?_; conv => whnf)
    | (refine ix_str (by omega) ?_; conv => whnf)
    | (refine wrap64 (by omega) ?_; conv => whnf)
    | (refine wrap_raw ?_; conv => whnf)
    | (refine bit_raw ?_; conv => whnf)
    | (refine sl_map (f := Chg.enc) (l := j.recs) (rdAt j q).1 j.recs.length ?_ ?_ ?_ ?_ ?_; (rfl); (simp); (exact ⟨rdAt_le j q, Nat.le_refl _⟩); (exact fun x => rfl); conv => whnf)
    | (refine ⟨(by simp), ?_⟩; conv => whnf)
    | (exfalso; simp only [List.length_map, List.length_cons, List.length_nil, List.length_append] at h; omega)
    | ((with_reducible refine endx_go ?_); first | (refine endxv (view_tup (vlc (view_snoc rfl Nat.two_pos rfl) (vlc rfl (vlc rfl vln)))) ?_; (have hd := rfGo_drop (q := q) (nx := j.next) (l := rdFrom j q) (k := k) (out := out) (by omega)); rw [if_neg (by rw [skip_eq]; simp [*]), if_pos (by simpa using h)] at hd; rw [show readF j q = (_, _, 0) from (by rw [readF, if_neg (fun c => c he0), hI.2.2, hd])]; simp only [List.map_append, List.map_cons, List.map_nil] <;> rfl; done) | (refine endxv (view_tup (vlc (view_map rfl Nat.two_pos) (vlc rfl (vlc rfl vln)))) ?_; (have hd := rfGo_end (q := q) (nx := j.next) (l := rdFrom j q) (k := k) (out := out) (by omega)); (rw [show readF j q = (out, j.next, 0) from (by rw [readF, if_neg (fun c => c he0), hI.2.2, hd])]) <;> rfl; done))
    | (refine ⟨rfl, ?_⟩; conv => whnf)
    | fail
    )

theorem c12b (j : Jrn) (q : Qry) (hr : j.recs.length < 1000000) (hn : ∀ x ∈ j.recs, x.name.length < 1000000) (ho : j.opens.length < 1000000) (he0 : rdErr j q = 0) (hf : (rdAt j q).2 = false) (hx : q.pos = j.next) : Fn 12 [j.enc, q.enc] (.tup [.fs ((readF j q).1.map Chg.enc), i (readF j q).2.1, i (readF j q).2.2]) := by
  obtain ⟨g1, g2, g3, g4, g5, g6, g7⟩ := rdErr_ok he0
  refine run_walkF eok Try.func12 rfl (by kernel_rfl) ?_
  conv => whnf
  repeat' (first
    | ((with_reducible refine on_dec_t (by assumption) ?_); conv => whnf)
    | ((with_reducible refine onBool_t (by assumption) ?_); conv => whnf)
    | ((with_reducible refine onBool_f (by assumption) ?_); conv => whnf)
    | ((with_reducible have hz : ¬ first (_ :: _) = 0 := h); refine absurd (Eq.trans ?_ he0) hz; rw [rdErr_eq]; clear h hz he0; simp [*])
    | ((with_reducible refine on_dec_f ?_ ?_); (focus ((try simp only [List.length_map, List.length_cons, List.length_nil, List.length_append]); omega)); conv => whnf)
    | ((with_reducible refine on_dec_t ?_ ?_); (focus ((try simp only [List.length_map, List.length_cons, List.length_nil, List.length_append]); omega)); conv => whnf)
    | ((with_reducible refine on_dec (fun h => ?_) (fun h => ?_)) <;> (try simp only [List.length_map] at h) <;> conv => whnf)
    | ((with_reducible refine on_ndec (fun h => ?_) (fun h => ?_)) <;> (try simp only [List.length_map] at h) <;> conv => whnf)
    | ((with_reducible refine on_not (fun h => ?_) (fun h => ?_)) <;> conv => whnf)
    | ((with_reducible refine onBool_split (fun h => ?_) (fun h => ?_)) <;> conv => whnf)
    | ((with_reducible refine call_go ?_); (first | refine call_step (run_view (c48q j q hr) rfl rfl) ?_ | refine call_step (run_view (c51w _ _ _) rfl rfl) ?_ | refine call_step (run_view (c53 _ hr hn ho) rfl rfl) ?_ | refine call_step (run_view (c54 _ _) rfl rfl) ?_ | refine call_step (run_view (c52 [_, _, _, _] (by simp)) rfl rfl) ?_ | refine call_step (run_view (c55 _ _) rfl rfl) ?_ | refine call_step (run_view (c56 (rdFrom j q)[k] (hn _ (rdFrom_mem _ _ _ (List.getElem_mem _)))) rfl rfl) ?_); conv => whnf)
    | (refine ⟨[], [(3, 1), (5, 1)], (by decide +kernel), ?_⟩; conv => whnf)
    | (refine ⟨[], [(2, 4)], (by decide +kernel), ?_⟩; conv => whnf)
    | (refine ⟨[], [], (by decide +kernel), ?_⟩; conv => whnf)
    | ((with_reducible refine loop_go ?_); first | (refine loop2 (fun (k : Nat) (out : List Chg) => (rdFrom j q).length - k) (fun (k : Nat) (out : List Chg) => k ≤ (rdFrom j q).length ∧ out.length ≤ k ∧ rfGo q j.next (rdFrom j q) [] = rfGo q j.next ((rdFrom j q).drop k) out) (fun (k : Nat) (out : List Chg) => [(2, .ptr 0 0 0), (3, .ptr 1 0 0), (11, .sl 2 0 out.length 8 none), (71, .d (.fs ((rdFrom j q).map Chg.enc))), (72, .d (i (rdFrom j q).length)), (73, .d (i k))]) (fun (k : Nat) (out : List Chg) => [⟨[.d j.enc], 6, 0⟩, ⟨[.d q.enc], 5, 0⟩, ⟨(out.map Chg.enc).map .d, 8, 0⟩]) (0) ([]) (by exact ⟨by omega, by simp, rfl⟩) ?_ (fun k out C hI hC => ?_); (exact ⟨[.old 0, .old 1, .void 8], rfl, rfl, ⟨⟨rfl, rfl, rfl⟩, ⟨rfl, rfl, rfl⟩, ⟨rfl, rfl, rfl, rfl⟩, rfl, (congrArg (D.int .i64) (by (rw [List.length_map]) <;> rfl)), rfl, trivial⟩, ⟨⟨rfl, rfl, .inl ⟨[_], rfl, rfl⟩⟩, ⟨rfl, rfl, .inl ⟨[_], rfl, rfl⟩⟩, ⟨rfl, rfl, (by decide), rfl⟩, trivial⟩⟩); have hlen := rdFrom_len j q; all_goals (conv => whnf)))
    | ((with_reducible show C _ _); first | (refine hC (k + 1) (out) _ _ ?_ (by omega) ?_; clear hC; rotate_left; (exact ⟨[.old 0, .old 1, .old 2], rfl, rfl, ⟨⟨rfl, rfl, rfl⟩, ⟨rfl, rfl, rfl⟩, ⟨rfl, rfl, (by simp), rfl, rfl⟩, (by first | (show (_ : D) = _; with_reducible rfl) | exact rfl), (by first | (show (_ : D) = _; with_reducible rfl) | exact congrArg (D.int .i64) (by omega)), (by first | (show (_ : D) = _; with_reducible rfl) | exact congrArg (D.int .i64) (by omega)), trivial⟩, ⟨⟨rfl, rfl, .inl ⟨[_], rfl, rfl⟩⟩, ⟨rfl, rfl, .inl ⟨[_], rfl, rfl⟩⟩, ⟨rfl, rfl, .inr (wksd _ _)⟩, trivial⟩⟩); (exact ⟨by omega, by omega, by rw [hI.2.2, rfGo_drop (by omega), if_pos (by rw [skip_eq]; simp [*])]⟩)) | (refine hC (k + 1) (out ++ [((rdFrom j q)[k]'(by omega))]) _ _ ?_ (by omega) ?_; clear hC; rotate_left; (exact ⟨[.old 0, .old 1, .old 5], rfl, rfl, ⟨⟨rfl, rfl, rfl⟩, ⟨rfl, rfl, rfl⟩, ⟨rfl, rfl, (by simp), rfl, rfl⟩, (by first | (show (_ : D) = _; with_reducible rfl) | exact rfl), (by first | (show (_ : D) = _; with_reducible rfl) | exact congrArg (D.int .i64) (by omega)), (by first | (show (_ : D) = _; with_reducible rfl) | exact congrArg (D.int .i64) (by omega)), trivial⟩, ⟨⟨rfl, rfl, .inl ⟨[_], rfl, rfl⟩⟩, ⟨rfl, rfl, .inl ⟨[_], rfl, rfl⟩⟩, ⟨rfl, rfl, .inr (wks_add (wksd _ _) rfl)⟩, trivial⟩⟩); (exact ⟨by omega, (by simp; omega), by rw [hI.2.2, rfGo_drop (by omega), if_neg (by rw [skip_eq]; simp [*]), if_neg (by simpa using h)]⟩)))
    | (refine ⟨⟨(by first | rfl | (simp; done)), cap_ok (by simp only [List.length_map, List.length_cons, List.length_nil, List.length_append]; omega) rfl⟩, ?_⟩; conv => whnf)
    | (refine ⟨mem_one ⟨rfl, rfl⟩, ?_⟩; conv => whnf)
    | (refine ⟨(by intro y hy; obtain ⟨x, _, rfl⟩ := List.mem_map.1 hy; first | rfl | exact ⟨rfl, rfl⟩), ?_⟩; conv => whnf)
    | (refine ⟨cap_ok (by first | omega | (simp only [List.length_map]; omega)) rfl, ?_⟩; conv => whnf)
    | (refine ix_map (by omega) ?_; conv => whnf)
    | (refine ix_str (by omega) ?_; conv => whnf)
    | (refine wrap64 (by omega) ?_; conv => whnf)
    | (refine wrap_raw ?_; conv => whnf)
    | (refine bit_raw ?_; conv => whnf)
    | (refine sl_map (f := Chg.enc) (l := j.recs) (rdAt j q).1 j.recs.length ?_ ?_ ?_ ?_ ?_; (rfl); (simp); (exact ⟨rdAt_le j q, Nat.le_refl _⟩); (exact fun x => rfl); conv => whnf)
    | (refine ⟨(by simp), ?_⟩; conv => whnf)
    | (exfalso; simp only [List.length_map, List.length_cons, List.length_nil, List.length_append] at h; omega)
    | ((with_reducible refine endx_go ?_); first | (refine endxv (view_tup (vlc (view_snoc rfl Nat.two_pos rfl) (vlc rfl (vlc rfl vln)))) ?_; (have hd := rfGo_drop (q := q) (nx := j.next) (l := rdFrom j q) (k := k) (out := out) (by omega)); rw [if_neg (by rw [skip_eq]; simp [*]), if_pos (by simpa using h)] at hd; rw [show readF j q = (_, _, 0) from (by rw [readF, if_neg (fun c => c he0), hI.2.2, hd])]; simp only [List.map_append, List.map_cons, List.map_nil] <;> rfl; done) | (refine endxv (view_tup (vlc (view_map rfl Nat.two_pos) (vlc rfl (vlc rfl vln)))) ?_; (have hd := rfGo_end (q := q) (nx := j.next) (l := rdFrom j q) (k := k) (out := out) (by omega)); (rw [show readF j q = (out, j.next, 0) from (by rw [readF, if_neg (fun c => c he0), hI.2.2, hd])]) <;> rfl; done))
    | (refine ⟨rfl, ?_⟩; conv => whnf)
    | fail
    )

theorem c12 (j : Jrn) (q : Qry) (hr : j.recs.length < 1000000) (hn : ∀ x ∈ j.recs, x.name.length < 1000000) (ho : j.opens.length < 1000000) : Fn 12 [j.enc, q.enc] (.tup [.fs ((readF j q).1.map Chg.enc), i (readF j q).2.1, i (readF j q).2.2]) := by
  by_cases he : rdErr j q = 0
  · obtain ⟨g1, g2, g3, g4, g5, g6, g7⟩ := rdErr_ok he
    cases hf : (rdAt j q).2 with
    | true => exact c12a j q hr hn ho he hf
    | false => exact c12b j q hr hn ho he hf (by rw [hf] at g7; simpa using g7)
  · have := c12e j q hr hn ho he
    rw [show readF j q = ([], 0, rdErr j q) from by rw [readF, if_pos he]]
    exact this

end Go.Proofs.Ytjbipdppgoldlaa

/-! Pa -/
namespace Go.Proofs.Ytjbipdppgoldlaa
open Go Dw

theorem rdAt_pos {j : Jrn} (V : Valid j) {q : Qry} {k : Nat} (hk : k ≤ j.recs.length) (hq : q.pos = posA j k) : rdAt j q = (k, decide (k < j.recs.length)) := by
  unfold rdAt
  rw [bsR_law hk (fun i h hi => by rw [cmp_lt, posA_usn V h, hq]; exact posA_lt V hi hk) (fun i h hi => by rw [cmp_lt, posA_usn V h, hq]; have := posA_le V hi (Nat.le_of_lt h); omega)]
  by_cases hl : k < j.recs.length
  · rw [dif_pos hl]
    have : cmp j.recs[k].usn q.pos = 0 := by rw [cmp_eq, posA_usn V hl, hq]
    simp [this, hl]
  · rw [dif_neg hl]; simp [hl]

def kept (q : Qry) (l : List Chg) : List Chg := l.filter (fun x => !Rd.skip q x)

theorem rfGo_law (q : Qry) (nx : Int) : ∀ (l : List Chg) (out : List Chg), (out.length : Int) < q.count → ∃ m, m ≤ l.length ∧ (rfGo q nx l out).1 = out ++ kept q (l.take m) ∧ ((rfGo q nx l out).1.length : Int) ≤ q.count ∧
    ((m = l.length ∧ (rfGo q nx l out).2 = nx) ∨ (((rfGo q nx l out).1.length : Int) = q.count ∧ ∃ n, m = n + 1 ∧ ∃ h : n < l.length, (rfGo q nx l out).2 = IntKind.i64.wrap (l[n].usn + size l[n].name.length)))
  | [], out, h => ⟨0, Nat.le_refl _, by simp [rfGo, kept], by simp only [rfGo]; omega, .inl ⟨rfl, rfl⟩⟩
  | x :: l, out, h => by
    simp only [rfGo]
    by_cases hs : Rd.skip q x = true
    · rw [if_pos hs]
      obtain ⟨m, h1, h2, h3, h4⟩ := rfGo_law q nx l out h
      refine ⟨m + 1, by simp; omega, by rw [h2]; simp [kept, hs], h3, ?_⟩
      rcases h4 with ⟨h5, h6⟩ | ⟨h5, n, h6, h7, h8⟩
      · exact .inl ⟨by simp; omega, h6⟩
      · exact .inr ⟨h5, n + 1, by omega, by simp; omega, by simpa using h8⟩
    · rw [if_neg hs]
      by_cases hc : ((out.length + 1 : Nat) : Int) = q.count
      · rw [if_pos hc]
        exact ⟨1, by simp, by simp [kept, hs], by simp; omega, .inr ⟨by simpa using hc, 0, rfl, by simp, by simp⟩⟩
      · rw [if_neg hc]
        obtain ⟨m, h1, h2, h3, h4⟩ := rfGo_law q nx l (out ++ [x]) (by simp; omega)
        refine ⟨m + 1, by simp; omega, by rw [h2]; simp [kept, hs], h3, ?_⟩
        rcases h4 with ⟨h5, h6⟩ | ⟨h5, n, h6, h7, h8⟩
        · exact .inl ⟨by simp; omega, h6⟩
        · exact .inr ⟨h5, n + 1, by omega, by simp; omega, by simpa using h8⟩

/-- What a reader gets at a position of a valid journal. -/
theorem readF_at {j : Jrn} (hj : (checkJ j).2 = 0) {q : Qry} {k : Nat} (hk : k ≤ j.recs.length) (hid : q.id = j.id) (hq : q.pos = posA j k) (hr : 0 ≤ q.reasons ∧ q.reasons ≤ 4095) (hc : 1 ≤ q.count ∧ q.count ≤ 200) :
    ∃ m, k + m ≤ j.recs.length ∧ (k < j.recs.length → 0 < m) ∧ readF j q = (kept q ((j.recs.drop k).take m), posA j (k + m), 0) ∧ ((kept q ((j.recs.drop k).take m)).length : Int) ≤ q.count ∧ (k + m = j.recs.length ∨ ((kept q ((j.recs.drop k).take m)).length : Int) = q.count) := by
  have V := valid_of hj
  have hat := rdAt_pos V hk hq
  have hb0 := posA_le V (Nat.zero_le k) hk
  have hb1 := posA_le V hk (Nat.le_refl _)
  rw [posA_zero] at hb0
  rw [posA_end V] at hb1
  have he : rdErr j q = 0 := by
    unfold rdErr
    have h1 : within q.reasons 0 4095 = true := within_iff.2 hr
    have h2 : within q.count 1 200 = true := within_iff.2 hc
    have h3 : ((rdAt j q).2 || decide (q.pos = j.next)) = true := by
      rw [hat]
      by_cases hl : k < j.recs.length
      · simp [hl]
      · have : k = j.recs.length := by omega
        subst this
        rw [hq, posA_end V]; simp
    rw [hj, h1, h2, h3]
    have h4 : decide (q.id = j.id) = true := by simp [hid]
    have h5 : decide (j.first ≤ q.pos) = true := by rw [hq]; simpa using hb0
    have h6 : decide (q.pos ≤ j.next) = true := by rw [hq]; simpa using hb1
    rw [h4, h5, h6]
    simp [first_cons, first_nil]
  have hf : rdFrom j q = j.recs.drop k := by
    unfold rdFrom
    rw [hat, List.take_length]
  obtain ⟨m, h1, h2, h3, h4⟩ := rfGo_law q j.next (j.recs.drop k) [] (by simp; omega)
  rw [List.length_drop] at h1
  simp only [List.nil_append] at h2
  refine ⟨m, by omega, ?_, ?_, by rw [← h2]; exact h3, ?_⟩
  · intro hl
    rcases h4 with ⟨h5, _⟩ | ⟨_, n, h6, _⟩
    · rw [List.length_drop] at h5; omega
    · omega
  · have e2 : (rfGo q j.next (j.recs.drop k) []).2 = posA j (k + m) := by
      rcases h4 with ⟨h5, h6⟩ | ⟨_, n, h6, h7, h8⟩
      · rw [List.length_drop] at h5
        rw [h6, show k + m = j.recs.length by omega, posA_end V]
      · rw [List.length_drop] at h7
        rw [h8, h6]
        have hl : k + n < j.recs.length := by omega
        have e : (j.recs.drop k)[n] = j.recs[k + n] := by simp
        rw [e, posA_usn V hl, show k + (n + 1) = (k + n) + 1 by omega, posA_succ hl]
        have b1 := posA_bd V (Nat.le_of_lt hl)
        have b2 := size_bd (V.names _ (List.getElem_mem hl)).2
        exact wrap_in (by omega)
    unfold readF
    rw [if_neg (fun c => c he), hf, h2, e2]
  · rcases h4 with ⟨h5, _⟩ | ⟨h5, _⟩
    · rw [List.length_drop] at h5; left; omega
    · right; rw [← h2]; exact h5
end Go.Proofs.Ytjbipdppgoldlaa

/-! Pc -/
namespace Go.Proofs.Ytjbipdppgoldlaa
open Go Dw

def skipR (R : Int) (only : Bool) (x : Chg) : Bool := decide (bitsOf .and .i64 x.reasons R = 0) || (only && !has x.reasons 2048)
def kp (R : Int) (only : Bool) (l : List Chg) : List Chg := l.filter (fun x => !skipR R only x)
theorem kept_kp (q : Qry) (l : List Chg) : kept q l = kp q.reasons q.only l := by
  unfold kept kp
  refine List.filter_congr fun x _ => ?_
  rw [skip_eq]; rfl

/-- A reader's question at the k-th record. -/
def qk (j : Jrn) (R : Int) (only : Bool) (k : Nat) (c : Int) : Qry := ⟨j.id, posA j k, R, only, c⟩

theorem goes_ex {j : Jrn} (hj : (checkJ j).2 = 0) (R : Int) (only : Bool) (k : Nat) (c : Int) : ∃ m, (k ≤ j.recs.length → 0 ≤ R ∧ R ≤ 4095 → 1 ≤ c ∧ c ≤ 200 →
    k + m ≤ j.recs.length ∧ (k < j.recs.length → 0 < m) ∧ readF j (qk j R only k c) = (kp R only ((j.recs.drop k).take m), posA j (k + m), 0) ∧ ((kp R only ((j.recs.drop k).take m)).length : Int) ≤ c ∧ (k + m = j.recs.length ∨ ((kp R only ((j.recs.drop k).take m)).length : Int) = c)) := by
  by_cases h : k ≤ j.recs.length ∧ (0 ≤ R ∧ R ≤ 4095) ∧ (1 ≤ c ∧ c ≤ 200)
  · obtain ⟨m, h1, h2, h3, h4, h5⟩ := readF_at hj (q := qk j R only k c) (k := k) h.1 rfl rfl h.2.1 h.2.2
    rw [kept_kp] at h3 h4 h5
    exact ⟨m, fun _ _ _ => ⟨h1, h2, h3, h4, h5⟩⟩
  · exact ⟨0, fun a b c => absurd ⟨a, b, c⟩ h⟩

noncomputable def mAt (j : Jrn) (R : Int) (only : Bool) (k : Nat) (c : Int) : Nat := if hj : (checkJ j).2 = 0 then Classical.choose (goes_ex hj R only k c) else 0
noncomputable def seg (j : Jrn) (R : Int) (only : Bool) (k : Nat) (c : Int) : List Chg := kp R only ((j.recs.drop k).take (mAt j R only k c))
def gotK (j : Jrn) (R : Int) (only : Bool) (k : Nat) : List Chg := kp R only (j.recs.take k)

theorem goes_at {j : Jrn} (hj : (checkJ j).2 = 0) {R : Int} {only : Bool} {k : Nat} {c : Int} (hk : k ≤ j.recs.length) (hR : 0 ≤ R ∧ R ≤ 4095) (hc : 1 ≤ c ∧ c ≤ 200) :
    k + mAt j R only k c ≤ j.recs.length ∧ (k < j.recs.length → 0 < mAt j R only k c) ∧ readF j (qk j R only k c) = (seg j R only k c, posA j (k + mAt j R only k c), 0) ∧ ((seg j R only k c).length : Int) ≤ c ∧ (k + mAt j R only k c = j.recs.length ∨ ((seg j R only k c).length : Int) = c) := by
  have h := Classical.choose_spec (goes_ex hj R only k c) hk hR hc
  unfold seg mAt
  rw [dif_pos hj]
  exact h

theorem kp_len (R : Int) (only : Bool) (l : List Chg) : (kp R only l).length ≤ l.length := List.length_filter_le _ _

theorem got_add (j : Jrn) (R : Int) (only : Bool) (k : Nat) (c : Int) : gotK j R only (k + mAt j R only k c) = gotK j R only k ++ seg j R only k c := by
  unfold gotK seg kp
  rw [List.take_add, List.filter_append]
theorem got_zero (j : Jrn) (R : Int) (only : Bool) : gotK j R only 0 = [] := by simp [gotK, kp]
theorem got_all (j : Jrn) (R : Int) (only : Bool) {k : Nat} (h : j.recs.length ≤ k) : gotK j R only k = kp R only j.recs := by
  unfold gotK; rw [List.take_of_length_le h]
theorem got_len {j : Jrn} (V : Valid j) (R : Int) (only : Bool) (k : Nat) : (gotK j R only k).length ≤ 200 := by
  have h1 := kp_len R only (j.recs.take k)
  have h2 := V.recs
  rw [List.length_take] at h1
  unfold gotK; omega
theorem seg_len {j : Jrn} (V : Valid j) (R : Int) (only : Bool) (k : Nat) (c : Int) : (seg j R only k c).length ≤ 200 := by
  have h1 := kp_len R only ((j.recs.drop k).take (mAt j R only k c))
  have h2 := V.recs
  rw [List.length_take, List.length_drop] at h1
  unfold seg; omega

/-- All of them at once. -/
theorem goes_all {j : Jrn} (hj : (checkJ j).2 = 0) {R : Int} {only : Bool} (hR : 0 ≤ R ∧ R ≤ 4095) : readF j ⟨j.id, j.first, R, only, 200⟩ = (kp R only j.recs, j.next, 0) := by
  have V := valid_of hj
  obtain ⟨h1, h2, h3, h4, h5⟩ := goes_at hj (R := R) (only := only) (k := 0) (c := 200) (Nat.zero_le _) hR (by omega)
  have hm : mAt j R only 0 200 = j.recs.length := by
    rcases h5 with h5 | h5
    · omega
    · have h6 := kp_len R only ((j.recs.drop 0).take (mAt j R only 0 200))
      have h7 := V.recs
      rw [List.length_take, List.length_drop] at h6
      unfold seg at h5
      omega
  have e : (qk j R only 0 200) = ⟨j.id, j.first, R, only, 200⟩ := rfl
  rw [e] at h3
  rw [h3, hm, Nat.zero_add, posA_end V]
  unfold seg
  rw [hm, List.drop_zero, List.take_length]

theorem bits_i {a b : Int} (ha : 0 ≤ a ∧ a ≤ 4095) (hb : 0 ≤ b ∧ b ≤ 4095) : bitsOf .and .i64 a b = ((a.toNat &&& b.toNat : Nat) : Int) := by
  have := bits_and (a := a.toNat) (b := b.toNat) (by omega) (by omega)
  rwa [show ((a.toNat : Nat) : Int) = a by omega, show ((b.toNat : Nat) : Int) = b by omega] at this

theorem woI_same {a b : Int} (ha : 0 ≤ a ∧ a ≤ 4095) (hb : 0 ≤ b ∧ b ≤ 4095) : woI a b = a ↔ bitsOf .and .i64 a b = 0 := by
  rw [bits_i ha hb]
  unfold woI andn
  constructor
  · intro h
    have h1 : a.toNat ^^^ (a.toNat &&& b.toNat) = a.toNat := by omega
    have h2 : a.toNat ^^^ (a.toNat ^^^ (a.toNat &&& b.toNat)) = a.toNat ^^^ a.toNat := by rw [h1]
    rw [← Nat.xor_assoc, Nat.xor_self, Nat.zero_xor] at h2
    rw [h2]; rfl
  · intro h
    have h1 : a.toNat &&& b.toNat = 0 := by omega
    rw [h1, Nat.xor_zero]; omega

theorem kp_wanted {j : Jrn} (V : Valid j) {R : Int} {only : Bool} (hR : 0 ≤ R ∧ R ≤ 4095) {x : Chg} (hx : x ∈ kp R only j.recs) : woI x.reasons R ≠ x.reasons ∧ (only = true → hasR x.reasons 2048 = true) ∧ 0 ≤ x.reasons ∧ x.reasons ≤ 4095 := by
  unfold kp at hx
  rw [List.mem_filter] at hx
  have h1 := recordErr_ok (V.recOk x hx.1)
  have h2 := hx.2
  unfold skipR at h2
  simp only [Bool.not_or, Bool.and_eq_true, Bool.not_eq_true', decide_eq_false_iff_not, Bool.and_eq_false_iff, Bool.not_eq_false'] at h2
  refine ⟨fun h => h2.1 ((woI_same (by omega) hR).1 h), fun ho => ?_, by omega, by omega⟩
  rcases h2.2 with h3 | h3
  · rw [ho] at h3; exact absurd h3 (by decide)
  · rw [hasR_close (within_iff.2 (by omega))]; exact h3

theorem usn_sorted {j : Jrn} (V : Valid j) : j.recs.Pairwise (fun a b => a.usn < b.usn) := by
  rw [List.pairwise_iff_getElem]
  intro a b ha hb hab
  rw [posA_usn V ha, posA_usn V hb]
  exact posA_lt V hab (Nat.le_of_lt hb)

theorem kp_sorted {j : Jrn} (V : Valid j) (R : Int) (only : Bool) {k : Nat} (h : k + 1 < (kp R only j.recs).length) : (kp R only j.recs)[k].usn < (kp R only j.recs)[k + 1].usn := by
  have hp : (kp R only j.recs).Pairwise (fun a b => a.usn < b.usn) := List.Pairwise.filter _ (usn_sorted V)
  rw [List.pairwise_iff_getElem] at hp
  exact hp k (k + 1) (by omega) h (by omega)
end Go.Proofs.Ytjbipdppgoldlaa
