/-
  Own lemmas, no conditions: Ws, Pb.
-/
import Derived.Test.YtjbipdppgoldlaaGrpE
set_option linter.unusedVariables false
set_option linter.unusedSimpArgs false

/-! Ws -/
namespace Go.Proofs.Ytjbipdppgoldlaa
open Go Dw
set_option maxRecDepth 10000
set_option linter.unusedVariables false
set_option linter.unusedSimpArgs false
attribute [local irreducible] Run
set_option maxHeartbeats 1000000

attribute [local irreducible] woI withI hasR compare cmp
structure Qry where
  id : Int
  pos : Int
  reasons : Int
  only : Bool
  count : Int
  deriving DecidableEq
def Qry.enc (q : Qry) : D := .agg [i q.id, i q.pos, i q.reasons, .bool q.only, i q.count]
def bsAt {α : Type} (c : α → Int) (l : List α) (k : Nat) : Int := match l[k]? with
  | some x => c x
  | none => 0
theorem bsAt_eq {α : Type} {c : α → Int} {l : List α} {k : Nat} (h : k < l.length) : bsAt c l k = c l[k] := by
  simp only [bsAt, List.getElem?_eq_getElem h]
def bsGo {α : Type} (c : α → Int) (l : List α) : Nat → Nat → Nat → Nat
  | 0, a, _ => a
  | n + 1, a, b => if a < b then (if bsAt c l ((a + b) / 2) < 0 then bsGo c l n ((a + b) / 2 + 1) b else bsGo c l n a ((a + b) / 2)) else a
def bsR {α : Type} (c : α → Int) (l : List α) : Nat × Bool :=
  (bsGo c l l.length 0 l.length, match l[bsGo c l l.length 0 l.length]? with | some x => decide (c x = 0) | none => false)
theorem bs_lt {α : Type} {c : α → Int} {l : List α} {n a b : Nat} (hn : b - a ≤ n) (h : a < b) (hl : (a + b) / 2 < l.length) (hc : c l[(a + b) / 2] < 0) : 0 < n ∧ bsGo c l n a b = bsGo c l (n - 1) ((a + b) / 2 + 1) b := by
  cases n with
  | zero => omega
  | succ n => exact ⟨by omega, by simp only [bsGo, if_pos h, bsAt_eq hl, if_pos hc, Nat.add_sub_cancel]⟩
theorem bs_ge {α : Type} {c : α → Int} {l : List α} {n a b : Nat} (hn : b - a ≤ n) (h : a < b) (hl : (a + b) / 2 < l.length) (hc : ¬ c l[(a + b) / 2] < 0) : 0 < n ∧ bsGo c l n a b = bsGo c l (n - 1) a ((a + b) / 2) := by
  cases n with
  | zero => omega
  | succ n => exact ⟨by omega, by simp only [bsGo, if_pos h, bsAt_eq hl, if_neg hc, Nat.add_sub_cancel]⟩
theorem bsR_at {α : Type} {c : α → Int} {l : List α} {k : Nat} (h : bsGo c l l.length 0 l.length = k) (hk : k < l.length) : bsR c l = (k, decide (c l[k] = 0)) := by
  simp only [bsR, h, List.getElem?_eq_getElem hk]
theorem bsR_none {α : Type} {c : α → Int} {l : List α} {k : Nat} (h : bsGo c l l.length 0 l.length = k) (hk : ¬ k < l.length) : bsR c l = (k, false) := by
  simp only [bsR, h, List.getElem?_eq_none (Nat.le_of_not_lt hk)]
theorem bs_end {α : Type} {c : α → Int} {l : List α} {n a b : Nat} (h : ¬ a < b) : bsGo c l n a b = a := by
  cases n <;> simp [bsGo, h]

theorem c49 (x : Chg) (p : Int) : Fn 49 [x.enc, i p] (i (cmp x.usn p)) := by
  refine run_walkF eok Try.func49 rfl (by kernel_rfl) ?_
  conv => whnf
  repeat' (first
    | ((with_reducible refine on_dec_f ?_ ?_); (focus ((try simp only [List.length_map, List.length_cons, List.length_nil, List.length_append]); omega)); conv => whnf)
    | ((with_reducible refine on_dec_t ?_ ?_); (focus ((try simp only [List.length_map, List.length_cons, List.length_nil, List.length_append]); omega)); conv => whnf)
    | ((with_reducible refine on_dec (fun h => ?_) (fun h => ?_)) <;> (try simp only [List.length_map] at h) <;> conv => whnf)
    | ((with_reducible refine on_ndec (fun h => ?_) (fun h => ?_)) <;> (try simp only [List.length_map] at h) <;> conv => whnf)
    | ((with_reducible refine on_not (fun h => ?_) (fun h => ?_)) <;> conv => whnf)
    | ((with_reducible refine onBool_split (fun h => ?_) (fun h => ?_)) <;> conv => whnf)
    | (refine call_step (run_view (c50 _ _) rfl rfl) ?_; conv => whnf)
    | (refine ⟨⟨(by first | rfl | (simp; done)), cap_ok (by simp only [List.length_map, List.length_cons, List.length_nil, List.length_append]; omega) rfl⟩, ?_⟩; conv => whnf)
    | (refine ⟨mem_one ⟨rfl, rfl⟩, ?_⟩; conv => whnf)
    | (refine ⟨(by intro y hy; obtain ⟨x, _, rfl⟩ := List.mem_map.1 hy; first | rfl | exact ⟨rfl, rfl⟩), ?_⟩; conv => whnf)
    | (refine ⟨cap_ok (by first | omega | (simp only [List.length_map]; omega)) rfl, ?_⟩; conv => whnf)
    | (refine ix_map (by omega) ?_; conv => whnf)
    | (refine ix_str (by omega) ?_; conv => whnf)
    | (refine wrap64 (by omega) ?_; conv => whnf)
    | (exfalso; simp only [List.length_map, List.length_cons, List.length_nil, List.length_append] at h; omega)
    | (exact endx rfl; done)
    | (refine ⟨rfl, ?_⟩; conv => whnf)
    | fail
    )

theorem c105 (x : Opn) (f : Ref) : Fn 105 [x.enc, f.enc] (i (compare x.file f)) := by
  refine run_walkF eok Try.func105 rfl (by kernel_rfl) ?_
  conv => whnf
  repeat' (first
    | ((with_reducible refine on_dec_f ?_ ?_); (focus ((try simp only [List.length_map, List.length_cons, List.length_nil, List.length_append]); omega)); conv => whnf)
    | ((with_reducible refine on_dec_t ?_ ?_); (focus ((try simp only [List.length_map, List.length_cons, List.length_nil, List.length_append]); omega)); conv => whnf)
    | ((with_reducible refine on_dec (fun h => ?_) (fun h => ?_)) <;> (try simp only [List.length_map] at h) <;> conv => whnf)
    | ((with_reducible refine on_ndec (fun h => ?_) (fun h => ?_)) <;> (try simp only [List.length_map] at h) <;> conv => whnf)
    | ((with_reducible refine on_not (fun h => ?_) (fun h => ?_)) <;> conv => whnf)
    | ((with_reducible refine onBool_split (fun h => ?_) (fun h => ?_)) <;> conv => whnf)
    | (refine call_step (run_view (c65 _ _) rfl rfl) ?_; conv => whnf)
    | (refine ⟨⟨(by first | rfl | (simp; done)), cap_ok (by simp only [List.length_map, List.length_cons, List.length_nil, List.length_append]; omega) rfl⟩, ?_⟩; conv => whnf)
    | (refine ⟨mem_one ⟨rfl, rfl⟩, ?_⟩; conv => whnf)
    | (refine ⟨(by intro y hy; obtain ⟨x, _, rfl⟩ := List.mem_map.1 hy; first | rfl | exact ⟨rfl, rfl⟩), ?_⟩; conv => whnf)
    | (refine ⟨cap_ok (by first | omega | (simp only [List.length_map]; omega)) rfl, ?_⟩; conv => whnf)
    | (refine ix_map (by omega) ?_; conv => whnf)
    | (refine ix_str (by omega) ?_; conv => whnf)
    | (refine wrap64 (by omega) ?_; conv => whnf)
    | (exfalso; simp only [List.length_map, List.length_cons, List.length_nil, List.length_append] at h; omega)
    | (exact endx rfl; done)
    | (refine ⟨rfl, ?_⟩; conv => whnf)
    | fail
    )

theorem c48 (l : List Chg) (p : Int) (hl : l.length < 1000000) : Fn 48 [.fs (l.map Chg.enc), i p, .fn 49 [] []] (.tup [i (bsR (fun x => cmp x.usn p) l).1, .bool (bsR (fun x => cmp x.usn p) l).2]) := by
  refine run_walkF eok Try.func48 rfl (by kernel_rfl) ?_
  conv => whnf
  repeat' (first
    | ((with_reducible refine on_dec_f ?_ ?_); (focus ((try simp only [List.length_map, List.length_cons, List.length_nil, List.length_append]); omega)); conv => whnf)
    | ((with_reducible refine on_dec_t ?_ ?_); (focus ((try simp only [List.length_map, List.length_cons, List.length_nil, List.length_append]); omega)); conv => whnf)
    | ((with_reducible refine on_dec (fun h => ?_) (fun h => ?_)) <;> (try simp only [List.length_map] at h) <;> conv => whnf)
    | ((with_reducible refine on_ndec (fun h => ?_) (fun h => ?_)) <;> (try simp only [List.length_map] at h) <;> conv => whnf)
    | ((with_reducible refine on_not (fun h => ?_) (fun h => ?_)) <;> conv => whnf)
    | ((with_reducible refine onBool_split (fun h => ?_) (fun h => ?_)) <;> conv => whnf)
    | (refine loop3 (fun (n : Nat) (a : Nat) (b : Nat) => b - a) (fun (n : Nat) (a : Nat) (b : Nat) => a ≤ b ∧ b ≤ l.length ∧ b - a ≤ n ∧ bsGo (fun x => cmp x.usn p) l l.length 0 l.length = bsGo (fun x => cmp x.usn p) l n a b) (fun (n : Nat) (a : Nat) (b : Nat) => [(0, .d (.fs (l.map Chg.enc))), (1, .d (i p)), (2, .d (.fn 49 [] [])), (8, .d (i l.length)), (9, .d (i a)), (10, .d (i b))]) (fun (n : Nat) (a : Nat) (b : Nat) => []) (l.length) (0) (l.length) (by exact ⟨by omega, by omega, by omega, rfl⟩) ?_ (fun n a b C hI hC => ?_); (exact ⟨[], rfl, rfl, ⟨(by first | exact congrArg (D.int .i64) (by omega) | exact ⟨rfl, rfl, rfl⟩ | exact congrArg (D.int .i64) (by simp) | (show (_ : D) = _; with_reducible rfl)), (by first | exact congrArg (D.int .i64) (by omega) | exact ⟨rfl, rfl, rfl⟩ | exact congrArg (D.int .i64) (by simp) | (show (_ : D) = _; with_reducible rfl)), (by first | exact congrArg (D.int .i64) (by omega) | exact ⟨rfl, rfl, rfl⟩ | exact congrArg (D.int .i64) (by simp) | (show (_ : D) = _; with_reducible rfl)), (by first | exact congrArg (D.int .i64) (by omega) | exact ⟨rfl, rfl, rfl⟩ | exact congrArg (D.int .i64) (by simp) | (show (_ : D) = _; with_reducible rfl)), (by first | exact congrArg (D.int .i64) (by omega) | exact ⟨rfl, rfl, rfl⟩ | exact congrArg (D.int .i64) (by simp) | (show (_ : D) = _; with_reducible rfl)), (by first | exact congrArg (D.int .i64) (by omega) | exact ⟨rfl, rfl, rfl⟩ | exact congrArg (D.int .i64) (by simp) | (show (_ : D) = _; with_reducible rfl)), trivial⟩, trivial⟩); all_goals (conv => whnf))
    | (refine hC (n - 1) ((a + b) / 2 + 1) (b) _ _ ?_ (by omega) ?_; clear hC; rotate_left; (exact ⟨[], rfl, rfl, ⟨(by first | exact congrArg (D.int .i64) (by omega) | exact ⟨rfl, rfl, rfl⟩ | exact congrArg (D.int .i64) (by simp) | (show (_ : D) = _; with_reducible rfl)), (by first | exact congrArg (D.int .i64) (by omega) | exact ⟨rfl, rfl, rfl⟩ | exact congrArg (D.int .i64) (by simp) | (show (_ : D) = _; with_reducible rfl)), (by first | exact congrArg (D.int .i64) (by omega) | exact ⟨rfl, rfl, rfl⟩ | exact congrArg (D.int .i64) (by simp) | (show (_ : D) = _; with_reducible rfl)), (by first | exact congrArg (D.int .i64) (by omega) | exact ⟨rfl, rfl, rfl⟩ | exact congrArg (D.int .i64) (by simp) | (show (_ : D) = _; with_reducible rfl)), (by first | exact congrArg (D.int .i64) (by omega) | exact ⟨rfl, rfl, rfl⟩ | exact congrArg (D.int .i64) (by simp) | (show (_ : D) = _; with_reducible rfl)), (by first | exact congrArg (D.int .i64) (by omega) | exact ⟨rfl, rfl, rfl⟩ | exact congrArg (D.int .i64) (by simp) | (show (_ : D) = _; with_reducible rfl)), trivial⟩, trivial⟩); (exact (by have he := bs_lt (c := fun x => cmp x.usn p) (l := l) (n := n) (a := a) (b := b) hI.2.2.1 (by omega) (by omega) h; exact ⟨by omega, by omega, by omega, by rw [hI.2.2.2, he.2]⟩)))
    | (refine hC (n - 1) (a) ((a + b) / 2) _ _ ?_ (by omega) ?_; clear hC; rotate_left; (exact ⟨[], rfl, rfl, ⟨(by first | exact congrArg (D.int .i64) (by omega) | exact ⟨rfl, rfl, rfl⟩ | exact congrArg (D.int .i64) (by simp) | (show (_ : D) = _; with_reducible rfl)), (by first | exact congrArg (D.int .i64) (by omega) | exact ⟨rfl, rfl, rfl⟩ | exact congrArg (D.int .i64) (by simp) | (show (_ : D) = _; with_reducible rfl)), (by first | exact congrArg (D.int .i64) (by omega) | exact ⟨rfl, rfl, rfl⟩ | exact congrArg (D.int .i64) (by simp) | (show (_ : D) = _; with_reducible rfl)), (by first | exact congrArg (D.int .i64) (by omega) | exact ⟨rfl, rfl, rfl⟩ | exact congrArg (D.int .i64) (by simp) | (show (_ : D) = _; with_reducible rfl)), (by first | exact congrArg (D.int .i64) (by omega) | exact ⟨rfl, rfl, rfl⟩ | exact congrArg (D.int .i64) (by simp) | (show (_ : D) = _; with_reducible rfl)), (by first | exact congrArg (D.int .i64) (by omega) | exact ⟨rfl, rfl, rfl⟩ | exact congrArg (D.int .i64) (by simp) | (show (_ : D) = _; with_reducible rfl)), trivial⟩, trivial⟩); (exact (by have he := bs_ge (c := fun x => cmp x.usn p) (l := l) (n := n) (a := a) (b := b) hI.2.2.1 (by omega) (by omega) h; exact ⟨by omega, by omega, by omega, by rw [hI.2.2.2, he.2]⟩)))
    | (refine ⟨⟨(by first | rfl | (simp; done)), cap_ok (by simp only [List.length_map, List.length_cons, List.length_nil, List.length_append]; omega) rfl⟩, ?_⟩; conv => whnf)
    | (refine ⟨mem_one ⟨rfl, rfl⟩, ?_⟩; conv => whnf)
    | (refine ⟨(by intro y hy; obtain ⟨x, _, rfl⟩ := List.mem_map.1 hy; first | rfl | exact ⟨rfl, rfl⟩), ?_⟩; conv => whnf)
    | (refine ⟨cap_ok (by first | omega | (simp only [List.length_map]; omega)) rfl, ?_⟩; conv => whnf)
    | (refine ix_map (by omega) ?_; conv => whnf)
    | (refine ix_str (by omega) ?_; conv => whnf)
    | (refine wrap64 (by omega) ?_; conv => whnf)
    | (refine call_step (run_view (c49 _ _) rfl rfl) ?_; conv => whnf)
    | (refine wrapU64 (by omega) ?_; conv => whnf)
    | (refine shr_at 2 ?_ ?_ ?_ ?_; (rfl); (rfl); (rfl); conv => whnf)
    | (refine ix_at ((a + b) / 2) (by omega) (by omega) ?_; conv => whnf)
    | (refine ix_at a (by omega) (by omega) ?_; conv => whnf)
    | (exfalso; simp only [List.length_map, List.length_cons, List.length_nil, List.length_append] at h; omega)
    | (have he := bs_end (c := fun x => cmp x.usn p) (l := l) (n := n) (a := a) (b := b) (by omega); first | (have hb := bsR_at (c := fun x => cmp x.usn p) (l := l) (k := a) (by rw [hI.2.2.2, he]) (by omega); exact endx2 (by rw [hb])) | (have hb := bsR_none (c := fun x => cmp x.usn p) (l := l) (k := a) (by rw [hI.2.2.2, he]) (by omega); exact endx2 (by rw [hb])); done)
    | (refine ⟨rfl, ?_⟩; conv => whnf)
    | fail
    )

theorem c104 (l : List Opn) (p : Ref) (hl : l.length < 1000000) : Fn 104 [.fs (l.map Opn.enc), p.enc, .fn 105 [] []] (.tup [i (bsR (fun x => compare x.file p) l).1, .bool (bsR (fun x => compare x.file p) l).2]) := by
  refine run_walkF eok Try.func104 rfl (by kernel_rfl) ?_
  conv => whnf
  repeat' (first
    | ((with_reducible refine on_dec_f ?_ ?_); (focus ((try simp only [List.length_map, List.length_cons, List.length_nil, List.length_append]); omega)); conv => whnf)
    | ((with_reducible refine on_dec_t ?_ ?_); (focus ((try simp only [List.length_map, List.length_cons, List.length_nil, List.length_append]); omega)); conv => whnf)
    | ((with_reducible refine on_dec (fun h => ?_) (fun h => ?_)) <;> (try simp only [List.length_map] at h) <;> conv => whnf)
    | ((with_reducible refine on_ndec (fun h => ?_) (fun h => ?_)) <;> (try simp only [List.length_map] at h) <;> conv => whnf)
    | ((with_reducible refine on_not (fun h => ?_) (fun h => ?_)) <;> conv => whnf)
    | ((with_reducible refine onBool_split (fun h => ?_) (fun h => ?_)) <;> conv => whnf)
    | (refine ⟨[], [], (by decide +kernel), ?_⟩; conv => whnf)
    | (refine loop3 (fun (n : Nat) (a : Nat) (b : Nat) => b - a) (fun (n : Nat) (a : Nat) (b : Nat) => a ≤ b ∧ b ≤ l.length ∧ b - a ≤ n ∧ bsGo (fun x => compare x.file p) l l.length 0 l.length = bsGo (fun x => compare x.file p) l n a b) (fun (n : Nat) (a : Nat) (b : Nat) => [(0, .d (.fs (l.map Opn.enc))), (2, .d (.fn 105 [] [])), (4, .ptr 0 0 0), (8, .d (i l.length)), (9, .d (i a)), (10, .d (i b))]) (fun (n : Nat) (a : Nat) (b : Nat) => [⟨[.d p.enc], 2, 0⟩]) (l.length) (0) (l.length) (by exact ⟨by omega, by omega, by omega, rfl⟩) ?_ (fun n a b C hI hC => ?_); (exact ⟨[.old 0], rfl, rfl, ⟨(by first | exact congrArg (D.int .i64) (by omega) | exact ⟨rfl, rfl, rfl⟩ | exact congrArg (D.int .i64) (by simp) | (show (_ : D) = _; with_reducible rfl)), (by first | exact congrArg (D.int .i64) (by omega) | exact ⟨rfl, rfl, rfl⟩ | exact congrArg (D.int .i64) (by simp) | (show (_ : D) = _; with_reducible rfl)), (by first | exact congrArg (D.int .i64) (by omega) | exact ⟨rfl, rfl, rfl⟩ | exact congrArg (D.int .i64) (by simp) | (show (_ : D) = _; with_reducible rfl)), (by first | exact congrArg (D.int .i64) (by omega) | exact ⟨rfl, rfl, rfl⟩ | exact congrArg (D.int .i64) (by simp) | (show (_ : D) = _; with_reducible rfl)), (by first | exact congrArg (D.int .i64) (by omega) | exact ⟨rfl, rfl, rfl⟩ | exact congrArg (D.int .i64) (by simp) | (show (_ : D) = _; with_reducible rfl)), (by first | exact congrArg (D.int .i64) (by omega) | exact ⟨rfl, rfl, rfl⟩ | exact congrArg (D.int .i64) (by simp) | (show (_ : D) = _; with_reducible rfl)), trivial⟩, ⟨⟨rfl, rfl, .inl ⟨[_], rfl, rfl⟩⟩, trivial⟩⟩); all_goals (conv => whnf))
    | (refine hC (n - 1) ((a + b) / 2 + 1) (b) _ _ ?_ (by omega) ?_; clear hC; rotate_left; (exact ⟨[.old 0], rfl, rfl, ⟨(by first | exact congrArg (D.int .i64) (by omega) | exact ⟨rfl, rfl, rfl⟩ | exact congrArg (D.int .i64) (by simp) | (show (_ : D) = _; with_reducible rfl)), (by first | exact congrArg (D.int .i64) (by omega) | exact ⟨rfl, rfl, rfl⟩ | exact congrArg (D.int .i64) (by simp) | (show (_ : D) = _; with_reducible rfl)), (by first | exact congrArg (D.int .i64) (by omega) | exact ⟨rfl, rfl, rfl⟩ | exact congrArg (D.int .i64) (by simp) | (show (_ : D) = _; with_reducible rfl)), (by first | exact congrArg (D.int .i64) (by omega) | exact ⟨rfl, rfl, rfl⟩ | exact congrArg (D.int .i64) (by simp) | (show (_ : D) = _; with_reducible rfl)), (by first | exact congrArg (D.int .i64) (by omega) | exact ⟨rfl, rfl, rfl⟩ | exact congrArg (D.int .i64) (by simp) | (show (_ : D) = _; with_reducible rfl)), (by first | exact congrArg (D.int .i64) (by omega) | exact ⟨rfl, rfl, rfl⟩ | exact congrArg (D.int .i64) (by simp) | (show (_ : D) = _; with_reducible rfl)), trivial⟩, ⟨⟨rfl, rfl, .inl ⟨[_], rfl, rfl⟩⟩, trivial⟩⟩); (exact (by have he := bs_lt (c := fun x => compare x.file p) (l := l) (n := n) (a := a) (b := b) hI.2.2.1 (by omega) (by omega) h; exact ⟨by omega, by omega, by omega, by rw [hI.2.2.2, he.2]⟩)))
    | (refine hC (n - 1) (a) ((a + b) / 2) _ _ ?_ (by omega) ?_; clear hC; rotate_left; (exact ⟨[.old 0], rfl, rfl, ⟨(by first | exact congrArg (D.int .i64) (by omega) | exact ⟨rfl, rfl, rfl⟩ | exact congrArg (D.int .i64) (by simp) | (show (_ : D) = _; with_reducible rfl)), (by first | exact congrArg (D.int .i64) (by omega) | exact ⟨rfl, rfl, rfl⟩ | exact congrArg (D.int .i64) (by simp) | (show (_ : D) = _; with_reducible rfl)), (by first | exact congrArg (D.int .i64) (by omega) | exact ⟨rfl, rfl, rfl⟩ | exact congrArg (D.int .i64) (by simp) | (show (_ : D) = _; with_reducible rfl)), (by first | exact congrArg (D.int .i64) (by omega) | exact ⟨rfl, rfl, rfl⟩ | exact congrArg (D.int .i64) (by simp) | (show (_ : D) = _; with_reducible rfl)), (by first | exact congrArg (D.int .i64) (by omega) | exact ⟨rfl, rfl, rfl⟩ | exact congrArg (D.int .i64) (by simp) | (show (_ : D) = _; with_reducible rfl)), (by first | exact congrArg (D.int .i64) (by omega) | exact ⟨rfl, rfl, rfl⟩ | exact congrArg (D.int .i64) (by simp) | (show (_ : D) = _; with_reducible rfl)), trivial⟩, ⟨⟨rfl, rfl, .inl ⟨[_], rfl, rfl⟩⟩, trivial⟩⟩); (exact (by have he := bs_ge (c := fun x => compare x.file p) (l := l) (n := n) (a := a) (b := b) hI.2.2.1 (by omega) (by omega) h; exact ⟨by omega, by omega, by omega, by rw [hI.2.2.2, he.2]⟩)))
    | (refine ⟨⟨(by first | rfl | (simp; done)), cap_ok (by simp only [List.length_map, List.length_cons, List.length_nil, List.length_append]; omega) rfl⟩, ?_⟩; conv => whnf)
    | (refine ⟨mem_one ⟨rfl, rfl⟩, ?_⟩; conv => whnf)
    | (refine ⟨(by intro y hy; obtain ⟨x, _, rfl⟩ := List.mem_map.1 hy; first | rfl | exact ⟨rfl, rfl⟩), ?_⟩; conv => whnf)
    | (refine ⟨cap_ok (by first | omega | (simp only [List.length_map]; omega)) rfl, ?_⟩; conv => whnf)
    | (refine ix_map (by omega) ?_; conv => whnf)
    | (refine ix_str (by omega) ?_; conv => whnf)
    | (refine wrap64 (by omega) ?_; conv => whnf)
    | (refine call_step (run_view (c105 _ p) rfl rfl) ?_; conv => whnf)
    | (refine wrapU64 (by omega) ?_; conv => whnf)
    | (refine shr_at 2 ?_ ?_ ?_ ?_; (rfl); (rfl); (rfl); conv => whnf)
    | (refine ix_at ((a + b) / 2) (by omega) (by omega) ?_; conv => whnf)
    | (refine ix_at a (by omega) (by omega) ?_; conv => whnf)
    | (exfalso; simp only [List.length_map, List.length_cons, List.length_nil, List.length_append] at h; omega)
    | (have he := bs_end (c := fun x => compare x.file p) (l := l) (n := n) (a := a) (b := b) (by omega); first | (have hb := bsR_at (c := fun x => compare x.file p) (l := l) (k := a) (by rw [hI.2.2.2, he]) (by omega); exact endx2 (by rw [hb])) | (have hb := bsR_none (c := fun x => compare x.file p) (l := l) (k := a) (by rw [hI.2.2.2, he]) (by omega); exact endx2 (by rw [hb])); done)
    | (refine ⟨rfl, ?_⟩; conv => whnf)
    | fail
    )

end Go.Proofs.Ytjbipdppgoldlaa

/-! Pb -/
namespace Go.Proofs.Ytjbipdppgoldlaa
open Go Dw

theorem bsGo_law {α : Type} {c : α → Int} {l : List α} {k : Nat} (hlt : ∀ i (h : i < l.length), i < k → c l[i] < 0) (hge : ∀ i (h : i < l.length), k ≤ i → ¬ c l[i] < 0) : ∀ (n a b : Nat), a ≤ k → k ≤ b → b ≤ l.length → b - a ≤ n → bsGo c l n a b = k
  | 0, a, b, h1, h2, h3, h4 => by simp only [bsGo]; omega
  | n + 1, a, b, h1, h2, h3, h4 => by
    simp only [bsGo]
    by_cases hab : a < b
    · rw [if_pos hab, bsAt_eq (by omega)]
      by_cases hm : (a + b) / 2 < k
      · rw [if_pos (hlt _ (by omega) hm)]
        exact bsGo_law hlt hge n _ _ (by omega) h2 h3 (by omega)
      · rw [if_neg (hge _ (by omega) (by omega))]
        exact bsGo_law hlt hge n _ _ h1 (by omega) (by omega) (by omega)
    · rw [if_neg hab]; omega

theorem bsR_law {α : Type} {c : α → Int} {l : List α} {k : Nat} (hk : k ≤ l.length) (hlt : ∀ i (h : i < l.length), i < k → c l[i] < 0) (hge : ∀ i (h : i < l.length), k ≤ i → ¬ c l[i] < 0) : bsR c l = (k, if h : k < l.length then decide (c l[k] = 0) else false) := by
  have h := bsGo_law hlt hge l.length 0 l.length (by omega) hk (Nat.le_refl _) (by omega)
  by_cases hl : k < l.length
  · rw [bsR_at h hl, dif_pos hl]
  · rw [bsR_none h hl, dif_neg hl]

/-! ### Positions -/

def pos (a : Int) : List Chg → Int
  | [] => a
  | x :: l => pos (a + size x.name.length) l

theorem size_bd {n : Nat} (h : n ≤ 32) : 32 ≤ size n ∧ size n ≤ 72 := by
  unfold size; omega

theorem pos_app (a : Int) : ∀ (l r : List Chg), pos a (l ++ r) = pos (pos a l) r := by
  intro l
  induction l generalizing a with
  | nil => intro r; rfl
  | cons x l ih => intro r; exact ih _ r

theorem pos_bd : ∀ (l : List Chg) (a : Int), (∀ x ∈ l, x.name.length ≤ 32) → a + 32 * l.length ≤ pos a l ∧ pos a l ≤ a + 72 * l.length
  | [], a, _ => by simp [pos]
  | x :: l, a, h => by
    have h1 := size_bd (h x (by simp))
    have h2 := pos_bd l (a + size x.name.length) (fun y hy => h y (by simp [hy]))
    simp only [pos, List.length_cons]
    omega

theorem wrap_in {n : Int} (h : 0 ≤ n ∧ n < 1000000000000) : IntKind.i64.wrap n = n := Go.IntWalk.i64_in _ (by omega)

theorem eachRec_pos : ∀ (l : List Chg) (k : Nat) (a : Int), (∀ x ∈ l, x.name.length ≤ 32) → 0 ≤ a → a + 72 * l.length < 1000000000000 → (eachRec l k a).2.1 = 0 →
    (eachRec l k a).2.2 = pos a l ∧ ∀ i (h : i < l.length), l[i].usn = pos a (l.take i)
  | [], k, a, _, _, _, _ => ⟨rfl, fun i h => by simp at h⟩
  | x :: l, k, a, hn, h0, hb, he => by
    have h1 := size_bd (hn x (by simp))
    simp only [eachRec] at he ⊢
    simp only [List.length_cons] at hb
    by_cases hr : recErr x a = 0
    · rw [if_pos hr] at he ⊢
      rw [wrap_in (by omega)] at he ⊢
      obtain ⟨e1, e2⟩ := eachRec_pos l (k + 1) _ (fun y hy => hn y (by simp [hy])) (by omega) (by omega) he
      refine ⟨e1, fun i hi => ?_⟩
      cases i with
      | zero =>
        unfold recErr at hr
        by_cases hq : recordErr x = 0
        · by_cases hx : x.usn = a
          · simpa [pos] using hx
          · rw [first_cons, if_pos hq, if_neg hx, first_cons, if_neg (by decide)] at hr
            exact absurd hr (by decide)
        · rw [first_cons, if_neg hq] at hr
          exact absurd hr hq
      | succ i =>
        have := e2 i (by simpa using hi)
        simpa [pos] using this
    · rw [if_neg hr] at he; exact absurd he hr

theorem Valid.names {j : Jrn} (V : Valid j) : ∀ x ∈ j.recs, 1 ≤ x.name.length ∧ x.name.length ≤ 32 := fun x hx => by
  have := nameErr_ok (recordErr_ok (V.recOk x hx)).2.2.2.2
  exact ⟨this.1, this.2.1⟩

theorem Valid.usns {j : Jrn} (V : Valid j) : j.next = pos j.first j.recs ∧ ∀ i (h : i < j.recs.length), j.recs[i].usn = pos j.first (j.recs.take i) := by
  have h1 := V.nums
  have h2 := V.recs
  obtain ⟨e1, e2⟩ := eachRec_pos j.recs 0 j.first (fun x hx => (V.names x hx).2) (by omega) (by omega) V.each.1
  exact ⟨by rw [V.each.2, e1], e2⟩

def posA (j : Jrn) (k : Nat) : Int := pos j.first (j.recs.take k)

theorem posA_lt {j : Jrn} (V : Valid j) {i k : Nat} (h : i < k) (hk : k ≤ j.recs.length) : posA j i < posA j k := by
  have e : j.recs.take k = j.recs.take i ++ (j.recs.take k).drop i := by
    have := (List.take_append_drop i (j.recs.take k)).symm
    rwa [List.take_take, Nat.min_eq_left (by omega)] at this
  unfold posA
  rw [e, pos_app]
  have hb := pos_bd ((j.recs.take k).drop i) (pos j.first (j.recs.take i)) (fun x hx => (V.names x (List.mem_of_mem_take (List.mem_of_mem_drop hx))).2)
  have hl : ((j.recs.take k).drop i).length = k - i := by simp; omega
  rw [hl] at hb
  omega

theorem posA_le {j : Jrn} (V : Valid j) {i k : Nat} (h : i ≤ k) (hk : k ≤ j.recs.length) : posA j i ≤ posA j k := by
  by_cases e : i = k
  · subst e; omega
  · have := posA_lt V (i := i) (k := k) (by omega) hk; omega

theorem posA_zero (j : Jrn) : posA j 0 = j.first := rfl
theorem posA_end {j : Jrn} (V : Valid j) : posA j j.recs.length = j.next := by
  unfold posA; rw [List.take_length, V.usns.1]
theorem posA_usn {j : Jrn} (V : Valid j) {i : Nat} (h : i < j.recs.length) : j.recs[i].usn = posA j i := V.usns.2 i h
theorem posA_succ {j : Jrn} {i : Nat} (h : i < j.recs.length) : posA j (i + 1) = posA j i + size j.recs[i].name.length := by
  unfold posA
  rw [List.take_succ_eq_append_getElem h, pos_app]; rfl
theorem posA_bd {j : Jrn} (V : Valid j) {i : Nat} (h : i ≤ j.recs.length) : 0 ≤ posA j i ∧ posA j i ≤ 2147483647 := by
  have h1 := V.nums
  have h2 := posA_le V (Nat.zero_le i) h
  have h3 := posA_le V h (Nat.le_refl _)
  rw [posA_end V] at h3
  rw [posA_zero] at h2
  omega

theorem cmp_lt {a b : Int} : cmp a b < 0 ↔ a < b := by
  unfold cmp; split
  · simp [*]
  · split <;> simp [*]
theorem cmp_eq {a b : Int} : cmp a b = 0 ↔ a = b := by
  unfold cmp; split
  · constructor
    · intro h; simp at h
    · intro h; omega
  · split
    · constructor
      · intro h; simp at h
      · intro h; omega
    · constructor
      · intro _; omega
      · intro _; rfl

end Go.Proofs.Ytjbipdppgoldlaa
