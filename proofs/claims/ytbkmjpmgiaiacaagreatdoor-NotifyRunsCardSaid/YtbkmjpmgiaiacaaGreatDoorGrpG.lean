/-
  Own lemmas, no conditions: Wk, Wl, Bh, Sh, Si, Ld, Wj.
-/
import Derived.Test.YtbkmjpmgiaiacaaGreatDoorGrpE
import Derived.Test.YtbkmjpmgiaiacaaGreatDoorRows
import Derived.Test.YtbkmjpmgiaiacaaGreatDoorTie
import Derived.Test.YtbkmjpmgiaiacaaGreatDoorCards
import Derived.ProofKit
import Derived.LaidMore
set_option linter.unusedVariables false
set_option linter.unusedSimpArgs false

/-! Wk -/
namespace Go.Proofs.YtbkmjpmgiaiacaaGreatDoor
open Go Dw
set_option maxRecDepth 10000
set_option linter.unusedVariables false
set_option linter.unusedSimpArgs false
attribute [local irreducible] Run
set_option maxHeartbeats 4000000

open Paths
attribute [local irreducible] nameErr watchErr eventErr pathErr isAct hasBit seesW belowI text glue
structure BW where
  id : Int
  w : Wt
  recs : List Rec
  lost : Bool
structure Bd where
  ws : List BW
  next : Int
def BW.enc (x : BW) : D := .agg [i x.id, .str x.w.path, .bool x.w.deep, i x.w.filter, i x.w.room, .fs (x.recs.map Rec.enc), .bool x.lost]
def Bd.enc (b : Bd) : D := .agg [.fs (b.ws.map BW.enc), i b.next]
def sz (x : Rec) : Int := (((x.path.length + 5) / 4 * 4 : Nat) : Int)
def roomOf : List Rec → Int
  | [] => 0
  | x :: l => sz x + roomOf l
theorem room_snoc (l : List Rec) (x : Rec) : roomOf (l ++ [x]) = roomOf l + sz x := by
  induction l with
  | nil => simp [roomOf]
  | cons y l ih => simp only [List.cons_append, roomOf, ih]; omega
theorem room_take {l : List Rec} {k : Nat} (h : k < l.length) : roomOf (l.take (k + 1)) = roomOf (l.take k) + sz l[k] := by
  rw [List.take_succ_eq_append_getElem h, room_snoc]
def mrg (a : Int) : Bool := decide (a = 16) || decide (a = 32)
def oddD (deep : Bool) (p : PP) : Bool := p.abs || (!decide (p.stream = []) || (p.parts.any dots || (!deep && decide (1 < p.parts.length))))
def recE (w : Wt) (x : Rec) : Int :=
  if isAct x.act = true ∧ hasBit w.filter x.act = true then (if (parse x.path).2 = 0 then (if oddD w.deep (parse x.path).1 = true then 3 else 0) else (parse x.path).2) else 15
def recI (w : Wt) (x : Rec) (dbl : Bool) : Int := if recE w x = 0 then (if dbl = true then 23 else 0) else recE w x
def small (l : List Rec) : Prop := l.length < 1000 ∧ ∀ x ∈ l, x.path.length < 1000 ∧ x.act < 9223372036854775808
theorem room_bd {l : List Rec} (h : small l) (k : Nat) : 0 ≤ roomOf (l.take k) ∧ roomOf (l.take k) ≤ 2000 * k := by
  induction k with
  | zero => simp [roomOf]
  | succ k ih =>
    by_cases hk : k < l.length
    · rw [room_take hk]
      have := (h.2 _ (List.getElem_mem hk)).1
      unfold sz
      omega
    · rw [List.take_of_length_le (by omega)] at ih ⊢
      omega
theorem normal_nodots {p : PP} (h : ∀ x ∈ p.parts, dots x = false) (hp : p.parts ≠ [] ∨ p.abs = true) : (normal p).parts = p.parts := by
  have key : ∀ (l out : List Bs), (∀ x ∈ l, dots x = false) → l.foldl (normStep p.abs) out = out ++ l := by
    intro l
    induction l with
    | nil => intro out _; simp
    | cons s l ih =>
      intro out hl
      have hd := hl s (by simp)
      have h1 : ¬ s = [46] := by rintro rfl; exact absurd hd (by decide)
      have h2 : ¬ s = [46, 46] := by rintro rfl; exact absurd hd (by decide)
      rw [List.foldl_cons, st_app h1 h2, ih _ fun x hx => hl x (by simp [hx])]
      simp
  unfold normal
  simp only [key _ _ h, List.nil_append]
  rw [if_neg]
  rintro ⟨e1, e2⟩
  rcases hp with hp | hp
  · exact hp e1
  · rw [e2] at hp; cases hp
theorem rec_eq (deep : Bool) (s : Bs) (dbl : Bool) : firstE [(normI s false).2, if (!((normI s false).1.any dots || (!deep && decide (1 < (normI s false).1.length)))) = true then 0 else 3, if (!dbl) = true then 0 else 23] =
    if (parse s).2 = 0 then (if oddD deep (parse s).1 = true then 3 else if dbl = true then 23 else 0) else (parse s).2 := by
  by_cases h : (parse s).2 = 0
  · rw [normI_ok0 h, if_pos h]
    simp only [firstE_cons, firstE_nil]
    by_cases hC : text (normal (parse s).1) = s ∧ (parse s).1.abs = false ∧ (parse s).1.stream = []
    · rw [if_pos hC, if_pos rfl]
      have : oddD deep (parse s).1 = ((parse s).1.parts.any dots || (!deep && decide (1 < (parse s).1.parts.length))) := by
        unfold oddD; rw [hC.2.1, hC.2.2]; simp
      rw [this]
      cases ((parse s).1.parts.any dots || (!deep && decide (1 < (parse s).1.parts.length))) <;> cases dbl <;> rfl
    · rw [if_neg hC, if_neg (by decide)]
      have : oddD deep (parse s).1 = true := by
        by_cases h1 : (parse s).1.abs = false
        · by_cases h2 : (parse s).1.stream = []
          · by_cases h3 : (parse s).1.parts.any dots = true
            · unfold oddD; rw [h3]; simp
            · exfalso
              refine hC ⟨?_, h1, h2⟩
              have hne : (parse s).1.parts ≠ [] := by
                intro e
                have ht := text_parse h
                unfold text at ht
                rw [h1, h2, e] at ht
                have : s = [] := by rw [← ht]; simp [glue]
                subst this
                exact absurd h (by decide)
              have hn := normal_nodots (p := (parse s).1) (fun x hx => by
                have := List.any_eq_false.1 (by simpa using h3 : (parse s).1.parts.any dots = false) x hx
                simpa using this) (.inl hne)
              have := (text_normal (good_parse h)).2 hn
              rw [this, text_parse h]
          · unfold oddD; simp [h2]
        · have : (parse s).1.abs = true := by simpa using h1
          unfold oddD; rw [this]; rfl
      rw [this, if_pos rfl]
  · rw [normI_err0 h, if_neg h]
    simp only [firstE_cons]
    rw [if_neg h]
attribute [local irreducible] parse normI mrg oddD dots

theorem c84 (x : Rec) (h : x.path.length < 1000000) : Fn 84 [x.enc] (i (sz x)) := by
  refine run_walkF eok Tryz.func84 rfl (by kernel_rfl) ?_
  conv => whnf
  repeat' (first
    | (refine wrap64 (by omega) ?_; conv => whnf)
    | (refine div64 (by omega) ?_; conv => whnf)
    | ((with_reducible refine endx_go ?_); first | (exact endx (congrArg i (by unfold sz; omega)); done))
    | fail
    )

theorem c32 (x : Rec) (h : x.path.length < 1000000) : Fn 32 [x.enc] (i (sz x)) := by
  refine run_walkF eok Tryz.func32 rfl (by kernel_rfl) ?_
  conv => whnf
  repeat' (first
    | (refine wrap64 (by omega) ?_; conv => whnf)
    | (refine div64 (by omega) ?_; conv => whnf)
    | ((with_reducible refine endx_go ?_); first | (exact endx (congrArg i (by unfold sz; omega)); done))
    | fail
    )

theorem c77 (l : List Rec) (hl : small l) : Fn 77 [.fs (l.map Rec.enc)] (i (roomOf l)) := by
  refine run_walkF eok Tryz.func77 rfl (by kernel_rfl) ?_
  conv => whnf
  repeat' (first
    | ((with_reducible refine on_dec (fun h => ?_) (fun h => ?_)) <;> (try simp only [List.length_map] at h) <;> conv => whnf)
    | ((with_reducible refine call_go ?_); (first | refine call_step (run_view (c84 _ (by have := (hl.2 _ (List.getElem_mem (l := l) (n := k) (by omega))).1; omega)) rfl rfl) ?_); conv => whnf)
    | ((with_reducible refine loop_go ?_); first | (refine loop1 (fun (k : Nat) => l.length - k) (fun (k : Nat) => k ≤ l.length) (fun (k : Nat) => [(3, .d (i (roomOf (l.take k)))), (6, .d (.fs (l.map Rec.enc))), (7, .d (i l.length)), (8, .d (i k))]) (fun (k : Nat) => []) (0) (by exact Nat.zero_le _) ?_ (fun k C hI hC => ?_); (exact ⟨[], rfl, rfl, ⟨(by first | exact rfl), (by first | (show (_ : D) = _; with_reducible rfl) ), (by first | exact congrArg (D.int .i64) (by simp only [List.length_map]) ), (by first | exact congrArg (D.int .i64) (by omega) ), trivial⟩, trivial⟩); have hr := room_bd hl k; have hll := hl.1; all_goals (conv => whnf)))
    | ((with_reducible show C _ _); first | (refine hC (k + 1) _ _ ?_ (by omega) ?_; clear hC; rotate_left; (exact ⟨[], rfl, rfl, ⟨(congrArg (D.int .i64) (room_take (by omega)).symm), (by first | (show (_ : D) = _; with_reducible rfl) ), (by first | (show (_ : D) = _; with_reducible rfl) ), (by first | exact congrArg (D.int .i64) (by omega) ), trivial⟩, trivial⟩); (exact (by omega : k + 1 ≤ l.length))))
    | (refine ix_map (by omega) ?_; conv => whnf)
    | (refine wrap64 (by omega) ?_; conv => whnf)
    | (refine wrap64 (by have hs := (hl.2 _ (List.getElem_mem (l := l) (n := k) (by omega))).1; unfold sz; omega) ?_; conv => whnf)
    | ((with_reducible refine endx_go ?_); first | (exact endx (congrArg i (by rw [List.take_of_length_le (by omega)])); done))
    | fail
    )

theorem c68 (l : List Rec) (hl : small l) : Fn 68 [.fs (l.map Rec.enc)] (i (roomOf l)) := by
  refine run_walkF eok Tryz.func68 rfl (by kernel_rfl) ?_
  conv => whnf
  repeat' (first
    | ((with_reducible refine on_dec (fun h => ?_) (fun h => ?_)) <;> (try simp only [List.length_map] at h) <;> conv => whnf)
    | ((with_reducible refine call_go ?_); (first | refine call_step (run_view (c32 _ (by have := (hl.2 _ (List.getElem_mem (l := l) (n := k) (by omega))).1; omega)) rfl rfl) ?_); conv => whnf)
    | ((with_reducible refine loop_go ?_); first | (refine loop1 (fun (k : Nat) => l.length - k) (fun (k : Nat) => k ≤ l.length) (fun (k : Nat) => [(0, .d (.fs (l.map Rec.enc))), (3, .d (i (roomOf (l.take k)))), (4, .d (i k))]) (fun (k : Nat) => []) (0) (by exact Nat.zero_le _) ?_ (fun k C hI hC => ?_); (exact ⟨[], rfl, rfl, ⟨(by first | (show (_ : D) = _; with_reducible rfl) ), (by first | exact rfl), (by first | exact congrArg (D.int .i64) (by omega) ), trivial⟩, trivial⟩); have hr := room_bd hl k; have hll := hl.1; all_goals (conv => whnf)))
    | ((with_reducible show C _ _); first | (refine hC (k + 1) _ _ ?_ (by omega) ?_; clear hC; rotate_left; (exact ⟨[], rfl, rfl, ⟨(by first | (show (_ : D) = _; with_reducible rfl) ), (congrArg (D.int .i64) (room_take (by omega)).symm), (by first | exact congrArg (D.int .i64) (by omega) ), trivial⟩, trivial⟩); (exact (by omega : k + 1 ≤ l.length))))
    | (refine ix_map (by omega) ?_; conv => whnf)
    | (refine wrap64 (by omega) ?_; conv => whnf)
    | (refine wrap64 (by have hs := (hl.2 _ (List.getElem_mem (l := l) (n := k) (by omega))).1; unfold sz; omega) ?_; conv => whnf)
    | ((with_reducible refine endx_go ?_); first | (exact endx (congrArg i (by rw [List.take_of_length_le (by omega)])); done))
    | fail
    )

theorem c107 (x : Rec) : Fn 107 [x.enc] (.bool (mrg x.act)) := by
  refine run_walkF eok Tryz.func107 rfl (by kernel_rfl) ?_
  conv => whnf
  repeat' (first
    | ((with_reducible refine on_dec (fun h => ?_) (fun h => ?_)) <;> (try simp only [List.length_map] at h) <;> conv => whnf)
    | ((with_reducible refine endx_go ?_); first | (refine endx (congrArg D.bool ?_); unfold mrg; (simp_all; done); done))
    | fail
    )

theorem c67 (n : Int) : Fn 67 [i n] (.bool (mrg n)) := by
  refine run_walkF eok Tryz.func67 rfl (by kernel_rfl) ?_
  conv => whnf
  repeat' (first
    | ((with_reducible refine on_dec (fun h => ?_) (fun h => ?_)) <;> (try simp only [List.length_map] at h) <;> conv => whnf)
    | ((with_reducible refine endx_go ?_); first | (refine endx (congrArg D.bool ?_); unfold mrg; (simp_all; done); done))
    | fail
    )

def ixOf (c : Bs) : List Bs → Nat → Int
  | [], _ => -1
  | x :: l, k => if c = x then (k : Int) else ixOf c l (k + 1)
theorem ixOf_drop {c : Bs} {l : List Bs} {k : Nat} (h : k < l.length) : ixOf c (l.drop k) k = if c = l[k] then (k : Int) else ixOf c (l.drop (k + 1)) (k + 1) := by
  rw [List.drop_eq_getElem_cons h]; rfl
theorem ixOf_end {c : Bs} {l : List Bs} {k : Nat} (h : l.length ≤ k) : ixOf c (l.drop k) k = -1 := by
  rw [List.drop_eq_nil_of_le h]; rfl
theorem ixOf_any (c : Bs) : ∀ (l : List Bs) (k : Nat), decide (0 ≤ ixOf c l k) = l.any fun x => decide (x = c)
  | [], k => rfl
  | x :: l, k => by
    have ih := ixOf_any c l (k + 1)
    rw [ixOf, List.any_cons, ← ih]
    by_cases h : c = x
    · subst h; simp
    · rw [if_neg h]; simp [Ne.symm h]
theorem any_take {c : Bs} {l : List Bs} {k : Nat} (h : (l.take k).any (fun x => decide (x = c)) = false) (hk : k < l.length) (e : ¬ l[k] = c) : (l.take (k + 1)).any (fun x => decide (x = c)) = false := by
  rw [List.take_succ_eq_append_getElem hk, List.any_append, h]; simp [e]
theorem any_dots (l : List Bs) : (l.any (fun x => decide (x = [46])) || l.any (fun x => decide (x = [46, 46]))) = l.any dots := by
  unfold dots
  induction l with
  | nil => rfl
  | cons x l ih =>
    simp only [List.any_cons]
    rw [← ih]
    cases decide (x = [46]) <;> cases decide (x = [46, 46]) <;> simp

theorem c135 (l : List Bs) (c : Bs) (hl : l.length < 1000000) : Fn 135 [.fs (l.map .str), .str c] (i (ixOf c l 0)) := by
  refine run_walkF eok Tryz.func135 rfl (by kernel_rfl) ?_
  conv => whnf
  repeat' (first
    | ((with_reducible refine on_dec (fun h => ?_) (fun h => ?_)) <;> (try simp only [List.length_map] at h) <;> conv => whnf)
    | ((with_reducible refine loop_go ?_); first | (refine loop1 (fun (k : Nat) => l.length - k) (fun (k : Nat) => k ≤ l.length ∧ ixOf c l 0 = ixOf c (l.drop k) k) (fun (k : Nat) => [(0, .d (.fs (l.map .str))), (1, .d (.str c)), (7, .d (i l.length)), (8, .d (i k))]) (fun (k : Nat) => []) (0) (by first | (simp; done) ) ?_ (fun k C hI hC => ?_); (exact ⟨[], rfl, rfl, ⟨(by first | (show (_ : D) = _; with_reducible rfl) ), (by first | (show (_ : D) = _; with_reducible rfl) ), (by first | exact congrArg (D.int .i64) (by simp only [List.length_map]) ), (by first | exact congrArg (D.int .i64) (by omega) ), trivial⟩, trivial⟩); all_goals (conv => whnf)))
    | ((with_reducible show C _ _); first | (refine hC (k + 1) _ _ ?_ (by omega) ?_; clear hC; rotate_left; (exact ⟨[], rfl, rfl, ⟨(by first | (show (_ : D) = _; with_reducible rfl) ), (by first | (show (_ : D) = _; with_reducible rfl) ), (by first | (show (_ : D) = _; with_reducible rfl) ), (by first | exact congrArg (D.int .i64) (by omega) ), trivial⟩, trivial⟩); (exact ⟨by omega, by rw [hI.2, ixOf_drop (by omega), if_neg h]⟩)))
    | (refine ix_map (by omega) ?_; conv => whnf)
    | (refine wrap64 (by omega) ?_; conv => whnf)
    | ((with_reducible refine endx_go ?_); first | (exact endx (congrArg i (by rw [hI.2, ixOf_drop (by omega), if_pos h])); done) | (exact endx (congrArg i (by rw [hI.2, ixOf_end (by omega)])); done))
    | fail
    )

theorem c106 (l : List Bs) (c : Bs) (hl : l.length < 1000000) : Fn 106 [.fs (l.map .str), .str c] (.bool (l.any fun x => decide (x = c))) := by
  refine run_walkF eok Tryz.func106 rfl (by kernel_rfl) ?_
  conv => whnf
  repeat' (first
    | ((with_reducible refine call_go ?_); (first | refine call_step (run_view (c135 l c hl) rfl rfl) ?_); conv => whnf)
    | ((with_reducible refine endx_go ?_); first | (exact endx (congrArg D.bool (ixOf_any c l 0)); done))
    | fail
    )

theorem c109 (l : List Bs) (c : Bs) (hl : l.length < 1000000) : Fn 109 [.fs (l.map .str), .str c] (.bool (l.any fun x => decide (x = c))) := by
  refine run_walkF eok Tryz.func109 rfl (by kernel_rfl) ?_
  conv => whnf
  repeat' (first
    | ((with_reducible refine on_dec (fun h => ?_) (fun h => ?_)) <;> (try simp only [List.length_map] at h) <;> conv => whnf)
    | ((with_reducible refine loop_go ?_); first | (refine loop1 (fun (k : Nat) => l.length - k) (fun (k : Nat) => k ≤ l.length ∧ (l.take k).any (fun x => decide (x = c)) = false) (fun (k : Nat) => [(0, .d (.fs (l.map .str))), (1, .d (.str c)), (5, .d (i k))]) (fun (k : Nat) => []) (0) (by first | (simp; done) ) ?_ (fun k C hI hC => ?_); (exact ⟨[], rfl, rfl, ⟨(by first | (show (_ : D) = _; with_reducible rfl) ), (by first | (show (_ : D) = _; with_reducible rfl) ), (by first | exact congrArg (D.int .i64) (by omega) ), trivial⟩, trivial⟩); all_goals (conv => whnf)))
    | ((with_reducible show C _ _); first | (refine hC (k + 1) _ _ ?_ (by omega) ?_; clear hC; rotate_left; (exact ⟨[], rfl, rfl, ⟨(by first | (show (_ : D) = _; with_reducible rfl) ), (by first | (show (_ : D) = _; with_reducible rfl) ), (by first | exact congrArg (D.int .i64) (by omega) ), trivial⟩, trivial⟩); (exact ⟨by omega, any_take hI.2 (by omega) h⟩)))
    | (refine ix_map (by omega) ?_; conv => whnf)
    | (refine wrap64 (by omega) ?_; conv => whnf)
    | ((with_reducible refine endx_go ?_); first | (refine endx (congrArg D.bool ?_); symm; rw [List.any_eq_true]; exact ⟨l[k], List.getElem_mem _, by simpa using h⟩; done) | (refine endx (congrArg D.bool ?_); have h9 := hI.2; rw [List.take_of_length_le (by omega)] at h9; exact h9.symm; done))
    | fail
    )

def dblB (l : List Rec) (k : Nat) : Bool := decide (0 < k) && (mrg ((l[k]?).getD ⟨0, []⟩).act && decide ((l[k - 1]?).getD ⟨0, []⟩ = (l[k]?).getD ⟨0, []⟩))
theorem getD_at {l : List Rec} {k : Nat} (h : k < l.length) : (l[k]?).getD ⟨0, []⟩ = l[k] := by rw [List.getElem?_eq_getElem h]; rfl

theorem rec_15 {w : Wt} {x : Rec} {d : Bool} (hf : 0 ≤ w.filter ∧ w.filter ≤ 63) (h : actB x.act w.filter = false) : recI w x d = 15 := by
  rw [actB_eq hf] at h
  have : recE w x = 15 := by
    unfold recE
    rw [if_neg]
    rintro ⟨e1, e2⟩
    rw [e1, e2] at h; cases h
  unfold recI
  rw [this, if_neg (by decide)]
theorem rec_go {w : Wt} {x : Rec} {d : Bool} (hf : 0 ≤ w.filter ∧ w.filter ≤ 63) (h : actB x.act w.filter = true) : recI w x d = firstE [(normI x.path false).2, if (!((normI x.path false).1.any dots || (!w.deep && decide (1 < (normI x.path false).1.length)))) = true then 0 else 3, if (!d) = true then 0 else 23] := by
  rw [actB_eq hf, Bool.and_eq_true] at h
  rw [rec_eq]
  unfold recI recE
  rw [if_pos h]
  by_cases h1 : (parse x.path).2 = 0
  · rw [if_pos h1, if_pos h1]
    by_cases h2 : oddD w.deep (parse x.path).1 = true
    · rw [if_pos h2, if_pos h2, if_neg (by decide)]
    · rw [if_neg h2, if_neg h2, if_pos rfl]
  · rw [if_neg h1, if_neg h1, if_neg h1]
theorem any_t1 {l : List Bs} (h : (l.any fun x => decide (x = [46])) = true) : l.any dots = true := by rw [← any_dots, h]; rfl
theorem any_t2 {l : List Bs} (h : (l.any fun x => decide (x = [46, 46])) = true) : l.any dots = true := by rw [← any_dots, h]; simp
theorem any_f {l : List Bs} (h : (l.any fun x => decide (x = [46])) = false) (h2 : (l.any fun x => decide (x = [46, 46])) = false) : l.any dots = false := by rw [← any_dots, h, h2]; rfl
theorem dec1 (n : Nat) : decide ((1 : Int) < (n : Int)) = decide (1 < n) := by rw [decide_eq_decide]; omega
theorem cellsRec (x y : Rec) : cellsEq [i x.act, D.str x.path] [i y.act, D.str y.path] = decide (x = y) := by
  cases x with | mk a p => cases y with | mk b q =>
  simp only [cellsEq, Rec.mk.injEq, Bool.and_true]
  rw [Bool.decide_and]
  congr 1
theorem dbl_f1 {l : List Rec} {k : Nat} (h : ¬ (0 : Int) < k) : dblB l k = false := by
  have : k = 0 := by omega
  subst this; rfl
theorem dbl_f2 {l : List Rec} {k : Nat} (hk : k < l.length) (h : mrg l[k].act = false) : dblB l k = false := by
  unfold dblB; rw [getD_at hk, h]; simp
theorem dbl_t {l : List Rec} {k : Nat} (hk : k < l.length) (h : (0 : Int) < k) (hm : mrg l[k].act = true) : dblB l k = decide (l[k - 1] = l[k]) := by
  unfold dblB; rw [getD_at hk, getD_at (show k - 1 < l.length by omega), hm, decide_eq_true (show 0 < k by omega)]; simp

theorem c76a (n : Int) (w : Wt) (l : List Rec) (o : Bool) (k : Nat) (hk : k < l.length) (hl : small l) (hf : 0 ≤ w.filter ∧ w.filter ≤ 63) (ha : actB (l[k]'hk).act w.filter = false) : Fn 76 [(BW.mk n w l o).enc, i k] (i (recI w (l[k]'hk) (dblB l k))) := by
  refine run_walkF eok Tryz.func76 rfl (by kernel_rfl) ?_
  conv => whnf
  repeat' (first
    | ((with_reducible refine on_nf (by assumption) ?_); conv => whnf)
    | ((with_reducible refine call_go ?_); (first | refine call_step (run_view (c59 (l[k]'hk).act w.filter (hl.2 _ (List.getElem_mem hk)).2 hf) rfl rfl) ?_ ); conv => whnf)
    | (refine ix_map (by omega) ?_; conv => whnf)
    | ((with_reducible refine endx_go ?_); first | (exact endx (congrArg i (rec_15 hf ha).symm); done))
    | fail
    )

theorem c76b (n : Int) (w : Wt) (l : List Rec) (o : Bool) (k : Nat) (hk : k < l.length) (hl : small l) (hf : 0 ≤ w.filter ∧ w.filter ≤ 63) (ha : actB (l[k]'hk).act w.filter = true) : Fn 76 [(BW.mk n w l o).enc, i k] (i (recI w (l[k]'hk) (dblB l k))) := by
  have hll := hl.1
  refine run_walkF eok Tryz.func76 rfl (by kernel_rfl) ?_
  conv => whnf
  repeat' (first
    | ((with_reducible refine on_nt (by assumption) ?_); conv => whnf)
    | ((with_reducible refine on_dec (fun h => ?_) (fun h => ?_)) <;> (try simp only [List.length_map] at h) <;> conv => whnf)
    | ((with_reducible refine on_not (fun h => ?_) (fun h => ?_)) <;> conv => whnf)
    | ((with_reducible refine onBool_split (fun h => ?_) (fun h => ?_)) <;> conv => whnf)
    | ((with_reducible refine call_go ?_); (first | refine call_step (run_view (c59 (l[k]'hk).act w.filter (hl.2 _ (List.getElem_mem hk)).2 hf) rfl rfl) ?_ | refine call_step (run_viewF (c53 _ _) rfl) ?_ | refine call_step (run_view (c106 (normI (l[k]'hk).path false).1 _ (by have := normI_len (l[k]'hk).path false; omega)) rfl rfl) ?_ | refine call_step (run_view (c107 _) rfl rfl) ?_ | refine call_step (run_view (c55 _ _) rfl rfl) ?_ | refine call_step (run_view (c54 [_, _, _] (by simp)) rfl rfl) ?_ ); conv => whnf)
    | (refine ⟨[], [], (by decide +kernel), ?_⟩; conv => whnf)
    | (refine ix_map (by omega) ?_; conv => whnf)
    | (refine wrap64 (by omega) ?_; conv => whnf)
    | (refine ix_at (l := l) (f := Rec.enc) (k - 1) (by unfold goMax; split <;> omega) (by omega) ?_; conv => whnf)
    | ((with_reducible refine endx_go ?_); first | (refine endx (congrArg i ?_); rw [rec_go hf ha]; (first | rw [any_t1 (l := (normI (l[k]'hk).path false).1) (by assumption)] | rw [any_t2 (l := (normI (l[k]'hk).path false).1) (by assumption)] | rw [any_f (l := (normI (l[k]'hk).path false).1) (by assumption) (by assumption)]); (first | rw [dbl_f1 (by assumption)] | rw [dbl_f2 hk (by assumption)] | rw [dbl_t hk (by assumption) (by assumption)]); (first | rfl | (simp_all; done) | (simp only [List.length_map, dec1]; simp_all; done) | (simp only [List.length_map, dec1, cellsRec]; simp_all; done)); done))
    | fail
    )

theorem re_15a {w : Wt} {x : Rec} (h : isAct x.act = false) : recE w x = 15 := by
  unfold recE; rw [if_neg]; rintro ⟨e, _⟩; rw [h] at e; cases e
theorem re_15b {w : Wt} {x : Rec} (h : hasBit w.filter x.act = false) : recE w x = 15 := by
  unfold recE; rw [if_neg]; rintro ⟨_, e⟩; rw [h] at e; cases e
theorem re_p {w : Wt} {x : Rec} (h : isAct x.act = true) (h2 : hasBit w.filter x.act = true) (h3 : ¬ (parse x.path).2 = 0) : recE w x = (parse x.path).2 := by
  unfold recE; rw [if_pos ⟨h, h2⟩, if_neg h3]
theorem re_o {w : Wt} {x : Rec} (h : isAct x.act = true) (h2 : hasBit w.filter x.act = true) (h3 : (parse x.path).2 = 0) (h4 : oddD w.deep (parse x.path).1 = true) : recE w x = 3 := by
  unfold recE; rw [if_pos ⟨h, h2⟩, if_pos h3, if_pos h4]
theorem re_k {w : Wt} {x : Rec} (h : isAct x.act = true) (h2 : hasBit w.filter x.act = true) (h3 : (parse x.path).2 = 0) (h4 : oddD w.deep (parse x.path).1 = false) : recE w x = 0 := by
  unfold recE; rw [if_pos ⟨h, h2⟩, if_pos h3, if_neg (by rw [h4]; decide)]
theorem odd_abs {d : Bool} {p : PP} (h : p.abs = true) : oddD d p = true := by unfold oddD; rw [h]; rfl
theorem odd_str {d : Bool} {p : PP} (h : ¬ p.stream = []) : oddD d p = true := by unfold oddD; simp [h]
theorem odd_d1 {d : Bool} {p : PP} (h : (p.parts.any fun x => decide (x = [46])) = true) : oddD d p = true := by unfold oddD; rw [any_t1 h]; simp
theorem odd_d2 {d : Bool} {p : PP} (h : (p.parts.any fun x => decide (x = [46, 46])) = true) : oddD d p = true := by unfold oddD; rw [any_t2 h]; simp
theorem odd_n {d : Bool} {p : PP} (h : d = false) (h2 : (1 : Int) < p.parts.length) : oddD d p = true := by unfold oddD; rw [h, decide_eq_true (show 1 < p.parts.length by omega)]; simp
theorem odd_no {d : Bool} {p : PP} (h1 : p.abs = false) (h2 : p.stream = []) (h3 : (p.parts.any fun x => decide (x = [46])) = false) (h4 : (p.parts.any fun x => decide (x = [46, 46])) = false) (h5 : d = true ∨ ¬ (1 : Int) < p.parts.length) : oddD d p = false := by
  unfold oddD
  rw [h1, h2, any_f h3 h4]
  rcases h5 with h5 | h5
  · rw [h5]; rfl
  · rw [decide_eq_false (show ¬ 1 < p.parts.length by omega)]; simp

theorem c79a (w : Wt) (x : Rec) (hs : isAct x.act = false) : Fn 79 [w.enc, x.enc] (i (recE w x)) := by
  refine run_walkF eok Tryz.func79 rfl (by kernel_rfl) ?_
  conv => whnf
  repeat' (first
    | ((with_reducible refine on_nf (by assumption) ?_); conv => whnf)
    | ((with_reducible refine call_go ?_); (first | refine call_step (run_view (c60 _) rfl rfl) ?_ ); conv => whnf)
    | ((with_reducible refine endx_go ?_); first | (exact endx (congrArg i (re_15a hs).symm); done))
    | fail
    )

theorem c79b (w : Wt) (x : Rec) (hf : 0 ≤ w.filter ∧ w.filter ≤ 63) (hs : isAct x.act = true) (hb : w.filter / x.act % 2 = 0) : Fn 79 [w.enc, x.enc] (i (recE w x)) := by
  have hbit := div_bit (f := w.filter) hf hs; have hact := isAct_iff.1 hs; have hdn : 0 ≤ w.filter / x.act := Int.ediv_nonneg (by omega) (by omega)
  refine run_walkF eok Tryz.func79 rfl (by kernel_rfl) ?_
  conv => whnf
  repeat' (first
    | ((with_reducible refine on_dec_t (by assumption) ?_); conv => whnf)
    | ((with_reducible refine on_nt (by assumption) ?_); conv => whnf)
    | ((with_reducible refine call_go ?_); (first | refine call_step (run_view (c60 _) rfl rfl) ?_ ); conv => whnf)
    | (refine div64 (by omega) ?_; conv => whnf)
    | (refine rem_nn (by omega) ?_; conv => whnf)
    | ((with_reducible refine endx_go ?_); first | (exact endx (congrArg i (re_15b (by have := hbit; rw [decide_eq_true hb] at this; simpa using this)).symm); done))
    | fail
    )

theorem c79c (w : Wt) (x : Rec) (hf : 0 ≤ w.filter ∧ w.filter ≤ 63) (hs : isAct x.act = true) (hb : ¬ w.filter / x.act % 2 = 0) : Fn 79 [w.enc, x.enc] (i (recE w x)) := by
  have hbit := div_bit (f := w.filter) hf hs; have hact := isAct_iff.1 hs; have hdn : 0 ≤ w.filter / x.act := Int.ediv_nonneg (by omega) (by omega); have hpp := parse_parts x.path; have hh : hasBit w.filter x.act = true := (by have := hbit; rw [decide_eq_false hb] at this; simpa using this)
  refine run_walkF eok Tryz.func79 rfl (by kernel_rfl) ?_
  conv => whnf
  repeat' (first
    | ((with_reducible refine on_dec_f (by assumption) ?_); conv => whnf)
    | ((with_reducible refine on_nt (by assumption) ?_); conv => whnf)
    | ((with_reducible refine on_dec (fun h => ?_) (fun h => ?_)) <;> (try simp only [List.length_map] at h) <;> conv => whnf)
    | ((with_reducible refine on_ndec (fun h => ?_) (fun h => ?_)) <;> (try simp only [List.length_map] at h) <;> conv => whnf)
    | ((with_reducible refine on_not (fun h => ?_) (fun h => ?_)) <;> conv => whnf)
    | ((with_reducible refine onBool_split (fun h => ?_) (fun h => ?_)) <;> conv => whnf)
    | ((with_reducible refine call_go ?_); (first | refine call_step (run_view (c60 _) rfl rfl) ?_ | refine call_step (run_viewF (c62 x.path) rfl) ?_ | refine call_step (run_view (c109 (parse x.path).1.parts _ (by omega)) rfl rfl) ?_); conv => whnf)
    | (refine div64 (by omega) ?_; conv => whnf)
    | (refine rem_nn (by omega) ?_; conv => whnf)
    | ((with_reducible refine endx_go ?_); first | (exact endx (congrArg i (re_p hs hh (by assumption)).symm); done) | (exact endx (congrArg i (re_o hs hh (by assumption) (by first | exact odd_abs (by assumption) | exact odd_str (of_decide_eq_false (by assumption)) | exact odd_d1 (by assumption) | exact odd_d2 (by assumption) | exact odd_n (by assumption) (by assumption))).symm); done) | (exact endx (congrArg i (re_k hs hh (by assumption) (odd_no (by assumption) (of_decide_eq_true (by assumption)) (by assumption) (by assumption) (by first | exact .inl (by assumption) | exact .inr (by assumption)))).symm); done))
    | fail
    )

theorem c79 (w : Wt) (x : Rec) (hf : 0 ≤ w.filter ∧ w.filter ≤ 63) : Fn 79 [w.enc, x.enc] (i (recE w x)) := by
  by_cases hs : isAct x.act = true
  · by_cases hb : w.filter / x.act % 2 = 0
    · exact c79b w x hf hs hb
    · exact c79c w x hf hs hb
  · exact c79a w x (by simpa using hs)
theorem c76 (n : Int) (w : Wt) (l : List Rec) (o : Bool) (k : Nat) (hk : k < l.length) (hl : small l) (hf : 0 ≤ w.filter ∧ w.filter ≤ 63) : Fn 76 [(BW.mk n w l o).enc, i k] (i (recI w (l[k]'hk) (dblB l k))) := by
  cases ha : actB (l[k]'hk).act w.filter with
  | true => exact c76b n w l o k hk hl hf ha
  | false => exact c76a n w l o k hk hl hf ha

end Go.Proofs.YtbkmjpmgiaiacaaGreatDoor

/-! Wl -/
namespace Go.Proofs.YtbkmjpmgiaiacaaGreatDoor
open Go Dw
set_option maxRecDepth 10000
set_option linter.unusedVariables false
set_option linter.unusedSimpArgs false
attribute [local irreducible] Run
set_option maxHeartbeats 4000000

open Paths
attribute [local irreducible] nameErr watchErr eventErr pathErr isAct hasBit seesW belowI text glue parse normI mrg oddD dots recI dblB recE roomOf
def noBW : BW := ⟨0, ⟨[], false, 0, 0⟩, [], false⟩
def rE (w : Wt) (all : List Rec) : List Rec → Nat → Int × Int
  | [], _ => (0, 0)
  | x :: r, k => if recI w x (dblB all k) = 0 then rE w all r (k + 1) else ((k : Int), recI w x (dblB all k))
theorem rE_drop {w : Wt} {all l : List Rec} {k : Nat} (h : k < l.length) : rE w all (l.drop k) k = if recI w l[k] (dblB all k) = 0 then rE w all (l.drop (k + 1)) (k + 1) else ((k : Int), recI w l[k] (dblB all k)) := by
  rw [List.drop_eq_getElem_cons h]; rfl
theorem rE_end {w : Wt} {all l : List Rec} {k : Nat} (h : l.length ≤ k) : rE w all (l.drop k) k = (0, 0) := by
  rw [List.drop_eq_nil_of_le h]; rfl
def atW (b : Bd) (k : Nat) : BW := (b.ws[k]?).getD noBW
theorem atW_at {b : Bd} {k : Nat} (h : k < b.ws.length) : atW b k = b.ws[k] := by unfold atW; rw [List.getElem?_eq_getElem h]; rfl
def head4 (b : Bd) (k : Nat) : Int := firstE [if within (atW b k).id 1 (b.next - 1) = true then 0 else 2, if (decide (k = 0) || decide ((atW b (k - 1)).id < (atW b k).id)) = true then 0 else 9,
  watchErr (atW b k).w.path (atW b k).w.filter (atW b k).w.room, if (!(atW b k).lost || decide ((atW b k).recs.length = 0)) = true then 0 else 20]
def bwE (b : Bd) (k : Nat) : Int :=
  firstE [if head4 b k = 0 then (rE (atW b k).w (atW b k).recs (atW b k).recs 0).2 else head4 b k, if decide (roomOf (atW b k).recs ≤ (atW b k).w.room) = true then 0 else 16]
def wE (b : Bd) : List BW → Nat → Int × Int
  | [], _ => (0, 0)
  | _ :: r, k => if bwE b k = 0 then wE b r (k + 1) else ((k : Int), bwE b k)
theorem wE_drop {b : Bd} {l : List BW} {k : Nat} (h : k < l.length) : wE b (l.drop k) k = if bwE b k = 0 then wE b (l.drop (k + 1)) (k + 1) else ((k : Int), bwE b k) := by
  rw [List.drop_eq_getElem_cons h]; rfl
theorem wE_end {b : Bd} {l : List BW} {k : Nat} (h : l.length ≤ k) : wE b (l.drop k) k = (0, 0) := by
  rw [List.drop_eq_nil_of_le h]; rfl
def headB (b : Bd) : Int := firstE [if decide ((b.ws.length : Int) ≤ 8) = true then 0 else 8, if within b.next 1 2147483647 = true then 0 else 2]
def checkB (b : Bd) : Int × Int := if headB b = 0 then wE b b.ws 0 else (0, headB b)
structure SB (b : Bd) : Prop where
  n : b.ws.length < 1000
  r : ∀ x ∈ b.ws, small x.recs
theorem head4_ok {b : Bd} {k : Nat} (h : head4 b k = 0) : watchErr (atW b k).w.path (atW b k).w.filter (atW b k).w.room = 0 ∧ 0 ≤ (atW b k).w.filter ∧ (atW b k).w.filter ≤ 63 := by
  unfold head4 at h
  have := firstE_all h (watchErr (atW b k).w.path (atW b k).w.filter (atW b k).w.room) (by simp)
  have h2 := watchErr_ok this
  exact ⟨this, by omega, by omega⟩

theorem c75 (n : Int) (w : Wt) (l : List Rec) (o : Bool) (hl : small l) (hf : 0 ≤ w.filter ∧ w.filter ≤ 63) (k : Nat) (hk : k < l.length) (x : Rec) : Fn 75 [i k, x.enc, .fp (BW.mk n w l o).enc 0] (i (recI w (l[k]'hk) (dblB l k))) := by
  refine run_walkF eok Tryz.func75 rfl (by kernel_rfl) ?_
  conv => whnf
  repeat' (first
    | ((with_reducible refine call_go ?_); (first | refine call_step (run_view (c76 n w l o k hk hl hf) rfl rfl) ?_); conv => whnf)
    | ((with_reducible refine endx_go ?_); first | (exact endx rfl; done))
    | fail
    )

theorem c74 (n : Int) (w : Wt) (l : List Rec) (o : Bool) (hl : small l) (hf : 0 ≤ w.filter ∧ w.filter ≤ 63) : Fn 74 [.fs (l.map Rec.enc), .fn 75 [] [.fp (BW.mk n w l o).enc 0]] (.tup [i (rE w l l 0).1, i (rE w l l 0).2]) := by
  refine run_walkF eok Tryz.func74 rfl (by kernel_rfl) ?_
  conv => whnf
  repeat' (first
    | ((with_reducible refine on_dec (fun h => ?_) (fun h => ?_)) <;> (try simp only [List.length_map] at h) <;> conv => whnf)
    | ((with_reducible refine on_ndec (fun h => ?_) (fun h => ?_)) <;> (try simp only [List.length_map] at h) <;> conv => whnf)
    | ((with_reducible refine call_go ?_); (first | refine call_step (run_view (c75 n w l o hl hf k (by omega) _) rfl rfl) ?_); conv => whnf)
    | ((with_reducible refine loop_go ?_); first | (refine loop1 (fun (k : Nat) => l.length - k) (fun (k : Nat) => k ≤ l.length ∧ rE w l l 0 = rE w l (l.drop k) k) (fun (k : Nat) => [(1, .d (.fn 75 [] [.fp (BW.mk n w l o).enc 0])), (9, .d (.fs (l.map Rec.enc))), (10, .d (i l.length)), (11, .d (i k))]) (fun (k : Nat) => []) (0) (by first | (simp; done) ) ?_ (fun k C hI hC => ?_); (exact ⟨[], rfl, rfl, ⟨(by first | (show (_ : D) = _; with_reducible rfl) ), (by first | (show (_ : D) = _; with_reducible rfl) ), (by first | exact congrArg (D.int .i64) (by simp only [List.length_map]) ), (by first | exact congrArg (D.int .i64) (by omega) ), trivial⟩, trivial⟩); have hll := hl.1; all_goals (conv => whnf)))
    | ((with_reducible show C _ _); first | (refine hC (k + 1) _ _ ?_ (by omega) ?_; clear hC; rotate_left; (exact ⟨[], rfl, rfl, ⟨(by first | (show (_ : D) = _; with_reducible rfl) ), (by first | (show (_ : D) = _; with_reducible rfl) ), (by first | (show (_ : D) = _; with_reducible rfl) ), (by first | exact congrArg (D.int .i64) (by omega) ), trivial⟩, trivial⟩); (exact ⟨by omega, by rw [hI.2, rE_drop (by omega), if_pos h]⟩)))
    | (refine ix_map (by omega) ?_; conv => whnf)
    | (refine wrap64 (by omega) ?_; conv => whnf)
    | ((with_reducible refine endx_go ?_); first | (refine endx2 ?_; (rw [hI.2, rE_drop (by omega), if_neg h]) <;> rfl; done) | (refine endx2 ?_; (rw [hI.2, rE_end (by omega)]) <;> rfl; done))
    | fail
    )

theorem h4zf {b : Bd} {k : Nat} {n : Int} {w : Wt} {l : List Rec} (hx : atW b k = ⟨n, w, l, false⟩) (hk : k = 0) : firstE [if within n 1 (b.next - 1) = true then 0 else 2, if true = true then 0 else 9, watchErr w.path w.filter w.room, if true = true then 0 else 20] = head4 b k := by
  unfold head4
  rw [hx]
  simp only [hk]
  simp

theorem h4zt {b : Bd} {k : Nat} {n : Int} {w : Wt} {l : List Rec} (hx : atW b k = ⟨n, w, l, true⟩) (hk : k = 0) : firstE [if within n 1 (b.next - 1) = true then 0 else 2, if true = true then 0 else 9, watchErr w.path w.filter w.room, if decide (((l.map Rec.enc).length : Int) = 0) = true then 0 else 20] = head4 b k := by
  unfold head4
  rw [hx]
  simp only [hk]
  simp

theorem h4pf {b : Bd} {k : Nat} {n : Int} {w : Wt} {l : List Rec} (hx : atW b k = ⟨n, w, l, false⟩) (hk : ¬ k = 0) : firstE [if within n 1 (b.next - 1) = true then 0 else 2, if decide ((atW b (k - 1)).id < n) = true then 0 else 9, watchErr w.path w.filter w.room, if true = true then 0 else 20] = head4 b k := by
  unfold head4
  rw [hx]
  simp only [hk]
  simp

theorem h4pt {b : Bd} {k : Nat} {n : Int} {w : Wt} {l : List Rec} (hx : atW b k = ⟨n, w, l, true⟩) (hk : ¬ k = 0) : firstE [if within n 1 (b.next - 1) = true then 0 else 2, if decide ((atW b (k - 1)).id < n) = true then 0 else 9, watchErr w.path w.filter w.room, if decide (((l.map Rec.enc).length : Int) = 0) = true then 0 else 20] = head4 b k := by
  unfold head4
  rw [hx]
  simp only [hk]
  simp

theorem bw_0 {b : Bd} {k : Nat} {n : Int} {w : Wt} {l : List Rec} {o : Bool} (hx : atW b k = ⟨n, w, l, o⟩) (h : head4 b k = 0) : firstE [(rE w l l 0).2, if decide (roomOf l ≤ w.room) = true then 0 else 16] = bwE b k := by
  unfold bwE; rw [hx, if_pos h]
theorem bw_n {b : Bd} {k : Nat} {n : Int} {w : Wt} {l : List Rec} {o : Bool} {e : Int} (hx : atW b k = ⟨n, w, l, o⟩) (h : ¬ head4 b k = 0) (he : e = head4 b k) : firstE [e, if decide (roomOf l ≤ w.room) = true then 0 else 16] = bwE b k := by
  unfold bwE; rw [hx, if_neg h, he]
attribute [local irreducible] head4 bwE rE within

theorem c73zf0 (b : Bd) (k : Nat) (n : Int) (w : Wt) (l : List Rec) (hk : k < b.ws.length) (hx : atW b k = ⟨n, w, l, false⟩) (hl : small l) (hn : 1 ≤ b.next ∧ b.next ≤ 2147483647) (hw : b.ws.length < 1000) (hz : k = 0) (h0 : head4 b k = 0) (hf : 0 ≤ w.filter ∧ w.filter ≤ 63) : Fn 73 [i k, (BW.mk n w l false).enc, .fp b.enc 0] (i (bwE b k)) := by
  have h4 := h4zf hx hz; have hw0 : (atW b (k - 1)).id = (b.ws[k - 1]'(by omega)).id := (by rw [atW_at (show k - 1 < b.ws.length by omega)])
  refine run_walkF eok Tryz.func73 rfl (by kernel_rfl) ?_
  conv => whnf
  repeat' (first
    | ((with_reducible refine on_dec_t (show (k : Int) = 0 by omega) ?_); conv => whnf)
    | (refine on_dec_t (h4.trans h0) ?_; conv => whnf)
    | ((with_reducible refine call_go ?_); (first | refine call_step (run_view (c56 _ _ _) rfl rfl) ?_ | refine call_step (run_view (c55 _ _) rfl rfl) ?_ | refine call_step (run_view (c12 w) rfl rfl) ?_ | refine call_step (run_view (c54 [_, _] (by simp)) rfl rfl) ?_ | refine call_step (run_view (c54 [_, _, _, _] (by simp)) rfl rfl) ?_ | refine call_step (run_view (c74 n w l false hl hf) rfl rfl) ?_ | refine call_step (run_view (c77 l hl) rfl rfl) ?_); conv => whnf)
    | (refine ⟨[], [(24, 5), (27, 5), (24, 6), (27, 6), (24, 22), (27, 22), (27, 25)], (by decide +kernel), ?_⟩; conv => whnf)
    | (refine ⟨[], [(6, 3)], (by decide +kernel), ?_⟩; conv => whnf)
    | (refine wrap64 (by omega) ?_; conv => whnf)
    | ((with_reducible refine endx_go ?_); first | (exact endx (congrArg i (bw_0 hx h0)); done))
    | (refine ⟨rfl, ?_⟩; conv => whnf)
    | fail
    )

theorem c73zfn (b : Bd) (k : Nat) (n : Int) (w : Wt) (l : List Rec) (hk : k < b.ws.length) (hx : atW b k = ⟨n, w, l, false⟩) (hl : small l) (hn : 1 ≤ b.next ∧ b.next ≤ 2147483647) (hw : b.ws.length < 1000) (hz : k = 0) (h0 : ¬ head4 b k = 0) : Fn 73 [i k, (BW.mk n w l false).enc, .fp b.enc 0] (i (bwE b k)) := by
  have h4 := h4zf hx hz; have hw0 : (atW b (k - 1)).id = (b.ws[k - 1]'(by omega)).id := (by rw [atW_at (show k - 1 < b.ws.length by omega)])
  refine run_walkF eok Tryz.func73 rfl (by kernel_rfl) ?_
  conv => whnf
  repeat' (first
    | ((with_reducible refine on_dec_t (show (k : Int) = 0 by omega) ?_); conv => whnf)
    | (refine on_dec_f (fun e => h0 (h4.symm.trans e)) ?_; conv => whnf)
    | ((with_reducible refine call_go ?_); (first | refine call_step (run_view (c56 _ _ _) rfl rfl) ?_ | refine call_step (run_view (c55 _ _) rfl rfl) ?_ | refine call_step (run_view (c12 w) rfl rfl) ?_ | refine call_step (run_view (c54 [_, _] (by simp)) rfl rfl) ?_ | refine call_step (run_view (c54 [_, _, _, _] (by simp)) rfl rfl) ?_ | refine call_step (run_view (c77 l hl) rfl rfl) ?_); conv => whnf)
    | (refine ⟨[], [(24, 5), (27, 5), (24, 6), (27, 6), (24, 22), (27, 22), (27, 25)], (by decide +kernel), ?_⟩; conv => whnf)
    | (refine ⟨[], [(6, 3)], (by decide +kernel), ?_⟩; conv => whnf)
    | (refine wrap64 (by omega) ?_; conv => whnf)
    | ((with_reducible refine endx_go ?_); first | (exact endx (congrArg i (bw_n hx h0 h4)); done))
    | (refine ⟨rfl, ?_⟩; conv => whnf)
    | fail
    )

theorem c73zt0 (b : Bd) (k : Nat) (n : Int) (w : Wt) (l : List Rec) (hk : k < b.ws.length) (hx : atW b k = ⟨n, w, l, true⟩) (hl : small l) (hn : 1 ≤ b.next ∧ b.next ≤ 2147483647) (hw : b.ws.length < 1000) (hz : k = 0) (h0 : head4 b k = 0) (hf : 0 ≤ w.filter ∧ w.filter ≤ 63) : Fn 73 [i k, (BW.mk n w l true).enc, .fp b.enc 0] (i (bwE b k)) := by
  have h4 := h4zt hx hz; have hw0 : (atW b (k - 1)).id = (b.ws[k - 1]'(by omega)).id := (by rw [atW_at (show k - 1 < b.ws.length by omega)])
  refine run_walkF eok Tryz.func73 rfl (by kernel_rfl) ?_
  conv => whnf
  repeat' (first
    | ((with_reducible refine on_dec_t (show (k : Int) = 0 by omega) ?_); conv => whnf)
    | (refine on_dec_t (h4.trans h0) ?_; conv => whnf)
    | ((with_reducible refine call_go ?_); (first | refine call_step (run_view (c56 _ _ _) rfl rfl) ?_ | refine call_step (run_view (c55 _ _) rfl rfl) ?_ | refine call_step (run_view (c12 w) rfl rfl) ?_ | refine call_step (run_view (c54 [_, _] (by simp)) rfl rfl) ?_ | refine call_step (run_view (c54 [_, _, _, _] (by simp)) rfl rfl) ?_ | refine call_step (run_view (c74 n w l true hl hf) rfl rfl) ?_ | refine call_step (run_view (c77 l hl) rfl rfl) ?_); conv => whnf)
    | (refine ⟨[], [(24, 5), (27, 5), (24, 6), (27, 6), (24, 22), (27, 22), (27, 25)], (by decide +kernel), ?_⟩; conv => whnf)
    | (refine ⟨[], [(6, 3)], (by decide +kernel), ?_⟩; conv => whnf)
    | (refine wrap64 (by omega) ?_; conv => whnf)
    | ((with_reducible refine endx_go ?_); first | (exact endx (congrArg i (bw_0 hx h0)); done))
    | (refine ⟨rfl, ?_⟩; conv => whnf)
    | fail
    )

theorem c73ztn (b : Bd) (k : Nat) (n : Int) (w : Wt) (l : List Rec) (hk : k < b.ws.length) (hx : atW b k = ⟨n, w, l, true⟩) (hl : small l) (hn : 1 ≤ b.next ∧ b.next ≤ 2147483647) (hw : b.ws.length < 1000) (hz : k = 0) (h0 : ¬ head4 b k = 0) : Fn 73 [i k, (BW.mk n w l true).enc, .fp b.enc 0] (i (bwE b k)) := by
  have h4 := h4zt hx hz; have hw0 : (atW b (k - 1)).id = (b.ws[k - 1]'(by omega)).id := (by rw [atW_at (show k - 1 < b.ws.length by omega)])
  refine run_walkF eok Tryz.func73 rfl (by kernel_rfl) ?_
  conv => whnf
  repeat' (first
    | ((with_reducible refine on_dec_t (show (k : Int) = 0 by omega) ?_); conv => whnf)
    | (refine on_dec_f (fun e => h0 (h4.symm.trans e)) ?_; conv => whnf)
    | ((with_reducible refine call_go ?_); (first | refine call_step (run_view (c56 _ _ _) rfl rfl) ?_ | refine call_step (run_view (c55 _ _) rfl rfl) ?_ | refine call_step (run_view (c12 w) rfl rfl) ?_ | refine call_step (run_view (c54 [_, _] (by simp)) rfl rfl) ?_ | refine call_step (run_view (c54 [_, _, _, _] (by simp)) rfl rfl) ?_ | refine call_step (run_view (c77 l hl) rfl rfl) ?_); conv => whnf)
    | (refine ⟨[], [(24, 5), (27, 5), (24, 6), (27, 6), (24, 22), (27, 22), (27, 25)], (by decide +kernel), ?_⟩; conv => whnf)
    | (refine ⟨[], [(6, 3)], (by decide +kernel), ?_⟩; conv => whnf)
    | (refine wrap64 (by omega) ?_; conv => whnf)
    | ((with_reducible refine endx_go ?_); first | (exact endx (congrArg i (bw_n hx h0 h4)); done))
    | (refine ⟨rfl, ?_⟩; conv => whnf)
    | fail
    )

theorem c73pf0 (b : Bd) (k : Nat) (n : Int) (w : Wt) (l : List Rec) (hk : k < b.ws.length) (hx : atW b k = ⟨n, w, l, false⟩) (hl : small l) (hn : 1 ≤ b.next ∧ b.next ≤ 2147483647) (hw : b.ws.length < 1000) (hz : ¬ k = 0) (h0 : head4 b k = 0) (hf : 0 ≤ w.filter ∧ w.filter ≤ 63) : Fn 73 [i k, (BW.mk n w l false).enc, .fp b.enc 0] (i (bwE b k)) := by
  have h4 := h4pf hx hz; have hw0 : (atW b (k - 1)).id = (b.ws[k - 1]'(by omega)).id := (by rw [atW_at (show k - 1 < b.ws.length by omega)]); rw [hw0] at h4
  refine run_walkF eok Tryz.func73 rfl (by kernel_rfl) ?_
  conv => whnf
  repeat' (first
    | ((with_reducible refine on_dec_f (show ¬ (k : Int) = 0 by omega) ?_); conv => whnf)
    | (refine on_dec_t (h4.trans h0) ?_; conv => whnf)
    | ((with_reducible refine call_go ?_); (first | refine call_step (run_view (c56 _ _ _) rfl rfl) ?_ | refine call_step (run_view (c55 _ _) rfl rfl) ?_ | refine call_step (run_view (c12 w) rfl rfl) ?_ | refine call_step (run_view (c54 [_, _] (by simp)) rfl rfl) ?_ | refine call_step (run_view (c54 [_, _, _, _] (by simp)) rfl rfl) ?_ | refine call_step (run_view (c74 n w l false hl hf) rfl rfl) ?_ | refine call_step (run_view (c77 l hl) rfl rfl) ?_); conv => whnf)
    | (refine ⟨[], [(24, 5), (27, 5), (24, 6), (27, 6), (24, 22), (27, 22), (27, 25)], (by decide +kernel), ?_⟩; conv => whnf)
    | (refine ⟨[], [(6, 3)], (by decide +kernel), ?_⟩; conv => whnf)
    | (refine wrap64 (by omega) ?_; conv => whnf)
    | (refine ix_at (l := b.ws) (f := BW.enc) (k - 1) (by unfold goMax; split <;> omega) (by omega) ?_; conv => whnf)
    | ((with_reducible refine endx_go ?_); first | (exact endx (congrArg i (bw_0 hx h0)); done))
    | (refine ⟨rfl, ?_⟩; conv => whnf)
    | fail
    )

theorem c73pfn (b : Bd) (k : Nat) (n : Int) (w : Wt) (l : List Rec) (hk : k < b.ws.length) (hx : atW b k = ⟨n, w, l, false⟩) (hl : small l) (hn : 1 ≤ b.next ∧ b.next ≤ 2147483647) (hw : b.ws.length < 1000) (hz : ¬ k = 0) (h0 : ¬ head4 b k = 0) : Fn 73 [i k, (BW.mk n w l false).enc, .fp b.enc 0] (i (bwE b k)) := by
  have h4 := h4pf hx hz; have hw0 : (atW b (k - 1)).id = (b.ws[k - 1]'(by omega)).id := (by rw [atW_at (show k - 1 < b.ws.length by omega)]); rw [hw0] at h4
  refine run_walkF eok Tryz.func73 rfl (by kernel_rfl) ?_
  conv => whnf
  repeat' (first
    | ((with_reducible refine on_dec_f (show ¬ (k : Int) = 0 by omega) ?_); conv => whnf)
    | (refine on_dec_f (fun e => h0 (h4.symm.trans e)) ?_; conv => whnf)
    | ((with_reducible refine call_go ?_); (first | refine call_step (run_view (c56 _ _ _) rfl rfl) ?_ | refine call_step (run_view (c55 _ _) rfl rfl) ?_ | refine call_step (run_view (c12 w) rfl rfl) ?_ | refine call_step (run_view (c54 [_, _] (by simp)) rfl rfl) ?_ | refine call_step (run_view (c54 [_, _, _, _] (by simp)) rfl rfl) ?_ | refine call_step (run_view (c77 l hl) rfl rfl) ?_); conv => whnf)
    | (refine ⟨[], [(24, 5), (27, 5), (24, 6), (27, 6), (24, 22), (27, 22), (27, 25)], (by decide +kernel), ?_⟩; conv => whnf)
    | (refine ⟨[], [(6, 3)], (by decide +kernel), ?_⟩; conv => whnf)
    | (refine wrap64 (by omega) ?_; conv => whnf)
    | (refine ix_at (l := b.ws) (f := BW.enc) (k - 1) (by unfold goMax; split <;> omega) (by omega) ?_; conv => whnf)
    | ((with_reducible refine endx_go ?_); first | (exact endx (congrArg i (bw_n hx h0 h4)); done))
    | (refine ⟨rfl, ?_⟩; conv => whnf)
    | fail
    )

theorem c73pt0 (b : Bd) (k : Nat) (n : Int) (w : Wt) (l : List Rec) (hk : k < b.ws.length) (hx : atW b k = ⟨n, w, l, true⟩) (hl : small l) (hn : 1 ≤ b.next ∧ b.next ≤ 2147483647) (hw : b.ws.length < 1000) (hz : ¬ k = 0) (h0 : head4 b k = 0) (hf : 0 ≤ w.filter ∧ w.filter ≤ 63) : Fn 73 [i k, (BW.mk n w l true).enc, .fp b.enc 0] (i (bwE b k)) := by
  have h4 := h4pt hx hz; have hw0 : (atW b (k - 1)).id = (b.ws[k - 1]'(by omega)).id := (by rw [atW_at (show k - 1 < b.ws.length by omega)]); rw [hw0] at h4
  refine run_walkF eok Tryz.func73 rfl (by kernel_rfl) ?_
  conv => whnf
  repeat' (first
    | ((with_reducible refine on_dec_f (show ¬ (k : Int) = 0 by omega) ?_); conv => whnf)
    | (refine on_dec_t (h4.trans h0) ?_; conv => whnf)
    | ((with_reducible refine call_go ?_); (first | refine call_step (run_view (c56 _ _ _) rfl rfl) ?_ | refine call_step (run_view (c55 _ _) rfl rfl) ?_ | refine call_step (run_view (c12 w) rfl rfl) ?_ | refine call_step (run_view (c54 [_, _] (by simp)) rfl rfl) ?_ | refine call_step (run_view (c54 [_, _, _, _] (by simp)) rfl rfl) ?_ | refine call_step (run_view (c74 n w l true hl hf) rfl rfl) ?_ | refine call_step (run_view (c77 l hl) rfl rfl) ?_); conv => whnf)
    | (refine ⟨[], [(24, 5), (27, 5), (24, 6), (27, 6), (24, 22), (27, 22), (27, 25)], (by decide +kernel), ?_⟩; conv => whnf)
    | (refine ⟨[], [(6, 3)], (by decide +kernel), ?_⟩; conv => whnf)
    | (refine wrap64 (by omega) ?_; conv => whnf)
    | (refine ix_at (l := b.ws) (f := BW.enc) (k - 1) (by unfold goMax; split <;> omega) (by omega) ?_; conv => whnf)
    | ((with_reducible refine endx_go ?_); first | (exact endx (congrArg i (bw_0 hx h0)); done))
    | (refine ⟨rfl, ?_⟩; conv => whnf)
    | fail
    )

theorem c73ptn (b : Bd) (k : Nat) (n : Int) (w : Wt) (l : List Rec) (hk : k < b.ws.length) (hx : atW b k = ⟨n, w, l, true⟩) (hl : small l) (hn : 1 ≤ b.next ∧ b.next ≤ 2147483647) (hw : b.ws.length < 1000) (hz : ¬ k = 0) (h0 : ¬ head4 b k = 0) : Fn 73 [i k, (BW.mk n w l true).enc, .fp b.enc 0] (i (bwE b k)) := by
  have h4 := h4pt hx hz; have hw0 : (atW b (k - 1)).id = (b.ws[k - 1]'(by omega)).id := (by rw [atW_at (show k - 1 < b.ws.length by omega)]); rw [hw0] at h4
  refine run_walkF eok Tryz.func73 rfl (by kernel_rfl) ?_
  conv => whnf
  repeat' (first
    | ((with_reducible refine on_dec_f (show ¬ (k : Int) = 0 by omega) ?_); conv => whnf)
    | (refine on_dec_f (fun e => h0 (h4.symm.trans e)) ?_; conv => whnf)
    | ((with_reducible refine call_go ?_); (first | refine call_step (run_view (c56 _ _ _) rfl rfl) ?_ | refine call_step (run_view (c55 _ _) rfl rfl) ?_ | refine call_step (run_view (c12 w) rfl rfl) ?_ | refine call_step (run_view (c54 [_, _] (by simp)) rfl rfl) ?_ | refine call_step (run_view (c54 [_, _, _, _] (by simp)) rfl rfl) ?_ | refine call_step (run_view (c77 l hl) rfl rfl) ?_); conv => whnf)
    | (refine ⟨[], [(24, 5), (27, 5), (24, 6), (27, 6), (24, 22), (27, 22), (27, 25)], (by decide +kernel), ?_⟩; conv => whnf)
    | (refine ⟨[], [(6, 3)], (by decide +kernel), ?_⟩; conv => whnf)
    | (refine wrap64 (by omega) ?_; conv => whnf)
    | (refine ix_at (l := b.ws) (f := BW.enc) (k - 1) (by unfold goMax; split <;> omega) (by omega) ?_; conv => whnf)
    | ((with_reducible refine endx_go ?_); first | (exact endx (congrArg i (bw_n hx h0 h4)); done))
    | (refine ⟨rfl, ?_⟩; conv => whnf)
    | fail
    )

theorem c73 (b : Bd) (hb : SB b) (hn : 1 ≤ b.next ∧ b.next ≤ 2147483647) (k : Nat) (hk : k < b.ws.length) : Fn 73 [i k, (b.ws[k]'hk).enc, .fp b.enc 0] (i (bwE b k)) := by
  have hx := atW_at hk
  have hr := hb.r _ (List.getElem_mem hk)
  have hw := hb.n
  generalize b.ws[k] = x at *
  cases x with
  | mk n w l o =>
  by_cases h0 : head4 b k = 0
  · have hf := head4_ok h0
    rw [hx] at hf
    by_cases hz : k = 0
    · cases o with
      | false => exact c73zf0 b k n w l hk hx hr hn hw hz h0 hf.2
      | true => exact c73zt0 b k n w l hk hx hr hn hw hz h0 hf.2
    · cases o with
      | false => exact c73pf0 b k n w l hk hx hr hn hw hz h0 hf.2
      | true => exact c73pt0 b k n w l hk hx hr hn hw hz h0 hf.2
  · by_cases hz : k = 0
    · cases o with
      | false => exact c73zfn b k n w l hk hx hr hn hw hz h0
      | true => exact c73ztn b k n w l hk hx hr hn hw hz h0
    · cases o with
      | false => exact c73pfn b k n w l hk hx hr hn hw hz h0
      | true => exact c73ptn b k n w l hk hx hr hn hw hz h0

theorem c72 (b : Bd) (hb : SB b) (hn : 1 ≤ b.next ∧ b.next ≤ 2147483647) : Fn 72 [.fs (b.ws.map BW.enc), .fn 73 [] [.fp b.enc 0]] (.tup [i (wE b b.ws 0).1, i (wE b b.ws 0).2]) := by
  have hw := hb.n
  refine run_walkF eok Tryz.func72 rfl (by kernel_rfl) ?_
  conv => whnf
  repeat' (first
    | ((with_reducible refine on_dec (fun h => ?_) (fun h => ?_)) <;> (try simp only [List.length_map] at h) <;> conv => whnf)
    | ((with_reducible refine on_ndec (fun h => ?_) (fun h => ?_)) <;> (try simp only [List.length_map] at h) <;> conv => whnf)
    | ((with_reducible refine call_go ?_); (first | refine call_step (run_view (c73 b hb hn k (by omega)) rfl rfl) ?_); conv => whnf)
    | ((with_reducible refine loop_go ?_); first | (refine loop1 (fun (k : Nat) => b.ws.length - k) (fun (k : Nat) => k ≤ b.ws.length ∧ wE b b.ws 0 = wE b (b.ws.drop k) k) (fun (k : Nat) => [(1, .d (.fn 73 [] [.fp b.enc 0])), (9, .d (.fs (b.ws.map BW.enc))), (10, .d (i b.ws.length)), (11, .d (i k))]) (fun (k : Nat) => []) (0) (by first | (simp; done) ) ?_ (fun k C hI hC => ?_); (exact ⟨[], rfl, rfl, ⟨(by first | (show (_ : D) = _; with_reducible rfl) ), (by first | (show (_ : D) = _; with_reducible rfl) ), (by first | exact congrArg (D.int .i64) (by simp only [List.length_map]) ), (by first | exact congrArg (D.int .i64) (by omega) ), trivial⟩, trivial⟩); all_goals (conv => whnf)))
    | ((with_reducible show C _ _); first | (refine hC (k + 1) _ _ ?_ (by omega) ?_; clear hC; rotate_left; (exact ⟨[], rfl, rfl, ⟨(by first | (show (_ : D) = _; with_reducible rfl) ), (by first | (show (_ : D) = _; with_reducible rfl) ), (by first | (show (_ : D) = _; with_reducible rfl) ), (by first | exact congrArg (D.int .i64) (by omega) ), trivial⟩, trivial⟩); (exact ⟨by omega, by rw [hI.2, wE_drop (by omega), if_pos h]⟩)))
    | (refine ix_map (by omega) ?_; conv => whnf)
    | (refine wrap64 (by omega) ?_; conv => whnf)
    | ((with_reducible refine endx_go ?_); first | (refine endx2 ?_; (rw [hI.2, wE_drop (by omega), if_neg h]) <;> rfl; done) | (refine endx2 ?_; (rw [hI.2, wE_end (by omega)]) <;> rfl; done))
    | fail
    )

theorem headB_ok {b : Bd} (h : headB b = 0) : b.ws.length ≤ 8 ∧ 1 ≤ b.next ∧ b.next ≤ 2147483647 := by
  unfold headB at h
  have h1 := firstE_all h (if decide ((b.ws.length : Int) ≤ 8) = true then 0 else 8) (by simp)
  have h2 := firstE_all h (if within b.next 1 2147483647 = true then 0 else 2) (by simp)
  have h3 : (b.ws.length : Int) ≤ 8 := by
    by_cases e : (b.ws.length : Int) ≤ 8
    · exact e
    · rw [if_neg (by simpa using e)] at h1; cases h1
  have h4 : within b.next 1 2147483647 = true := by
    by_cases e : within b.next 1 2147483647 = true
    · exact e
    · rw [if_neg e] at h2; cases h2
  unfold within at h4
  simp only [Bool.and_eq_true, decide_eq_true_eq] at h4
  omega
theorem headB_eq (b : Bd) : firstE [if decide (((b.ws.map BW.enc).length : Int) ≤ 8) = true then 0 else 8, if within b.next 1 2147483647 = true then 0 else 2] = headB b := by rw [List.length_map]; rfl
attribute [local irreducible] headB

theorem c33o (b : Bd) (hb : SB b) (hn : 1 ≤ b.next ∧ b.next ≤ 2147483647) (h0 : headB b = 0) : Fn 33 [b.enc] (.tup [i (checkB b).1, i (checkB b).2]) := by
  refine run_walkF eok Tryz.func33 rfl (by kernel_rfl) ?_
  conv => whnf
  repeat' (first
    | (refine on_ndec_t ((headB_eq b).trans h0) ?_; conv => whnf)
    | ((with_reducible refine call_go ?_); (first | refine call_step (run_view (c55 _ _) rfl rfl) ?_ | refine call_step (run_view (c56 _ _ _) rfl rfl) ?_ | refine call_step (run_view (c54 [_, _] (by simp)) rfl rfl) ?_ | refine call_step (run_view (c72 b hb hn) rfl rfl) ?_); conv => whnf)
    | (refine ⟨[], [(6, 4)], (by decide +kernel), ?_⟩; conv => whnf)
    | ((with_reducible refine endx_go ?_); first | (refine endx2 ?_; unfold checkB; (rw [if_pos h0]) <;> rfl; done))
    | (refine ⟨rfl, ?_⟩; conv => whnf)
    | fail
    )

theorem c33n (b : Bd) (h0 : ¬ headB b = 0) : Fn 33 [b.enc] (.tup [i (checkB b).1, i (checkB b).2]) := by
  refine run_walkF eok Tryz.func33 rfl (by kernel_rfl) ?_
  conv => whnf
  repeat' (first
    | (refine on_ndec_f (fun e => h0 ((headB_eq b).symm.trans e)) ?_; conv => whnf)
    | ((with_reducible refine call_go ?_); (first | refine call_step (run_view (c55 _ _) rfl rfl) ?_ | refine call_step (run_view (c56 _ _ _) rfl rfl) ?_ | refine call_step (run_view (c54 [_, _] (by simp)) rfl rfl) ?_ ); conv => whnf)
    | (refine ⟨[], [(6, 4)], (by decide +kernel), ?_⟩; conv => whnf)
    | ((with_reducible refine endx_go ?_); first | (refine endx2 ?_; unfold checkB; rw [headB_eq, if_neg h0]; done))
    | (refine ⟨rfl, ?_⟩; conv => whnf)
    | fail
    )

theorem c33 (b : Bd) (hb : SB b) : Fn 33 [b.enc] (.tup [i (checkB b).1, i (checkB b).2]) := by
  by_cases h0 : headB b = 0
  · exact c33o b hb (headB_ok h0).2 h0
  · exact c33n b h0

theorem ix_W {b : Bd} {n : Int} (k : Nat) (hn : n = k) {K : D → Prop} (h : k < b.ws.length) (hk : K (atW b k).enc) : 0 ≤ n ∧ nthK (b.ws.map BW.enc) n.toNat K := by
  rw [atW_at h] at hk
  exact ix_at k hn h hk
theorem ck_at {b : Bd} {k : Nat} {e : Int} (hh : headB b = 0) (hi : wE b b.ws 0 = wE b (b.ws.drop k) k) (hk : k < b.ws.length) (he : bwE b k = e) (hne : ¬ e = 0) : D.tup [i k, i e] = .tup [i (checkB b).1, i (checkB b).2] := by
  unfold checkB
  rw [if_pos hh, hi, wE_drop hk, he, if_neg hne]
theorem ck_end {b : Bd} {k : Nat} (hh : headB b = 0) (hi : wE b b.ws 0 = wE b (b.ws.drop k) k) (hk : ¬ ((k : Int) < b.ws.length)) : D.tup [i 0, i 0] = .tup [i (checkB b).1, i (checkB b).2] := by
  unfold checkB
  rw [if_pos hh, hi, wE_end (by omega)]
theorem ck_8 {b : Bd} (h : (8 : Int) < b.ws.length) : D.tup [i 0, i 8] = .tup [i (checkB b).1, i (checkB b).2] := by
  have : headB b = 8 := by
    rw [← headB_eq, List.length_map, if_neg (by simp; omega)]; rfl
  unfold checkB
  rw [this, if_neg (by decide)]
theorem ck_2 {b : Bd} (h : ¬ (8 : Int) < b.ws.length) (h2 : within b.next 1 2147483647 = false) : D.tup [i 0, i 2] = .tup [i (checkB b).1, i (checkB b).2] := by
  have : headB b = 2 := by
    rw [← headB_eq, List.length_map, if_pos (by simp; omega), h2]; rfl
  unfold checkB
  rw [this, if_neg (by decide)]
theorem hd_ok {b : Bd} (h : ¬ (8 : Int) < b.ws.length) (h2 : within b.next 1 2147483647 = true) : headB b = 0 := by
  rw [← headB_eq, List.length_map, if_pos (by simp; omega), h2]; rfl
theorem hd4_a {b : Bd} {k : Nat} (h : within (atW b k).id 1 (b.next - 1) = false) : head4 b k = 2 := by
  unfold head4; rw [h]; rfl
theorem hd4_b {b : Bd} {k : Nat} (h : within (atW b k).id 1 (b.next - 1) = true) (hk : (0 : Int) < k) (h2 : (atW b k).id ≤ (atW b (k - 1)).id) : head4 b k = 9 := by
  unfold head4; rw [h, decide_eq_false (show ¬ k = 0 by omega), decide_eq_false (show ¬ (atW b (k - 1)).id < (atW b k).id by omega)]; rfl
theorem hd4_f {b : Bd} {k : Nat} (h : within (atW b k).id 1 (b.next - 1) = true) (h2 : ¬ (0 : Int) < k ∨ ¬ (atW b k).id ≤ (atW b (k - 1)).id) : head4 b k = firstE [watchErr (atW b k).w.path (atW b k).w.filter (atW b k).w.room, if (!(atW b k).lost || decide ((atW b k).recs.length = 0)) = true then 0 else 20] := by
  have h3 : (decide (k = 0) || decide ((atW b (k - 1)).id < (atW b k).id)) = true := by
    rcases h2 with h2 | h2
    · rw [decide_eq_true (show k = 0 by omega)]; rfl
    · rw [decide_eq_true (show (atW b (k - 1)).id < (atW b k).id by omega)]; simp
  unfold head4; rw [h, h3]; rfl
theorem hd4_c {b : Bd} {k : Nat} (h : within (atW b k).id 1 (b.next - 1) = true) (h2 : ¬ (0 : Int) < k ∨ ¬ (atW b k).id ≤ (atW b (k - 1)).id) (h3 : ¬ watchErr (atW b k).w.path (atW b k).w.filter (atW b k).w.room = 0) : head4 b k = watchErr (atW b k).w.path (atW b k).w.filter (atW b k).w.room := by
  rw [hd4_f h h2, firstE_cons, if_neg h3]
theorem hd4_d {b : Bd} {k : Nat} (h : within (atW b k).id 1 (b.next - 1) = true) (h2 : ¬ (0 : Int) < k ∨ ¬ (atW b k).id ≤ (atW b (k - 1)).id) (h3 : watchErr (atW b k).w.path (atW b k).w.filter (atW b k).w.room = 0) (h4 : (atW b k).lost = true) (h5 : (0 : Int) < (atW b k).recs.length) : head4 b k = 20 := by
  rw [hd4_f h h2, h3, h4, decide_eq_false (show ¬ (atW b k).recs.length = 0 by omega)]; rfl
theorem hd4_0 {b : Bd} {k : Nat} (h : within (atW b k).id 1 (b.next - 1) = true) (h2 : ¬ (0 : Int) < k ∨ ¬ (atW b k).id ≤ (atW b (k - 1)).id) (h3 : watchErr (atW b k).w.path (atW b k).w.filter (atW b k).w.room = 0) (h4 : (atW b k).lost = false ∨ ¬ (0 : Int) < (atW b k).recs.length) : head4 b k = 0 := by
  have h5 : (!(atW b k).lost || decide ((atW b k).recs.length = 0)) = true := by
    rcases h4 with h4 | h4
    · rw [h4]; rfl
    · rw [decide_eq_true (show (atW b k).recs.length = 0 by omega)]; simp
  rw [hd4_f h h2, h3, h5]; rfl
theorem bwE_h {b : Bd} {k : Nat} {e : Int} (h : head4 b k = e) (hn : ¬ e = 0) : bwE b k = e := by
  unfold bwE; rw [if_neg (by rw [h]; exact hn), firstE_cons, h, if_neg hn]
theorem bwE_r {b : Bd} {k : Nat} {e : Int} (h : head4 b k = 0) (h2 : (rE (atW b k).w (atW b k).recs (atW b k).recs 0).2 = e) (hn : ¬ e = 0) : bwE b k = e := by
  unfold bwE; rw [if_pos h, firstE_cons, h2, if_neg hn]
theorem bwE_f {b : Bd} {k : Nat} (h : head4 b k = 0) (h2 : (rE (atW b k).w (atW b k).recs (atW b k).recs 0).2 = 0) (hn : (atW b k).w.room < roomOf (atW b k).recs) : bwE b k = 16 := by
  unfold bwE; rw [if_pos h, firstE_cons, h2, if_pos rfl, decide_eq_false (show ¬ roomOf (atW b k).recs ≤ (atW b k).w.room by omega)]; rfl
theorem bwE_0 {b : Bd} {k : Nat} (h : head4 b k = 0) (h2 : (rE (atW b k).w (atW b k).recs (atW b k).recs 0).2 = 0) (hn : ¬ (atW b k).w.room < roomOf (atW b k).recs) : bwE b k = 0 := by
  unfold bwE; rw [if_pos h, firstE_cons, h2, if_pos rfl, decide_eq_true (show roomOf (atW b k).recs ≤ (atW b k).w.room by omega)]; rfl
theorem rE_1 {w : Wt} {l : List Rec} {j : Nat} (hj : j < l.length) (hi : rE w l l 0 = rE w l (l.drop j) j) (h : ¬ recE w l[j] = 0) : (rE w l l 0).2 = recE w l[j] := by
  have : recI w l[j] (dblB l j) = recE w l[j] := by unfold recI; rw [if_neg h]
  rw [hi, rE_drop hj, this, if_neg h]
theorem rE_2 {w : Wt} {l : List Rec} {j : Nat} (hj : j < l.length) (hi : rE w l l 0 = rE w l (l.drop j) j) (h : recE w l[j] = 0) (h2 : dblB l j = true) : (rE w l l 0).2 = 23 := by
  have : recI w l[j] (dblB l j) = 23 := by unfold recI; rw [if_pos h, if_pos h2]
  rw [hi, rE_drop hj, this, if_neg (by decide)]
theorem rE_s {w : Wt} {l : List Rec} {j : Nat} (hj : j < l.length) (hi : rE w l l 0 = rE w l (l.drop j) j) (h : recE w l[j] = 0) (h2 : dblB l j = false) : rE w l l 0 = rE w l (l.drop (j + 1)) (j + 1) := by
  have : recI w l[j] (dblB l j) = 0 := by unfold recI; rw [if_pos h, if_neg (by rw [h2]; decide)]
  rw [hi, rE_drop hj, this, if_pos rfl]
theorem rE_e {w : Wt} {l : List Rec} {j : Nat} (hj : ¬ ((j : Int) < l.length)) (hi : rE w l l 0 = rE w l (l.drop j) j) : (rE w l l 0).2 = 0 := by
  rw [hi, rE_end (by omega)]
theorem dbl_2 {l : List Rec} {j : Nat} (hj : j < l.length) (h : (0 : Int) < j) (h2 : cellsEq [i l[j].act, D.str l[j].path] [i (l[j - 1]'(by omega)).act, D.str (l[j - 1]'(by omega)).path] = false) : dblB l j = false := by
  rw [cellsRec] at h2
  cases hm : mrg l[j].act with
  | false => exact dbl_f2 hj hm
  | true =>
    rw [dbl_t hj h hm, decide_eq_false]
    intro e
    exact (of_decide_eq_false h2) e.symm
theorem dbl_T {l : List Rec} {j : Nat} (hj : j < l.length) (h : (0 : Int) < j) (h2 : cellsEq [i l[j].act, D.str l[j].path] [i (l[j - 1]'(by omega)).act, D.str (l[j - 1]'(by omega)).path] = true) (hm : mrg l[j].act = true) : dblB l j = true := by
  rw [cellsRec] at h2
  rw [dbl_t hj h hm]
  exact decide_eq_true (of_decide_eq_true h2).symm
attribute [local irreducible] checkB wE atW

theorem within_hi {n : Int} (h : within n 1 2147483647 = true) : 1 ≤ n ∧ n ≤ 2147483647 := by
  unfold within at h
  simpa only [Bool.and_eq_true, decide_eq_true_eq] using h
theorem SB.at {b : Bd} (h : SB b) (k : Nat) (hk : k < b.ws.length) : small (atW b k).recs := by rw [atW_at hk]; exact h.r _ (List.getElem_mem hk)

theorem c35 (b : Bd) (hb : SB b) : Fn 35 [b.enc] (.tup [i (checkB b).1, i (checkB b).2]) := by
  have hw := hb.n; have hsm := hb.at
  refine run_walkF eok Tryz.func35 rfl (by kernel_rfl) ?_
  conv => whnf
  repeat' (first
    | ((with_reducible refine on_dec_f ?_ ?_); (focus ((try simp only [List.length_map, List.length_cons, List.length_nil, List.length_append]); omega)); conv => whnf)
    | ((with_reducible refine on_dec (fun h => ?_) (fun h => ?_)) <;> (try simp only [List.length_map] at h) <;> conv => whnf)
    | ((with_reducible refine on_ndec (fun h => ?_) (fun h => ?_)) <;> (try simp only [List.length_map] at h) <;> conv => whnf)
    | ((with_reducible refine on_not (fun h => ?_) (fun h => ?_)) <;> conv => whnf)
    | ((with_reducible refine onBool_split (fun h => ?_) (fun h => ?_)) <;> conv => whnf)
    | ((with_reducible refine call_go ?_); (first | refine call_step (run_view (c58 _ _ _) rfl rfl) ?_ | refine call_step (run_view (c13 (atW b k).w) rfl rfl) ?_ | refine call_step (run_view (c79 (atW b k).w ((atW b k).recs[j]'(by omega)) (by have := watchErr_ok (show watchErr (atW b k).w.path (atW b k).w.filter (atW b k).w.room = 0 by assumption); omega)) rfl rfl) ?_ | refine call_step (run_view (c67 _) rfl rfl) ?_ | refine call_step (run_view (c68 (atW b k).recs (hsm k (by omega))) rfl rfl) ?_); conv => whnf)
    | (refine ⟨[], [], (by decide +kernel), ?_⟩; conv => whnf)
    | (refine ⟨[], [(5, 2)], (by decide +kernel), ?_⟩; conv => whnf)
    | ((with_reducible refine loop_go ?_); first | (refine loop1 (fun (j : Nat) => (atW b k).recs.length - j) (fun (j : Nat) => j ≤ (atW b k).recs.length ∧ head4 b k = 0 ∧ rE (atW b k).w (atW b k).recs (atW b k).recs 0 = rE (atW b k).w (atW b k).recs ((atW b k).recs.drop j) j) (fun (j : Nat) => [(1, .ptr 0 0 0), (4, .d (i k)), (5, .ptr 1 0 0), (7, .d (i j))]) (fun (j : Nat) => [⟨[.d b.enc], 2, 0⟩, ⟨[.d (atW b k).enc], 7, 0⟩]) (0) (by exact ⟨Nat.zero_le _, (hd4_0 (by assumption) (by first | exact .inl (by assumption) | exact .inr (by assumption)) (by assumption) (by first | exact .inl (by assumption) | exact .inr (by assumption))), rfl⟩) ?_ (fun j C2 hI2 hC2 => ?_); (exact ⟨[.old 0, .old 1], rfl, rfl, ⟨⟨rfl, rfl, rfl⟩, (by first | (show (_ : D) = _; with_reducible rfl) ), ⟨rfl, rfl, rfl⟩, (by first | exact congrArg (D.int .i64) (by omega) ), trivial⟩, ⟨⟨rfl, rfl, .inl ⟨[_], rfl, rfl⟩⟩, ⟨rfl, rfl, .inl ⟨[_], rfl, rfl⟩⟩, trivial⟩⟩); have hs2 := (hsm k (by omega)).1; all_goals (conv => whnf)) | (refine loop1 (fun (k : Nat) => b.ws.length - k) (fun (k : Nat) => k ≤ b.ws.length ∧ wE b b.ws 0 = wE b (b.ws.drop k) k) (fun (k : Nat) => [(1, .ptr 0 0 0), (4, .d (i k))]) (fun (k : Nat) => [⟨[.d b.enc], 2, 0⟩]) (0) (by exact ⟨Nat.zero_le _, rfl⟩) ?_ (fun k C hI hC => ?_); (exact ⟨[.old 0], rfl, rfl, ⟨⟨rfl, rfl, rfl⟩, (by first | exact congrArg (D.int .i64) (by omega) ), trivial⟩, ⟨⟨rfl, rfl, .inl ⟨[_], rfl, rfl⟩⟩, trivial⟩⟩); all_goals (conv => whnf)))
    | ((with_reducible show C _ _); first | (refine hC (k + 1) _ _ ?_ (by omega) ?_; clear hC; rotate_left; (exact ⟨[.old 0], rfl, rfl, ⟨⟨rfl, rfl, rfl⟩, (by first | exact congrArg (D.int .i64) (by omega) ), trivial⟩, ⟨⟨rfl, rfl, .inl ⟨[_], rfl, rfl⟩⟩, trivial⟩⟩); (exact ⟨by omega, by rw [hI.2, wE_drop (by omega), if_pos (bwE_0 hI2.2.1 (rE_e (by omega) hI2.2.2) (by assumption))]⟩)))
    | ((with_reducible show C2 _ _); first | (refine hC2 (j + 1) _ _ ?_ (by omega) ?_; clear hC2; rotate_left; (exact ⟨[.old 0, .old 1], rfl, rfl, ⟨⟨rfl, rfl, rfl⟩, (by first | (show (_ : D) = _; with_reducible rfl) ), ⟨rfl, rfl, rfl⟩, (by first | exact congrArg (D.int .i64) (by omega) ), trivial⟩, ⟨⟨rfl, rfl, .inl ⟨[_], rfl, rfl⟩⟩, ⟨rfl, rfl, .inl ⟨[_], rfl, rfl⟩⟩, trivial⟩⟩); (exact ⟨by omega, hI2.2.1, rE_s (by omega) hI2.2.2 (by assumption) (by first | exact dbl_f1 (by assumption) | exact dbl_2 (by omega) (by assumption) (by assumption) | exact dbl_f2 (by omega) (by assumption))⟩)))
    | (refine ix_W (k - 1) (by omega) (by omega) ?_; conv => whnf)
    | (refine ix_W k rfl (by omega) ?_; conv => whnf)
    | (refine ix_map (by omega) ?_; conv => whnf)
    | (refine wrap64 (by omega) ?_; conv => whnf)
    | (refine ix_at (l := (atW b k).recs) (f := Rec.enc) (j - 1) (by omega) (by omega) ?_; conv => whnf)
    | (refine wrap64 (by have := within_hi (show within b.next 1 2147483647 = true by assumption); omega) ?_; conv => whnf)
    | ((with_reducible refine endx_go ?_); first | (exact endx2 (ck_8 (by assumption)); done) | (exact endx2 (ck_2 (by assumption) (by assumption)); done) | (exact endx2 (ck_end (hd_ok (by assumption) (by assumption)) hI.2 (by assumption)); done) | (exact endx2 (ck_at (hd_ok (by assumption) (by assumption)) hI.2 (by omega) (bwE_h (hd4_a (by assumption)) (by decide)) (by decide)); done) | (exact endx2 (ck_at (hd_ok (by assumption) (by assumption)) hI.2 (by omega) (bwE_h (hd4_b (by assumption) (by assumption) (by assumption)) (by decide)) (by decide)); done) | (exact endx2 (ck_at (hd_ok (by assumption) (by assumption)) hI.2 (by omega) (bwE_h (hd4_c (by assumption) (by first | exact .inl (by assumption) | exact .inr (by assumption)) (by assumption)) (by assumption)) (by assumption)); done) | (exact endx2 (ck_at (hd_ok (by assumption) (by assumption)) hI.2 (by omega) (bwE_h (hd4_d (by assumption) (by first | exact .inl (by assumption) | exact .inr (by assumption)) (by assumption) (by assumption) (by assumption)) (by decide)) (by decide)); done) | (exact endx2 (ck_at (hd_ok (by assumption) (by assumption)) hI.2 (by omega) (bwE_r hI2.2.1 (rE_1 (by omega) hI2.2.2 (by assumption)) (by assumption)) (by assumption)); done) | (exact endx2 (ck_at (hd_ok (by assumption) (by assumption)) hI.2 (by omega) (bwE_f hI2.2.1 (rE_e (by omega) hI2.2.2) (by assumption)) (by decide)); done) | (exact endx2 (ck_at (hd_ok (by assumption) (by assumption)) hI.2 (by omega) (bwE_r hI2.2.1 (rE_2 (by omega) hI2.2.2 (by assumption) (dbl_T (by omega) (by assumption) (by assumption) (by assumption))) (by decide)) (by decide)); done))
    | (refine ⟨rfl, ?_⟩; conv => whnf)
    | fail
    )

end Go.Proofs.YtbkmjpmgiaiacaaGreatDoor

/-! Bh -/
namespace Go.Proofs.YtbkmjpmgiaiacaaGreatDoor
open Go Dw Paths
/-- A watch; a is the slice of its records. -/
def bwX (x : BW) (a : AV) : AV := .agg [.d (i x.id), .d (.str x.w.path), .d (.bool x.w.deep), .d (i x.w.filter), .d (i x.w.room), a, .d (.bool x.lost)]
/-- A watch whose records are an own row. -/
def bwA (x : BW) (id : Nat) : AV := bwX x (.sl id 0 x.recs.length 2 none)
def rowA (l : List Rec) : AO := ⟨(l.map Rec.enc).map .d, 2, 0⟩
/-- An element of a row that is a record. -/
def RecV (a : AV) (r : Rec) : Prop := a = .d r.enc ∨ a = .agg [.d (i r.act), .d (.str r.path)]
/-- A row that begins with records. -/
def RecAt (H : Heap) (id : Nat) (l : List Rec) : Prop := ∃ A : List AV, H[id]? = some ⟨A, 2, 0⟩ ∧ l.length ≤ A.length ∧ ∀ (j : Nat) (r : Rec), l[j]? = some r → ∃ a : AV, A[j]? = some a ∧ RecV a r
theorem RecAt.of {H : Heap} {id : Nat} {l : List Rec} (h : H[id]? = some (rowA l)) : RecAt H id l := ⟨_, h, by simp, fun j r hr => ⟨.d r.enc, by simp [hr], .inl rfl⟩⟩
theorem RecAt.look {H H' : Heap} {id : Nat} {l : List Rec} (h : RecAt H id l) (e : H'[id]? = H[id]?) : RecAt H' id l := by
  obtain ⟨A, h1, h2⟩ := h
  exact ⟨A, e.trans h1, h2⟩
theorem RecAt.lt {H : Heap} {id : Nat} {l : List Rec} (h : RecAt H id l) : id < H.length := by
  obtain ⟨A, h1, _⟩ := h
  exact (List.getElem?_eq_some_iff.1 h1).1
/-- A watch of an own row: it has records of its own at id, which is no place of B and not below m; or none. -/
def OwnAt (m : Nat) (H : Heap) (B : List Nat) (e : Option AV) (x : BW) : Option Nat → Prop
  | some id => e = some (bwA x id) ∧ RecAt H id x.recs ∧ (id ∉ B ∧ m ≤ id)
  | none => x.recs = [] ∧ e = some (bwX x .nilS)
/-- The first k watches of a row have records of their own. -/
def Own (m : Nat) (H : Heap) (B : List Nat) (E : List AV) (ws : List BW) (k : Nat) : Prop :=
  ∃ ids : Nat → Option Nat, (∀ j x, j < k → ws[j]? = some x → OwnAt m H B E[j]? x (ids j)) ∧ ∀ j j' a, j < k → j' < k → ids j = some a → ids j' = some a → j = j'
theorem vl_of {f : AV → Option D} : ∀ {l : List AV} {r : List D}, l.length = r.length → (∀ (j : Nat) (a : AV) (x : D), l[j]? = some a → r[j]? = some x → f a = some x) → vl f l = some r
  | [], [], _, _ => rfl
  | a :: l, x :: r, h, k => by
    have h1 := k 0 a x rfl rfl
    have h2 := vl_of (f := f) (l := l) (r := r) (by simpa using h) fun j b y hb hy => k (j + 1) b y (by simpa using hb) (by simpa using hy)
    simp only [vl, h1, h2]
  | [], _ :: _, h, _ => by cases h
  | _ :: _, [], h, _ => by cases h
theorem view_rec {H : Heap} {id n : Nat} {l : List Rec} {c : Option Nat} (h : RecAt H id l) : view (n + 3) H (.sl id 0 l.length 2 c) = some (.fs (l.map Rec.enc)) := by
  obtain ⟨A, h1, h2, h3⟩ := h
  show (match H[id]? with
    | some o => if o.st < 2 then (if 0 + l.length ≤ o.elems.length then (vl (view (n + 2) H) ((o.elems.drop 0).take l.length)).map D.fs else none) else none
    | none => none) = _
  simp only [h1]
  rw [if_pos (by decide), if_pos (by omega), List.drop_zero, vl_of (r := l.map Rec.enc) (by rw [List.length_take, List.length_map]; omega) (fun j a x ha hx => ?_)]
  · rfl
  · rw [List.getElem?_map] at hx
    obtain ⟨r, hr, rfl⟩ := Option.map_eq_some_iff.1 hx
    obtain ⟨b, hb, hv⟩ := h3 j r hr
    rw [List.getElem?_take_of_lt (List.getElem?_eq_some_iff.1 hr).1, hb] at ha
    cases ha
    rcases hv with rfl | rfl
    · rfl
    · exact view_agg (vlc rfl (vlc rfl vln))
theorem view_bw {m : Nat} {H : Heap} {B : List Nat} {x : BW} {o : Option Nat} {a : AV} {n : Nat} (h : OwnAt m H B (some a) x o) : view (n + 4) H a = some x.enc := by
  cases o with
  | none =>
    obtain ⟨h1, h2⟩ := h
    cases h2
    have : x.enc = .agg [i x.id, .str x.w.path, .bool x.w.deep, i x.w.filter, i x.w.room, .fs [], .bool x.lost] := by unfold BW.enc; rw [h1]; rfl
    rw [this]
    exact view_agg (vlc rfl (vlc rfl (vlc rfl (vlc rfl (vlc rfl (vlc rfl (vlc rfl vln)))))))
  | some id =>
    obtain ⟨h2, h3, _⟩ := h
    cases h2
    unfold bwA bwX BW.enc
    exact view_agg (vlc rfl (vlc rfl (vlc rfl (vlc rfl (vlc rfl (vlc (view_rec h3) (vlc rfl vln)))))))
/-- All of the row as data. -/
theorem view_own_k {m : Nat} {H : Heap} {B : List Nat} {E : List AV} {ws : List BW} {q n k : Nat} {c : Option Nat} (hq : H[q]? = some ⟨E, 7, 0⟩) (hl : k ≤ E.length) (hk : k = ws.length) (ho : Own m H B E ws k) : view (n + 5) H (.sl q 0 k 7 c) = some (.fs (ws.map BW.enc)) := by
  subst hk
  show (match H[q]? with
    | some o => if o.st < 2 then (if 0 + ws.length ≤ o.elems.length then (vl (view (n + 4) H) ((o.elems.drop 0).take ws.length)).map D.fs else none) else none
    | none => none) = _
  simp only [hq]
  rw [if_pos (by decide), if_pos (by omega), List.drop_zero]
  obtain ⟨ids, h1, _⟩ := ho
  rw [vl_of (r := ws.map BW.enc) (by rw [List.length_take, List.length_map]; omega) (fun j a x ha hx => ?_)]
  · rfl
  · rw [List.getElem?_map] at hx
    obtain ⟨y, hy, rfl⟩ := Option.map_eq_some_iff.1 hx
    have h2 := h1 j y (lt_of_at hy) hy
    rw [List.getElem?_take_of_lt (lt_of_at hy)] at ha
    rw [ha] at h2
    exact view_bw h2
theorem OwnAt.frame {m : Nat} {H H' : Heap} {B B' : List Nat} {e : Option AV} {x : BW} {o : Option Nat} (h : OwnAt m H B e x o) (hB : ∀ i, i ∈ B' → i ∈ B ∨ H.length ≤ i) (hf : ∀ i, i ∉ B → m ≤ i → i < H.length → H'[i]? = H[i]?) : OwnAt m H' B' e x o := by
  cases o with
  | none => exact h
  | some id =>
    obtain ⟨a1, a2, a3⟩ := h
    have hlt := a2.lt
    refine ⟨a1, a2.look (hf _ a3.1 a3.2 hlt), fun hb => ?_, a3.2⟩
    rcases hB _ hb with h | h
    · exact a3.1 h
    · omega
/-- What is not a row of the board's may change. -/
theorem Own.frame {m : Nat} {H H' : Heap} {B B' : List Nat} {E : List AV} {ws : List BW} {k : Nat} (h : Own m H B E ws k) (hB : ∀ i, i ∈ B' → i ∈ B ∨ H.length ≤ i) (hf : ∀ i, i ∉ B → m ≤ i → i < H.length → H'[i]? = H[i]?) : Own m H' B' E ws k := by
  obtain ⟨ids, h1, h2⟩ := h
  exact ⟨ids, fun j x hj hx => (h1 j x hj hx).frame hB hf, h2⟩
theorem Own.zero {m : Nat} {H : Heap} {B : List Nat} {E : List AV} {ws : List BW} : Own m H B E ws 0 := ⟨fun _ => none, fun j x hj => by omega, fun j j' a hj => by omega⟩
/-- One more watch. -/
theorem Own.step {m : Nat} {H H' : Heap} {B B' : List Nat} {E E' : List AV} {ws ws' : List BW} {k : Nat} {x : BW} {o : Option Nat} (h : Own m H B E ws k) (hk : ws'[k]? = some x) (hw : ∀ j, j < k → ws'[j]? = ws[j]?) (hE : ∀ j, j < k → E'[j]? = E[j]?) (he : OwnAt m H' B' E'[k]? x o)
    (hf : ∀ i, i ∉ B → m ≤ i → i < H.length → H'[i]? = H[i]?) (hB : ∀ i, i ∈ B' → i ∈ B ∨ H.length ≤ i) (hid : ∀ a, o = some a → H.length ≤ a) : Own m H' B' E' ws' (k + 1) := by
  obtain ⟨ids, h1, h2⟩ := h
  by_cases hkw : k ≤ ws.length
  · have hlt : ∀ j a, j < k → ids j = some a → a < H.length := fun j a hj ha => by
      have := h1 j ws[j] hj (List.getElem?_eq_getElem (by omega))
      rw [ha] at this
      exact this.2.1.lt
    refine ⟨fun j => if j = k then o else ids j, fun j y hj hy => ?_, fun j j' a hj hj' e e' => ?_⟩
    · by_cases e : j = k
      · subst e
        rw [hk] at hy; cases hy
        simp only [if_true]
        exact he
      · simp only [if_neg e]
        rw [hw j (by omega)] at hy
        rw [hE j (by omega)]
        exact (h1 j y (by omega) hy).frame hB hf
    · by_cases e1 : j = k <;> by_cases e2 : j' = k
      · omega
      · simp only [if_pos e1] at e; simp only [if_neg e2] at e'
        have := hid a e; have := hlt j' a (by omega) e'; omega
      · simp only [if_neg e1] at e; simp only [if_pos e2] at e'
        have := hid a e'; have := hlt j a (by omega) e; omega
      · simp only [if_neg e1] at e; simp only [if_neg e2] at e'
        exact h2 j j' a (by omega) (by omega) e e'
  · exfalso
    have h3 := hw (k - 1) (by omega)
    rw [List.getElem?_eq_none (show ws.length ≤ k - 1 by omega)] at h3
    have h4 := (List.getElem?_eq_some_iff.1 hk).1
    rw [List.getElem?_eq_getElem (by omega)] at h3
    cases h3
/-- One more watch has records of its own. -/
theorem Own.snoc {m : Nat} {H H' : Heap} {B B' : List Nat} {E E' : List AV} {ws : List BW} {k id : Nat} (h : Own m H B E ws k) (hk : k < ws.length) (hE : ∀ j, j < k → E'[j]? = E[j]?) (he : E'[k]? = some (bwA ws[k] id))
    (hf : ∀ i, i ∉ B → m ≤ i → i < H.length → H'[i]? = H[i]?) (hB : ∀ i, i ∈ B' → i ∈ B ∨ H.length ≤ i) (hid : H.length ≤ id) (hr : H'[id]? = some (rowA ws[k].recs)) (hnb : id ∉ B') (hm : m ≤ H.length) : Own m H' B' E' ws (k + 1) :=
  h.step (o := some id) (List.getElem?_eq_getElem hk) (fun _ _ => rfl) hE ⟨he, .of hr, hnb, by omega⟩ hf hB (fun a e => by cases e; exact hid)
/-- One more watch has none. -/
theorem Own.snocN {m : Nat} {H H' : Heap} {B B' : List Nat} {E E' : List AV} {ws : List BW} {x : BW} (h : Own m H B E ws ws.length) (hx : x.recs = []) (hE : ∀ j, j < ws.length → E'[j]? = E[j]?) (he : E'[ws.length]? = some (bwX x .nilS))
    (hf : ∀ i, i ∉ B → m ≤ i → i < H.length → H'[i]? = H[i]?) (hB : ∀ i, i ∈ B' → i ∈ B ∨ H.length ≤ i) : Own m H' B' E' (ws ++ [x]) (ws.length + 1) :=
  h.step (o := none) (by simp) (fun j hj => List.getElem?_append_left hj) hE ⟨hx, he⟩ hf hB (fun a e => by cases e)
theorem Own.known {m : Nat} {H : Heap} {B : List Nat} {E : List AV} {ws : List BW} {k : Nat} (h : Own m H B E ws k) (hk : k ≤ ws.length) : ∀ j, j < k → ∃ e, E[j]? = some e ∧ e.known = true := by
  intro j hj
  obtain ⟨ids, h1, _⟩ := h
  have := h1 j ws[j] hj (List.getElem?_eq_getElem (by omega))
  cases hi : ids j with
  | none => rw [hi] at this; exact ⟨_, this.2, rfl⟩
  | some id => rw [hi] at this; obtain ⟨h2, _⟩ := this; exact ⟨_, h2, rfl⟩
/-- A watch is gone. -/
theorem Own.erase {m : Nat} {H H' : Heap} {B : List Nat} {E F : List AV} {ws : List BW} {n a : Nat} (h : Own m H B E ws n) (ha : a < n) (hE : ∀ j, j < n - 1 → F[j]? = E[if j < a then j else j + 1]?)
    (hf : ∀ i, i ∉ B → m ≤ i → i < H.length → H'[i]? = H[i]?) : Own m H' B F (ws.eraseIdx a) (n - 1) := by
  obtain ⟨ids, h1, h2⟩ := h
  refine ⟨fun j => ids (if j < a then j else j + 1), fun j x hj hx => ?_, fun j j' c hj hj' e e' => ?_⟩
  · rw [List.getElem?_eraseIdx] at hx
    rw [hE j hj]
    by_cases h : j < a
    · simp only [if_pos h] at hx ⊢
      exact (h1 j x (by omega) hx).frame (fun i hi => .inl hi) hf
    · simp only [if_neg h] at hx ⊢
      exact (h1 (j + 1) x (by omega) hx).frame (fun i hi => .inl hi) hf
  · have := h2 _ _ c (by split <;> omega) (by split <;> omega) e e'
    split at this <;> split at this <;> omega
theorem bw_len {x : BW} {id n : Nat} (h : n = x.recs.length) : AV.agg [.d (i x.id), .d (.str x.w.path), .d (.bool x.w.deep), .d (i x.w.filter), .d (i x.w.room), .sl id 0 n 2 none, .d (.bool x.lost)] = bwA x id := by
  subst h; rfl
theorem Own.one {m : Nat} {H' : Heap} {B' : List Nat} {E' : List AV} {ws : List BW} {k id : Nat} (h0 : k = 0) (hk : k < ws.length) (he : E'[k]? = some (bwA ws[k] id)) (hr : H'[id]? = some (rowA ws[k].recs)) (hnb : id ∉ B') (hm : m ≤ id) : Own m H' B' E' ws (k + 1) := by
  subst h0
  refine ⟨fun _ => some id, fun j x hj hx => ?_, fun j j' a hj hj' _ _ => by omega⟩
  obtain rfl : j = 0 := by omega
  rw [List.getElem?_eq_getElem hk] at hx; cases hx
  exact ⟨he, .of hr, hnb, hm⟩
theorem sl_len {q a b : Nat} (h : a = b) : AV.sl q 0 a 7 none = AV.sl q 0 b 7 none := by rw [h]
theorem snoc_bw {l : List AV} {x : BW} {id n k : Nat} (h : l.length = k) (hn : n = x.recs.length) : (l ++ [.agg [.d (i x.id), .d (.str x.w.path), .d (.bool x.w.deep), .d (i x.w.filter), .d (i x.w.room), .sl id 0 n 2 none, .d (.bool x.lost)]])[k]? = some (bwA x id) := by
  subst hn; exact snoc_at h
/-- A slice whose first k watches are an own row, their records own rows; none of them lies at a place of B. -/
def RowK (m : Nat) (H : Heap) (B : List Nat) (cw : AV) (ws : List BW) (k : Nat) : Prop :=
  (k = 0 ∧ cw = .nilS) ∨ ∃ (q : Nat) (Es : List AV), cw = .sl q 0 k 7 none ∧ H[q]? = some ⟨Es, 7, 0⟩ ∧ k ≤ Es.length ∧ (q ∉ B ∧ m ≤ q) ∧ Own m H (q :: B) Es ws k
/-- The same, the row no longer than that. -/
def RowE (m : Nat) (H : Heap) (B : List Nat) (cw : AV) (ws : List BW) (k : Nat) : Prop :=
  (k = 0 ∧ cw = .nilS) ∨ ∃ (q : Nat) (Es : List AV), cw = .sl q 0 k 7 none ∧ H[q]? = some ⟨Es, 7, 0⟩ ∧ Es.length = k ∧ (q ∉ B ∧ m ≤ q) ∧ Own m H (q :: B) Es ws k
theorem RowE.toK {m : Nat} {H : Heap} {B : List Nat} {cw : AV} {ws : List BW} {k : Nat} (h : RowE m H B cw ws k) : RowK m H B cw ws k := by
  rcases h with h | ⟨q, Es, h1, h2, h3, h4⟩
  · exact .inl h
  · exact .inr ⟨q, Es, h1, h2, Nat.le_of_eq h3.symm, h4⟩
theorem RowE.zero {m : Nat} {H : Heap} {B : List Nat} {ws : List BW} : RowE m H B .nilS ws 0 := .inl ⟨rfl, rfl⟩
/-- A board in memory of its own: the struct at p; nothing of it lies below m. -/
def BH (m : Nat) (H : Heap) (p : Nat) (b : Bd) : Prop :=
  ∃ (q : Nat) (Es : List AV), H[p]? = some ⟨[.agg [.sl q 0 b.ws.length 7 none, .d (i b.next)]], 2, 0⟩ ∧ H[q]? = some ⟨Es, 7, 0⟩ ∧ b.ws.length ≤ Es.length ∧ (p ≠ q ∧ m ≤ p ∧ m ≤ q) ∧ Own m H [p, q] Es b.ws b.ws.length
theorem BH.of {m : Nat} {H : Heap} {p q n : Nat} {b : Bd} {Es : List AV} (hn : n = b.ws.length) (hp : H[p]? = some ⟨[.agg [.sl q 0 n 7 none, .d (i b.next)]], 2, 0⟩) (hq : H[q]? = some ⟨Es, 7, 0⟩) (hE : n ≤ Es.length) (hd : p ≠ q ∧ m ≤ p ∧ m ≤ q) (ho : Own m H [p, q] Es b.ws n) : BH m H p b := by
  subst hn; exact ⟨q, Es, hp, hq, hE, hd, ho⟩
theorem over_len {l : List AV} {s : Nat} {a : AV} (h : s + 1 ≤ l.length) : (over l (0 + s) [a]).length = l.length := by
  unfold over
  simp only [List.length_append, List.length_take, List.length_drop, List.length_cons, List.length_nil]; omega
theorem over_le {l : List AV} {s : Nat} {a : AV} (h : s + 1 ≤ l.length) : s + 1 ≤ (over l (0 + s) [a]).length := by rw [over_len h]; exact h
theorem over_old {l : List AV} {s j : Nat} {a : AV} (h : s + 1 ≤ l.length) (hj : j < s) : (over l (0 + s) [a])[j]? = l[j]? := by
  unfold over
  rw [List.append_assoc, List.getElem?_append_left (by rw [List.length_take]; omega), List.getElem?_take_of_lt (by omega)]
theorem over_at {l : List AV} {s : Nat} {a : AV} (h : s + 1 ≤ l.length) : (over l (0 + s) [a])[s]? = some a := by
  unfold over
  rw [List.append_assoc, List.getElem?_append_right (by rw [List.length_take]; omega), List.length_take, show s - min (0 + s) l.length = 0 by omega]
  rfl
theorem RowK.zero {m : Nat} {H : Heap} {B : List Nat} {ws : List BW} : RowK m H B .nilS ws 0 := .inl ⟨rfl, rfl⟩
theorem RowK.frame {m : Nat} {H H' : Heap} {B B' : List Nat} {cw : AV} {ws : List BW} {k : Nat} (h : RowK m H B cw ws k) (hB : ∀ i, i ∈ B' → i ∈ B ∨ H.length ≤ i) (hf : ∀ i, i ∉ B → m ≤ i → i < H.length → H'[i]? = H[i]?) : RowK m H' B' cw ws k := by
  rcases h with h | ⟨q, Es, h1, h2, h3, ⟨h4, h5⟩, h6⟩
  · exact .inl h
  · have hlt := lt_of_at h2
    refine .inr ⟨q, Es, h1, by rw [hf q h4 h5 hlt]; exact h2, h3, ⟨fun hb => ?_, h5⟩, h6.frame (fun i hi => ?_) fun i hi hm hlt => hf i (fun hb => hi (List.mem_cons_of_mem _ hb)) hm hlt⟩
    · rcases hB _ hb with h | h
      · exact h4 h
      · omega
    · rcases List.mem_cons.1 hi with rfl | hi
      · exact .inl (List.mem_cons_self ..)
      · rcases hB _ hi with h | h
        · exact .inl (List.mem_cons_of_mem _ h)
        · exact .inr h
/-- One watch of the row is looked at, and may be changed. -/
theorem Own.focus {m : Nat} {H : Heap} {B : List Nat} {E : List AV} {ws : List BW} {k j : Nat} (h : Own m H B E ws k) (hk : k ≤ ws.length) (hj : j < k) :
    ∃ o, OwnAt m H B E[j]? (ws[j]'(by omega)) o ∧ ∀ (H' : Heap) (B' : List Nat) (F : List AV) (x : BW) (o' : Option Nat), (∀ i, i ∈ B' → i ∈ B ∨ H.length ≤ i) → (∀ i, i ≠ j → F[i]? = E[i]?) → OwnAt m H' B' F[j]? x o' → (∀ a, o' = some a → o = some a ∨ H.length ≤ a) → (∀ i, i ∉ B → m ≤ i → i < H.length → o ≠ some i → H'[i]? = H[i]?) → Own m H' B' F (ws.set j x) k := by
  obtain ⟨ids, h1, h2⟩ := h
  refine ⟨ids j, h1 j _ hj (List.getElem?_eq_getElem (by omega)), fun H' B' F x o' hB hF he ho hf => ?_⟩
  have hlt : ∀ i a, i < k → ids i = some a → a < H.length := fun i a hi ha => by
    have := h1 i ws[i] hi (List.getElem?_eq_getElem (by omega))
    rw [ha] at this
    exact this.2.1.lt
  refine ⟨fun i => if i = j then o' else ids i, fun i y hi hy => ?_, fun i i' a hi hi' e e' => ?_⟩
  · by_cases e : i = j
    · subst e
      rw [List.getElem?_set_self (by omega)] at hy; cases hy
      simp only [if_true]
      exact he
    · simp only [if_neg e]
      rw [List.getElem?_set_ne (by omega)] at hy
      have h3 := h1 i y hi hy
      rw [hF i e]
      cases hid : ids i with
      | none => rw [hid] at h3; exact h3
      | some a =>
        rw [hid] at h3
        obtain ⟨a1, a2, a3⟩ := h3
        refine ⟨a1, a2.look (hf a a3.1 a3.2 a2.lt fun e3 => e (h2 i j a hi hj hid e3)), fun hb => ?_, a3.2⟩
        rcases hB a hb with h4 | h4
        · exact a3.1 h4
        · have := a2.lt; omega
  · by_cases e1 : i = j <;> by_cases e2 : i' = j
    · omega
    · simp only [if_pos e1] at e; simp only [if_neg e2] at e'
      rcases ho a e with h3 | h3
      · exact absurd (h2 i' j a hi' hj e' h3) e2
      · have := hlt i' a hi' e'; omega
    · simp only [if_neg e1] at e; simp only [if_pos e2] at e'
      rcases ho a e' with h3 | h3
      · exact absurd (h2 i j a hi hj e h3) e1
      · have := hlt i a hi e; omega
    · simp only [if_neg e1] at e; simp only [if_neg e2] at e'
      exact h2 i i' a hi hi' e e'
theorem OwnAt.split {m : Nat} {H : Heap} {B : List Nat} {e : Option AV} {x : BW} {o : Option Nat} (h : OwnAt m H B e x o) : (o = none ∧ x.recs = [] ∧ e = some (bwX x .nilS)) ∨ ∃ id A, o = some id ∧ e = some (bwA x id) ∧ H[id]? = some ⟨A, 2, 0⟩ ∧ x.recs.length ≤ A.length ∧ (∀ (j : Nat) (r : Rec), x.recs[j]? = some r → ∃ a : AV, A[j]? = some a ∧ RecV a r) ∧ (id ∉ B ∧ m ≤ id) := by
  cases o with
  | none => exact .inl ⟨rfl, h.1, h.2⟩
  | some id =>
    obtain ⟨a1, ⟨A, a2, a3, a4⟩, a5⟩ := h
    exact .inr ⟨id, A, rfl, a1, a2, a3, a4, a5⟩
end Go.Proofs.YtbkmjpmgiaiacaaGreatDoor

/-! Sh -/
namespace Go.Proofs.YtbkmjpmgiaiacaaGreatDoor
open Go Dw
theorem shpWt {n : Nat} {x : D} (h : shp E (n + 2) 23 x) : ∃ w : Wt, x = w.enc := by
  obtain ⟨cs, rfl, y1, r1, ⟨k1, rfl, _⟩, rfl, y2, r2, ⟨k2, rfl, _⟩, rfl, y3, r3, ⟨k3, rfl, _⟩, rfl, y4, r4, ⟨k4, rfl, _⟩, rfl, rfl⟩ := h
  exact ⟨⟨k1, k2, k3, k4⟩, rfl⟩
theorem shpEv {n : Nat} {x : D} (h : shp E (n + 2) 25 x) : ∃ r : Rec, x = r.enc ∧ r.act < 9223372036854775808 := by
  obtain ⟨cs, rfl, y1, r1, ⟨k1, rfl, b1⟩, rfl, y2, r2, ⟨k2, rfl, _⟩, rfl, rfl⟩ := h
  refine ⟨⟨k1, k2⟩, rfl, ?_⟩
  unfold Lit.wf at b1
  simp only [Bool.and_eq_true, decide_eq_true_eq] at b1
  have h2 : k1 ≤ IntKind.max .i64 := b1.2
  have h3 : IntKind.max .i64 = 9223372036854775807 := by decide
  show k1 < _
  omega
theorem shpRec {n : Nat} {x : D} (h : shp E (n + 2) 64 x) : ∃ r : Rec, x = r.enc ∧ r.act < 9223372036854775808 := by
  obtain ⟨cs, rfl, y1, r1, ⟨k1, rfl, b1⟩, rfl, y2, r2, ⟨k2, rfl, _⟩, rfl, rfl⟩ := h
  refine ⟨⟨k1, k2⟩, rfl, ?_⟩
  unfold Lit.wf at b1
  simp only [Bool.and_eq_true, decide_eq_true_eq] at b1
  have h2 : k1 ≤ IntKind.max .i64 := b1.2
  have h3 : IntKind.max .i64 = 9223372036854775807 := by decide
  show k1 < _
  omega
theorem recs_of : ∀ (l : List D), (∀ y ∈ l, ∃ r : Rec, y = r.enc ∧ r.act < 9223372036854775808) → ∃ r : List Rec, l = r.map Rec.enc ∧ ∀ x ∈ r, x.act < 9223372036854775808
  | [], _ => ⟨[], rfl, fun _ h => by cases h⟩
  | x :: l, h => by
    obtain ⟨a, rfl, ha⟩ := h x (by simp)
    obtain ⟨r, rfl, hr⟩ := recs_of l fun y hy => h y (by simp [hy])
    exact ⟨a :: r, rfl, fun y hy => by
      rcases List.mem_cons.1 hy with rfl | hy
      · exact ha
      · exact hr y hy⟩
theorem shpRecs {n : Nat} {x : D} (h : shp E (n + 3) 52 x) : ∃ r : List Rec, x = .fs (r.map Rec.enc) ∧ ∀ y ∈ r, y.act < 9223372036854775808 := by
  obtain ⟨l, rfl, _, h3⟩ := h
  obtain ⟨r, rfl, hr⟩ := recs_of l fun y hy => shpRec (h3 y hy)
  exact ⟨r, rfl, hr⟩
end Go.Proofs.YtbkmjpmgiaiacaaGreatDoor

/-! Si -/
namespace Go.Proofs.YtbkmjpmgiaiacaaGreatDoor
open Go Dw
def actsOk (b : Bd) : Prop := ∀ w ∈ b.ws, ∀ r ∈ w.recs, r.act < 9223372036854775808
theorem shpBW {n : Nat} {x : D} (h : shp E (n + 4) 117 x) : ∃ w : BW, x = w.enc ∧ ∀ r ∈ w.recs, r.act < 9223372036854775808 := by
  obtain ⟨cs, rfl, y1, r1, ⟨k1, rfl, _⟩, rfl, y2, r2, h2, rfl, y3, r3, h3, rfl, y4, r4, ⟨k4, rfl⟩, rfl, rfl⟩ := h
  obtain ⟨w, rfl⟩ := shpWt h2
  obtain ⟨l, rfl, hl⟩ := shpRecs h3
  exact ⟨⟨k1, w, l, k4⟩, rfl, hl⟩
theorem bws_of : ∀ (l : List D), (∀ y ∈ l, ∃ r : BW, y = r.enc ∧ ∀ r' ∈ r.recs, r'.act < 9223372036854775808) → ∃ r : List BW, l = r.map BW.enc ∧ ∀ x ∈ r, ∀ r' ∈ x.recs, r'.act < 9223372036854775808
  | [], _ => ⟨[], rfl, fun _ h => by cases h⟩
  | x :: l, h => by
    obtain ⟨a, rfl, ha⟩ := h x (by simp)
    obtain ⟨r, rfl, hr⟩ := bws_of l fun y hy => h y (by simp [hy])
    exact ⟨a :: r, rfl, fun y hy => by
      rcases List.mem_cons.1 hy with rfl | hy
      · exact ha
      · exact hr y hy⟩
theorem shpBd {n : Nat} {x : D} (h : shp E (n + 6) 39 x) : ∃ b : Bd, x = b.enc ∧ actsOk b := by
  obtain ⟨cs, rfl, y1, r1, ⟨l, rfl, _, h1⟩, rfl, y2, r2, ⟨k2, rfl, _⟩, rfl, rfl⟩ := h
  obtain ⟨ws, rfl, hw⟩ := bws_of l fun y hy => shpBW (h1 y hy)
  exact ⟨⟨ws, k2⟩, rfl, hw⟩
end Go.Proofs.YtbkmjpmgiaiacaaGreatDoor

/-! Ld -/
namespace Go.Proofs.YtbkmjpmgiaiacaaGreatDoor
open Go Dw Go.ChangeShapes Go.WideShapes Go.RowKit
set_option maxRecDepth 100000

theorem own28 : ownKnob Tryz.prog.godebug = none := by kernel_rfl
theorem laidOut28 : laidOutB Tryz.prog = true := by kernel_rfl
/-- The variables that the rows list. -/
def laid28 : List (String × DataW Unit) := [("unicode/utf8.acceptRanges", Rows.laid_unicode_utf8_acceptRanges), ("unicode/utf8.first", Rows.laid_unicode_utf8_first)]
/-- The pinned table. -/
def table28 : Array Value := (Pinned.utf8FirstZ.map fun (n : Nat) => Value.int .u8 n).toArray
def withTable (o : Go.Obj) : Go.Obj := match o with
  | Go.Obj.cells _ t fr => Go.Obj.cells table28 t fr
  | o => o
/-- The world that the door leaves, with the pinned table in it. -/
noncomputable def wit28 (os : Os) : World :=
  { World.doorLaid Tryz.prog 60 os with heap := (World.doorLaid Tryz.prog 60 os).heap.modify 2 withTable }

theorem door_met28 (os : Os) (args : Array Value) : laidMetH Tryz.prog laid28 ((wit28 os).forCall (fun _ _ => 0) ⟨#[], args, []⟩).memory :=
  laidMetH_of_parts3 (fuel := 8) (laidMet_of_run' 8 (by kernel_rfl) (by kernel_rfl)) (by kernel_rfl) (by kernel_rfl)

theorem shaped28 (os : Os) (args : Array Value) : ((wit28 os).forCall (fun _ _ => 0) ⟨#[], args, []⟩).Shaped Tryz.prog :=
  World.shaped_of_RefB (by kernel_rfl) (by kernel_rfl)

theorem card_hl {P : Program} {nm : String} {f0 : Nat} {fn0 : Func} {lk : Bool} (h1 : P.funcNamed nm = some f0) (h2 : P.funcs[f0]? = some fn0) (h3 : lk = P.looks []) (h4 : (fn0.params.toList.all fun t => !P.wantsStandIn t) = true) :
    ∀ f fn, P.funcNamed nm = some f → P.funcs[f]? = some fn → lk = P.looks [] ∧ ∀ (j : Nat) t, fn.params[j]? = some t → P.wantsStandIn t = false := by
  intro f fn h5 h6
  obtain rfl : f = f0 := (Option.some.inj (h1.symm.trans h5)).symm
  obtain rfl : fn = fn0 := (Option.some.inj (h2.symm.trans h6)).symm
  refine ⟨h3, fun j t ht => ?_⟩
  have := List.all_eq_true.1 h4 t (List.mem_of_getElem? (by simpa using ht))
  simpa using this
end Go.Proofs.YtbkmjpmgiaiacaaGreatDoor

/-! Wj -/
namespace Go.Proofs.YtbkmjpmgiaiacaaGreatDoor
open Go Dw
set_option maxRecDepth 10000
set_option linter.unusedVariables false
set_option linter.unusedSimpArgs false
attribute [local irreducible] Run
set_option maxHeartbeats 4000000

open Paths
attribute [local irreducible] nameErr parse watchErr eventErr pathErr within isAct hasBit seesW belowI bothErr
end Go.Proofs.YtbkmjpmgiaiacaaGreatDoor
