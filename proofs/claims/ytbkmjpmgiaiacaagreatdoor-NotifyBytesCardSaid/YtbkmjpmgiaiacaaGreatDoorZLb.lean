/-
  Chapter 28: NotifyBytes holds at every input: no condition of ours (its card lists two tables of the library, tied to the text).
-/
import Derived.Test.YtbkmjpmgiaiacaaGreatDoorGrpG
import Derived.Shelf.Strings.Trim
import Derived.Lib.TrailingZeros
import Derived.Shelf.Spec.TrailingZeros
import Derived.Lib.LaidU8
import Derived.LaidSub
set_option linter.unusedVariables false
set_option linter.unusedSimpArgs false

/-! Wk -/
namespace Go.Proofs.YtbkmjpmgiaiacaaGreatDoor
open Go Dw
set_option maxRecDepth 10000
set_option linter.unusedVariables false
set_option linter.unusedSimpArgs false
attribute [local irreducible] Run
set_option maxHeartbeats 4000000

open Paths
attribute [local irreducible] nameErr watchErr eventErr pathErr isAct hasBit seesW belowI text glue
structure BW where
  id : Int
  w : Wt
  recs : List Rec
  lost : Bool
structure Bd where
  ws : List BW
  next : Int
def BW.enc (x : BW) : D := .agg [i x.id, .str x.w.path, .bool x.w.deep, i x.w.filter, i x.w.room, .fs (x.recs.map Rec.enc), .bool x.lost]
def Bd.enc (b : Bd) : D := .agg [.fs (b.ws.map BW.enc), i b.next]
def sz (x : Rec) : Int := (((x.path.length + 5) / 4 * 4 : Nat) : Int)
def roomOf : List Rec → Int
  | [] => 0
  | x :: l => sz x + roomOf l
theorem room_snoc (l : List Rec) (x : Rec) : roomOf (l ++ [x]) = roomOf l + sz x := by
  induction l with
  | nil => simp [roomOf]
  | cons y l ih => simp only [List.cons_append, roomOf, ih]; omega
theorem room_take {l : List Rec} {k : Nat} (h : k < l.length) : roomOf (l.take (k + 1)) = roomOf (l.take k) + sz l[k] := by
  rw [List.take_succ_eq_append_getElem h, room_snoc]
def mrg (a : Int) : Bool := decide (a = 16) || decide (a = 32)
def oddD (deep : Bool) (p : PP) : Bool := p.abs || (!decide (p.stream = []) || (p.parts.any dots || (!deep && decide (1 < p.parts.length))))
def recE (w : Wt) (x : Rec) : Int :=
  if isAct x.act = true ∧ hasBit w.filter x.act = true then (if (parse x.path).2 = 0 then (if oddD w.deep (parse x.path).1 = true then 3 else 0) else (parse x.path).2) else 15
def recI (w : Wt) (x : Rec) (dbl : Bool) : Int := if recE w x = 0 then (if dbl = true then 23 else 0) else recE w x
def small (l : List Rec) : Prop := l.length < 1000 ∧ ∀ x ∈ l, x.path.length < 1000 ∧ x.act < 9223372036854775808
theorem room_bd {l : List Rec} (h : small l) (k : Nat) : 0 ≤ roomOf (l.take k) ∧ roomOf (l.take k) ≤ 2000 * k := by
  induction k with
  | zero => simp [roomOf]
  | succ k ih =>
    by_cases hk : k < l.length
    · rw [room_take hk]
      have := (h.2 _ (List.getElem_mem hk)).1
      unfold sz
      omega
    · rw [List.take_of_length_le (by omega)] at ih ⊢
      omega
theorem normal_nodots {p : PP} (h : ∀ x ∈ p.parts, dots x = false) (hp : p.parts ≠ [] ∨ p.abs = true) : (normal p).parts = p.parts := by
  have key : ∀ (l out : List Bs), (∀ x ∈ l, dots x = false) → l.foldl (normStep p.abs) out = out ++ l := by
    intro l
    induction l with
    | nil => intro out _; simp
    | cons s l ih =>
      intro out hl
      have hd := hl s (by simp)
      have h1 : ¬ s = [46] := by rintro rfl; exact absurd hd (by decide)
      have h2 : ¬ s = [46, 46] := by rintro rfl; exact absurd hd (by decide)
      rw [List.foldl_cons, st_app h1 h2, ih _ fun x hx => hl x (by simp [hx])]
      simp
  unfold normal
  simp only [key _ _ h, List.nil_append]
  rw [if_neg]
  rintro ⟨e1, e2⟩
  rcases hp with hp | hp
  · exact hp e1
  · rw [e2] at hp; cases hp
theorem rec_eq (deep : Bool) (s : Bs) (dbl : Bool) : firstE [(normI s false).2, if (!((normI s false).1.any dots || (!deep && decide (1 < (normI s false).1.length)))) = true then 0 else 3, if (!dbl) = true then 0 else 23] =
    if (parse s).2 = 0 then (if oddD deep (parse s).1 = true then 3 else if dbl = true then 23 else 0) else (parse s).2 := by
  by_cases h : (parse s).2 = 0
  · rw [normI_ok0 h, if_pos h]
    simp only [firstE_cons, firstE_nil]
    by_cases hC : text (normal (parse s).1) = s ∧ (parse s).1.abs = false ∧ (parse s).1.stream = []
    · rw [if_pos hC, if_pos rfl]
      have : oddD deep (parse s).1 = ((parse s).1.parts.any dots || (!deep && decide (1 < (parse s).1.parts.length))) := by
        unfold oddD; rw [hC.2.1, hC.2.2]; simp
      rw [this]
      cases ((parse s).1.parts.any dots || (!deep && decide (1 < (parse s).1.parts.length))) <;> cases dbl <;> rfl
    · rw [if_neg hC, if_neg (by decide)]
      have : oddD deep (parse s).1 = true := by
        by_cases h1 : (parse s).1.abs = false
        · by_cases h2 : (parse s).1.stream = []
          · by_cases h3 : (parse s).1.parts.any dots = true
            · unfold oddD; rw [h3]; simp
            · exfalso
              refine hC ⟨?_, h1, h2⟩
              have hne : (parse s).1.parts ≠ [] := by
                intro e
                have ht := text_parse h
                unfold text at ht
                rw [h1, h2, e] at ht
                have : s = [] := by rw [← ht]; simp [glue]
                subst this
                exact absurd h (by decide)
              have hn := normal_nodots (p := (parse s).1) (fun x hx => by
                have := List.any_eq_false.1 (by simpa using h3 : (parse s).1.parts.any dots = false) x hx
                simpa using this) (.inl hne)
              have := (text_normal (good_parse h)).2 hn
              rw [this, text_parse h]
          · unfold oddD; simp [h2]
        · have : (parse s).1.abs = true := by simpa using h1
          unfold oddD; rw [this]; rfl
      rw [this, if_pos rfl]
  · rw [normI_err0 h, if_neg h]
    simp only [firstE_cons]
    rw [if_neg h]
attribute [local irreducible] parse normI mrg oddD dots

theorem c84 (x : Rec) (h : x.path.length < 1000000) : Fn 84 [x.enc] (i (sz x)) := by
  refine run_walkF eok Tryz.func84 rfl (by kernel_rfl) ?_
  conv => whnf
  repeat' (first
    | ((with_reducible refine on_dec_f ?_ ?_); (focus ((try simp only [List.length_map, List.length_cons, List.length_nil, List.length_append]); omega)); conv => whnf)
    | ((with_reducible refine on_dec_t ?_ ?_); (focus ((try simp only [List.length_map, List.length_cons, List.length_nil, List.length_append]); omega)); conv => whnf)
    | ((with_reducible refine on_dec (fun h => ?_) (fun h => ?_)) <;> (try simp only [List.length_map] at h) <;> conv => whnf)
    | ((with_reducible refine on_ndec (fun h => ?_) (fun h => ?_)) <;> (try simp only [List.length_map] at h) <;> conv => whnf)
    | ((with_reducible refine on_not (fun h => ?_) (fun h => ?_)) <;> conv => whnf)
    | ((with_reducible refine onBool_split (fun h => ?_) (fun h => ?_)) <;> conv => whnf)
    | (refine ⟨⟨(by first | rfl | (simp; done)), cap_ok (by simp only [List.length_map, List.length_cons, List.length_nil, List.length_append]; omega) rfl⟩, ?_⟩; conv => whnf)
    | (refine ⟨mem_one ⟨rfl, rfl⟩, ?_⟩; conv => whnf)
    | (refine ⟨(by intro y hy; obtain ⟨x, _, rfl⟩ := List.mem_map.1 hy; first | rfl | exact ⟨rfl, rfl⟩), ?_⟩; conv => whnf)
    | (refine ⟨cap_ok (by first | omega | (simp only [List.length_map]; omega)) rfl, ?_⟩; conv => whnf)
    | (refine ix_map (by omega) ?_; conv => whnf)
    | (refine ix_str (by omega) ?_; conv => whnf)
    | (refine wrap64 (by omega) ?_; conv => whnf)
    | (refine div64 (by omega) ?_; conv => whnf)
    | (refine wrap64 (by omega) ?_; conv => whnf)
    | (exfalso; simp only [List.length_map, List.length_cons, List.length_nil, List.length_append] at h; omega)
    | ((with_reducible refine endx_go ?_); first | (exact endx (congrArg i (by unfold sz; omega)); done))
    | (refine ⟨rfl, ?_⟩; conv => whnf)
    | fail
    )

theorem c32 (x : Rec) (h : x.path.length < 1000000) : Fn 32 [x.enc] (i (sz x)) := by
  refine run_walkF eok Tryz.func32 rfl (by kernel_rfl) ?_
  conv => whnf
  repeat' (first
    | ((with_reducible refine on_dec_f ?_ ?_); (focus ((try simp only [List.length_map, List.length_cons, List.length_nil, List.length_append]); omega)); conv => whnf)
    | ((with_reducible refine on_dec_t ?_ ?_); (focus ((try simp only [List.length_map, List.length_cons, List.length_nil, List.length_append]); omega)); conv => whnf)
    | ((with_reducible refine on_dec (fun h => ?_) (fun h => ?_)) <;> (try simp only [List.length_map] at h) <;> conv => whnf)
    | ((with_reducible refine on_ndec (fun h => ?_) (fun h => ?_)) <;> (try simp only [List.length_map] at h) <;> conv => whnf)
    | ((with_reducible refine on_not (fun h => ?_) (fun h => ?_)) <;> conv => whnf)
    | ((with_reducible refine onBool_split (fun h => ?_) (fun h => ?_)) <;> conv => whnf)
    | (refine ⟨⟨(by first | rfl | (simp; done)), cap_ok (by simp only [List.length_map, List.length_cons, List.length_nil, List.length_append]; omega) rfl⟩, ?_⟩; conv => whnf)
    | (refine ⟨mem_one ⟨rfl, rfl⟩, ?_⟩; conv => whnf)
    | (refine ⟨(by intro y hy; obtain ⟨x, _, rfl⟩ := List.mem_map.1 hy; first | rfl | exact ⟨rfl, rfl⟩), ?_⟩; conv => whnf)
    | (refine ⟨cap_ok (by first | omega | (simp only [List.length_map]; omega)) rfl, ?_⟩; conv => whnf)
    | (refine ix_map (by omega) ?_; conv => whnf)
    | (refine ix_str (by omega) ?_; conv => whnf)
    | (refine wrap64 (by omega) ?_; conv => whnf)
    | (refine div64 (by omega) ?_; conv => whnf)
    | (refine wrap64 (by omega) ?_; conv => whnf)
    | (exfalso; simp only [List.length_map, List.length_cons, List.length_nil, List.length_append] at h; omega)
    | ((with_reducible refine endx_go ?_); first | (exact endx (congrArg i (by unfold sz; omega)); done))
    | (refine ⟨rfl, ?_⟩; conv => whnf)
    | fail
    )

theorem c77 (l : List Rec) (hl : small l) : Fn 77 [.fs (l.map Rec.enc)] (i (roomOf l)) := by
  refine run_walkF eok Tryz.func77 rfl (by kernel_rfl) ?_
  conv => whnf
  repeat' (first
    | ((with_reducible refine on_dec_f ?_ ?_); (focus ((try simp only [List.length_map, List.length_cons, List.length_nil, List.length_append]); omega)); conv => whnf)
    | ((with_reducible refine on_dec_t ?_ ?_); (focus ((try simp only [List.length_map, List.length_cons, List.length_nil, List.length_append]); omega)); conv => whnf)
    | ((with_reducible refine on_dec (fun h => ?_) (fun h => ?_)) <;> (try simp only [List.length_map] at h) <;> conv => whnf)
    | ((with_reducible refine on_ndec (fun h => ?_) (fun h => ?_)) <;> (try simp only [List.length_map] at h) <;> conv => whnf)
    | ((with_reducible refine on_not (fun h => ?_) (fun h => ?_)) <;> conv => whnf)
    | ((with_reducible refine onBool_split (fun h => ?_) (fun h => ?_)) <;> conv => whnf)
    | ((with_reducible refine call_go ?_); (first | refine call_step (run_view (c84 _ (by have := (hl.2 _ (List.getElem_mem (l := l) (n := k) (by omega))).1; omega)) rfl rfl) ?_); conv => whnf)
    | ((with_reducible refine loop_go ?_); first | (refine loop1 (fun (k : Nat) => l.length - k) (fun (k : Nat) => k ≤ l.length) (fun (k : Nat) => [(3, .d (i (roomOf (l.take k)))), (6, .d (.fs (l.map Rec.enc))), (7, .d (i l.length)), (8, .d (i k))]) (fun (k : Nat) => []) (0) (by exact Nat.zero_le _) ?_ (fun k C hI hC => ?_); (exact ⟨[], rfl, rfl, ⟨(by first | (show (_ : D) = _; with_reducible rfl) | exact congrArg (D.int .i64) (by omega) | exact congrArg (D.int .i64) (by simp only [List.length_map]) | exact rfl), (by first | (show (_ : D) = _; with_reducible rfl) | exact rfl), (by first | (show (_ : D) = _; with_reducible rfl) | exact congrArg (D.int .i64) (by omega) | exact congrArg (D.int .i64) (by simp only [List.length_map]) | exact rfl), (by first | (show (_ : D) = _; with_reducible rfl) | exact congrArg (D.int .i64) (by omega) | exact congrArg (D.int .i64) (by simp only [List.length_map]) | exact rfl), trivial⟩, trivial⟩); have hr := room_bd hl k; have hll := hl.1; all_goals (conv => whnf)))
    | ((with_reducible show C _ _); first | (refine hC (k + 1) _ _ ?_ (by omega) ?_; clear hC; rotate_left; (exact ⟨[], rfl, rfl, ⟨(congrArg (D.int .i64) (room_take (by omega)).symm), (by first | (show (_ : D) = _; with_reducible rfl) | exact rfl), (by first | (show (_ : D) = _; with_reducible rfl) | exact congrArg (D.int .i64) (by omega) | exact congrArg (D.int .i64) (by simp only [List.length_map]) | exact rfl), (by first | (show (_ : D) = _; with_reducible rfl) | exact congrArg (D.int .i64) (by omega) | exact congrArg (D.int .i64) (by simp only [List.length_map]) | exact rfl), trivial⟩, trivial⟩); (exact (by omega : k + 1 ≤ l.length))))
    | (refine ⟨⟨(by first | rfl | (simp; done)), cap_ok (by simp only [List.length_map, List.length_cons, List.length_nil, List.length_append]; omega) rfl⟩, ?_⟩; conv => whnf)
    | (refine ⟨mem_one ⟨rfl, rfl⟩, ?_⟩; conv => whnf)
    | (refine ⟨(by intro y hy; obtain ⟨x, _, rfl⟩ := List.mem_map.1 hy; first | rfl | exact ⟨rfl, rfl⟩), ?_⟩; conv => whnf)
    | (refine ⟨cap_ok (by first | omega | (simp only [List.length_map]; omega)) rfl, ?_⟩; conv => whnf)
    | (refine ix_map (by omega) ?_; conv => whnf)
    | (refine ix_str (by omega) ?_; conv => whnf)
    | (refine wrap64 (by omega) ?_; conv => whnf)
    | (refine wrap64 (by have hs := (hl.2 _ (List.getElem_mem (l := l) (n := k) (by omega))).1; unfold sz; omega) ?_; conv => whnf)
    | (refine wrap64 (by omega) ?_; conv => whnf)
    | (exfalso; simp only [List.length_map, List.length_cons, List.length_nil, List.length_append] at h; omega)
    | ((with_reducible refine endx_go ?_); first | (exact endx (congrArg i (by rw [List.take_of_length_le (by omega)])); done))
    | (refine ⟨rfl, ?_⟩; conv => whnf)
    | fail
    )

theorem c68 (l : List Rec) (hl : small l) : Fn 68 [.fs (l.map Rec.enc)] (i (roomOf l)) := by
  refine run_walkF eok Tryz.func68 rfl (by kernel_rfl) ?_
  conv => whnf
  repeat' (first
    | ((with_reducible refine on_dec_f ?_ ?_); (focus ((try simp only [List.length_map, List.length_cons, List.length_nil, List.length_append]); omega)); conv => whnf)
    | ((with_reducible refine on_dec_t ?_ ?_); (focus ((try simp only [List.length_map, List.length_cons, List.length_nil, List.length_append]); omega)); conv => whnf)
    | ((with_reducible refine on_dec (fun h => ?_) (fun h => ?_)) <;> (try simp only [List.length_map] at h) <;> conv => whnf)
    | ((with_reducible refine on_ndec (fun h => ?_) (fun h => ?_)) <;> (try simp only [List.length_map] at h) <;> conv => whnf)
    | ((with_reducible refine on_not (fun h => ?_) (fun h => ?_)) <;> conv => whnf)
    | ((with_reducible refine onBool_split (fun h => ?_) (fun h => ?_)) <;> conv => whnf)
    | ((with_reducible refine call_go ?_); (first | refine call_step (run_view (c32 _ (by have := (hl.2 _ (List.getElem_mem (l := l) (n := k) (by omega))).1; omega)) rfl rfl) ?_); conv => whnf)
    | ((with_reducible refine loop_go ?_); first | (refine loop1 (fun (k : Nat) => l.length - k) (fun (k : Nat) => k ≤ l.length) (fun (k : Nat) => [(0, .d (.fs (l.map Rec.enc))), (3, .d (i (roomOf (l.take k)))), (4, .d (i k))]) (fun (k : Nat) => []) (0) (by exact Nat.zero_le _) ?_ (fun k C hI hC => ?_); (exact ⟨[], rfl, rfl, ⟨(by first | (show (_ : D) = _; with_reducible rfl) | exact rfl), (by first | (show (_ : D) = _; with_reducible rfl) | exact congrArg (D.int .i64) (by omega) | exact congrArg (D.int .i64) (by simp only [List.length_map]) | exact rfl), (by first | (show (_ : D) = _; with_reducible rfl) | exact congrArg (D.int .i64) (by omega) | exact congrArg (D.int .i64) (by simp only [List.length_map]) | exact rfl), trivial⟩, trivial⟩); have hr := room_bd hl k; have hll := hl.1; all_goals (conv => whnf)))
    | ((with_reducible show C _ _); first | (refine hC (k + 1) _ _ ?_ (by omega) ?_; clear hC; rotate_left; (exact ⟨[], rfl, rfl, ⟨(by first | (show (_ : D) = _; with_reducible rfl) | exact rfl), (congrArg (D.int .i64) (room_take (by omega)).symm), (by first | (show (_ : D) = _; with_reducible rfl) | exact congrArg (D.int .i64) (by omega) | exact congrArg (D.int .i64) (by simp only [List.length_map]) | exact rfl), trivial⟩, trivial⟩); (exact (by omega : k + 1 ≤ l.length))))
    | (refine ⟨⟨(by first | rfl | (simp; done)), cap_ok (by simp only [List.length_map, List.length_cons, List.length_nil, List.length_append]; omega) rfl⟩, ?_⟩; conv => whnf)
    | (refine ⟨mem_one ⟨rfl, rfl⟩, ?_⟩; conv => whnf)
    | (refine ⟨(by intro y hy; obtain ⟨x, _, rfl⟩ := List.mem_map.1 hy; first | rfl | exact ⟨rfl, rfl⟩), ?_⟩; conv => whnf)
    | (refine ⟨cap_ok (by first | omega | (simp only [List.length_map]; omega)) rfl, ?_⟩; conv => whnf)
    | (refine ix_map (by omega) ?_; conv => whnf)
    | (refine ix_str (by omega) ?_; conv => whnf)
    | (refine wrap64 (by omega) ?_; conv => whnf)
    | (refine wrap64 (by have hs := (hl.2 _ (List.getElem_mem (l := l) (n := k) (by omega))).1; unfold sz; omega) ?_; conv => whnf)
    | (refine wrap64 (by omega) ?_; conv => whnf)
    | (exfalso; simp only [List.length_map, List.length_cons, List.length_nil, List.length_append] at h; omega)
    | ((with_reducible refine endx_go ?_); first | (exact endx (congrArg i (by rw [List.take_of_length_le (by omega)])); done))
    | (refine ⟨rfl, ?_⟩; conv => whnf)
    | fail
    )

theorem c107 (x : Rec) : Fn 107 [x.enc] (.bool (mrg x.act)) := by
  refine run_walkF eok Tryz.func107 rfl (by kernel_rfl) ?_
  conv => whnf
  repeat' (first
    | ((with_reducible refine on_dec_f ?_ ?_); (focus ((try simp only [List.length_map, List.length_cons, List.length_nil, List.length_append]); omega)); conv => whnf)
    | ((with_reducible refine on_dec_t ?_ ?_); (focus ((try simp only [List.length_map, List.length_cons, List.length_nil, List.length_append]); omega)); conv => whnf)
    | ((with_reducible refine on_dec (fun h => ?_) (fun h => ?_)) <;> (try simp only [List.length_map] at h) <;> conv => whnf)
    | ((with_reducible refine on_ndec (fun h => ?_) (fun h => ?_)) <;> (try simp only [List.length_map] at h) <;> conv => whnf)
    | ((with_reducible refine on_not (fun h => ?_) (fun h => ?_)) <;> conv => whnf)
    | ((with_reducible refine onBool_split (fun h => ?_) (fun h => ?_)) <;> conv => whnf)
    | (refine ⟨⟨(by first | rfl | (simp; done)), cap_ok (by simp only [List.length_map, List.length_cons, List.length_nil, List.length_append]; omega) rfl⟩, ?_⟩; conv => whnf)
    | (refine ⟨mem_one ⟨rfl, rfl⟩, ?_⟩; conv => whnf)
    | (refine ⟨(by intro y hy; obtain ⟨x, _, rfl⟩ := List.mem_map.1 hy; first | rfl | exact ⟨rfl, rfl⟩), ?_⟩; conv => whnf)
    | (refine ⟨cap_ok (by first | omega | (simp only [List.length_map]; omega)) rfl, ?_⟩; conv => whnf)
    | (refine ix_map (by omega) ?_; conv => whnf)
    | (refine ix_str (by omega) ?_; conv => whnf)
    | (refine wrap64 (by omega) ?_; conv => whnf)
    | (exfalso; simp only [List.length_map, List.length_cons, List.length_nil, List.length_append] at h; omega)
    | ((with_reducible refine endx_go ?_); first | (refine endx (congrArg D.bool ?_); unfold mrg; (simp_all; done); done))
    | (refine ⟨rfl, ?_⟩; conv => whnf)
    | fail
    )

theorem c67 (n : Int) : Fn 67 [i n] (.bool (mrg n)) := by
  refine run_walkF eok Tryz.func67 rfl (by kernel_rfl) ?_
  conv => whnf
  repeat' (first
    | ((with_reducible refine on_dec_f ?_ ?_); (focus ((try simp only [List.length_map, List.length_cons, List.length_nil, List.length_append]); omega)); conv => whnf)
    | ((with_reducible refine on_dec_t ?_ ?_); (focus ((try simp only [List.length_map, List.length_cons, List.length_nil, List.length_append]); omega)); conv => whnf)
    | ((with_reducible refine on_dec (fun h => ?_) (fun h => ?_)) <;> (try simp only [List.length_map] at h) <;> conv => whnf)
    | ((with_reducible refine on_ndec (fun h => ?_) (fun h => ?_)) <;> (try simp only [List.length_map] at h) <;> conv => whnf)
    | ((with_reducible refine on_not (fun h => ?_) (fun h => ?_)) <;> conv => whnf)
    | ((with_reducible refine onBool_split (fun h => ?_) (fun h => ?_)) <;> conv => whnf)
    | (refine ⟨⟨(by first | rfl | (simp; done)), cap_ok (by simp only [List.length_map, List.length_cons, List.length_nil, List.length_append]; omega) rfl⟩, ?_⟩; conv => whnf)
    | (refine ⟨mem_one ⟨rfl, rfl⟩, ?_⟩; conv => whnf)
    | (refine ⟨(by intro y hy; obtain ⟨x, _, rfl⟩ := List.mem_map.1 hy; first | rfl | exact ⟨rfl, rfl⟩), ?_⟩; conv => whnf)
    | (refine ⟨cap_ok (by first | omega | (simp only [List.length_map]; omega)) rfl, ?_⟩; conv => whnf)
    | (refine ix_map (by omega) ?_; conv => whnf)
    | (refine ix_str (by omega) ?_; conv => whnf)
    | (refine wrap64 (by omega) ?_; conv => whnf)
    | (exfalso; simp only [List.length_map, List.length_cons, List.length_nil, List.length_append] at h; omega)
    | ((with_reducible refine endx_go ?_); first | (refine endx (congrArg D.bool ?_); unfold mrg; (simp_all; done); done))
    | (refine ⟨rfl, ?_⟩; conv => whnf)
    | fail
    )

def ixOf (c : Bs) : List Bs → Nat → Int
  | [], _ => -1
  | x :: l, k => if c = x then (k : Int) else ixOf c l (k + 1)
theorem ixOf_drop {c : Bs} {l : List Bs} {k : Nat} (h : k < l.length) : ixOf c (l.drop k) k = if c = l[k] then (k : Int) else ixOf c (l.drop (k + 1)) (k + 1) := by
  rw [List.drop_eq_getElem_cons h]; rfl
theorem ixOf_end {c : Bs} {l : List Bs} {k : Nat} (h : l.length ≤ k) : ixOf c (l.drop k) k = -1 := by
  rw [List.drop_eq_nil_of_le h]; rfl
theorem ixOf_any (c : Bs) : ∀ (l : List Bs) (k : Nat), decide (0 ≤ ixOf c l k) = l.any fun x => decide (x = c)
  | [], k => rfl
  | x :: l, k => by
    have ih := ixOf_any c l (k + 1)
    rw [ixOf, List.any_cons, ← ih]
    by_cases h : c = x
    · subst h; simp
    · rw [if_neg h]; simp [Ne.symm h]
theorem any_take {c : Bs} {l : List Bs} {k : Nat} (h : (l.take k).any (fun x => decide (x = c)) = false) (hk : k < l.length) (e : ¬ l[k] = c) : (l.take (k + 1)).any (fun x => decide (x = c)) = false := by
  rw [List.take_succ_eq_append_getElem hk, List.any_append, h]; simp [e]
theorem any_dots (l : List Bs) : (l.any (fun x => decide (x = [46])) || l.any (fun x => decide (x = [46, 46]))) = l.any dots := by
  unfold dots
  induction l with
  | nil => rfl
  | cons x l ih =>
    simp only [List.any_cons]
    rw [← ih]
    cases decide (x = [46]) <;> cases decide (x = [46, 46]) <;> simp

theorem c135 (l : List Bs) (c : Bs) (hl : l.length < 1000000) : Fn 135 [.fs (l.map .str), .str c] (i (ixOf c l 0)) := by
  refine run_walkF eok Tryz.func135 rfl (by kernel_rfl) ?_
  conv => whnf
  repeat' (first
    | ((with_reducible refine on_dec_f ?_ ?_); (focus ((try simp only [List.length_map, List.length_cons, List.length_nil, List.length_append]); omega)); conv => whnf)
    | ((with_reducible refine on_dec_t ?_ ?_); (focus ((try simp only [List.length_map, List.length_cons, List.length_nil, List.length_append]); omega)); conv => whnf)
    | ((with_reducible refine on_dec (fun h => ?_) (fun h => ?_)) <;> (try simp only [List.length_map] at h) <;> conv => whnf)
    | ((with_reducible refine on_ndec (fun h => ?_) (fun h => ?_)) <;> (try simp only [List.length_map] at h) <;> conv => whnf)
    | ((with_reducible refine on_not (fun h => ?_) (fun h => ?_)) <;> conv => whnf)
    | ((with_reducible refine onBool_split (fun h => ?_) (fun h => ?_)) <;> conv => whnf)
    | ((with_reducible refine loop_go ?_); first | (refine loop1 (fun (k : Nat) => l.length - k) (fun (k : Nat) => k ≤ l.length ∧ ixOf c l 0 = ixOf c (l.drop k) k) (fun (k : Nat) => [(0, .d (.fs (l.map .str))), (1, .d (.str c)), (7, .d (i l.length)), (8, .d (i k))]) (fun (k : Nat) => []) (0) (by first | (simp; done) | (constructor <;> simp; done) | omega) ?_ (fun k C hI hC => ?_); (exact ⟨[], rfl, rfl, ⟨(by first | (show (_ : D) = _; with_reducible rfl) | exact rfl), (by first | (show (_ : D) = _; with_reducible rfl) | exact rfl), (by first | (show (_ : D) = _; with_reducible rfl) | exact congrArg (D.int .i64) (by omega) | exact congrArg (D.int .i64) (by simp only [List.length_map]) | exact rfl), (by first | (show (_ : D) = _; with_reducible rfl) | exact congrArg (D.int .i64) (by omega) | exact congrArg (D.int .i64) (by simp only [List.length_map]) | exact rfl), trivial⟩, trivial⟩); all_goals (conv => whnf)))
    | ((with_reducible show C _ _); first | (refine hC (k + 1) _ _ ?_ (by omega) ?_; clear hC; rotate_left; (exact ⟨[], rfl, rfl, ⟨(by first | (show (_ : D) = _; with_reducible rfl) | exact rfl), (by first | (show (_ : D) = _; with_reducible rfl) | exact rfl), (by first | (show (_ : D) = _; with_reducible rfl) | exact congrArg (D.int .i64) (by omega) | exact congrArg (D.int .i64) (by simp only [List.length_map]) | exact rfl), (by first | (show (_ : D) = _; with_reducible rfl) | exact congrArg (D.int .i64) (by omega) | exact congrArg (D.int .i64) (by simp only [List.length_map]) | exact rfl), trivial⟩, trivial⟩); (exact ⟨by omega, by rw [hI.2, ixOf_drop (by omega), if_neg h]⟩)))
    | (refine ⟨⟨(by first | rfl | (simp; done)), cap_ok (by simp only [List.length_map, List.length_cons, List.length_nil, List.length_append]; omega) rfl⟩, ?_⟩; conv => whnf)
    | (refine ⟨mem_one ⟨rfl, rfl⟩, ?_⟩; conv => whnf)
    | (refine ⟨(by intro y hy; obtain ⟨x, _, rfl⟩ := List.mem_map.1 hy; first | rfl | exact ⟨rfl, rfl⟩), ?_⟩; conv => whnf)
    | (refine ⟨cap_ok (by first | omega | (simp only [List.length_map]; omega)) rfl, ?_⟩; conv => whnf)
    | (refine ix_map (by omega) ?_; conv => whnf)
    | (refine ix_str (by omega) ?_; conv => whnf)
    | (refine wrap64 (by omega) ?_; conv => whnf)
    | (refine wrap64 (by omega) ?_; conv => whnf)
    | (exfalso; simp only [List.length_map, List.length_cons, List.length_nil, List.length_append] at h; omega)
    | ((with_reducible refine endx_go ?_); first | (exact endx (congrArg i (by rw [hI.2, ixOf_drop (by omega), if_pos h])); done) | (exact endx (congrArg i (by rw [hI.2, ixOf_end (by omega)])); done))
    | (refine ⟨rfl, ?_⟩; conv => whnf)
    | fail
    )

theorem c106 (l : List Bs) (c : Bs) (hl : l.length < 1000000) : Fn 106 [.fs (l.map .str), .str c] (.bool (l.any fun x => decide (x = c))) := by
  refine run_walkF eok Tryz.func106 rfl (by kernel_rfl) ?_
  conv => whnf
  repeat' (first
    | ((with_reducible refine on_dec_f ?_ ?_); (focus ((try simp only [List.length_map, List.length_cons, List.length_nil, List.length_append]); omega)); conv => whnf)
    | ((with_reducible refine on_dec_t ?_ ?_); (focus ((try simp only [List.length_map, List.length_cons, List.length_nil, List.length_append]); omega)); conv => whnf)
    | ((with_reducible refine on_dec (fun h => ?_) (fun h => ?_)) <;> (try simp only [List.length_map] at h) <;> conv => whnf)
    | ((with_reducible refine on_ndec (fun h => ?_) (fun h => ?_)) <;> (try simp only [List.length_map] at h) <;> conv => whnf)
    | ((with_reducible refine on_not (fun h => ?_) (fun h => ?_)) <;> conv => whnf)
    | ((with_reducible refine onBool_split (fun h => ?_) (fun h => ?_)) <;> conv => whnf)
    | ((with_reducible refine call_go ?_); (first | refine call_step (run_view (c135 l c hl) rfl rfl) ?_); conv => whnf)
    | (refine ⟨⟨(by first | rfl | (simp; done)), cap_ok (by simp only [List.length_map, List.length_cons, List.length_nil, List.length_append]; omega) rfl⟩, ?_⟩; conv => whnf)
    | (refine ⟨mem_one ⟨rfl, rfl⟩, ?_⟩; conv => whnf)
    | (refine ⟨(by intro y hy; obtain ⟨x, _, rfl⟩ := List.mem_map.1 hy; first | rfl | exact ⟨rfl, rfl⟩), ?_⟩; conv => whnf)
    | (refine ⟨cap_ok (by first | omega | (simp only [List.length_map]; omega)) rfl, ?_⟩; conv => whnf)
    | (refine ix_map (by omega) ?_; conv => whnf)
    | (refine ix_str (by omega) ?_; conv => whnf)
    | (refine wrap64 (by omega) ?_; conv => whnf)
    | (exfalso; simp only [List.length_map, List.length_cons, List.length_nil, List.length_append] at h; omega)
    | ((with_reducible refine endx_go ?_); first | (exact endx (congrArg D.bool (ixOf_any c l 0)); done))
    | (refine ⟨rfl, ?_⟩; conv => whnf)
    | fail
    )

theorem c109 (l : List Bs) (c : Bs) (hl : l.length < 1000000) : Fn 109 [.fs (l.map .str), .str c] (.bool (l.any fun x => decide (x = c))) := by
  refine run_walkF eok Tryz.func109 rfl (by kernel_rfl) ?_
  conv => whnf
  repeat' (first
    | ((with_reducible refine on_dec_f ?_ ?_); (focus ((try simp only [List.length_map, List.length_cons, List.length_nil, List.length_append]); omega)); conv => whnf)
    | ((with_reducible refine on_dec_t ?_ ?_); (focus ((try simp only [List.length_map, List.length_cons, List.length_nil, List.length_append]); omega)); conv => whnf)
    | ((with_reducible refine on_dec (fun h => ?_) (fun h => ?_)) <;> (try simp only [List.length_map] at h) <;> conv => whnf)
    | ((with_reducible refine on_ndec (fun h => ?_) (fun h => ?_)) <;> (try simp only [List.length_map] at h) <;> conv => whnf)
    | ((with_reducible refine on_not (fun h => ?_) (fun h => ?_)) <;> conv => whnf)
    | ((with_reducible refine onBool_split (fun h => ?_) (fun h => ?_)) <;> conv => whnf)
    | ((with_reducible refine loop_go ?_); first | (refine loop1 (fun (k : Nat) => l.length - k) (fun (k : Nat) => k ≤ l.length ∧ (l.take k).any (fun x => decide (x = c)) = false) (fun (k : Nat) => [(0, .d (.fs (l.map .str))), (1, .d (.str c)), (5, .d (i k))]) (fun (k : Nat) => []) (0) (by first | (simp; done) | (constructor <;> simp; done) | omega) ?_ (fun k C hI hC => ?_); (exact ⟨[], rfl, rfl, ⟨(by first | (show (_ : D) = _; with_reducible rfl) | exact rfl), (by first | (show (_ : D) = _; with_reducible rfl) | exact rfl), (by first | (show (_ : D) = _; with_reducible rfl) | exact congrArg (D.int .i64) (by omega) | exact congrArg (D.int .i64) (by simp only [List.length_map]) | exact rfl), trivial⟩, trivial⟩); all_goals (conv => whnf)))
    | ((with_reducible show C _ _); first | (refine hC (k + 1) _ _ ?_ (by omega) ?_; clear hC; rotate_left; (exact ⟨[], rfl, rfl, ⟨(by first | (show (_ : D) = _; with_reducible rfl) | exact rfl), (by first | (show (_ : D) = _; with_reducible rfl) | exact rfl), (by first | (show (_ : D) = _; with_reducible rfl) | exact congrArg (D.int .i64) (by omega) | exact congrArg (D.int .i64) (by simp only [List.length_map]) | exact rfl), trivial⟩, trivial⟩); (exact ⟨by omega, any_take hI.2 (by omega) h⟩)))
    | (refine ⟨⟨(by first | rfl | (simp; done)), cap_ok (by simp only [List.length_map, List.length_cons, List.length_nil, List.length_append]; omega) rfl⟩, ?_⟩; conv => whnf)
    | (refine ⟨mem_one ⟨rfl, rfl⟩, ?_⟩; conv => whnf)
    | (refine ⟨(by intro y hy; obtain ⟨x, _, rfl⟩ := List.mem_map.1 hy; first | rfl | exact ⟨rfl, rfl⟩), ?_⟩; conv => whnf)
    | (refine ⟨cap_ok (by first | omega | (simp only [List.length_map]; omega)) rfl, ?_⟩; conv => whnf)
    | (refine ix_map (by omega) ?_; conv => whnf)
    | (refine ix_str (by omega) ?_; conv => whnf)
    | (refine wrap64 (by omega) ?_; conv => whnf)
    | (refine wrap64 (by omega) ?_; conv => whnf)
    | (exfalso; simp only [List.length_map, List.length_cons, List.length_nil, List.length_append] at h; omega)
    | ((with_reducible refine endx_go ?_); first | (refine endx (congrArg D.bool ?_); symm; rw [List.any_eq_true]; exact ⟨l[k], List.getElem_mem _, by simpa using h⟩; done) | (refine endx (congrArg D.bool ?_); have h9 := hI.2; rw [List.take_of_length_le (by omega)] at h9; exact h9.symm; done))
    | (refine ⟨rfl, ?_⟩; conv => whnf)
    | fail
    )

def dblB (l : List Rec) (k : Nat) : Bool := decide (0 < k) && (mrg ((l[k]?).getD ⟨0, []⟩).act && decide ((l[k - 1]?).getD ⟨0, []⟩ = (l[k]?).getD ⟨0, []⟩))
theorem getD_at {l : List Rec} {k : Nat} (h : k < l.length) : (l[k]?).getD ⟨0, []⟩ = l[k] := by rw [List.getElem?_eq_getElem h]; rfl

theorem rec_15 {w : Wt} {x : Rec} {d : Bool} (hf : 0 ≤ w.filter ∧ w.filter ≤ 63) (h : actB x.act w.filter = false) : recI w x d = 15 := by
  rw [actB_eq hf] at h
  have : recE w x = 15 := by
    unfold recE
    rw [if_neg]
    rintro ⟨e1, e2⟩
    rw [e1, e2] at h; cases h
  unfold recI
  rw [this, if_neg (by decide)]
theorem rec_go {w : Wt} {x : Rec} {d : Bool} (hf : 0 ≤ w.filter ∧ w.filter ≤ 63) (h : actB x.act w.filter = true) : recI w x d = firstE [(normI x.path false).2, if (!((normI x.path false).1.any dots || (!w.deep && decide (1 < (normI x.path false).1.length)))) = true then 0 else 3, if (!d) = true then 0 else 23] := by
  rw [actB_eq hf, Bool.and_eq_true] at h
  rw [rec_eq]
  unfold recI recE
  rw [if_pos h]
  by_cases h1 : (parse x.path).2 = 0
  · rw [if_pos h1, if_pos h1]
    by_cases h2 : oddD w.deep (parse x.path).1 = true
    · rw [if_pos h2, if_pos h2, if_neg (by decide)]
    · rw [if_neg h2, if_neg h2, if_pos rfl]
  · rw [if_neg h1, if_neg h1, if_neg h1]
theorem any_t1 {l : List Bs} (h : (l.any fun x => decide (x = [46])) = true) : l.any dots = true := by rw [← any_dots, h]; rfl
theorem any_t2 {l : List Bs} (h : (l.any fun x => decide (x = [46, 46])) = true) : l.any dots = true := by rw [← any_dots, h]; simp
theorem any_f {l : List Bs} (h : (l.any fun x => decide (x = [46])) = false) (h2 : (l.any fun x => decide (x = [46, 46])) = false) : l.any dots = false := by rw [← any_dots, h, h2]; rfl
theorem dec1 (n : Nat) : decide ((1 : Int) < (n : Int)) = decide (1 < n) := by rw [decide_eq_decide]; omega
theorem cellsRec (x y : Rec) : cellsEq [i x.act, D.str x.path] [i y.act, D.str y.path] = decide (x = y) := by
  cases x with | mk a p => cases y with | mk b q =>
  simp only [cellsEq, Rec.mk.injEq, Bool.and_true]
  rw [Bool.decide_and]
  congr 1
theorem dbl_f1 {l : List Rec} {k : Nat} (h : ¬ (0 : Int) < k) : dblB l k = false := by
  have : k = 0 := by omega
  subst this; rfl
theorem dbl_f2 {l : List Rec} {k : Nat} (hk : k < l.length) (h : mrg l[k].act = false) : dblB l k = false := by
  unfold dblB; rw [getD_at hk, h]; simp
theorem dbl_t {l : List Rec} {k : Nat} (hk : k < l.length) (h : (0 : Int) < k) (hm : mrg l[k].act = true) : dblB l k = decide (l[k - 1] = l[k]) := by
  unfold dblB; rw [getD_at hk, getD_at (show k - 1 < l.length by omega), hm, decide_eq_true (show 0 < k by omega)]; simp

theorem c76a (n : Int) (w : Wt) (l : List Rec) (o : Bool) (k : Nat) (hk : k < l.length) (hl : small l) (hf : 0 ≤ w.filter ∧ w.filter ≤ 63) (ha : actB (l[k]'hk).act w.filter = false) : Fn 76 [(BW.mk n w l o).enc, i k] (i (recI w (l[k]'hk) (dblB l k))) := by
  refine run_walkF eok Tryz.func76 rfl (by kernel_rfl) ?_
  conv => whnf
  repeat' (first
    | ((with_reducible refine on_dec_t (by assumption) ?_); conv => whnf)
    | ((with_reducible refine on_dec_f (by assumption) ?_); conv => whnf)
    | ((with_reducible refine onBool_t (by assumption) ?_); conv => whnf)
    | ((with_reducible refine onBool_f (by assumption) ?_); conv => whnf)
    | ((with_reducible refine on_nt (by assumption) ?_); conv => whnf)
    | ((with_reducible refine on_nf (by assumption) ?_); conv => whnf)
    | ((with_reducible refine on_ndec_t (by first | assumption | rfl) ?_); conv => whnf)
    | ((with_reducible refine on_ndec_f (by assumption) ?_); conv => whnf)
    | ((with_reducible refine on_dec_t rfl ?_); conv => whnf)
    | ((with_reducible refine on_dec_f ?_ ?_); (focus ((try simp only [List.length_map, List.length_cons, List.length_nil, List.length_append]); omega)); conv => whnf)
    | ((with_reducible refine on_dec_t ?_ ?_); (focus ((try simp only [List.length_map, List.length_cons, List.length_nil, List.length_append]); omega)); conv => whnf)
    | ((with_reducible refine on_dec (fun h => ?_) (fun h => ?_)) <;> (try simp only [List.length_map] at h) <;> conv => whnf)
    | ((with_reducible refine on_ndec (fun h => ?_) (fun h => ?_)) <;> (try simp only [List.length_map] at h) <;> conv => whnf)
    | ((with_reducible refine on_not (fun h => ?_) (fun h => ?_)) <;> conv => whnf)
    | ((with_reducible refine onBool_split (fun h => ?_) (fun h => ?_)) <;> conv => whnf)
    | ((with_reducible refine call_go ?_); (first | refine call_step (run_view (c59 (l[k]'hk).act w.filter (hl.2 _ (List.getElem_mem hk)).2 hf) rfl rfl) ?_ | refine call_step (run_viewF (c53 _ _) rfl) ?_ | refine call_step (run_view (c106 (normI (l[k]'hk).path false).1 _ (by have := normI_len (l[k]'hk).path false; omega)) rfl rfl) ?_ | refine call_step (run_view (c107 _) rfl rfl) ?_ | refine call_step (run_view (c55 _ _) rfl rfl) ?_ | refine call_step (run_view (c54 [_, _] (by simp)) rfl rfl) ?_ | refine call_step (run_view (c54 [_, _, _] (by simp)) rfl rfl) ?_ | refine call_step (run_view (c54 [_, _, _, _] (by simp)) rfl rfl) ?_); conv => whnf)
    | (refine ⟨[], [], (by decide +kernel), ?_⟩; conv => whnf)
    | (refine ⟨⟨(by first | rfl | (simp; done)), cap_ok (by simp only [List.length_map, List.length_cons, List.length_nil, List.length_append]; omega) rfl⟩, ?_⟩; conv => whnf)
    | (refine ⟨mem_one ⟨rfl, rfl⟩, ?_⟩; conv => whnf)
    | (refine ⟨(by intro y hy; obtain ⟨x, _, rfl⟩ := List.mem_map.1 hy; first | rfl | exact ⟨rfl, rfl⟩), ?_⟩; conv => whnf)
    | (refine ⟨cap_ok (by first | omega | (simp only [List.length_map]; omega)) rfl, ?_⟩; conv => whnf)
    | (refine ix_map (by omega) ?_; conv => whnf)
    | (refine ix_str (by omega) ?_; conv => whnf)
    | (refine wrap64 (by omega) ?_; conv => whnf)
    | (refine ix_at (l := l) (f := Rec.enc) (k - 1) (by unfold goMax; split <;> omega) (by omega) ?_; conv => whnf)
    | (refine ix_map (l := l) (f := Rec.enc) hk ?_; conv => whnf)
    | (refine ix_map (l := l) (f := Rec.enc) (by omega) ?_; conv => whnf)
    | (refine wrap64 (by omega) ?_; conv => whnf)
    | (exfalso; simp only [List.length_map, List.length_cons, List.length_nil, List.length_append] at h; omega)
    | ((with_reducible refine endx_go ?_); first | (exact endx (congrArg i (rec_15 hf ha).symm); done))
    | (refine ⟨rfl, ?_⟩; conv => whnf)
    | fail
    )

theorem c76b (n : Int) (w : Wt) (l : List Rec) (o : Bool) (k : Nat) (hk : k < l.length) (hl : small l) (hf : 0 ≤ w.filter ∧ w.filter ≤ 63) (ha : actB (l[k]'hk).act w.filter = true) : Fn 76 [(BW.mk n w l o).enc, i k] (i (recI w (l[k]'hk) (dblB l k))) := by
  have hll := hl.1
  refine run_walkF eok Tryz.func76 rfl (by kernel_rfl) ?_
  conv => whnf
  repeat' (first
    | ((with_reducible refine on_dec_t (by assumption) ?_); conv => whnf)
    | ((with_reducible refine on_dec_f (by assumption) ?_); conv => whnf)
    | ((with_reducible refine onBool_t (by assumption) ?_); conv => whnf)
    | ((with_reducible refine onBool_f (by assumption) ?_); conv => whnf)
    | ((with_reducible refine on_nt (by assumption) ?_); conv => whnf)
    | ((with_reducible refine on_nf (by assumption) ?_); conv => whnf)
    | ((with_reducible refine on_ndec_t (by first | assumption | rfl) ?_); conv => whnf)
    | ((with_reducible refine on_ndec_f (by assumption) ?_); conv => whnf)
    | ((with_reducible refine on_dec_t rfl ?_); conv => whnf)
    | ((with_reducible refine on_dec_f ?_ ?_); (focus ((try simp only [List.length_map, List.length_cons, List.length_nil, List.length_append]); omega)); conv => whnf)
    | ((with_reducible refine on_dec_t ?_ ?_); (focus ((try simp only [List.length_map, List.length_cons, List.length_nil, List.length_append]); omega)); conv => whnf)
    | ((with_reducible refine on_dec (fun h => ?_) (fun h => ?_)) <;> (try simp only [List.length_map] at h) <;> conv => whnf)
    | ((with_reducible refine on_ndec (fun h => ?_) (fun h => ?_)) <;> (try simp only [List.length_map] at h) <;> conv => whnf)
    | ((with_reducible refine on_not (fun h => ?_) (fun h => ?_)) <;> conv => whnf)
    | ((with_reducible refine onBool_split (fun h => ?_) (fun h => ?_)) <;> conv => whnf)
    | ((with_reducible refine call_go ?_); (first | refine call_step (run_view (c59 (l[k]'hk).act w.filter (hl.2 _ (List.getElem_mem hk)).2 hf) rfl rfl) ?_ | refine call_step (run_viewF (c53 _ _) rfl) ?_ | refine call_step (run_view (c106 (normI (l[k]'hk).path false).1 _ (by have := normI_len (l[k]'hk).path false; omega)) rfl rfl) ?_ | refine call_step (run_view (c107 _) rfl rfl) ?_ | refine call_step (run_view (c55 _ _) rfl rfl) ?_ | refine call_step (run_view (c54 [_, _] (by simp)) rfl rfl) ?_ | refine call_step (run_view (c54 [_, _, _] (by simp)) rfl rfl) ?_ | refine call_step (run_view (c54 [_, _, _, _] (by simp)) rfl rfl) ?_); conv => whnf)
    | (refine ⟨[], [], (by decide +kernel), ?_⟩; conv => whnf)
    | (refine ⟨⟨(by first | rfl | (simp; done)), cap_ok (by simp only [List.length_map, List.length_cons, List.length_nil, List.length_append]; omega) rfl⟩, ?_⟩; conv => whnf)
    | (refine ⟨mem_one ⟨rfl, rfl⟩, ?_⟩; conv => whnf)
    | (refine ⟨(by intro y hy; obtain ⟨x, _, rfl⟩ := List.mem_map.1 hy; first | rfl | exact ⟨rfl, rfl⟩), ?_⟩; conv => whnf)
    | (refine ⟨cap_ok (by first | omega | (simp only [List.length_map]; omega)) rfl, ?_⟩; conv => whnf)
    | (refine ix_map (by omega) ?_; conv => whnf)
    | (refine ix_str (by omega) ?_; conv => whnf)
    | (refine wrap64 (by omega) ?_; conv => whnf)
    | (refine ix_at (l := l) (f := Rec.enc) (k - 1) (by unfold goMax; split <;> omega) (by omega) ?_; conv => whnf)
    | (refine ix_map (l := l) (f := Rec.enc) hk ?_; conv => whnf)
    | (refine ix_map (l := l) (f := Rec.enc) (by omega) ?_; conv => whnf)
    | (refine wrap64 (by omega) ?_; conv => whnf)
    | (exfalso; simp only [List.length_map, List.length_cons, List.length_nil, List.length_append] at h; omega)
    | ((with_reducible refine endx_go ?_); first | (refine endx (congrArg i ?_); rw [rec_go hf ha]; (first | rw [any_t1 (l := (normI (l[k]'hk).path false).1) (by assumption)] | rw [any_t2 (l := (normI (l[k]'hk).path false).1) (by assumption)] | rw [any_f (l := (normI (l[k]'hk).path false).1) (by assumption) (by assumption)]); (first | rw [dbl_f1 (by assumption)] | rw [dbl_f2 hk (by assumption)] | rw [dbl_t hk (by assumption) (by assumption)]); (first | rfl | (simp_all; done) | (simp only [List.length_map, dec1]; simp_all; done) | (simp only [List.length_map, dec1, cellsRec]; simp_all; done)); done))
    | (refine ⟨rfl, ?_⟩; conv => whnf)
    | fail
    )

theorem re_15a {w : Wt} {x : Rec} (h : isAct x.act = false) : recE w x = 15 := by
  unfold recE; rw [if_neg]; rintro ⟨e, _⟩; rw [h] at e; cases e
theorem re_15b {w : Wt} {x : Rec} (h : hasBit w.filter x.act = false) : recE w x = 15 := by
  unfold recE; rw [if_neg]; rintro ⟨_, e⟩; rw [h] at e; cases e
theorem re_p {w : Wt} {x : Rec} (h : isAct x.act = true) (h2 : hasBit w.filter x.act = true) (h3 : ¬ (parse x.path).2 = 0) : recE w x = (parse x.path).2 := by
  unfold recE; rw [if_pos ⟨h, h2⟩, if_neg h3]
theorem re_o {w : Wt} {x : Rec} (h : isAct x.act = true) (h2 : hasBit w.filter x.act = true) (h3 : (parse x.path).2 = 0) (h4 : oddD w.deep (parse x.path).1 = true) : recE w x = 3 := by
  unfold recE; rw [if_pos ⟨h, h2⟩, if_pos h3, if_pos h4]
theorem re_k {w : Wt} {x : Rec} (h : isAct x.act = true) (h2 : hasBit w.filter x.act = true) (h3 : (parse x.path).2 = 0) (h4 : oddD w.deep (parse x.path).1 = false) : recE w x = 0 := by
  unfold recE; rw [if_pos ⟨h, h2⟩, if_pos h3, if_neg (by rw [h4]; decide)]
theorem odd_abs {d : Bool} {p : PP} (h : p.abs = true) : oddD d p = true := by unfold oddD; rw [h]; rfl
theorem odd_str {d : Bool} {p : PP} (h : ¬ p.stream = []) : oddD d p = true := by unfold oddD; simp [h]
theorem odd_d1 {d : Bool} {p : PP} (h : (p.parts.any fun x => decide (x = [46])) = true) : oddD d p = true := by unfold oddD; rw [any_t1 h]; simp
theorem odd_d2 {d : Bool} {p : PP} (h : (p.parts.any fun x => decide (x = [46, 46])) = true) : oddD d p = true := by unfold oddD; rw [any_t2 h]; simp
theorem odd_n {d : Bool} {p : PP} (h : d = false) (h2 : (1 : Int) < p.parts.length) : oddD d p = true := by unfold oddD; rw [h, decide_eq_true (show 1 < p.parts.length by omega)]; simp
theorem odd_no {d : Bool} {p : PP} (h1 : p.abs = false) (h2 : p.stream = []) (h3 : (p.parts.any fun x => decide (x = [46])) = false) (h4 : (p.parts.any fun x => decide (x = [46, 46])) = false) (h5 : d = true ∨ ¬ (1 : Int) < p.parts.length) : oddD d p = false := by
  unfold oddD
  rw [h1, h2, any_f h3 h4]
  rcases h5 with h5 | h5
  · rw [h5]; rfl
  · rw [decide_eq_false (show ¬ 1 < p.parts.length by omega)]; simp

theorem c79a (w : Wt) (x : Rec) (hs : isAct x.act = false) : Fn 79 [w.enc, x.enc] (i (recE w x)) := by
  refine run_walkF eok Tryz.func79 rfl (by kernel_rfl) ?_
  conv => whnf
  repeat' (first
    | ((with_reducible refine on_dec_t (by assumption) ?_); conv => whnf)
    | ((with_reducible refine on_dec_f (by assumption) ?_); conv => whnf)
    | ((with_reducible refine onBool_t (by assumption) ?_); conv => whnf)
    | ((with_reducible refine onBool_f (by assumption) ?_); conv => whnf)
    | ((with_reducible refine on_nt (by assumption) ?_); conv => whnf)
    | ((with_reducible refine on_nf (by assumption) ?_); conv => whnf)
    | ((with_reducible refine on_ndec_t (by first | assumption | rfl) ?_); conv => whnf)
    | ((with_reducible refine on_ndec_f (by assumption) ?_); conv => whnf)
    | ((with_reducible refine on_dec_t rfl ?_); conv => whnf)
    | ((with_reducible refine on_dec_f ?_ ?_); (focus ((try simp only [List.length_map, List.length_cons, List.length_nil, List.length_append]); omega)); conv => whnf)
    | ((with_reducible refine on_dec_t ?_ ?_); (focus ((try simp only [List.length_map, List.length_cons, List.length_nil, List.length_append]); omega)); conv => whnf)
    | ((with_reducible refine on_dec (fun h => ?_) (fun h => ?_)) <;> (try simp only [List.length_map] at h) <;> conv => whnf)
    | ((with_reducible refine on_ndec (fun h => ?_) (fun h => ?_)) <;> (try simp only [List.length_map] at h) <;> conv => whnf)
    | ((with_reducible refine on_not (fun h => ?_) (fun h => ?_)) <;> conv => whnf)
    | ((with_reducible refine onBool_split (fun h => ?_) (fun h => ?_)) <;> conv => whnf)
    | ((with_reducible refine call_go ?_); (first | refine call_step (run_view (c60 _) rfl rfl) ?_ | refine call_step (run_viewF (c62 x.path) rfl) ?_ | refine call_step (run_view (c109 (parse x.path).1.parts _ (by omega)) rfl rfl) ?_); conv => whnf)
    | (refine ⟨⟨(by first | rfl | (simp; done)), cap_ok (by simp only [List.length_map, List.length_cons, List.length_nil, List.length_append]; omega) rfl⟩, ?_⟩; conv => whnf)
    | (refine ⟨mem_one ⟨rfl, rfl⟩, ?_⟩; conv => whnf)
    | (refine ⟨(by intro y hy; obtain ⟨x, _, rfl⟩ := List.mem_map.1 hy; first | rfl | exact ⟨rfl, rfl⟩), ?_⟩; conv => whnf)
    | (refine ⟨cap_ok (by first | omega | (simp only [List.length_map]; omega)) rfl, ?_⟩; conv => whnf)
    | (refine ix_map (by omega) ?_; conv => whnf)
    | (refine ix_str (by omega) ?_; conv => whnf)
    | (refine wrap64 (by omega) ?_; conv => whnf)
    | (exfalso; simp only [List.length_map, List.length_cons, List.length_nil, List.length_append] at h; omega)
    | ((with_reducible refine endx_go ?_); first | (exact endx (congrArg i (re_15a hs).symm); done))
    | (refine ⟨rfl, ?_⟩; conv => whnf)
    | fail
    )

theorem c79b (w : Wt) (x : Rec) (hf : 0 ≤ w.filter ∧ w.filter ≤ 63) (hs : isAct x.act = true) (hb : w.filter / x.act % 2 = 0) : Fn 79 [w.enc, x.enc] (i (recE w x)) := by
  have hbit := div_bit (f := w.filter) hf hs; have hact := isAct_iff.1 hs; have hdn : 0 ≤ w.filter / x.act := Int.ediv_nonneg (by omega) (by omega)
  refine run_walkF eok Tryz.func79 rfl (by kernel_rfl) ?_
  conv => whnf
  repeat' (first
    | ((with_reducible refine on_dec_t (by assumption) ?_); conv => whnf)
    | ((with_reducible refine on_dec_f (by assumption) ?_); conv => whnf)
    | ((with_reducible refine onBool_t (by assumption) ?_); conv => whnf)
    | ((with_reducible refine onBool_f (by assumption) ?_); conv => whnf)
    | ((with_reducible refine on_nt (by assumption) ?_); conv => whnf)
    | ((with_reducible refine on_nf (by assumption) ?_); conv => whnf)
    | ((with_reducible refine on_ndec_t (by first | assumption | rfl) ?_); conv => whnf)
    | ((with_reducible refine on_ndec_f (by assumption) ?_); conv => whnf)
    | ((with_reducible refine on_dec_t rfl ?_); conv => whnf)
    | ((with_reducible refine on_dec_f ?_ ?_); (focus ((try simp only [List.length_map, List.length_cons, List.length_nil, List.length_append]); omega)); conv => whnf)
    | ((with_reducible refine on_dec_t ?_ ?_); (focus ((try simp only [List.length_map, List.length_cons, List.length_nil, List.length_append]); omega)); conv => whnf)
    | ((with_reducible refine on_dec (fun h => ?_) (fun h => ?_)) <;> (try simp only [List.length_map] at h) <;> conv => whnf)
    | ((with_reducible refine on_ndec (fun h => ?_) (fun h => ?_)) <;> (try simp only [List.length_map] at h) <;> conv => whnf)
    | ((with_reducible refine on_not (fun h => ?_) (fun h => ?_)) <;> conv => whnf)
    | ((with_reducible refine onBool_split (fun h => ?_) (fun h => ?_)) <;> conv => whnf)
    | ((with_reducible refine call_go ?_); (first | refine call_step (run_view (c60 _) rfl rfl) ?_ | refine call_step (run_viewF (c62 x.path) rfl) ?_ | refine call_step (run_view (c109 (parse x.path).1.parts _ (by omega)) rfl rfl) ?_); conv => whnf)
    | (refine ⟨⟨(by first | rfl | (simp; done)), cap_ok (by simp only [List.length_map, List.length_cons, List.length_nil, List.length_append]; omega) rfl⟩, ?_⟩; conv => whnf)
    | (refine ⟨mem_one ⟨rfl, rfl⟩, ?_⟩; conv => whnf)
    | (refine ⟨(by intro y hy; obtain ⟨x, _, rfl⟩ := List.mem_map.1 hy; first | rfl | exact ⟨rfl, rfl⟩), ?_⟩; conv => whnf)
    | (refine ⟨cap_ok (by first | omega | (simp only [List.length_map]; omega)) rfl, ?_⟩; conv => whnf)
    | (refine ix_map (by omega) ?_; conv => whnf)
    | (refine ix_str (by omega) ?_; conv => whnf)
    | (refine wrap64 (by omega) ?_; conv => whnf)
    | (refine div64 (by omega) ?_; conv => whnf)
    | (refine rem_nn (by omega) ?_; conv => whnf)
    | (refine wrap64 (by omega) ?_; conv => whnf)
    | (exfalso; simp only [List.length_map, List.length_cons, List.length_nil, List.length_append] at h; omega)
    | ((with_reducible refine endx_go ?_); first | (exact endx (congrArg i (re_15b (by have := hbit; rw [decide_eq_true hb] at this; simpa using this)).symm); done))
    | (refine ⟨rfl, ?_⟩; conv => whnf)
    | fail
    )

theorem c79c (w : Wt) (x : Rec) (hf : 0 ≤ w.filter ∧ w.filter ≤ 63) (hs : isAct x.act = true) (hb : ¬ w.filter / x.act % 2 = 0) : Fn 79 [w.enc, x.enc] (i (recE w x)) := by
  have hbit := div_bit (f := w.filter) hf hs; have hact := isAct_iff.1 hs; have hdn : 0 ≤ w.filter / x.act := Int.ediv_nonneg (by omega) (by omega); have hpp := parse_parts x.path; have hh : hasBit w.filter x.act = true := (by have := hbit; rw [decide_eq_false hb] at this; simpa using this)
  refine run_walkF eok Tryz.func79 rfl (by kernel_rfl) ?_
  conv => whnf
  repeat' (first
    | ((with_reducible refine on_dec_t (by assumption) ?_); conv => whnf)
    | ((with_reducible refine on_dec_f (by assumption) ?_); conv => whnf)
    | ((with_reducible refine onBool_t (by assumption) ?_); conv => whnf)
    | ((with_reducible refine onBool_f (by assumption) ?_); conv => whnf)
    | ((with_reducible refine on_nt (by assumption) ?_); conv => whnf)
    | ((with_reducible refine on_nf (by assumption) ?_); conv => whnf)
    | ((with_reducible refine on_ndec_t (by first | assumption | rfl) ?_); conv => whnf)
    | ((with_reducible refine on_ndec_f (by assumption) ?_); conv => whnf)
    | ((with_reducible refine on_dec_t rfl ?_); conv => whnf)
    | ((with_reducible refine on_dec_f ?_ ?_); (focus ((try simp only [List.length_map, List.length_cons, List.length_nil, List.length_append]); omega)); conv => whnf)
    | ((with_reducible refine on_dec_t ?_ ?_); (focus ((try simp only [List.length_map, List.length_cons, List.length_nil, List.length_append]); omega)); conv => whnf)
    | ((with_reducible refine on_dec (fun h => ?_) (fun h => ?_)) <;> (try simp only [List.length_map] at h) <;> conv => whnf)
    | ((with_reducible refine on_ndec (fun h => ?_) (fun h => ?_)) <;> (try simp only [List.length_map] at h) <;> conv => whnf)
    | ((with_reducible refine on_not (fun h => ?_) (fun h => ?_)) <;> conv => whnf)
    | ((with_reducible refine onBool_split (fun h => ?_) (fun h => ?_)) <;> conv => whnf)
    | ((with_reducible refine call_go ?_); (first | refine call_step (run_view (c60 _) rfl rfl) ?_ | refine call_step (run_viewF (c62 x.path) rfl) ?_ | refine call_step (run_view (c109 (parse x.path).1.parts _ (by omega)) rfl rfl) ?_); conv => whnf)
    | (refine ⟨⟨(by first | rfl | (simp; done)), cap_ok (by simp only [List.length_map, List.length_cons, List.length_nil, List.length_append]; omega) rfl⟩, ?_⟩; conv => whnf)
    | (refine ⟨mem_one ⟨rfl, rfl⟩, ?_⟩; conv => whnf)
    | (refine ⟨(by intro y hy; obtain ⟨x, _, rfl⟩ := List.mem_map.1 hy; first | rfl | exact ⟨rfl, rfl⟩), ?_⟩; conv => whnf)
    | (refine ⟨cap_ok (by first | omega | (simp only [List.length_map]; omega)) rfl, ?_⟩; conv => whnf)
    | (refine ix_map (by omega) ?_; conv => whnf)
    | (refine ix_str (by omega) ?_; conv => whnf)
    | (refine wrap64 (by omega) ?_; conv => whnf)
    | (refine div64 (by omega) ?_; conv => whnf)
    | (refine rem_nn (by omega) ?_; conv => whnf)
    | (refine wrap64 (by omega) ?_; conv => whnf)
    | (exfalso; simp only [List.length_map, List.length_cons, List.length_nil, List.length_append] at h; omega)
    | ((with_reducible refine endx_go ?_); first | (exact endx (congrArg i (re_p hs hh (by assumption)).symm); done) | (exact endx (congrArg i (re_o hs hh (by assumption) (by first | exact odd_abs (by assumption) | exact odd_str (of_decide_eq_false (by assumption)) | exact odd_d1 (by assumption) | exact odd_d2 (by assumption) | exact odd_n (by assumption) (by assumption))).symm); done) | (exact endx (congrArg i (re_k hs hh (by assumption) (odd_no (by assumption) (of_decide_eq_true (by assumption)) (by assumption) (by assumption) (by first | exact .inl (by assumption) | exact .inr (by assumption)))).symm); done))
    | (refine ⟨rfl, ?_⟩; conv => whnf)
    | fail
    )

theorem c79 (w : Wt) (x : Rec) (hf : 0 ≤ w.filter ∧ w.filter ≤ 63) : Fn 79 [w.enc, x.enc] (i (recE w x)) := by
  by_cases hs : isAct x.act = true
  · by_cases hb : w.filter / x.act % 2 = 0
    · exact c79b w x hf hs hb
    · exact c79c w x hf hs hb
  · exact c79a w x (by simpa using hs)
theorem c76 (n : Int) (w : Wt) (l : List Rec) (o : Bool) (k : Nat) (hk : k < l.length) (hl : small l) (hf : 0 ≤ w.filter ∧ w.filter ≤ 63) : Fn 76 [(BW.mk n w l o).enc, i k] (i (recI w (l[k]'hk) (dblB l k))) := by
  cases ha : actB (l[k]'hk).act w.filter with
  | true => exact c76b n w l o k hk hl hf ha
  | false => exact c76a n w l o k hk hl hf ha

end Go.Proofs.YtbkmjpmgiaiacaaGreatDoor

/-! Tr -/
namespace Go.Proofs.YtbkmjpmgiaiacaaGreatDoor
open Go Go.Shelf
def lays160_ren : Go.Shelf.Ren := ⟨fun | 160 => 86 | 232 => 113 | 231 => 112 | 227 => 114 | 234 => 116 | 233 => 115 | 236 => 118 | 235 => 117 | 228 => 136 | 271 => 139 | 151 => 138 | 197 => 137 | 120 => 159 | 152 => 158 | 260 => 157 | 137 => 170 | 119 => 171 | 224 => 172 | 225 => 173 | 217 => 181 | 266 => 188 | n => n, fun | 9 => 9 | 4 => 4 | 3 => 3 | 5 => 5 | 117 => 175 | 116 => 174 | 0 => 0 | 124 => 178 | 21 => 21 | 105 => 203 | 46 => 145 | 119 => 224 | 139 => 227 | 138 => 226 | n => n, fun | 3 => 2 | 4 => 3 | n => n⟩
theorem lays160 : Go.Proofs.Lays.n160 Tryz.prog lays160_ren := {
  mixed := by kernel_rfl
  f119 := Tryz.func171.trans (congrArg some (by kernel_rfl))
  f120 := Tryz.func159.trans (congrArg some (by kernel_rfl))
  f137 := Tryz.func170.trans (congrArg some (by kernel_rfl))
  f151 := Tryz.func138.trans (congrArg some (by kernel_rfl))
  f152 := Tryz.func158.trans (congrArg some (by kernel_rfl))
  f160 := Tryz.func86.trans (congrArg some (by kernel_rfl))
  f197 := Tryz.func137.trans (congrArg some (by kernel_rfl))
  f217 := Tryz.func181.trans (congrArg some (by kernel_rfl))
  f224 := Tryz.func172.trans (congrArg some (by kernel_rfl))
  f225 := Tryz.func173.trans (congrArg some (by kernel_rfl))
  f227 := Tryz.func114.trans (congrArg some (by kernel_rfl))
  f228 := Tryz.func136.trans (congrArg some (by kernel_rfl))
  f231 := Tryz.func112.trans (congrArg some (by kernel_rfl))
  f232 := Tryz.func113.trans (congrArg some (by kernel_rfl))
  f233 := Tryz.func115.trans (congrArg some (by kernel_rfl))
  f234 := Tryz.func116.trans (congrArg some (by kernel_rfl))
  f235 := Tryz.func117.trans (congrArg some (by kernel_rfl))
  f236 := Tryz.func118.trans (congrArg some (by kernel_rfl))
  f260 := Tryz.func157.trans (congrArg some (by kernel_rfl))
  f266 := Tryz.func188.trans (congrArg some (by kernel_rfl))
  f271 := Tryz.func139.trans (congrArg some (by kernel_rfl))
  t0 := Tryz.underlying0
  a0 := Tryz.isAgg0
  z0 := Tryz.sizeOf0
  v0 := Tryz.zeroValue0
  t3 := Tryz.underlying3
  a3 := Tryz.isAgg3
  z3 := Tryz.sizeOf3
  v3 := Tryz.zeroValue3
  t4 := Tryz.underlying4
  a4 := Tryz.isAgg4
  z4 := Tryz.sizeOf4
  v4 := Tryz.zeroValue4
  t5 := Tryz.underlying5
  a5 := Tryz.isAgg5
  z5 := Tryz.sizeOf5
  v5 := Tryz.zeroValue5
  t9 := Tryz.underlying9
  a9 := Tryz.isAgg9
  z9 := Tryz.sizeOf9
  v9 := Tryz.zeroValue9
  t21 := Tryz.underlying21
  a21 := Tryz.isAgg21
  z21 := Tryz.sizeOf21
  v21 := Tryz.zeroValue21
  t46 := Tryz.underlying145
  a46 := Tryz.isAgg145
  z46 := Tryz.sizeOf145
  v46 := Tryz.zeroValue145
  t105 := Tryz.underlying203
  a105 := Tryz.isAgg203
  z105 := Tryz.sizeOf203
  v105 := Tryz.zeroValue203
  t116 := Tryz.underlying174
  a116 := Tryz.isAgg174
  z116 := Tryz.sizeOf174
  t117 := Tryz.underlying175
  a117 := Tryz.isAgg175
  z117 := Tryz.sizeOf175
  v117 := Tryz.zeroValue175
  t119 := Tryz.underlying224
  a119 := Tryz.isAgg224
  z119 := Tryz.sizeOf224
  t124 := Tryz.underlying178
  a124 := Tryz.isAgg178
  z124 := Tryz.sizeOf178
  v124 := Tryz.zeroValue178
  t138 := Tryz.underlying226
  a138 := Tryz.isAgg226
  z138 := Tryz.sizeOf226
  v138 := Tryz.zeroValue226
  t139 := Tryz.underlying227
  a139 := Tryz.isAgg227
  z139 := Tryz.sizeOf227
  v139 := Tryz.zeroValue227
  g3 := by kernel_rfl
  g4 := by kernel_rfl }

open Dw Go.RowKit
set_option maxRecDepth 100000
theorem enters86 : ∀ vs w, (callFunc 86 vs).run Tryz.prog w = .ok (.enter 86 vs) w := enters_of Tryz.func86 (by kernel_rfl) rfl
theorem c86 (s : Bs) (c : UInt8) (h1 : s.length ≤ 9223372036854775807) (hc : c.toNat < 128) : Fn 86 [.str s, .str [c]] (.str (Lib.trimB s c)) := by
  refine run_calls enters86 fun B W w st vs hw ha => ?_
  simp only [List.map_cons, List.map_nil, aVs, aC, cC, AV.isAgg] at ha
  obtain ⟨v, r, us, rfl, hv, rfl, v2, r2, us2, rfl, hv2, rfl, rfl⟩ := ha
  simp only [Bool.false_eq_true, if_false, List.cons.injEq, and_true] at hv hv2
  subst hv; subst hv2
  refine ⟨.string ⟨(Lib.trimB s c).toArray⟩, fun w' => ⟨[.string ⟨(Lib.trimB s c).toArray⟩], rfl, rfl⟩, ?_⟩
  refine (Any.strings_Trim_one lays160 ⟨s.toArray⟩ c hc w h1).mono ?_
  rintro e w' ⟨h, rfl | rfl⟩
  · exact ⟨h, Below.refl _ _⟩
  · exact ⟨h, (Below.refl _ w).drew⟩
end Go.Proofs.YtbkmjpmgiaiacaaGreatDoor

/-! Wm -/
namespace Go.Proofs.YtbkmjpmgiaiacaaGreatDoor
open Go Dw
set_option maxRecDepth 10000
set_option linter.unusedVariables false
set_option linter.unusedSimpArgs false
attribute [local irreducible] Run
set_option maxHeartbeats 4000000

open Paths
attribute [local irreducible] nameErr isAct hasBit
def szErr (x : Rec) : Int := if isAct x.act = true then (if 200 < x.path.length then 8 else if x.path = [] then 17 else 0) else 15
theorem sz_a {x : Rec} (h : isAct x.act = false) : szErr x = 15 := by unfold szErr; rw [if_neg (by rw [h]; decide)]
theorem sz_b {x : Rec} (h : isAct x.act = true) (h2 : (200 : Int) < x.path.length) : szErr x = 8 := by unfold szErr; rw [if_pos h, if_pos (by omega)]
theorem sz_c {x : Rec} (h : isAct x.act = true) (h2 : ¬ (200 : Int) < x.path.length) (h3 : x.path = []) : szErr x = 17 := by unfold szErr; rw [if_pos h, if_neg (by omega), if_pos h3]
theorem sz_d {x : Rec} (h : isAct x.act = true) (h2 : ¬ (200 : Int) < x.path.length) (h3 : ¬ x.path = []) : szErr x = 0 := by unfold szErr; rw [if_pos h, if_neg (by omega), if_neg h3]
theorem szErr_ok {x : Rec} (h : szErr x = 0) : isAct x.act = true ∧ x.path.length ≤ 200 ∧ x.path ≠ [] := by
  unfold szErr at h
  split at h
  · split at h
    · cases h
    · split at h
      · cases h
      · exact ⟨by assumption, by omega, by assumption⟩
  · cases h
theorem szErr_eq (x : Rec) : szErr x = firstE [if actB x.act 63 = true then 0 else 15, if decide ((x.path.length : Int) ≤ 200) = true then 0 else 8, if (!decide (x.path = [])) = true then 0 else 17] := by
  rw [act63]
  simp only [firstE_cons, firstE_nil]
  cases h : isAct x.act with
  | false => rw [sz_a h]; rfl
  | true =>
    by_cases h2 : (200 : Int) < x.path.length
    · rw [sz_b h h2, if_pos rfl, if_neg (show ¬ decide ((x.path.length : Int) ≤ 200) = true by simp; omega)]; rfl
    · rw [if_pos (show decide ((x.path.length : Int) ≤ 200) = true by simp; omega)]
      by_cases h3 : x.path = []
      · rw [sz_c h h2 h3, h3]; rfl
      · rw [sz_d h h2 h3, decide_eq_false h3]; rfl
def szOr (x : Rec) : Int := if szErr x = 0 then sz x else 0
def encErr : List Rec → Int
  | [] => 0
  | x :: l => if szErr x = 0 then encErr l else szErr x
theorem encErr_drop {l : List Rec} {k : Nat} (h : k < l.length) : encErr (l.drop k) = if szErr l[k] = 0 then encErr (l.drop (k + 1)) else szErr l[k] := by
  rw [List.drop_eq_getElem_cons h]; rfl
theorem encErr_end {l : List Rec} {k : Nat} (h : l.length ≤ k) : encErr (l.drop k) = 0 := by
  rw [List.drop_eq_nil_of_le h]; rfl

theorem c46 (x : Rec) : Fn 46 [x.enc] (i (szErr x)) := by
  refine run_walkF eok Tryz.func46 rfl (by kernel_rfl) ?_
  conv => whnf
  repeat' (first
    | ((with_reducible refine on_dec_f ?_ ?_); (focus ((try simp only [List.length_map, List.length_cons, List.length_nil, List.length_append]); omega)); conv => whnf)
    | ((with_reducible refine on_dec_t ?_ ?_); (focus ((try simp only [List.length_map, List.length_cons, List.length_nil, List.length_append]); omega)); conv => whnf)
    | ((with_reducible refine on_dec (fun h => ?_) (fun h => ?_)) <;> (try simp only [List.length_map] at h) <;> conv => whnf)
    | ((with_reducible refine on_ndec (fun h => ?_) (fun h => ?_)) <;> (try simp only [List.length_map] at h) <;> conv => whnf)
    | ((with_reducible refine on_not (fun h => ?_) (fun h => ?_)) <;> conv => whnf)
    | ((with_reducible refine onBool_split (fun h => ?_) (fun h => ?_)) <;> conv => whnf)
    | ((with_reducible refine call_go ?_); (first | refine call_step (run_view (c60 _) rfl rfl) ?_); conv => whnf)
    | (refine ⟨⟨(by first | rfl | (simp; done)), cap_ok (by simp only [List.length_map, List.length_cons, List.length_nil, List.length_append]; omega) rfl⟩, ?_⟩; conv => whnf)
    | (refine ⟨mem_one ⟨rfl, rfl⟩, ?_⟩; conv => whnf)
    | (refine ⟨(by intro y hy; obtain ⟨x, _, rfl⟩ := List.mem_map.1 hy; first | rfl | exact ⟨rfl, rfl⟩), ?_⟩; conv => whnf)
    | (refine ⟨cap_ok (by first | omega | (simp only [List.length_map]; omega)) rfl, ?_⟩; conv => whnf)
    | (refine ix_map (by omega) ?_; conv => whnf)
    | (refine ix_str (by omega) ?_; conv => whnf)
    | (refine wrap64 (by omega) ?_; conv => whnf)
    | (exfalso; simp only [List.length_map, List.length_cons, List.length_nil, List.length_append] at h; omega)
    | ((with_reducible refine endx_go ?_); first | (exact endx (congrArg i (sz_a (by assumption)).symm); done) | (exact endx (congrArg i (sz_b (by assumption) (by assumption)).symm); done) | (exact endx (congrArg i (sz_c (by assumption) (by assumption) (of_decide_eq_true h)).symm); done) | (exact endx (congrArg i (sz_d (by assumption) (by assumption) (of_decide_eq_false h)).symm); done))
    | (refine ⟨rfl, ?_⟩; conv => whnf)
    | fail
    )

theorem c45 (x : Rec) (hx : x.act < 9223372036854775808) (hl : x.path.length < 1000000) : Fn 45 [x.enc] (.tup [i (szOr x), i (szErr x)]) := by
  refine run_walkF eok Tryz.func45 rfl (by kernel_rfl) ?_
  conv => whnf
  repeat' (first
    | ((with_reducible refine on_dec_f ?_ ?_); (focus ((try simp only [List.length_map, List.length_cons, List.length_nil, List.length_append]); omega)); conv => whnf)
    | ((with_reducible refine on_dec_t ?_ ?_); (focus ((try simp only [List.length_map, List.length_cons, List.length_nil, List.length_append]); omega)); conv => whnf)
    | ((with_reducible refine on_dec (fun h => ?_) (fun h => ?_)) <;> (try simp only [List.length_map] at h) <;> conv => whnf)
    | ((with_reducible refine on_ndec (fun h => ?_) (fun h => ?_)) <;> (try simp only [List.length_map] at h) <;> conv => whnf)
    | ((with_reducible refine on_not (fun h => ?_) (fun h => ?_)) <;> conv => whnf)
    | ((with_reducible refine onBool_split (fun h => ?_) (fun h => ?_)) <;> conv => whnf)
    | ((with_reducible refine call_go ?_); (first | refine call_step (run_view (c59 x.act 63 hx (by decide)) rfl rfl) ?_ | refine call_step (run_view (c55 _ _) rfl rfl) ?_ | refine call_step (run_view (c54 [_, _] (by simp)) rfl rfl) ?_ | refine call_step (run_view (c54 [_, _, _] (by simp)) rfl rfl) ?_ | refine call_step (run_view (c54 [_, _, _, _] (by simp)) rfl rfl) ?_ | refine call_step (run_view (c84 x hl) rfl rfl) ?_); conv => whnf)
    | (refine ⟨[], [(5, 2), (10, 2), (5, 3), (10, 3), (10, 8)], (by decide +kernel), ?_⟩; conv => whnf)
    | (refine ⟨⟨(by first | rfl | (simp; done)), cap_ok (by simp only [List.length_map, List.length_cons, List.length_nil, List.length_append]; omega) rfl⟩, ?_⟩; conv => whnf)
    | (refine ⟨mem_one ⟨rfl, rfl⟩, ?_⟩; conv => whnf)
    | (refine ⟨(by intro y hy; obtain ⟨x, _, rfl⟩ := List.mem_map.1 hy; first | rfl | exact ⟨rfl, rfl⟩), ?_⟩; conv => whnf)
    | (refine ⟨cap_ok (by first | omega | (simp only [List.length_map]; omega)) rfl, ?_⟩; conv => whnf)
    | (refine ix_map (by omega) ?_; conv => whnf)
    | (refine ix_str (by omega) ?_; conv => whnf)
    | (refine wrap64 (by omega) ?_; conv => whnf)
    | (exfalso; simp only [List.length_map, List.length_cons, List.length_nil, List.length_append] at h; omega)
    | ((with_reducible refine endx_go ?_); first | (refine endx2 ?_; unfold szOr; rw [← szErr_eq] at h; rw [if_neg h, ← szErr_eq]; done) | (refine endx2 ?_; unfold szOr; rw [← szErr_eq] at h; rw [if_pos h, h]; done))
    | (refine ⟨rfl, ?_⟩; conv => whnf)
    | fail
    )

attribute [local irreducible] szErr
theorem c50 (l : List Rec) (hl : l.length < 1000000) : Fn 50 [.fs (l.map Rec.enc)] (i (encErr l)) := by
  refine run_walkF eok Tryz.func50 rfl (by kernel_rfl) ?_
  conv => whnf
  repeat' (first
    | ((with_reducible refine on_dec_f ?_ ?_); (focus ((try simp only [List.length_map, List.length_cons, List.length_nil, List.length_append]); omega)); conv => whnf)
    | ((with_reducible refine on_dec_t ?_ ?_); (focus ((try simp only [List.length_map, List.length_cons, List.length_nil, List.length_append]); omega)); conv => whnf)
    | ((with_reducible refine on_dec (fun h => ?_) (fun h => ?_)) <;> (try simp only [List.length_map] at h) <;> conv => whnf)
    | ((with_reducible refine on_ndec (fun h => ?_) (fun h => ?_)) <;> (try simp only [List.length_map] at h) <;> conv => whnf)
    | ((with_reducible refine on_not (fun h => ?_) (fun h => ?_)) <;> conv => whnf)
    | ((with_reducible refine onBool_split (fun h => ?_) (fun h => ?_)) <;> conv => whnf)
    | ((with_reducible refine call_go ?_); (first | refine call_step (run_view (c46 _) rfl rfl) ?_); conv => whnf)
    | ((with_reducible refine loop_go ?_); first | (refine loop1 (fun (k : Nat) => l.length - k) (fun (k : Nat) => k ≤ l.length ∧ encErr l = encErr (l.drop k)) (fun (k : Nat) => [(0, .d (.fs (l.map Rec.enc))), (3, .d (i k))]) (fun (k : Nat) => []) (0) (by first | (simp; done) | (constructor <;> simp; done) | omega) ?_ (fun k C hI hC => ?_); (exact ⟨[], rfl, rfl, ⟨(by first | (show (_ : D) = _; with_reducible rfl) | exact rfl), (by first | (show (_ : D) = _; with_reducible rfl) | exact congrArg (D.int .i64) (by omega) | exact congrArg (D.int .i64) (by simp only [List.length_map]) | exact rfl), trivial⟩, trivial⟩); all_goals (conv => whnf)))
    | ((with_reducible show C _ _); first | (refine hC (k + 1) _ _ ?_ (by omega) ?_; clear hC; rotate_left; (exact ⟨[], rfl, rfl, ⟨(by first | (show (_ : D) = _; with_reducible rfl) | exact rfl), (by first | (show (_ : D) = _; with_reducible rfl) | exact congrArg (D.int .i64) (by omega) | exact congrArg (D.int .i64) (by simp only [List.length_map]) | exact rfl), trivial⟩, trivial⟩); (exact ⟨by omega, by rw [hI.2, encErr_drop (by omega), if_pos h]⟩)))
    | (refine ⟨⟨(by first | rfl | (simp; done)), cap_ok (by simp only [List.length_map, List.length_cons, List.length_nil, List.length_append]; omega) rfl⟩, ?_⟩; conv => whnf)
    | (refine ⟨mem_one ⟨rfl, rfl⟩, ?_⟩; conv => whnf)
    | (refine ⟨(by intro y hy; obtain ⟨x, _, rfl⟩ := List.mem_map.1 hy; first | rfl | exact ⟨rfl, rfl⟩), ?_⟩; conv => whnf)
    | (refine ⟨cap_ok (by first | omega | (simp only [List.length_map]; omega)) rfl, ?_⟩; conv => whnf)
    | (refine ix_map (by omega) ?_; conv => whnf)
    | (refine ix_str (by omega) ?_; conv => whnf)
    | (refine wrap64 (by omega) ?_; conv => whnf)
    | (refine wrap64 (by omega) ?_; conv => whnf)
    | (exfalso; simp only [List.length_map, List.length_cons, List.length_nil, List.length_append] at h; omega)
    | ((with_reducible refine endx_go ?_); first | (exact endx (congrArg i (by rw [hI.2, encErr_drop (by omega), if_neg (by assumption)])); done) | (exact endx (congrArg i (by rw [hI.2, encErr_end (by omega)])); done))
    | (refine ⟨rfl, ?_⟩; conv => whnf)
    | fail
    )

theorem c89 (n0 c : Nat) (hn : n0 < 9223372036854775808) (hc : c < 1000) : Fn 89 [i n0, i c] (.str (leB n0 c)) := by
  refine run_walkF eok Tryz.func89 rfl (by kernel_rfl) ?_
  conv => whnf
  repeat' (first
    | ((with_reducible refine on_dec_f ?_ ?_); (focus ((try simp only [List.length_map, List.length_cons, List.length_nil, List.length_append]); omega)); conv => whnf)
    | ((with_reducible refine on_dec_t ?_ ?_); (focus ((try simp only [List.length_map, List.length_cons, List.length_nil, List.length_append]); omega)); conv => whnf)
    | ((with_reducible refine on_dec (fun h => ?_) (fun h => ?_)) <;> (try simp only [List.length_map] at h) <;> conv => whnf)
    | ((with_reducible refine on_ndec (fun h => ?_) (fun h => ?_)) <;> (try simp only [List.length_map] at h) <;> conv => whnf)
    | ((with_reducible refine on_not (fun h => ?_) (fun h => ?_)) <;> conv => whnf)
    | ((with_reducible refine onBool_split (fun h => ?_) (fun h => ?_)) <;> conv => whnf)
    | ((with_reducible refine loop_go ?_); first | (refine loop3 (fun (k : Nat) (n : Nat) (acc : List UInt8) => c - k) (fun (k : Nat) (n : Nat) (acc : List UInt8) => k ≤ c ∧ acc.length = k ∧ n < 9223372036854775808 ∧ acc ++ leB n (c - k) = leB n0 c) (fun (k : Nat) (n : Nat) (acc : List UInt8) => [(0, .d (i n)), (1, .d (i c)), (5, .sl 0 0 acc.length 1 none), (6, .d (i k))]) (fun (k : Nat) (n : Nat) (acc : List UInt8) => [⟨acc.map byteV, 1, 0⟩]) (0) (n0) ([]) (by exact ⟨Nat.zero_le _, rfl, hn, rfl⟩) ?_ (fun k n acc C hI hC => ?_); (exact ⟨[.void 1], rfl, rfl, ⟨rfl, rfl, ⟨rfl, rfl, rfl, rfl⟩, rfl, trivial⟩, ⟨⟨rfl, rfl, (by decide), rfl⟩, trivial⟩⟩); all_goals (conv => whnf)))
    | ((with_reducible show C _ _); first | (refine hC (k + 1) (n / 256) (acc ++ [UInt8.ofNat (n % 256)]) _ _ ?_ (by omega) ?_; clear hC; rotate_left; (exact ⟨[.old 2], rfl, rfl, ⟨(by first | (show (_ : D) = _; with_reducible rfl) | exact congrArg (D.int .i64) (by omega) | exact congrArg (D.int .i64) (by simp only [List.length_map]) | exact rfl), (by first | (show (_ : D) = _; with_reducible rfl) | exact congrArg (D.int .i64) (by omega) | exact congrArg (D.int .i64) (by simp only [List.length_map]) | exact rfl), ⟨rfl, rfl, (by first | rfl | (simp only [List.length_append]; rfl)), rfl, rfl⟩, (by first | (show (_ : D) = _; with_reducible rfl) | exact congrArg (D.int .i64) (by omega) | exact congrArg (D.int .i64) (by simp only [List.length_map]) | exact rfl), trivial⟩, ⟨wkO_bytes (acc ++ [UInt8.ofNat (n % 256)]) rfl rfl rfl (by simp only [List.map_append, List.map_cons, List.map_nil, byteV_ofNat (Nat.mod_lt _ (by decide : 0 < 256))]; rfl) rfl, trivial⟩⟩); (exact ⟨by omega, by simp; omega, by omega, by rw [List.append_assoc, ← hI.2.2.2]; congr 1; rw [show c - k = (c - (k + 1)) + 1 by omega]; rfl⟩)))
    | (refine ⟨⟨(by first | rfl | (simp; done)), cap_ok (by simp only [List.length_map, List.length_cons, List.length_nil, List.length_append]; omega) rfl⟩, ?_⟩; conv => whnf)
    | (refine ⟨mem_one ⟨rfl, rfl⟩, ?_⟩; conv => whnf)
    | (refine ⟨(by intro y hy; obtain ⟨x, _, rfl⟩ := List.mem_map.1 hy; first | rfl | exact ⟨rfl, rfl⟩), ?_⟩; conv => whnf)
    | (refine ⟨cap_ok (by first | omega | (simp only [List.length_map]; omega)) rfl, ?_⟩; conv => whnf)
    | (refine ix_map (by omega) ?_; conv => whnf)
    | (refine ix_str (by omega) ?_; conv => whnf)
    | (refine wrap64 (by omega) ?_; conv => whnf)
    | (refine rem_256 ?_; conv => whnf)
    | (refine div_256 hI.2.2.1 ?_; conv => whnf)
    | (refine wrapU8 (by omega) ?_; conv => whnf)
    | (refine ⟨Nat.le_refl _, ?_⟩; conv => whnf)
    | (refine ⟨⟨(by simp only [List.length_map]; omega), cap_ok (by simp only [List.length_cons, List.length_nil]; omega) rfl⟩, ?_⟩; conv => whnf)
    | (refine ⟨acc, ⟨(by simp), (by rw [List.drop_zero]; exact List.take_of_length_le (by simp))⟩, ?_⟩; conv => whnf)
    | (exfalso; simp only [List.length_map, List.length_cons, List.length_nil, List.length_append] at h; omega)
    | ((with_reducible refine endx_go ?_); first | (exact endx (congrArg D.str (by rw [← hI.2.2.2, show c - k = 0 by omega]; simp [leB])); done))
    | (refine ⟨rfl, ?_⟩; conv => whnf)
    | fail
    )

theorem c91 (n : Nat) (hn : n ≤ 200000) : Fn 91 [i n] (.str (List.replicate n 0)) := by
  have hG : goMax 0 (goMin (n : Int) 200000) = n := (by unfold goMax goMin; split <;> (try split) <;> omega)
  refine run_walkF eok Tryz.func91 rfl (by kernel_rfl) ?_
  conv => whnf
  repeat' (first
    | ((with_reducible refine on_dec_f ?_ ?_); (focus ((try simp only [List.length_map, List.length_cons, List.length_nil, List.length_append]); omega)); conv => whnf)
    | ((with_reducible refine on_dec_t ?_ ?_); (focus ((try simp only [List.length_map, List.length_cons, List.length_nil, List.length_append]); omega)); conv => whnf)
    | ((with_reducible refine on_dec (fun h => ?_) (fun h => ?_)) <;> (try simp only [List.length_map] at h) <;> conv => whnf)
    | ((with_reducible refine on_ndec (fun h => ?_) (fun h => ?_)) <;> (try simp only [List.length_map] at h) <;> conv => whnf)
    | ((with_reducible refine on_not (fun h => ?_) (fun h => ?_)) <;> conv => whnf)
    | ((with_reducible refine onBool_split (fun h => ?_) (fun h => ?_)) <;> conv => whnf)
    | (refine ⟨⟨(by first | rfl | (simp; done)), cap_ok (by simp only [List.length_map, List.length_cons, List.length_nil, List.length_append]; omega) rfl⟩, ?_⟩; conv => whnf)
    | (refine ⟨mem_one ⟨rfl, rfl⟩, ?_⟩; conv => whnf)
    | (refine ⟨(by intro y hy; obtain ⟨x, _, rfl⟩ := List.mem_map.1 hy; first | rfl | exact ⟨rfl, rfl⟩), ?_⟩; conv => whnf)
    | (refine ⟨cap_ok (by first | omega | (simp only [List.length_map]; omega)) rfl, ?_⟩; conv => whnf)
    | (refine ix_map (by omega) ?_; conv => whnf)
    | (refine ix_str (by omega) ?_; conv => whnf)
    | (refine wrap64 (by omega) ?_; conv => whnf)
    | (rw [hG]; refine ⟨⟨(capI (b := 1) (by omega) rfl).1, Int.le_refl _, (capI (b := 1) (by omega) rfl).2.1, (capI (by omega) rfl).2.2⟩, ?_⟩; conv => whnf)
    | (refine ⟨List.replicate n 0, ⟨(by simp), (by rw [List.drop_zero, List.take_of_length_le (by simp), List.map_replicate]; rfl)⟩, ?_⟩; conv => whnf)
    | (exfalso; simp only [List.length_map, List.length_cons, List.length_nil, List.length_append] at h; omega)
    | ((with_reducible refine endx_go ?_); first | (exact endx rfl; done))
    | (refine ⟨rfl, ?_⟩; conv => whnf)
    | fail
    )

theorem allz_take {s : Bs} {k : Nat} (h : (s.take k).all (· == 0) = true) (hk : k < s.length) (e : s[k] = 0) : (s.take (k + 1)).all (· == 0) = true := by
  rw [List.take_succ_eq_append_getElem hk, List.all_append, h, e]; rfl
theorem allz_no {s : Bs} {k : Nat} (hk : k < s.length) (e : ¬ s[k] = 0) : s.all (· == 0) = false := by
  rw [List.all_eq_false]; exact ⟨_, List.getElem_mem hk, by simpa using e⟩
theorem u8_0 {c : UInt8} (h : (c.toNat : Int) = 0) : c = 0 := by
  have : c.toNat = 0 := by omega
  exact UInt8.toNat.inj this
theorem u8_n0 {c : UInt8} (h : ¬ (c.toNat : Int) = 0) : ¬ c = 0 := by rintro rfl; exact h rfl

theorem c87 (s : Bs) (hs : s.length < 1000000) : Fn 87 [.str s] (.bool (s.all (· == 0))) := by
  refine run_walkF eok Tryz.func87 rfl (by kernel_rfl) ?_
  conv => whnf
  repeat' (first
    | ((with_reducible refine on_dec_f ?_ ?_); (focus ((try simp only [List.length_map, List.length_cons, List.length_nil, List.length_append]); omega)); conv => whnf)
    | ((with_reducible refine on_dec_t ?_ ?_); (focus ((try simp only [List.length_map, List.length_cons, List.length_nil, List.length_append]); omega)); conv => whnf)
    | ((with_reducible refine on_dec (fun h => ?_) (fun h => ?_)) <;> (try simp only [List.length_map] at h) <;> conv => whnf)
    | ((with_reducible refine on_ndec (fun h => ?_) (fun h => ?_)) <;> (try simp only [List.length_map] at h) <;> conv => whnf)
    | ((with_reducible refine on_not (fun h => ?_) (fun h => ?_)) <;> conv => whnf)
    | ((with_reducible refine onBool_split (fun h => ?_) (fun h => ?_)) <;> conv => whnf)
    | ((with_reducible refine loop_go ?_); first | (refine loop1 (fun (k : Nat) => s.length - k) (fun (k : Nat) => k ≤ s.length ∧ (s.take k).all (· == 0) = true) (fun (k : Nat) => [(0, .d (.str s)), (3, .d (i k))]) (fun (k : Nat) => []) (0) (by first | (simp; done) | (constructor <;> simp; done) | omega) ?_ (fun k C hI hC => ?_); (exact ⟨[], rfl, rfl, ⟨(by first | (show (_ : D) = _; with_reducible rfl) | exact rfl), (by first | (show (_ : D) = _; with_reducible rfl) | exact congrArg (D.int .i64) (by omega) | exact congrArg (D.int .i64) (by simp only [List.length_map]) | exact rfl), trivial⟩, trivial⟩); all_goals (conv => whnf)))
    | ((with_reducible show C _ _); first | (refine hC (k + 1) _ _ ?_ (by omega) ?_; clear hC; rotate_left; (exact ⟨[], rfl, rfl, ⟨(by first | (show (_ : D) = _; with_reducible rfl) | exact rfl), (by first | (show (_ : D) = _; with_reducible rfl) | exact congrArg (D.int .i64) (by omega) | exact congrArg (D.int .i64) (by simp only [List.length_map]) | exact rfl), trivial⟩, trivial⟩); (exact ⟨by omega, allz_take hI.2 (by omega) (u8_0 h)⟩)))
    | (refine ⟨⟨(by first | rfl | (simp; done)), cap_ok (by simp only [List.length_map, List.length_cons, List.length_nil, List.length_append]; omega) rfl⟩, ?_⟩; conv => whnf)
    | (refine ⟨mem_one ⟨rfl, rfl⟩, ?_⟩; conv => whnf)
    | (refine ⟨(by intro y hy; obtain ⟨x, _, rfl⟩ := List.mem_map.1 hy; first | rfl | exact ⟨rfl, rfl⟩), ?_⟩; conv => whnf)
    | (refine ⟨cap_ok (by first | omega | (simp only [List.length_map]; omega)) rfl, ?_⟩; conv => whnf)
    | (refine ix_map (by omega) ?_; conv => whnf)
    | (refine ix_str (by omega) ?_; conv => whnf)
    | (refine wrap64 (by omega) ?_; conv => whnf)
    | (refine wrap64 (by omega) ?_; conv => whnf)
    | (exfalso; simp only [List.length_map, List.length_cons, List.length_nil, List.length_append] at h; omega)
    | ((with_reducible refine endx_go ?_); first | (exact endx (congrArg D.bool (allz_no (k := k) (by omega) (u8_n0 (by assumption))).symm); done) | (exact endx (congrArg D.bool (by have h9 := hI.2; rw [List.take_of_length_le (by omega)] at h9; exact h9.symm)); done))
    | (refine ⟨rfl, ?_⟩; conv => whnf)
    | fail
    )

theorem sameR_take {a b : List Rec} {k : Nat} (h : a.take k = b.take k) (ha : k < a.length) (hb : k < b.length) (e : a[k] = b[k]) : a.take (k + 1) = b.take (k + 1) := by
  rw [List.take_succ_eq_append_getElem ha, List.take_succ_eq_append_getElem hb, h, e]
theorem sameR_no {a b : List Rec} {k : Nat} (ha : k < a.length) (hb : k < b.length) (e : ¬ a[k] = b[k]) : ¬ a = b := by rintro rfl; exact e rfl

theorem c29 (a b : List Rec) (ha : a.length < 1000000) (hb : b.length < 1000000) : Fn 29 [.fs (a.map Rec.enc), .fs (b.map Rec.enc)] (.bool (decide (a = b))) := by
  refine run_walkF eok Tryz.func29 rfl (by kernel_rfl) ?_
  conv => whnf
  repeat' (first
    | ((with_reducible refine on_dec_f ?_ ?_); (focus ((try simp only [List.length_map, List.length_cons, List.length_nil, List.length_append]); omega)); conv => whnf)
    | ((with_reducible refine on_dec_t ?_ ?_); (focus ((try simp only [List.length_map, List.length_cons, List.length_nil, List.length_append]); omega)); conv => whnf)
    | ((with_reducible refine on_dec (fun h => ?_) (fun h => ?_)) <;> (try simp only [List.length_map] at h) <;> conv => whnf)
    | ((with_reducible refine on_ndec (fun h => ?_) (fun h => ?_)) <;> (try simp only [List.length_map] at h) <;> conv => whnf)
    | ((with_reducible refine on_not (fun h => ?_) (fun h => ?_)) <;> conv => whnf)
    | ((with_reducible refine onBool_split (fun h => ?_) (fun h => ?_)) <;> conv => whnf)
    | (refine ⟨[], [], (by decide +kernel), ?_⟩; conv => whnf)
    | ((with_reducible refine loop_go ?_); first | (refine loop1 (fun (k : Nat) => a.length - k) (fun (k : Nat) => k ≤ a.length ∧ a.take k = b.take k) (fun (k : Nat) => [(0, .d (.fs (a.map Rec.enc))), (1, .d (.fs (b.map Rec.enc))), (5, .d (i k))]) (fun (k : Nat) => []) (0) (by first | (simp; done) | (constructor <;> simp; done) | omega) ?_ (fun k C hI hC => ?_); (exact ⟨[], rfl, rfl, ⟨(by first | (show (_ : D) = _; with_reducible rfl) | exact rfl), (by first | (show (_ : D) = _; with_reducible rfl) | exact rfl), (by first | (show (_ : D) = _; with_reducible rfl) | exact congrArg (D.int .i64) (by omega) | exact congrArg (D.int .i64) (by simp only [List.length_map]) | exact rfl), trivial⟩, trivial⟩); all_goals (conv => whnf)))
    | ((with_reducible show C _ _); first | (refine hC (k + 1) _ _ ?_ (by omega) ?_; clear hC; rotate_left; (exact ⟨[], rfl, rfl, ⟨(by first | (show (_ : D) = _; with_reducible rfl) | exact rfl), (by first | (show (_ : D) = _; with_reducible rfl) | exact rfl), (by first | (show (_ : D) = _; with_reducible rfl) | exact congrArg (D.int .i64) (by omega) | exact congrArg (D.int .i64) (by simp only [List.length_map]) | exact rfl), trivial⟩, trivial⟩); (exact ⟨by omega, sameR_take hI.2 (by omega) (by omega) (of_decide_eq_true ((cellsRec _ _).symm.trans h))⟩)))
    | (refine ⟨⟨(by first | rfl | (simp; done)), cap_ok (by simp only [List.length_map, List.length_cons, List.length_nil, List.length_append]; omega) rfl⟩, ?_⟩; conv => whnf)
    | (refine ⟨mem_one ⟨rfl, rfl⟩, ?_⟩; conv => whnf)
    | (refine ⟨(by intro y hy; obtain ⟨x, _, rfl⟩ := List.mem_map.1 hy; first | rfl | exact ⟨rfl, rfl⟩), ?_⟩; conv => whnf)
    | (refine ⟨cap_ok (by first | omega | (simp only [List.length_map]; omega)) rfl, ?_⟩; conv => whnf)
    | (refine ix_map (by omega) ?_; conv => whnf)
    | (refine ix_str (by omega) ?_; conv => whnf)
    | (refine wrap64 (by omega) ?_; conv => whnf)
    | (refine ix_map (l := a) (f := Rec.enc) (by omega) ?_; conv => whnf)
    | (refine ix_map (l := b) (f := Rec.enc) (by omega) ?_; conv => whnf)
    | (refine wrap64 (by omega) ?_; conv => whnf)
    | (exfalso; simp only [List.length_map, List.length_cons, List.length_nil, List.length_append] at h; omega)
    | ((with_reducible refine endx_go ?_); first | (exact endx (congrArg D.bool (by symm; rw [decide_eq_false_iff_not]; rintro rfl; omega)); done) | (exact endx (congrArg D.bool (by symm; exact decide_eq_false (sameR_no (k := k) (by omega) (by omega) (of_decide_eq_false ((cellsRec _ _).symm.trans h))))); done) | (exact endx (congrArg D.bool (by have h9 := hI.2; rw [List.take_of_length_le (by omega), List.take_of_length_le (by omega)] at h9; symm; exact decide_eq_true h9)); done))
    | (refine ⟨rfl, ?_⟩; conv => whnf)
    | fail
    )

end Go.Proofs.YtbkmjpmgiaiacaaGreatDoor

/-! Pg -/
namespace Go.Proofs.YtbkmjpmgiaiacaaGreatDoor
open Go Dw Paths
theorem dropWhile_nil_all {c : UInt8} : ∀ {l : Bs}, l.dropWhile (· == c) = [] ↔ l.all (· == c) = true
  | [] => by simp
  | x :: l => by
    have ih := dropWhile_nil_all (c := c) (l := l)
    by_cases h : x == c
    · rw [List.dropWhile_cons, if_pos h, ih, List.all_cons, h]; simp
    · rw [List.dropWhile_cons, if_neg h, List.all_cons]
      simp only [Bool.not_eq_true] at h
      rw [h]; simp
theorem trim_nil (l : Bs) (c : UInt8) : Lib.trimB l c = [] ↔ l.all (· == c) = true := by
  unfold Lib.trimB Lib.trimLeftB Lib.trimRightB
  rw [dropWhile_nil_all, List.all_reverse]
  constructor
  · intro h
    have h2 : l.reverse.dropWhile (· == c) = [] := by
      cases hd : l.reverse.dropWhile (· == c) with
      | nil => rfl
      | cons x r =>
        rw [hd] at h
        have hx : (x == c) = true := (List.all_eq_true.1 h) x (by simp)
        have := List.head_dropWhile_not (· == c) (w := by rw [hd]; simp) (l := l.reverse)
        simp only [hd, List.head_cons] at this
        rw [hx] at this; cases this
    rw [dropWhile_nil_all, List.all_reverse] at h2
    exact h2
  · intro h
    have : l.reverse.dropWhile (· == c) = [] := by rw [dropWhile_nil_all, List.all_reverse]; exact h
    rw [this]; rfl
def nSz (n : Nat) : Nat := (n + 5) / 4 * 4
def b0 (s : Bs) : Nat := ((s[0]?).getD 0).toNat
def b1 (s : Bs) : Nat := ((s[1]?).getD 0).toNat
theorem b0_at {s : Bs} (h : 0 < s.length) : b0 s = s[0].toNat := by unfold b0; rw [List.getElem?_eq_getElem h]; rfl
theorem b1_at {s : Bs} (h : 1 < s.length) : b1 s = s[1].toNat := by unfold b1; rw [List.getElem?_eq_getElem h]; rfl
theorem b0_lt (s : Bs) : b0 s < 256 := UInt8.toNat_lt _
theorem b1_lt (s : Bs) : b1 s < 256 := UInt8.toNat_lt _
def tailZ (s : Bs) : Bool := ((s.take (nSz (b1 s))).drop (2 + b1 s)).all (· == 0)
def hdErr (s : Bs) : Int := if s.length < 2 then 37 else if 6 ≤ b0 s ∨ b1 s = 0 ∨ 200 < b1 s then 3 else if s.length < nSz (b1 s) then 37 else if tailZ s = true then 0 else 3
def hdRec (s : Bs) : Rec := ⟨((2 ^ b0 s : Nat) : Int), (s.take (2 + b1 s)).drop 2⟩
def decF : Nat → Bs → List Rec → List Rec × Int
  | 0, _, out => (out, 0)
  | f + 1, s, out => if s = [] then (out, 0) else if hdErr s = 0 then decF f (s.drop (nSz (b1 s))) (out ++ [hdRec s]) else ([], hdErr s)
def decode (s : Bs) : List Rec × Int := decF s.length s []
def recB (x : Rec) : Bs := UInt8.ofNat (bitI x.act).toNat :: UInt8.ofNat x.path.length :: (x.path ++ List.replicate (nSz x.path.length - (2 + x.path.length)) 0)
theorem nSz_ge (n : Nat) : 2 + n ≤ nSz n ∧ nSz n ≤ n + 5 := by unfold nSz; omega
theorem recB_length (x : Rec) : (recB x).length = nSz x.path.length := by
  have := nSz_ge x.path.length
  unfold recB
  simp only [List.length_cons, List.length_append, List.length_replicate]; omega
theorem bit_pow {n : Int} (h : isAct n = true) : bitI n < 6 ∧ 0 ≤ bitI n ∧ ((2 ^ (bitI n).toNat : Nat) : Int) = n := by
  rcases isAct_iff.1 h with rfl | rfl | rfl | rfl | rfl | rfl <;> decide
theorem pow_act {k : Nat} (h : k < 6) : isAct ((2 ^ k : Nat) : Int) = true ∧ bitI ((2 ^ k : Nat) : Int) = k := by
  have : k = 0 ∨ k = 1 ∨ k = 2 ∨ k = 3 ∨ k = 4 ∨ k = 5 := by omega
  rcases this with rfl | rfl | rfl | rfl | rfl | rfl <;> decide
theorem enc_hd {x : Rec} (h : szErr x = 0) (u : Bs) : b0 (recB x ++ u) = (bitI x.act).toNat ∧ b1 (recB x ++ u) = x.path.length := by
  obtain ⟨h1, h2, _⟩ := szErr_ok h
  obtain ⟨g1, g2, _⟩ := bit_pow h1
  constructor
  · show (UInt8.ofNat (bitI x.act).toNat).toNat = _
    simp [UInt8.toNat_ofNat']; omega
  · show (UInt8.ofNat x.path.length).toNat = _
    simp [UInt8.toNat_ofNat']; omega
theorem enc_dec1 {x : Rec} (h : szErr x = 0) (u : Bs) : hdErr (recB x ++ u) = 0 ∧ hdRec (recB x ++ u) = x ∧ (recB x ++ u).drop (nSz (b1 (recB x ++ u))) = u := by
  obtain ⟨e0, e1⟩ := enc_hd h u
  obtain ⟨h1, h2, h3⟩ := szErr_ok h
  obtain ⟨g1, g2, g3⟩ := bit_pow h1
  have hp : 0 < x.path.length := List.length_pos_iff.2 h3
  have hn := nSz_ge x.path.length
  have hl := recB_length x
  refine ⟨?_, ?_, ?_⟩
  · unfold hdErr
    rw [e0, e1, List.length_append, hl, if_neg (by omega), if_neg (by omega), if_neg (by omega)]
    rw [if_pos]
    unfold tailZ
    rw [e1, List.take_append_of_le_length (by omega), List.take_of_length_le (by omega)]
    unfold recB
    rw [show 2 + x.path.length = x.path.length + 1 + 1 by omega, List.drop_succ_cons, List.drop_succ_cons, List.drop_left]
    simp
  · unfold hdRec
    rw [e0, e1, g3, List.take_append_of_le_length (by omega)]
    unfold recB
    rw [show 2 + x.path.length = x.path.length + 1 + 1 by omega, List.take_succ_cons, List.take_succ_cons, List.drop_succ_cons, List.drop_succ_cons, List.drop_zero, List.take_left]
  · rw [e1, ← hl, List.drop_left]
theorem hdErr_ok {s : Bs} (h : hdErr s = 0) : 2 ≤ s.length ∧ b0 s < 6 ∧ 0 < b1 s ∧ b1 s ≤ 200 ∧ nSz (b1 s) ≤ s.length ∧ tailZ s = true := by
  unfold hdErr at h
  split at h
  · cases h
  · split at h
    · cases h
    · split at h
      · cases h
      · split at h
        · exact ⟨by omega, by omega, by omega, by omega, by omega, by assumption⟩
        · cases h
theorem rep_of_all {c : UInt8} : ∀ {l : Bs}, l.all (· == c) = true → l = List.replicate l.length c
  | [], _ => rfl
  | x :: l, h => by
    simp only [List.all_cons, Bool.and_eq_true, beq_iff_eq] at h
    rw [List.length_cons, List.replicate_succ, ← rep_of_all h.2, h.1]
theorem dec_enc1 {s : Bs} (h : hdErr s = 0) : szErr (hdRec s) = 0 ∧ recB (hdRec s) = s.take (nSz (b1 s)) := by
  obtain ⟨h1, h2, h3, h4, h5, h6⟩ := hdErr_ok h
  have hn := nSz_ge (b1 s)
  obtain ⟨p1, p2⟩ := pow_act h2
  have hpl : (hdRec s).path.length = b1 s := by
    unfold hdRec
    simp only [List.length_drop, List.length_take]; omega
  have hact : (hdRec s).act = ((2 ^ b0 s : Nat) : Int) := rfl
  refine ⟨?_, ?_⟩
  · unfold szErr
    rw [hact, p1, if_pos rfl, hpl, if_neg (by omega), if_neg]
    intro e; rw [e] at hpl; simp at hpl; omega
  · unfold recB
    rw [hact, p2, hpl, Int.toNat_natCast]
    have hz := rep_of_all h6
    match s, h1 with
    | a :: b :: r, _ =>
      have ea : b0 (a :: b :: r) = a.toNat := rfl
      have eb : b1 (a :: b :: r) = b.toNat := rfl
      have hpath : (hdRec (a :: b :: r)).path = r.take (b1 (a :: b :: r)) := by
        unfold hdRec
        simp only
        rw [show 2 + b1 (a :: b :: r) = b1 (a :: b :: r) + 1 + 1 by omega, List.take_succ_cons, List.take_succ_cons]; rfl
      have hu : ∀ c : UInt8, UInt8.ofNat c.toNat = c := fun c => by simp
      rw [ea, eb, hu, hu, hpath]
      rw [show nSz b.toNat = (nSz b.toNat - 2) + 1 + 1 by rw [eb] at hn; omega, List.take_succ_cons, List.take_succ_cons]
      congr 2
      rw [← eb]
      have hz2 : ((r.take (nSz (b1 (a :: b :: r)) - 2)).drop (b1 (a :: b :: r))) = List.replicate (nSz (b1 (a :: b :: r)) - (2 + b1 (a :: b :: r))) 0 := by
        have e1 : ((a :: b :: r).take (nSz (b1 (a :: b :: r)))).drop (2 + b1 (a :: b :: r)) = (r.take (nSz (b1 (a :: b :: r)) - 2)).drop (b1 (a :: b :: r)) := by
          rw [show nSz (b1 (a :: b :: r)) = (nSz (b1 (a :: b :: r)) - 2) + 1 + 1 by omega, List.take_succ_cons, List.take_succ_cons, show 2 + b1 (a :: b :: r) = b1 (a :: b :: r) + 1 + 1 by omega, List.drop_succ_cons, List.drop_succ_cons]
          rfl
        rw [e1] at hz
        rw [hz]
        congr 1
        simp only [List.length_drop, List.length_take]
        simp only [List.length_cons] at h5
        omega
      rw [show nSz (b1 (a :: b :: r)) - 2 + 1 + 1 - (2 + b1 (a :: b :: r)) = nSz (b1 (a :: b :: r)) - (2 + b1 (a :: b :: r)) by omega, ← hz2]
      have := List.take_append_drop (b1 (a :: b :: r)) (r.take (nSz (b1 (a :: b :: r)) - 2))
      rw [List.take_take, Nat.min_eq_left (by omega)] at this
      exact this
theorem decF_ok : ∀ (f : Nat) (s : Bs) (out : List Rec), s.length ≤ f → (decF f s out).2 = 0 → ∃ l, (decF f s out).1 = out ++ l ∧ l.flatMap recB = s ∧ encErr l = 0
  | 0, s, out, h, _ => ⟨[], by simp [decF], by simp [List.eq_nil_of_length_eq_zero (Nat.le_zero.1 h)], rfl⟩
  | f + 1, s, out, h, h2 => by
    unfold decF at h2 ⊢
    by_cases e : s = []
    · rw [if_pos e]; exact ⟨[], by simp, by simp [e], rfl⟩
    · rw [if_neg e] at h2 ⊢
      by_cases e2 : hdErr s = 0
      · rw [if_pos e2] at h2 ⊢
        have hn := nSz_ge (b1 s)
        have hd := hdErr_ok e2
        obtain ⟨l, l1, l2, l3⟩ := decF_ok f (s.drop (nSz (b1 s))) (out ++ [hdRec s]) (by rw [List.length_drop]; omega) h2
        obtain ⟨d1, d2⟩ := dec_enc1 e2
        refine ⟨hdRec s :: l, by rw [l1]; simp, ?_, ?_⟩
        · rw [List.flatMap_cons, d2, l2, List.take_append_drop]
        · unfold encErr; rw [if_pos d1]; exact l3
      · rw [if_neg e2] at h2; exact absurd h2 e2
theorem encErr_mem : ∀ {l : List Rec}, encErr l = 0 → ∀ x ∈ l, szErr x = 0
  | [], _, x, hx => by cases hx
  | y :: l, h, x, hx => by
    unfold encErr at h
    by_cases e : szErr y = 0
    · rw [if_pos e] at h
      rcases List.mem_cons.1 hx with rfl | hx
      · exact e
      · exact encErr_mem h x hx
    · rw [if_neg e] at h; exact absurd h e
theorem encErr_no {l : List Rec} (h : ¬ encErr l = 0) : ∃ x ∈ l, ¬ szErr x = 0 := by
  induction l with
  | nil => exact absurd rfl h
  | cons y l ih =>
    unfold encErr at h
    by_cases e : szErr y = 0
    · rw [if_pos e] at h
      obtain ⟨x, hx, h2⟩ := ih h
      exact ⟨x, by simp [hx], h2⟩
    · exact ⟨y, by simp, e⟩
theorem decF_enc : ∀ (l : List Rec) (f : Nat) (out : List Rec), encErr l = 0 → (l.flatMap recB).length ≤ f → decF f (l.flatMap recB) out = (out ++ l, 0)
  | [], 0, out, _, _ => by simp [decF]
  | [], f + 1, out, _, _ => by simp [decF]
  | x :: l, f, out, h, hf => by
    have hx := encErr_mem h x (by simp)
    have hl : encErr l = 0 := by unfold encErr at h; rw [if_pos hx] at h; exact h
    rw [List.flatMap_cons] at hf ⊢
    have hlen := recB_length x
    have hn := nSz_ge x.path.length
    rw [List.length_append] at hf
    cases f with
    | zero => omega
    | succ f =>
      obtain ⟨d1, d2, d3⟩ := enc_dec1 hx (l.flatMap recB)
      unfold decF
      rw [if_neg (by intro e; have := congrArg List.length e; rw [List.length_append, List.length_nil] at this; omega), if_pos d1, d2, d3, decF_enc l f (out ++ [x]) hl (by omega)]
      simp
theorem decode_ok {s : Bs} (h : (decode s).2 = 0) : (decode s).1.flatMap recB = s ∧ encErr (decode s).1 = 0 := by
  obtain ⟨l, h1, h2, h3⟩ := decF_ok s.length s [] (Nat.le_refl _) h
  rw [List.nil_append] at h1
  unfold decode
  rw [h1]; exact ⟨h2, h3⟩
theorem decode_enc {l : List Rec} (h : encErr l = 0) : decode (l.flatMap recB) = (l, 0) := by
  unfold decode
  rw [decF_enc l _ [] h (Nat.le_refl _)]; rfl
theorem decF_step {f : Nat} {s : Bs} {out : List Rec} (h0 : ¬ s = []) (hf : s.length ≤ f) (h : hdErr s = 0) : decF f s out = decF (f - 1) (s.drop (nSz (b1 s))) (out ++ [hdRec s]) := by
  cases f with
  | zero => exact absurd (List.eq_nil_of_length_eq_zero (Nat.le_zero.1 hf)) h0
  | succ f =>
    show (if s = [] then _ else if hdErr s = 0 then _ else _) = _
    rw [if_neg h0, if_pos h]; rfl
theorem decF_err {f : Nat} {s : Bs} {out : List Rec} (h0 : ¬ s = []) (hf : s.length ≤ f) (h : ¬ hdErr s = 0) : decF f s out = ([], hdErr s) := by
  cases f with
  | zero => exact absurd (List.eq_nil_of_length_eq_zero (Nat.le_zero.1 hf)) h0
  | succ f =>
    show (if s = [] then _ else if hdErr s = 0 then _ else _) = _
    rw [if_neg h0, if_neg h]
theorem decF_nil {f : Nat} {out : List Rec} : decF f [] out = (out, 0) := by
  cases f with
  | zero => rfl
  | succ f => show (if _ then _ else _) = _; rw [if_pos rfl]
theorem ctz_act {n : Int} (h : isAct n = true) : (Lib.ctz 64 n.toNat : Int) = bitI n := by
  rcases isAct_iff.1 h with rfl | rfl | rfl | rfl | rfl | rfl <;> decide
end Go.Proofs.YtbkmjpmgiaiacaaGreatDoor

/-! Wn -/
namespace Go.Proofs.YtbkmjpmgiaiacaaGreatDoor
open Go Dw
set_option maxRecDepth 10000
set_option linter.unusedVariables false
set_option linter.unusedSimpArgs false
attribute [local irreducible] Run
set_option maxHeartbeats 4000000

open Paths
attribute [local irreducible] nameErr isAct hasBit decF tailZ b0 b1 hdErr
theorem ix_b0 {s : Bs} {K : UInt8 → Prop} (h : 0 < s.length) (hk : K s[0]) : 0 ≤ (0 : Int) ∧ nthK s ((0 : Int).toNat) K := ⟨Int.le_refl _, nthK_of (x := s[0]) (by simp [h]) hk⟩
theorem ix_b1 {s : Bs} {K : UInt8 → Prop} (h : 1 < s.length) (hk : K s[1]) : 0 ≤ (1 : Int) ∧ nthK s ((1 : Int).toNat) K := ⟨by decide, nthK_of (x := s[1]) (by simp [h]) hk⟩
theorem wr_b0 {s : Bs} {K : Int → Prop} (h : 0 < s.length) (hk : K (b0 s : Int)) : wrapK .i64 (s[0].toNat : Int) K := by
  rw [b0_at h] at hk
  exact wrap64 (by have := UInt8.toNat_lt s[0]; omega) hk
theorem wr_b1 {s : Bs} {K : Int → Prop} (h : 1 < s.length) (hk : K (b1 s : Int)) : wrapK .i64 (s[1].toNat : Int) K := by
  rw [b1_at h] at hk
  exact wrap64 (by have := UInt8.toNat_lt s[1]; omega) hk
theorem wr_p2 {k : Nat} {K : Int → Prop} (h : k < 7) (hk : K ((2 ^ k : Nat) : Int)) : wrapK .i64 (1 * ((2 ^ k : Nat) : Int)) K := by
  rw [Int.one_mul]
  exact wrap64 (by have := p2_le h; generalize (2 ^ k : Nat) = q at *; omega) hk
theorem he_1 {s : Bs} (h : (s.length : Int) < 2) : hdErr s = 37 := by unfold hdErr; rw [if_pos (by omega)]
theorem he_2 {s : Bs} (h : ¬ (s.length : Int) < 2) (h2 : (6 : Int) ≤ b0 s ∨ (b1 s : Int) = 0 ∨ (200 : Int) < b1 s) : hdErr s = 3 := by unfold hdErr; rw [if_neg (by omega), if_pos (by omega)]
theorem he_3 {s : Bs} (h : ¬ (s.length : Int) < 2) (h2 : ¬ ((6 : Int) ≤ b0 s ∨ (b1 s : Int) = 0 ∨ (200 : Int) < b1 s)) (h3 : (s.length : Int) < nSz (b1 s)) : hdErr s = 37 := by unfold hdErr; rw [if_neg (by omega), if_neg (by omega), if_pos (by omega)]
theorem he_4 {s : Bs} (h : ¬ (s.length : Int) < 2) (h2 : ¬ ((6 : Int) ≤ b0 s ∨ (b1 s : Int) = 0 ∨ (200 : Int) < b1 s)) (h3 : ¬ (s.length : Int) < nSz (b1 s)) (h4 : tailZ s = false) : hdErr s = 3 := by unfold hdErr; rw [if_neg (by omega), if_neg (by omega), if_neg (by omega), if_neg (by rw [h4]; decide)]
theorem he_5 {s : Bs} (h : ¬ (s.length : Int) < 2) (h2 : ¬ ((6 : Int) ≤ b0 s ∨ (b1 s : Int) = 0 ∨ (200 : Int) < b1 s)) (h3 : ¬ (s.length : Int) < nSz (b1 s)) (h4 : tailZ s = true) : hdErr s = 0 := by unfold hdErr; rw [if_neg (by omega), if_neg (by omega), if_neg (by omega), if_pos h4]
theorem dec_e {s u : Bs} {f : Nat} {out : List Rec} (hI : decF s.length s [] = decF f u out) (hf : u.length ≤ f) (h0 : ¬ u = []) {e : Int} (h : hdErr u = e) (he : ¬ e = 0) : decode s = ([], e) := by
  unfold decode
  rw [hI, decF_err h0 hf (by rw [h]; exact he), h]
theorem dec_n {s u : Bs} {f : Nat} {out : List Rec} (hI : decF s.length s [] = decF f u out) (h0 : u = []) : decode s = (out, 0) := by
  unfold decode
  rw [hI, h0, decF_nil]
theorem dec_s {s u : Bs} {f : Nat} {out : List Rec} (hI : decF s.length s [] = decF f u out) (hf : u.length ≤ f) (h0 : ¬ u = []) (h : hdErr u = 0) : decF s.length s [] = decF (f - 1) (u.drop (nSz (b1 u))) (out ++ [hdRec u]) := by
  rw [hI, decF_step h0 hf h]
theorem tail_t {u : Bs} (h : Lib.trimB ((u.take (nSz (b1 u))).drop (2 + b1 u)) 0 = []) : tailZ u = true := by unfold tailZ; exact (trim_nil _ _).1 h
theorem tail_f {u : Bs} (h : ¬ Lib.trimB ((u.take (nSz (b1 u))).drop (2 + b1 u)) 0 = []) : tailZ u = false := by
  unfold tailZ
  cases e : ((u.take (nSz (b1 u))).drop (2 + b1 u)).all (· == 0) with
  | false => rfl
  | true => exact absurd ((trim_nil _ _).2 e) h
theorem win_t {n : Int} (h : within n 1 200 = true) : ¬ (n = 0 ∨ 200 < n) := by unfold within at h; simp only [Bool.and_eq_true, decide_eq_true_eq] at h; omega
theorem win_f {n : Int} (h0 : 0 ≤ n) (h : within n 1 200 = false) : n = 0 ∨ 200 < n := by
  by_cases h1 : n = 0
  · exact .inl h1
  · by_cases h2 : 200 < n
    · exact .inr h2
    · exfalso; unfold within at h; simp only [Bool.and_eq_false_iff, decide_eq_false_iff_not] at h; omega
theorem decode_small (s : Bs) : (decode s).1.length ≤ s.length ∧ ∀ x ∈ (decode s).1, x.path.length ≤ 200 := by
  by_cases h : (decode s).2 = 0
  · obtain ⟨h1, h2⟩ := decode_ok h
    have h3 := encErr_mem h2
    refine ⟨?_, fun x hx => (szErr_ok (h3 x hx)).2.1⟩
    have : ∀ l : List Rec, l.length ≤ (l.flatMap recB).length := by
      intro l
      induction l with
      | nil => simp
      | cons x l ih =>
        have := recB_length x
        have := nSz_ge x.path.length
        rw [List.flatMap_cons, List.length_append, List.length_cons]; omega
    have h4 := this (decode s).1
    rwa [h1] at h4
  · have : ∀ (f : Nat) (u : Bs) (out : List Rec), ¬ (decF f u out).2 = 0 → (decF f u out).1 = [] := by
      intro f
      induction f with
      | zero => intro u out h; unfold decF at h; exact absurd rfl h
      | succ f ih =>
        intro u out h
        unfold decF at h ⊢
        split
        · rename_i e; rw [if_pos e] at h; exact absurd rfl h
        · rename_i e
          rw [if_neg e] at h
          split
          · rename_i e2; rw [if_pos e2] at h; exact ih _ _ h
          · rfl
    have := this s.length s [] h
    unfold decode
    rw [this]; exact ⟨Nat.zero_le _, fun x hx => by cases hx⟩

theorem c48 (s : Bs) (hs : s.length < 1000000) : Fn 48 [.str s] (.tup [.fs ((decode s).1.map Rec.enc), i (decode s).2]) := by
  refine run_walkF eok Tryz.func48 rfl (by kernel_rfl) ?_
  conv => whnf
  repeat' (first
    | ((with_reducible refine on_dec_t (by assumption) ?_); conv => whnf)
    | ((with_reducible refine on_dec_f (by assumption) ?_); conv => whnf)
    | ((with_reducible refine onBool_t (by assumption) ?_); conv => whnf)
    | ((with_reducible refine onBool_f (by assumption) ?_); conv => whnf)
    | ((with_reducible refine on_nt (by assumption) ?_); conv => whnf)
    | ((with_reducible refine on_nf (by assumption) ?_); conv => whnf)
    | ((with_reducible refine on_ndec_t (by first | assumption | rfl) ?_); conv => whnf)
    | ((with_reducible refine on_ndec_f (by assumption) ?_); conv => whnf)
    | ((with_reducible refine on_dec_t rfl ?_); conv => whnf)
    | ((with_reducible refine on_dec_f ?_ ?_); (focus ((try simp only [List.length_map, List.length_cons, List.length_nil, List.length_append]); omega)); conv => whnf)
    | ((with_reducible refine on_dec_t ?_ ?_); (focus ((try simp only [List.length_map, List.length_cons, List.length_nil, List.length_append]); omega)); conv => whnf)
    | ((with_reducible refine on_dec (fun h => ?_) (fun h => ?_)) <;> (try simp only [List.length_map] at h) <;> conv => whnf)
    | ((with_reducible refine on_ndec (fun h => ?_) (fun h => ?_)) <;> (try simp only [List.length_map] at h) <;> conv => whnf)
    | ((with_reducible refine on_not (fun h => ?_) (fun h => ?_)) <;> conv => whnf)
    | ((with_reducible refine onBool_split (fun h => ?_) (fun h => ?_)) <;> conv => whnf)
    | ((with_reducible refine call_go ?_); (first | refine call_step (run_view (c56 _ _ _) rfl rfl) ?_ | refine call_step (run_view (c86 _ 0 (by simp only [List.length_drop, List.length_take]; omega) (by decide)) rfl rfl) ?_); conv => whnf)
    | (refine ⟨[], [], (by decide +kernel), ?_⟩; conv => whnf)
    | ((with_reducible refine loop_go ?_); first | (refine loop3 (fun (f : Nat) (u : Bs) (out : List Rec) => u.length) (fun (f : Nat) (u : Bs) (out : List Rec) => u.length + out.length ≤ s.length ∧ decF s.length s [] = decF f u out ∧ u.length ≤ f) (fun (f : Nat) (u : Bs) (out : List Rec) => [(0, .d (.str u)), (4, .sl 0 0 out.length 2 none)]) (fun (f : Nat) (u : Bs) (out : List Rec) => [⟨(out.map Rec.enc).map .d, 2, 0⟩]) (s.length) (s) ([]) (by exact ⟨Nat.le_refl _, rfl, Nat.le_refl _⟩) ?_ (fun f u out C hI hC => ?_); (exact ⟨[.void 2], rfl, rfl, ⟨rfl, ⟨rfl, rfl, rfl, rfl⟩, trivial⟩, ⟨⟨rfl, rfl, (by decide), rfl⟩, trivial⟩⟩); have hb1 := b1_lt u; have hn5 := nSz_ge (b1 u); all_goals (conv => whnf)))
    | ((with_reducible show C _ _); first | (refine hC (f - 1) (u.drop (nSz (b1 u))) (out ++ [hdRec u]) _ _ ?_ (by rw [List.length_drop]; have := of_decide_eq_false (by assumption : decide (u = _) = false); have : 0 < u.length := List.length_pos_iff.2 this; omega) ?_; clear hC; rotate_left; (exact ⟨[.old 2], rfl, rfl, ⟨(by exact congrArg D.str (by rw [List.take_length])), ⟨rfl, rfl, (by first | rfl | (simp only [List.length_append, List.length_map]; rfl)), rfl, rfl⟩, trivial⟩, ⟨⟨rfl, rfl, .inr (wks_add (wksd _ _) ⟨rfl, rfl, rfl, trivial⟩)⟩, trivial⟩⟩); (exact ⟨by simp only [List.length_drop, List.length_append, List.length_cons, List.length_nil]; omega, dec_s hI.2.1 hI.2.2 (of_decide_eq_false (by assumption)) (he_5 (by assumption) (by have := win_t (by assumption); omega) (by unfold nSz; omega) (tail_t (of_decide_eq_true h))), by rw [List.length_drop]; omega⟩)))
    | (refine ix_b0 (by omega) ?_; conv => whnf)
    | (refine ix_b1 (by omega) ?_; conv => whnf)
    | (refine wr_b0 (by omega) ?_; conv => whnf)
    | (refine wr_b1 (by omega) ?_; conv => whnf)
    | (refine ⟨⟨(by first | rfl | (simp; done)), cap_ok (by simp only [List.length_map, List.length_cons, List.length_nil, List.length_append]; omega) rfl⟩, ?_⟩; conv => whnf)
    | (refine ⟨mem_one ⟨rfl, rfl⟩, ?_⟩; conv => whnf)
    | (refine ⟨(by intro y hy; obtain ⟨x, _, rfl⟩ := List.mem_map.1 hy; first | rfl | exact ⟨rfl, rfl⟩), ?_⟩; conv => whnf)
    | (refine ⟨cap_ok (by first | omega | (simp only [List.length_map]; omega)) rfl, ?_⟩; conv => whnf)
    | (refine ix_map (by omega) ?_; conv => whnf)
    | (refine ix_str (by omega) ?_; conv => whnf)
    | (refine wrap64 (by omega) ?_; conv => whnf)
    | (refine ⟨Nat.le_refl _, ?_⟩; conv => whnf)
    | (refine ⟨⟨(by simp only [List.length_map, List.length_append]; omega), cap_ok (by skip; simp only [List.length_map, List.length_cons, List.length_nil, List.length_append]; omega) rfl⟩, ?_⟩; conv => whnf)
    | (refine ⟨cap_ok (by skip; simp only [List.length_map, List.length_cons, List.length_nil, List.length_append]; omega) rfl, ?_⟩; conv => whnf)
    | (refine shl_at ((2 ^ b0 u : Nat) : Int) (by simp) (p2 (by omega)) ?_; conv => whnf)
    | (refine sl_str (2 + b1 u) (nSz (b1 u)) (by omega) (by unfold nSz; omega) (by constructor <;> (try unfold nSz) <;> omega) ?_; conv => whnf)
    | (refine sl_str 2 (2 + b1 u) (by omega) (by omega) (by omega) ?_; conv => whnf)
    | (refine sl_str (nSz (b1 u)) u.length (by unfold nSz; omega) (by omega) (by constructor <;> (try unfold nSz) <;> omega) ?_; conv => whnf)
    | (refine wr_p2 (by omega) ?_; conv => whnf)
    | (refine div64 (by omega) ?_; conv => whnf)
    | (refine wrap64 (by omega) ?_; conv => whnf)
    | (exfalso; simp only [List.length_map, List.length_cons, List.length_nil, List.length_append] at h; omega)
    | ((with_reducible refine endx_go ?_); first | (refine endxv rfl ?_; (rw [dec_e hI.2.1 hI.2.2 (of_decide_eq_false (by assumption)) (he_1 (by assumption)) (by decide)]) <;> rfl; done) | (refine endxv rfl ?_; (rw [dec_e hI.2.1 hI.2.2 (of_decide_eq_false (by assumption)) (he_2 (by assumption) (.inl (by assumption))) (by decide)]) <;> rfl; done) | (refine endxv rfl ?_; (rw [dec_e hI.2.1 hI.2.2 (of_decide_eq_false (by assumption)) (he_2 (by assumption) (.inr (win_f (by omega) (by assumption)))) (by decide)]) <;> rfl; done) | (refine endxv rfl ?_; (rw [dec_e hI.2.1 hI.2.2 (of_decide_eq_false (by assumption)) (he_3 (by assumption) (by have := win_t (by assumption); omega) (by unfold nSz; omega)) (by decide)]) <;> rfl; done) | (refine endxv rfl ?_; (rw [dec_e hI.2.1 hI.2.2 (of_decide_eq_false (by assumption)) (he_4 (by assumption) (by have := win_t (by assumption); omega) (by unfold nSz; omega) (tail_f (of_decide_eq_false h))) (by decide)]) <;> rfl; done) | (refine endxv (view_tup (vlc (view_map rfl Nat.two_pos) (vlc rfl vln))) ?_; rw [dec_n hI.2.1 (of_decide_eq_true h)]; done))
    | (refine ⟨rfl, ?_⟩; conv => whnf)
    | fail
    )

theorem c49 (s : Bs) (hs : s.length < 1000000) : Fn 49 [.str s] (.tup [.fs ((decode s).1.map Rec.enc), i (decode s).2]) := by
  refine run_walkF eok Tryz.func49 rfl (by kernel_rfl) ?_
  conv => whnf
  repeat' (first
    | ((with_reducible refine on_dec_t (by assumption) ?_); conv => whnf)
    | ((with_reducible refine on_dec_f (by assumption) ?_); conv => whnf)
    | ((with_reducible refine onBool_t (by assumption) ?_); conv => whnf)
    | ((with_reducible refine onBool_f (by assumption) ?_); conv => whnf)
    | ((with_reducible refine on_nt (by assumption) ?_); conv => whnf)
    | ((with_reducible refine on_nf (by assumption) ?_); conv => whnf)
    | ((with_reducible refine on_ndec_t (by first | assumption | rfl) ?_); conv => whnf)
    | ((with_reducible refine on_ndec_f (by assumption) ?_); conv => whnf)
    | ((with_reducible refine on_dec_t rfl ?_); conv => whnf)
    | ((with_reducible refine on_dec_f ?_ ?_); (focus ((try simp only [List.length_map, List.length_cons, List.length_nil, List.length_append]); omega)); conv => whnf)
    | ((with_reducible refine on_dec_t ?_ ?_); (focus ((try simp only [List.length_map, List.length_cons, List.length_nil, List.length_append]); omega)); conv => whnf)
    | ((with_reducible refine on_dec (fun h => ?_) (fun h => ?_)) <;> (try simp only [List.length_map] at h) <;> conv => whnf)
    | ((with_reducible refine on_ndec (fun h => ?_) (fun h => ?_)) <;> (try simp only [List.length_map] at h) <;> conv => whnf)
    | ((with_reducible refine on_not (fun h => ?_) (fun h => ?_)) <;> conv => whnf)
    | ((with_reducible refine onBool_split (fun h => ?_) (fun h => ?_)) <;> conv => whnf)
    | ((with_reducible refine call_go ?_); (first | refine call_step (run_view (c87 _ (by simp only [List.length_drop, List.length_take]; omega)) rfl rfl) ?_ | refine call_step (run_view (c88 (b0 u) (by have := b0_at (s := u) (by omega); omega)) rfl rfl) ?_); conv => whnf)
    | (refine ⟨[], [(8, 4)], (by decide +kernel), ?_⟩; conv => whnf)
    | ((with_reducible refine loop_go ?_); first | (refine loop3 (fun (f : Nat) (u : Bs) (out : List Rec) => u.length) (fun (f : Nat) (u : Bs) (out : List Rec) => u.length + out.length ≤ s.length ∧ decF s.length s [] = decF f u out ∧ u.length ≤ f) (fun (f : Nat) (u : Bs) (out : List Rec) => [(0, .d (.str u)), (4, .sl 0 0 out.length 2 none)]) (fun (f : Nat) (u : Bs) (out : List Rec) => [⟨(out.map Rec.enc).map .d, 2, 0⟩]) (s.length) (s) ([]) (by exact ⟨Nat.le_refl _, rfl, Nat.le_refl _⟩) ?_ (fun f u out C hI hC => ?_); (exact ⟨[.void 2], rfl, rfl, ⟨rfl, ⟨rfl, rfl, rfl, rfl⟩, trivial⟩, ⟨⟨rfl, rfl, (by decide), rfl⟩, trivial⟩⟩); have hb1 := b1_lt u; have hn5 := nSz_ge (b1 u); have hne : (0 : Int) < u.length → ¬ u = [] := (fun e e2 => by rw [e2] at e; exact absurd e (by decide)); all_goals (conv => whnf)))
    | ((with_reducible show C _ _); first | (refine hC (f - 1) (u.drop (nSz (b1 u))) (out ++ [hdRec u]) _ _ ?_ (by rw [List.length_drop]; omega) ?_; clear hC; rotate_left; (exact ⟨[.old 2], rfl, rfl, ⟨(by exact congrArg D.str (by rw [List.take_length])), ⟨rfl, rfl, (by first | rfl | (simp only [List.length_append, List.length_map]; rfl)), rfl, rfl⟩, trivial⟩, ⟨⟨rfl, rfl, .inr (wks_add (wksd _ _) ⟨rfl, rfl, rfl, trivial⟩)⟩, trivial⟩⟩); (exact ⟨by simp only [List.length_drop, List.length_append, List.length_cons, List.length_nil]; omega, dec_s hI.2.1 hI.2.2 (hne (by omega)) (he_5 (by assumption) (by have := b0_at (s := u) (by omega); omega) (by unfold nSz; omega) (by unfold tailZ; assumption)), by rw [List.length_drop]; omega⟩)))
    | (refine ix_b0 (by omega) ?_; conv => whnf)
    | (refine ix_b1 (by omega) ?_; conv => whnf)
    | (refine wr_b0 (by omega) ?_; conv => whnf)
    | (refine wr_b1 (by omega) ?_; conv => whnf)
    | (refine ⟨⟨(by first | rfl | (simp; done)), cap_ok (by simp only [List.length_map, List.length_cons, List.length_nil, List.length_append]; omega) rfl⟩, ?_⟩; conv => whnf)
    | (refine ⟨mem_one ⟨rfl, rfl⟩, ?_⟩; conv => whnf)
    | (refine ⟨(by intro y hy; obtain ⟨x, _, rfl⟩ := List.mem_map.1 hy; first | rfl | exact ⟨rfl, rfl⟩), ?_⟩; conv => whnf)
    | (refine ⟨cap_ok (by first | omega | (simp only [List.length_map]; omega)) rfl, ?_⟩; conv => whnf)
    | (refine ix_map (by omega) ?_; conv => whnf)
    | (refine ix_str (by omega) ?_; conv => whnf)
    | (refine wrap64 (by omega) ?_; conv => whnf)
    | (refine ⟨Nat.le_refl _, ?_⟩; conv => whnf)
    | (refine ⟨⟨(by simp only [List.length_map, List.length_append]; omega), cap_ok (by skip; simp only [List.length_map, List.length_cons, List.length_nil, List.length_append]; omega) rfl⟩, ?_⟩; conv => whnf)
    | (refine ⟨cap_ok (by skip; simp only [List.length_map, List.length_cons, List.length_nil, List.length_append]; omega) rfl, ?_⟩; conv => whnf)
    | (refine sl_str (2 + b1 u) (nSz (b1 u)) (by omega) (by unfold nSz; omega) (by constructor <;> (try unfold nSz) <;> omega) ?_; conv => whnf)
    | (refine sl_str 2 (2 + b1 u) (by omega) (by omega) (by omega) ?_; conv => whnf)
    | (refine sl_str (nSz (b1 u)) u.length (by unfold nSz; omega) (by omega) (by constructor <;> (try unfold nSz) <;> omega) ?_; conv => whnf)
    | (refine div64 (by omega) ?_; conv => whnf)
    | (refine wrap64 (by omega) ?_; conv => whnf)
    | (exfalso; simp only [List.length_map, List.length_cons, List.length_nil, List.length_append] at h; omega)
    | ((with_reducible refine endx_go ?_); first | (refine endxv rfl ?_; (rw [dec_e hI.2.1 hI.2.2 (hne (by omega)) (he_1 (by assumption)) (by decide)]) <;> rfl; done) | (refine endxv rfl ?_; (rw [dec_e hI.2.1 hI.2.2 (hne (by omega)) (he_2 (by assumption) (by have := b0_at (s := u) (by omega); omega)) (by decide)]) <;> rfl; done) | (refine endxv rfl ?_; (rw [dec_e hI.2.1 hI.2.2 (hne (by omega)) (he_3 (by assumption) (by have := b0_at (s := u) (by omega); omega) (by unfold nSz; omega)) (by decide)]) <;> rfl; done) | (refine endxv rfl ?_; (rw [dec_e hI.2.1 hI.2.2 (hne (by omega)) (he_4 (by assumption) (by have := b0_at (s := u) (by omega); omega) (by unfold nSz; omega) (by unfold tailZ; assumption)) (by decide)]) <;> rfl; done) | (refine endxv (view_tup (vlc (view_map rfl Nat.two_pos) (vlc rfl vln))) ?_; rw [dec_n hI.2.1 (List.eq_nil_of_length_eq_zero (by omega))]; done))
    | (refine ⟨rfl, ?_⟩; conv => whnf)
    | fail
    )

end Go.Proofs.YtbkmjpmgiaiacaaGreatDoor

/-! Tz -/
namespace Go.Proofs.YtbkmjpmgiaiacaaGreatDoor
open Go Go.Shelf
set_option maxRecDepth 100000
def lays29_ren : Go.Shelf.Ren := ⟨fun | 29 => 111 | n => n, fun | 0 => 0 | 3 => 3 | 4 => 4 | 5 => 5 | 22 => 171 | 25 => 145 | 54 => 201 | n => n, fun n => n⟩
theorem lays29 : Go.Proofs.Lays7.n29 Tryz.prog lays29_ren := {
  mixed := by kernel_rfl
  f29 := Tryz.func111.trans (congrArg some (by kernel_rfl))
  t0 := Tryz.underlying0
  a0 := Tryz.isAgg0
  z0 := Tryz.sizeOf0
  v0 := Tryz.zeroValue0
  i0 := by kernel_rfl
  t3 := Tryz.underlying3
  a3 := Tryz.isAgg3
  z3 := Tryz.sizeOf3
  v3 := Tryz.zeroValue3
  i3 := by kernel_rfl
  t4 := Tryz.underlying4
  a4 := Tryz.isAgg4
  z4 := Tryz.sizeOf4
  v4 := Tryz.zeroValue4
  i4 := by kernel_rfl
  t5 := Tryz.underlying5
  a5 := Tryz.isAgg5
  z5 := Tryz.sizeOf5
  v5 := Tryz.zeroValue5
  i5 := by kernel_rfl
  t22 := Tryz.underlying171
  a22 := Tryz.isAgg171
  z22 := Tryz.sizeOf171
  v22 := Tryz.zeroValue171
  i22 := by kernel_rfl
  t25 := Tryz.underlying145
  a25 := Tryz.isAgg145
  z25 := Tryz.sizeOf145
  v25 := Tryz.zeroValue145
  i25 := by kernel_rfl
  t54 := Tryz.underlying201
  a54 := Tryz.isAgg201
  z54 := Tryz.sizeOf201
  g1 := by kernel_rfl }

open Dw Go.RowKit
/-- The table of the library, in the world that a walk begins with. -/
def GT : Nat → World → Prop := fun B W => TabAt 1 Lib.deBruijn64tab W ∧ 1 < B
theorem enters111 : ∀ vs w, (callFunc 111 vs).run Tryz.prog w = .ok (.enter 111 vs) w := enters_of Tryz.func111 (by kernel_rfl) rfl
theorem tabAt_below {B : Nat} {W w : World} (h : GT B W) (hb : Below B W w) : TabAt 1 Lib.deBruijn64tab w := by
  intro j hj
  have := h.1 j hj
  unfold World.cell? at this ⊢
  rw [hb.block 1 h.2]; exact this
theorem g111 (x : Nat) (hx : x < 18446744073709551616) : RunG Tryz.prog GT 111 [.d (.int .u64 x)] [] (.d (i (Lib.ctz 64 x))) [] := by
  intro B W hg w s vs hw ha
  simp only [aVs, AV.isAgg, aC, cC] at ha
  obtain ⟨v, r, us, rfl, hv, rfl, rfl⟩ := ha
  simp only [Bool.false_eq_true, if_false, List.cons.injEq, and_true] at hv
  subst hv
  rw [enters111]
  refine Calls.mono (Any7.bits_TrailingZeros64 lays29 x hx w (fun _ => tabAt_below hg hw.below)) ?_
  rintro e w' ⟨rfl, rfl⟩
  exact ⟨_, rfl, s, hw, ⟨_, rfl, rfl⟩, Ext.refl _ _, rfl⟩
theorem g1_named : Tryz.prog.globalNamed "math/bits.deBruijn64tab" = some 1 := by kernel_rfl
theorem g1_type : (Tryz.prog.globals[1]?).map (·.type) = some 201 := by kernel_rfl
theorem tab_data : (Rows.laid_math_bits_deBruijn64tab : DataW Unit) = Lib.tabData .u8 (Lib.deBruijn64tab.map Int.ofNat) := by kernel_rfl
theorem tabAt_laid {W : World} (h : laidMetH Tryz.prog laid28b W) : TabAt 1 Lib.deBruijn64tab W := by
  have h1 := (laidMetH_iff.1 h).1
  obtain ⟨g, t, cs, fuel, p, e1, e2, e3, e4⟩ := Lib.laidMet.reads h1 (n := "math/bits.deBruijn64tab") (d := Rows.laid_math_bits_deBruijn64tab) (List.mem_filter.2 ⟨by simp [laid28b], rfl⟩)
  obtain rfl : g = 1 := Option.some.inj (e1.symm.trans g1_named)
  obtain rfl : t = 201 := Option.some.inj (e2.symm.trans g1_type)
  rw [tab_data] at e4
  have e5 := Lib.cells_of_tab (n := 64) (e := 5) Tryz.underlying201 Tryz.underlying5 (by kernel_rfl) (by kernel_rfl) e4
  unfold World.var? at e3
  rw [g1_named] at e3
  simp only [Option.bind_some] at e3
  intro j hj
  unfold World.cell?
  split at e3
  · next c t f hh =>
    simp only [Option.some.injEq] at e3
    subst e3
    rw [hh]
    simp only [Option.isSome_none, Bool.false_eq_true, if_false]
    rw [← Array.getElem?_toList, e5, List.getElem?_map, List.getElem?_map, List.getElem?_eq_getElem hj, List.getD_eq_getElem?_getD, List.getElem?_eq_getElem hj]
    rfl
  · cases e3
theorem gt_laid {W : World} (h : laidMetH Tryz.prog laid28b W) : GT W.heap.size W := by
  refine ⟨tabAt_laid h, ?_⟩
  have := tabAt_laid h 0 (by decide)
  unfold World.cell? at this
  cases e : W.heap[1]? with
  | none => simp [e] at this
  | some o => exact (Array.getElem?_eq_some_iff.1 e).1
end Go.Proofs.YtbkmjpmgiaiacaaGreatDoor

/-! Wo -/
namespace Go.Proofs.YtbkmjpmgiaiacaaGreatDoor
open Go Dw
set_option maxRecDepth 10000
set_option linter.unusedVariables false
set_option linter.unusedSimpArgs false
attribute [local irreducible] Run
set_option maxHeartbeats 4000000

open Paths
attribute [local irreducible] nameErr isAct hasBit bitI szErr szOr recB leB RunG
theorem flat_take {α β : Type} {f : α → List β} {l : List α} {k : Nat} (h : k < l.length) : (l.take (k + 1)).flatMap f = (l.take k).flatMap f ++ f l[k] := by
  rw [List.take_succ_eq_append_getElem h, List.flatMap_append]; simp
theorem leB1 {n : Nat} (h : n < 256) : leB n 1 = [UInt8.ofNat n] := by
  unfold leB leB
  rw [Nat.mod_eq_of_lt h]
theorem sz_nSz (x : Rec) : sz x = (nSz x.path.length : Int) := rfl
theorem recB_le (x : Rec) (h : isAct x.act = true) (h2 : x.path.length ≤ 200) : recB x = leB (bitI x.act).toNat 1 ++ leB x.path.length 1 ++ x.path ++ List.replicate (sz x - ((1 + 1 + x.path.length : Nat) : Int)).toNat 0 := by
  have := bit_pow h
  have hn := nSz_ge x.path.length
  rw [leB1 (by omega), leB1 (by omega), sz_nSz]
  rw [show ((nSz x.path.length : Int) - ((1 + 1 + x.path.length : Nat) : Int)).toNat = nSz x.path.length - (2 + x.path.length) by omega]
  unfold recB; simp
theorem c89i (n : Int) (c : Nat) (hn : 0 ≤ n ∧ n < 9223372036854775808) (hc : c < 1000) : Fn 89 [i n, i c] (.str (leB n.toNat c)) := by
  have := c89 n.toNat c (by omega) hc
  rwa [show ((n.toNat : Nat) : Int) = n by omega] at this
theorem c91i (n : Int) (hn : 0 ≤ n ∧ n ≤ 200000) : Fn 91 [i n] (.str (List.replicate n.toNat 0)) := by
  have := c91 n.toNat (by omega)
  rwa [show ((n.toNat : Nat) : Int) = n by omega] at this
theorem fact51 {x : Rec} (h : szErr x = 0) : isAct x.act = true ∧ (0 ≤ bitI x.act ∧ bitI x.act < 6) ∧ x.path.length ≤ 200 ∧ 2 + (x.path.length : Int) ≤ sz x ∧ sz x ≤ 205 := by
  obtain ⟨x1, x2, x3⟩ := szErr_ok h
  have := bit_pow x1
  have := nSz_ge x.path.length
  have := sz_nSz x
  exact ⟨x1, by omega, x2, by omega, by omega⟩
theorem fact47 {x : Rec} (h : szErr x = 0) : szOr x = sz x ∧ isAct x.act = true ∧ (0 ≤ bitI x.act ∧ bitI x.act < 6) ∧ (1 ≤ x.act ∧ x.act ≤ 32) ∧ (x.path.length ≤ 200 ∧ 1 ≤ x.path.length) ∧ 2 + (x.path.length : Int) ≤ sz x ∧ sz x ≤ 205 := by
  have h0 := fact51 h
  have h1 : 1 ≤ x.path.length := List.length_pos_iff.2 (szErr_ok h).2.2
  have := isAct_iff.1 h0.1
  exact ⟨by unfold szOr; rw [if_pos h], h0.1, h0.2.1, by omega, ⟨h0.2.2.1, h1⟩, h0.2.2.2⟩
theorem flat_len {l : List Rec} (h : ∀ x ∈ l, szErr x = 0) : (l.flatMap recB).length ≤ 205 * l.length := by
  induction l with
  | nil => simp
  | cons x l ih =>
    have h1 := ih fun y hy => h y (by simp [hy])
    have h2 := recB_length x
    have h3 := nSz_ge x.path.length
    have h4 := (szErr_ok (h x (by simp))).2.1
    rw [List.flatMap_cons, List.length_append, List.length_cons]; omega
theorem flat_len_take {l : List Rec} (h : ∀ x ∈ l, szErr x = 0) (k : Nat) : ((l.take k).flatMap recB).length ≤ 205 * k := by
  have := flat_len (l := l.take k) fun x hx => h x (List.mem_of_mem_take hx)
  have h2 : (l.take k).length ≤ k := by rw [List.length_take]; omega
  omega

theorem c51 (l : List Rec) (hl : l.length ≤ 1000) (hv : ∀ x ∈ l, szErr x = 0) : Fn 51 [.fs (l.map Rec.enc)] (.str (l.flatMap recB)) := by
  refine run_walkF eok Tryz.func51 rfl (by kernel_rfl) ?_
  conv => whnf
  repeat' (first
    | ((with_reducible refine on_dec_f ?_ ?_); (focus ((try simp only [List.length_map, List.length_cons, List.length_nil, List.length_append]); omega)); conv => whnf)
    | ((with_reducible refine on_dec_t ?_ ?_); (focus ((try simp only [List.length_map, List.length_cons, List.length_nil, List.length_append]); omega)); conv => whnf)
    | ((with_reducible refine on_dec (fun h => ?_) (fun h => ?_)) <;> (try simp only [List.length_map] at h) <;> conv => whnf)
    | ((with_reducible refine on_ndec (fun h => ?_) (fun h => ?_)) <;> (try simp only [List.length_map] at h) <;> conv => whnf)
    | ((with_reducible refine on_not (fun h => ?_) (fun h => ?_)) <;> conv => whnf)
    | ((with_reducible refine onBool_split (fun h => ?_) (fun h => ?_)) <;> conv => whnf)
    | ((with_reducible refine call_go ?_); (first | refine call_step (run_view (c90 _) rfl rfl) ?_ | refine call_step (run_view (c89i (bitI (l[k]'(by omega)).act) 1 (by have hq := hfa (by omega); omega) (by decide)) rfl rfl) ?_ | refine call_step (run_view (c89 (l[k]'(by omega)).path.length 1 (by have hq := hfa (by omega); omega) (by decide)) rfl rfl) ?_ | refine call_step (run_view (c32 (l[k]'(by omega)) (by have hq := hfa (by omega); omega)) rfl rfl) ?_ | refine call_step (run_view (c91i _ (by have hq := hfa (by omega); (try simp only [List.length_append, leB_length, List.length_cons, List.length_nil, List.length_replicate]); omega)) rfl rfl) ?_); conv => whnf)
    | (refine ⟨[], [(11, 5), (19, 5), (11, 6), (19, 6), (19, 13)], (by decide +kernel), ?_⟩; conv => whnf)
    | ((with_reducible refine loop_go ?_); first | (refine loop1 (fun (k : Nat) => l.length - k) (fun (k : Nat) => k ≤ l.length) (fun (k : Nat) => [(0, .d (.fs (l.map Rec.enc))), (3, .d (.str ((l.take k).flatMap recB))), (4, .d (i k))]) (fun (k : Nat) => []) (0) (by exact Nat.zero_le _) ?_ (fun k C hI hC => ?_); (exact ⟨[], rfl, rfl, ⟨(by first | (show (_ : D) = _; with_reducible rfl) | exact rfl), (by first | (show (_ : D) = _; with_reducible rfl) | exact rfl), (by first | (show (_ : D) = _; with_reducible rfl) | exact congrArg (D.int .i64) (by omega) | exact congrArg (D.int .i64) (by simp only [List.length_map]) | exact rfl), trivial⟩, trivial⟩); have hfa := fun (h : k < l.length) => fact51 (hv _ (List.getElem_mem h)); have hfl := flat_len_take hv k; all_goals (conv => whnf)))
    | ((with_reducible show C _ _); first | (refine hC (k + 1) _ _ ?_ (by omega) ?_; clear hC; rotate_left; (exact ⟨[], rfl, rfl, ⟨(by first | (show (_ : D) = _; with_reducible rfl) | exact rfl), (by refine congrArg D.str ?_; rw [flat_take (by omega)]; have hq := hfa (by omega); rw [recB_le _ hq.1 hq.2.2.1]; simp only [List.length_append, leB_length, Int.toNat_natCast, List.append_assoc, Nat.add_assoc]), (by first | (show (_ : D) = _; with_reducible rfl) | exact congrArg (D.int .i64) (by omega) | exact congrArg (D.int .i64) (by simp only [List.length_map]) | exact rfl), trivial⟩, trivial⟩); (exact (by omega : k + 1 ≤ l.length))))
    | (refine ⟨⟨(by first | rfl | (simp; done)), cap_ok (by simp only [List.length_map, List.length_cons, List.length_nil, List.length_append]; omega) rfl⟩, ?_⟩; conv => whnf)
    | (refine ⟨mem_one ⟨rfl, rfl⟩, ?_⟩; conv => whnf)
    | (refine ⟨(by intro y hy; obtain ⟨x, _, rfl⟩ := List.mem_map.1 hy; first | rfl | exact ⟨rfl, rfl⟩), ?_⟩; conv => whnf)
    | (refine ⟨cap_ok (by first | omega | (simp only [List.length_map]; omega)) rfl, ?_⟩; conv => whnf)
    | (refine ix_map (by omega) ?_; conv => whnf)
    | (refine ix_str (by omega) ?_; conv => whnf)
    | (refine wrap64 (by omega) ?_; conv => whnf)
    | (refine str_add (by constructor <;> (first | omega | (have hq := hfa (by omega); (try simp only [List.length_append, leB_length, List.length_cons, List.length_nil, List.length_replicate]); omega))) ?_; conv => whnf)
    | (refine wrap64 (by have hq := hfa (by omega); (try simp only [List.length_append, leB_length, List.length_cons, List.length_nil, List.length_replicate]); omega) ?_; conv => whnf)
    | (refine wrap64 (by omega) ?_; conv => whnf)
    | (exfalso; simp only [List.length_map, List.length_cons, List.length_nil, List.length_append] at h; omega)
    | ((with_reducible refine endx_go ?_); first | (exact endx (congrArg D.str (by rw [List.take_of_length_le (by omega)])); done))
    | (refine ⟨rfl, ?_⟩; conv => whnf)
    | fail
    )

theorem g111a (n : Int) (h : 0 ≤ n ∧ n < 18446744073709551616) : RunG Tryz.prog GT 111 [.d (.int .u64 n)] [] (.d (i (Lib.ctz 64 n.toNat))) [] := by
  have := g111 n.toNat (by omega)
  rwa [show ((n.toNat : Nat) : Int) = n by omega] at this
theorem ctz_bit {n : Int} (h : isAct n = true) : (Lib.ctz 64 n.toNat : Int) = bitI n := ctz_act h
theorem wr_u64 {n : Int} {K : Int → Prop} (h : 0 ≤ n ∧ n < 9223372036854775808) (hk : K n) : wrapK .u64 n K := by
  have e : IntKind.u64.wrap n = n := by
    simp only [IntKind.wrap, IntKind.bits, IntKind.signed, Bool.false_and, Bool.false_eq_true, if_false]; omega
  exact ⟨.mk, by rw [e]; exact hk⟩
def GFn (f : Nat) (xs : List D) (r : D) : Prop := RunG Tryz.prog GT f (xs.map .d) [] (.d r) []

theorem c85 (n : Int) (h : 0 ≤ n ∧ n < 18446744073709551616) : GFn 85 [.int .u64 n] (i (Lib.ctz 64 n.toNat)) := by
  refine run_walkG eok Tryz.func85 rfl (by kernel_rfl) ?_
  conv => whnf
  repeat' (first
    | ((with_reducible refine on_dec_f ?_ ?_); (focus ((try simp only [List.length_map, List.length_cons, List.length_nil, List.length_append]); omega)); conv => whnf)
    | ((with_reducible refine on_dec_t ?_ ?_); (focus ((try simp only [List.length_map, List.length_cons, List.length_nil, List.length_append]); omega)); conv => whnf)
    | ((with_reducible refine on_dec (fun h => ?_) (fun h => ?_)) <;> (try simp only [List.length_map] at h) <;> conv => whnf)
    | ((with_reducible refine on_ndec (fun h => ?_) (fun h => ?_)) <;> (try simp only [List.length_map] at h) <;> conv => whnf)
    | ((with_reducible refine on_not (fun h => ?_) (fun h => ?_)) <;> conv => whnf)
    | ((with_reducible refine onBool_split (fun h => ?_) (fun h => ?_)) <;> conv => whnf)
    | ((with_reducible refine call_goG ?_); (first | refine call_stepG (Run.toG (c110)) ?_ | refine call_stepG (run_viewG (g111a n h) rfl rfl) ?_); conv => whnf)
    | (refine ⟨⟨(by first | rfl | (simp; done)), cap_ok (by simp only [List.length_map, List.length_cons, List.length_nil, List.length_append]; omega) rfl⟩, ?_⟩; conv => whnf)
    | (refine ⟨mem_one ⟨rfl, rfl⟩, ?_⟩; conv => whnf)
    | (refine ⟨(by intro y hy; obtain ⟨x, _, rfl⟩ := List.mem_map.1 hy; first | rfl | exact ⟨rfl, rfl⟩), ?_⟩; conv => whnf)
    | (refine ⟨cap_ok (by first | omega | (simp only [List.length_map]; omega)) rfl, ?_⟩; conv => whnf)
    | (refine ix_map (by omega) ?_; conv => whnf)
    | (refine ix_str (by omega) ?_; conv => whnf)
    | (refine wrap64 (by omega) ?_; conv => whnf)
    | (exfalso; simp only [List.length_map, List.length_cons, List.length_nil, List.length_append] at h; omega)
    | ((with_reducible refine endx_go ?_); first | (exact endx rfl; done))
    | (refine ⟨rfl, ?_⟩; conv => whnf)
    | fail
    )

theorem g85b (n : Int) (h : isAct n = true) : GFn 85 [.int .u64 n] (i (bitI n)) := by
  have := isAct_iff.1 h
  rw [← ctz_bit h]
  exact c85 n (by omega)

theorem fin47 {acc : Bs} {x : Rec} (h : szErr x = 0) {z : Nat} (hz : z = (acc.length + szOr x - ((acc.length + 2 + x.path.length : Nat) : Int)).toNat) : acc.map byteV ++ [.d (.int .u8 (bitI x.act)), .d (.int .u8 ((x.path.length % 256 : Nat) : Int))] ++ x.path.map byteV ++ List.replicate z (.d (.int .u8 0)) = (acc ++ recB x).map byteV := by
  have hq := fact47 h
  have hb : byteV (UInt8.ofNat (bitI x.act).toNat) = .d (.int .u8 (bitI x.act)) := by
    rw [byteV_ofNat (by omega), Int.toNat_of_nonneg (by omega)]
  have hl : byteV (UInt8.ofNat x.path.length) = .d (.int .u8 ((x.path.length % 256 : Nat) : Int)) := by
    rw [byteV_ofNat (by omega), Nat.mod_eq_of_lt (by omega)]
  have hz2 : z = nSz x.path.length - (2 + x.path.length) := by have := sz_nSz x; omega
  have h0 : byteV 0 = .d (.int .u8 0) := rfl
  unfold recB
  rw [hz2]
  simp only [List.map_append, List.map_cons, List.map_replicate, hb, hl, h0, List.append_assoc, List.cons_append, List.nil_append]
theorem fin47z {acc : Bs} {x : Rec} (h : szErr x = 0) {z : Nat} {A : List AV} {n : Nat} (hA : A = acc.map byteV ++ [.d (.int .u8 (bitI x.act)), .d (.int .u8 ((x.path.length % 256 : Nat) : Int))] ++ x.path.map byteV) (hz : z = (acc.length + szOr x - ((acc.length + 2 + x.path.length : Nat) : Int)).toNat) (hn : n = A.length) (h2 : n + z ≤ A.length) : over A n (List.replicate z (.d (.int .u8 0))) = (acc ++ recB x).map byteV := by
  have : z = 0 := by omega
  rw [← fin47 h hz, ← hA, this]
  unfold over
  subst hn
  simp

theorem wr_u8 {n : Int} {K : Int → Prop} (h : 0 ≤ n ∧ n < 256) (hk : K n) : wrapK .u8 n K := by
  have e : IntKind.u8.wrap n = n := by
    simp only [IntKind.wrap, IntKind.bits, IntKind.signed, Bool.false_and, Bool.false_eq_true, if_false]; omega
  exact ⟨.mk, by rw [e]; exact hk⟩

theorem c47 (l : List Rec) (hl : l.length ≤ 1000) (hb : ∀ x ∈ l, x.act < 9223372036854775808 ∧ x.path.length < 1000000) : GFn 47 [.fs (l.map Rec.enc)] (.tup [.str (if encErr l = 0 then l.flatMap recB else []), i (encErr l)]) := by
  refine run_walkG eok Tryz.func47 rfl (by kernel_rfl) ?_
  conv => whnf
  repeat' (first
    | ((with_reducible refine on_dec_f ?_ ?_); (focus (have hq := fact47 (x := l[k]'(by omega)) (by assumption); simp only [List.length_map, List.length_append, List.length_cons, List.length_nil]; omega)); conv => whnf)
    | ((with_reducible refine on_dec_f ?_ ?_); (focus ((try simp only [List.length_map, List.length_cons, List.length_nil, List.length_append]); omega)); conv => whnf)
    | ((with_reducible refine on_dec_t ?_ ?_); (focus ((try simp only [List.length_map, List.length_cons, List.length_nil, List.length_append]); omega)); conv => whnf)
    | ((with_reducible refine on_dec (fun h => ?_) (fun h => ?_)) <;> (try simp only [List.length_map] at h) <;> conv => whnf)
    | ((with_reducible refine on_ndec (fun h => ?_) (fun h => ?_)) <;> (try simp only [List.length_map] at h) <;> conv => whnf)
    | ((with_reducible refine on_not (fun h => ?_) (fun h => ?_)) <;> conv => whnf)
    | ((with_reducible refine onBool_split (fun h => ?_) (fun h => ?_)) <;> conv => whnf)
    | ((with_reducible refine call_goG ?_); (first | refine call_stepG (Run.toG (run_view (c45 (l[k]'(by omega)) (hb _ (List.getElem_mem _)).1 (by have := (hb _ (List.getElem_mem (l := l) (n := k) (by omega))).2; omega)) rfl rfl)) ?_ | refine call_stepG (run_viewG (g85b (l[k]'(by omega)).act (fact51 (by assumption)).1) rfl rfl) ?_); conv => whnf)
    | (refine ⟨[], [(7, 4)], (by decide +kernel), ?_⟩; conv => whnf)
    | ((with_reducible refine loop_go ?_); first | (refine loop2 (fun (k : Nat) (acc : Bs) => l.length - k) (fun (k : Nat) (acc : Bs) => k ≤ l.length ∧ acc.length ≤ 205 * k ∧ acc = (l.take k).flatMap recB ∧ encErr l = encErr (l.drop k)) (fun (k : Nat) (acc : Bs) => [(4, .sl 0 0 acc.length 1 none), (10, .d (.fs (l.map Rec.enc))), (11, .d (i l.length)), (12, .d (i k))]) (fun (k : Nat) (acc : Bs) => [⟨acc.map byteV, 1, 0⟩]) (0) ([]) (by exact ⟨Nat.zero_le _, Nat.zero_le _, rfl, rfl⟩) ?_ (fun k acc C hI hC => ?_); (exact ⟨[.void 1], rfl, rfl, ⟨⟨rfl, rfl, rfl, rfl⟩, (by first | (show (_ : D) = _; with_reducible rfl) | exact rfl), (by first | (show (_ : D) = _; with_reducible rfl) | exact congrArg (D.int .i64) (by omega) | exact congrArg (D.int .i64) (by simp only [List.length_map]) | exact rfl), (by first | (show (_ : D) = _; with_reducible rfl) | exact congrArg (D.int .i64) (by omega) | exact congrArg (D.int .i64) (by simp only [List.length_map]) | exact rfl), trivial⟩, ⟨⟨rfl, rfl, (by decide), rfl⟩, trivial⟩⟩); all_goals (conv => whnf)))
    | ((with_reducible show C _ _); first | (refine hC (k + 1) (acc ++ recB l[k]) _ _ ?_ (by omega) ?_; clear hC; rotate_left; (exact ⟨[.old 4], rfl, rfl, ⟨⟨rfl, rfl, (by have hq := fact47 (x := l[k]) (by assumption); have := sz_nSz l[k]; simp only [List.length_map, List.length_append, List.length_cons, List.length_nil, List.length_replicate, recB_length]; omega), rfl, rfl⟩, (by first | (show (_ : D) = _; with_reducible rfl) | exact rfl), (by first | (show (_ : D) = _; with_reducible rfl) | exact congrArg (D.int .i64) (by omega) | exact congrArg (D.int .i64) (by simp only [List.length_map]) | exact rfl), (by first | (show (_ : D) = _; with_reducible rfl) | exact congrArg (D.int .i64) (by omega) | exact congrArg (D.int .i64) (by simp only [List.length_map]) | exact rfl), trivial⟩, ⟨wkO_bytes (acc ++ recB l[k]) rfl rfl rfl (by exact fin47z (by assumption) rfl (by (try simp only [List.length_map, List.length_cons, List.length_nil]) <;> rfl) (by simp only [List.length_map, List.length_append, List.length_cons, List.length_nil]; omega) (by first | assumption | (simp only [List.length_map, List.length_append, List.length_cons, List.length_nil, List.length_replicate] at *; omega))) rfl, trivial⟩⟩); (exact ⟨by omega, by rw [List.length_append, recB_length]; have hq := fact47 (x := l[k]) (by assumption); have := sz_nSz l[k]; omega, by rw [flat_take (by omega), ← hI.2.2.1], by rw [hI.2.2.2, encErr_drop (by omega), if_pos (by assumption)]⟩)) | (refine hC (k + 1) (acc ++ recB l[k]) _ _ ?_ (by omega) ?_; clear hC; rotate_left; (exact ⟨[.old 5], rfl, rfl, ⟨⟨rfl, rfl, (by have hq := fact47 (x := l[k]) (by assumption); have := sz_nSz l[k]; simp only [List.length_map, List.length_append, List.length_cons, List.length_nil, List.length_replicate, recB_length]; omega), rfl, rfl⟩, (by first | (show (_ : D) = _; with_reducible rfl) | exact rfl), (by first | (show (_ : D) = _; with_reducible rfl) | exact congrArg (D.int .i64) (by omega) | exact congrArg (D.int .i64) (by simp only [List.length_map]) | exact rfl), (by first | (show (_ : D) = _; with_reducible rfl) | exact congrArg (D.int .i64) (by omega) | exact congrArg (D.int .i64) (by simp only [List.length_map]) | exact rfl), trivial⟩, ⟨wkO_bytes (acc ++ recB l[k]) rfl rfl rfl (by exact fin47 (by assumption) (by (try simp only [List.length_map, List.length_cons, List.length_nil]) <;> rfl)) rfl, trivial⟩⟩); (exact ⟨by omega, by rw [List.length_append, recB_length]; have hq := fact47 (x := l[k]) (by assumption); have := sz_nSz l[k]; omega, by rw [flat_take (by omega), ← hI.2.2.1], by rw [hI.2.2.2, encErr_drop (by omega), if_pos (by assumption)]⟩)))
    | (refine ⟨⟨(by first | rfl | (simp; done)), cap_ok (by simp only [List.length_map, List.length_cons, List.length_nil, List.length_append]; omega) rfl⟩, ?_⟩; conv => whnf)
    | (refine ⟨mem_one ⟨rfl, rfl⟩, ?_⟩; conv => whnf)
    | (refine ⟨(by intro y hy; obtain ⟨x, _, rfl⟩ := List.mem_map.1 hy; first | rfl | exact ⟨rfl, rfl⟩), ?_⟩; conv => whnf)
    | (refine ⟨cap_ok (by first | omega | (simp only [List.length_map]; omega)) rfl, ?_⟩; conv => whnf)
    | (refine ix_map (by omega) ?_; conv => whnf)
    | (refine ix_str (by omega) ?_; conv => whnf)
    | (refine wrap64 (by omega) ?_; conv => whnf)
    | (refine wrapU8n ?_; conv => whnf)
    | (refine wrap64 (by have hq := fact47 (x := l[k]'(by omega)) (by assumption); (try simp only [List.length_map, List.length_cons, List.length_nil, List.length_append, List.length_replicate]); omega) ?_; conv => whnf)
    | (refine wr_u64 (by have hq := fact47 (x := l[k]'(by omega)) (by assumption); omega) ?_; conv => whnf)
    | (refine wr_u8 (by have hq := fact47 (x := l[k]'(by omega)) (by assumption); omega) ?_; conv => whnf)
    | (refine ⟨Nat.le_refl _, ?_⟩; conv => whnf)
    | (refine ⟨capI (by have hq := fact47 (x := l[k]'(by omega)) (by assumption); (try simp only [List.length_map, List.length_cons, List.length_nil, List.length_append, List.length_replicate]); omega) rfl, ?_⟩; conv => whnf)
    | (refine ⟨⟨(by have hq := fact47 (x := l[k]'(by omega)) (by assumption); (try simp only [List.length_map, List.length_cons, List.length_nil, List.length_append, List.length_replicate]); omega), cap_ok (by have hq := fact47 (x := l[k]'(by omega)) (by assumption); (try simp only [List.length_map, List.length_cons, List.length_nil, List.length_append, List.length_replicate]); omega) rfl⟩, ?_⟩; conv => whnf)
    | (refine ⟨cap_ok (by have hq := fact47 (x := l[k]'(by omega)) (by assumption); (try simp only [List.length_map, List.length_cons, List.length_nil, List.length_append, List.length_replicate]); omega) rfl, ?_⟩; conv => whnf)
    | (refine ⟨acc, ⟨(by simp), (by rw [List.drop_zero]; exact List.take_of_length_le (by simp))⟩, ?_⟩; conv => whnf)
    | (refine wrap64 (by omega) ?_; conv => whnf)
    | (exfalso; simp only [List.length_map, List.length_cons, List.length_nil, List.length_append] at h; omega)
    | ((with_reducible refine endx_go ?_); first | (refine endx2 ?_; have h9 : encErr l = szErr l[k] := (by rw [hI.2.2.2, encErr_drop (by omega), if_neg h]); rw [h9, if_neg h]; done) | (refine endx2 ?_; have h9 : encErr l = 0 := (by rw [hI.2.2.2, encErr_end (by omega)]); rw [h9, if_pos rfl, hI.2.2.1, List.take_of_length_le (by omega)]; done))
    | (refine ⟨rfl, ?_⟩; conv => whnf)
    | fail
    )

end Go.Proofs.YtbkmjpmgiaiacaaGreatDoor

/-! Wp -/
namespace Go.Proofs.YtbkmjpmgiaiacaaGreatDoor
open Go Dw
set_option maxRecDepth 10000
set_option linter.unusedVariables false
set_option linter.unusedSimpArgs false
attribute [local irreducible] Run
set_option maxHeartbeats 4000000

open Paths
attribute [local irreducible] nameErr isAct hasBit bitI szErr szOr recB leB RunG decode encErr sz
theorem g47v {l : List Rec} {t : Bs} {e : Int} (h : GFn 47 [.fs (l.map Rec.enc)] (.tup [.str t, i e])) {H : Heap} {id : Nat} (hi : H[id]? = some ⟨(l.map Rec.enc).map .d, 2, 0⟩) {n : Nat} (hn : n = l.length) {c : Option Nat} : RunG Tryz.prog GT 47 [.sl id 0 n 2 c] H (.d (.tup [.str t, i e])) H := by
  subst hn
  exact run_viewG h rfl (vlc (view_map hi Nat.two_pos) vln)
theorem hbs {l : List Rec} {k : Nat} (h : ¬ (k : Int) < l.length) (hI : ∀ x ∈ l.take k, x.path.length ≤ 300) (ha : ∀ x ∈ l, x.act < 9223372036854775808) : ∀ x ∈ l, x.act < 9223372036854775808 ∧ x.path.length < 1000000 := by
  rw [List.take_of_length_le (by omega)] at hI
  exact fun x hx => ⟨ha x hx, by have := hI x hx; omega⟩
theorem take_300 {l : List Rec} {k : Nat} (hI : ∀ x ∈ l.take k, x.path.length ≤ 300) (hk : k < l.length) (h : ¬ (300 : Int) < l[k].path.length) : ∀ x ∈ l.take (k + 1), x.path.length ≤ 300 := by
  rw [List.take_succ_eq_append_getElem hk]
  intro x hx
  rcases List.mem_append.1 hx with hx | hx
  · exact hI x hx
  · rw [List.mem_singleton.1 hx]; omega
theorem g47e {l : List Rec} (hl : l.length ≤ 20) (he : ¬ encErr l = 0) (hb : ∀ x ∈ l, x.act < 9223372036854775808 ∧ x.path.length < 1000000) : GFn 47 [.fs (l.map Rec.enc)] (.tup [.str [], i (encErr l)]) := by
  have := c47 l (by omega) hb
  rwa [if_neg he] at this
theorem g47o {l : List Rec} (hl : l.length ≤ 20) (he : encErr l = 0) (hb : ∀ x ∈ l, x.act < 9223372036854775808 ∧ x.path.length < 1000000) : GFn 47 [.fs (l.map Rec.enc)] (.tup [.str (l.flatMap recB), i 0]) := by
  have := c47 l (by omega) hb
  rwa [if_pos he, he] at this
theorem g47d {s : Bs} (hs : s.length ≤ 600) (hd : (decode s).2 = 0) : GFn 47 [.fs ((decode s).1.map Rec.enc)] (.tup [.str s, i 0]) := by
  have h1 := decode_small s
  obtain ⟨h2, h3⟩ := decode_ok hd
  have := c47 (decode s).1 (by omega) (fun x hx => ⟨by
    have := fact47 (encErr_mem h3 x hx); omega, by have := h1.2 x hx; omega⟩)
  rwa [if_pos h3, h2, h3] at this
theorem c48d {l : List Rec} (hl : l.length ≤ 20) (he : encErr l = 0) : Fn 48 [.str (l.flatMap recB)] (.tup [.fs (l.map Rec.enc), i 0]) := by
  have := c48 (l.flatMap recB) (by have := flat_len (encErr_mem he); omega)
  rwa [decode_enc he] at this
theorem c51d {l : List Rec} (hl : l.length ≤ 20) (he : encErr l = 0) : Fn 51 [.fs (l.map Rec.enc)] (.str (l.flatMap recB)) := c51 l (by omega) (encErr_mem he)
theorem szOr_ok {x : Rec} (h : szErr x = 0) : szOr x = sz x := by unfold szOr; rw [if_pos h]
theorem szOr_no {x : Rec} (h : ¬ szErr x = 0) : szOr x = 0 := by unfold szOr; rw [if_neg h]

theorem c10a (l : List Rec) (s : Bs) (ha : ∀ x ∈ l, x.act < 9223372036854775808) (he : encErr l = 0) (hd : (decode s).2 = 0) : GFn 10 [.fs (l.map Rec.enc), .str s] (.bool true) := by
  refine run_walkG eok Tryz.func10 rfl (by kernel_rfl) ?_
  conv => whnf
  repeat' (first
    | ((with_reducible refine on_dec_t (by assumption) ?_); conv => whnf)
    | ((with_reducible refine on_dec_f (by assumption) ?_); conv => whnf)
    | ((with_reducible refine onBool_t (by assumption) ?_); conv => whnf)
    | ((with_reducible refine onBool_f (by assumption) ?_); conv => whnf)
    | ((with_reducible refine on_nt (by assumption) ?_); conv => whnf)
    | ((with_reducible refine on_nf (by assumption) ?_); conv => whnf)
    | ((with_reducible refine on_ndec_t (by first | assumption | rfl) ?_); conv => whnf)
    | ((with_reducible refine on_ndec_f (by assumption) ?_); conv => whnf)
    | ((with_reducible refine on_dec_t rfl ?_); conv => whnf)
    | ((with_reducible refine on_dec_f ?_ ?_); (focus ((try simp only [List.length_map, List.length_cons, List.length_nil, List.length_append]); omega)); conv => whnf)
    | ((with_reducible refine on_dec_t ?_ ?_); (focus ((try simp only [List.length_map, List.length_cons, List.length_nil, List.length_append]); omega)); conv => whnf)
    | ((with_reducible refine on_dec (fun h => ?_) (fun h => ?_)) <;> (try simp only [List.length_map] at h) <;> conv => whnf)
    | ((with_reducible refine on_ndec (fun h => ?_) (fun h => ?_)) <;> (try simp only [List.length_map] at h) <;> conv => whnf)
    | ((with_reducible refine on_not (fun h => ?_) (fun h => ?_)) <;> conv => whnf)
    | ((with_reducible refine onBool_split (fun h => ?_) (fun h => ?_)) <;> conv => whnf)
    | ((with_reducible refine call_goG ?_); (first | refine call_stepG (Run.toG (run_view c11 rfl rfl)) ?_ | refine call_stepG (Run.toG (run_view (c45 (l[k]'(by omega)) (ha _ (List.getElem_mem _)) (by omega)) rfl rfl)) ?_ | refine call_stepG (Run.toG (run_view (c46 _) rfl rfl)) ?_ | refine call_stepG (Run.toG (run_view (c32 (l[k]'(by omega)) (by omega)) rfl rfl)) ?_ | refine call_stepG (g47v (g47o (l := l) (by omega) he (hbs (k := k) (by assumption) hI.2 ha)) rfl (by simp only [List.length_map, List.length_nil] <;> omega)) ?_ | refine call_stepG (g47v (g47d (s := s) (by omega) hd) rfl (by simp only [List.length_map, List.length_nil] <;> omega)) ?_ | refine call_stepG (Run.toG (run_viewF (c48 s (by omega)) rfl)) ?_ | refine call_stepG (Run.toG (run_viewF (c48d (l := l) (by omega) he) rfl)) ?_ | refine call_stepG (Run.toG (run_viewF (c49 s (by omega)) rfl)) ?_ | refine call_stepG (Run.toG (run_view (c29 (decode s).1 (decode s).1 (by have := decode_small s; omega) (by have := decode_small s; omega)) rfl rfl)) ?_ | refine call_stepG (Run.toG (run_view (c29 l l (by omega) (by omega)) rfl rfl)) ?_ | refine call_stepG (Run.toG (run_view (c50 l (by omega)) rfl rfl)) ?_ | refine call_stepG (Run.toG (run_view (c51d (l := l) (by omega) he) rfl rfl)) ?_); conv => whnf)
    | ((with_reducible refine loop_go ?_); first | (refine loop1 (fun (k : Nat) => l.length - k) (fun (k : Nat) => k ≤ l.length ∧ ∀ x ∈ l.take k, x.path.length ≤ 300) (fun (k : Nat) => [(0, .d (.fs (l.map Rec.enc))), (1, .d (.str s)), (5, .d (i k))]) (fun (k : Nat) => []) (0) (by exact ⟨Nat.zero_le _, fun x hx => (by cases hx)⟩) ?_ (fun k C hI hC => ?_); (exact ⟨[], rfl, rfl, ⟨(by first | (show (_ : D) = _; with_reducible rfl) | exact rfl), (by first | (show (_ : D) = _; with_reducible rfl) | exact rfl), (by first | (show (_ : D) = _; with_reducible rfl) | exact congrArg (D.int .i64) (by omega) | exact congrArg (D.int .i64) (by simp only [List.length_map]) | exact rfl), trivial⟩, trivial⟩); all_goals (conv => whnf)))
    | ((with_reducible show C _ _); first | (refine hC (k + 1) _ _ ?_ (by omega) ?_; clear hC; rotate_left; (exact ⟨[], rfl, rfl, ⟨(by first | (show (_ : D) = _; with_reducible rfl) | exact rfl), (by first | (show (_ : D) = _; with_reducible rfl) | exact rfl), (by first | (show (_ : D) = _; with_reducible rfl) | exact congrArg (D.int .i64) (by omega) | exact congrArg (D.int .i64) (by simp only [List.length_map]) | exact rfl), trivial⟩, trivial⟩); (exact ⟨by omega, take_300 hI.2 (by omega) (by assumption)⟩)))
    | (refine ⟨⟨(by first | rfl | (simp; done)), cap_ok (by simp only [List.length_map, List.length_cons, List.length_nil, List.length_append]; omega) rfl⟩, ?_⟩; conv => whnf)
    | (refine ⟨mem_one ⟨rfl, rfl⟩, ?_⟩; conv => whnf)
    | (refine ⟨(by intro y hy; obtain ⟨x, _, rfl⟩ := List.mem_map.1 hy; first | rfl | exact ⟨rfl, rfl⟩), ?_⟩; conv => whnf)
    | (refine ⟨cap_ok (by first | omega | (simp only [List.length_map]; omega)) rfl, ?_⟩; conv => whnf)
    | (refine ix_map (by omega) ?_; conv => whnf)
    | (refine ix_str (by omega) ?_; conv => whnf)
    | (refine wrap64 (by omega) ?_; conv => whnf)
    | (refine ⟨Nat.le_refl _, ?_⟩; conv => whnf)
    | (refine ⟨⟨(by simp only [List.length_map, List.length_append]; omega), cap_ok (by have := decode_small s; simp only [List.length_map, List.length_cons, List.length_nil, List.length_append]; omega) rfl⟩, ?_⟩; conv => whnf)
    | (refine ⟨cap_ok (by have := decode_small s; simp only [List.length_map, List.length_cons, List.length_nil, List.length_append]; omega) rfl, ?_⟩; conv => whnf)
    | (refine wrap64 (by omega) ?_; conv => whnf)
    | (exfalso; simp only [List.length_map, List.length_cons, List.length_nil, List.length_append] at h; omega)
    | ((with_reducible refine endx_go ?_); first | (exact absurd (szOr_no (by assumption)) h; done) | (exact absurd (szOr_ok (by assumption)) h; done) | (exact endx rfl; done) | (refine endx (congrArg D.bool ?_); simp; done))
    | (refine ⟨rfl, ?_⟩; conv => whnf)
    | fail
    )

theorem c10b (l : List Rec) (s : Bs) (ha : ∀ x ∈ l, x.act < 9223372036854775808) (he : encErr l = 0) (hd : ¬ (decode s).2 = 0) : GFn 10 [.fs (l.map Rec.enc), .str s] (.bool true) := by
  refine run_walkG eok Tryz.func10 rfl (by kernel_rfl) ?_
  conv => whnf
  repeat' (first
    | ((with_reducible refine on_dec_t (by assumption) ?_); conv => whnf)
    | ((with_reducible refine on_dec_f (by assumption) ?_); conv => whnf)
    | ((with_reducible refine onBool_t (by assumption) ?_); conv => whnf)
    | ((with_reducible refine onBool_f (by assumption) ?_); conv => whnf)
    | ((with_reducible refine on_nt (by assumption) ?_); conv => whnf)
    | ((with_reducible refine on_nf (by assumption) ?_); conv => whnf)
    | ((with_reducible refine on_ndec_t (by first | assumption | rfl) ?_); conv => whnf)
    | ((with_reducible refine on_ndec_f (by assumption) ?_); conv => whnf)
    | ((with_reducible refine on_dec_t rfl ?_); conv => whnf)
    | ((with_reducible refine on_dec_f ?_ ?_); (focus ((try simp only [List.length_map, List.length_cons, List.length_nil, List.length_append]); omega)); conv => whnf)
    | ((with_reducible refine on_dec_t ?_ ?_); (focus ((try simp only [List.length_map, List.length_cons, List.length_nil, List.length_append]); omega)); conv => whnf)
    | ((with_reducible refine on_dec (fun h => ?_) (fun h => ?_)) <;> (try simp only [List.length_map] at h) <;> conv => whnf)
    | ((with_reducible refine on_ndec (fun h => ?_) (fun h => ?_)) <;> (try simp only [List.length_map] at h) <;> conv => whnf)
    | ((with_reducible refine on_not (fun h => ?_) (fun h => ?_)) <;> conv => whnf)
    | ((with_reducible refine onBool_split (fun h => ?_) (fun h => ?_)) <;> conv => whnf)
    | ((with_reducible refine call_goG ?_); (first | refine call_stepG (Run.toG (run_view c11 rfl rfl)) ?_ | refine call_stepG (Run.toG (run_view (c45 (l[k]'(by omega)) (ha _ (List.getElem_mem _)) (by omega)) rfl rfl)) ?_ | refine call_stepG (Run.toG (run_view (c46 _) rfl rfl)) ?_ | refine call_stepG (Run.toG (run_view (c32 (l[k]'(by omega)) (by omega)) rfl rfl)) ?_ | refine call_stepG (g47v (g47o (l := l) (by omega) he (hbs (k := k) (by assumption) hI.2 ha)) rfl (by simp only [List.length_map, List.length_nil] <;> omega)) ?_ | refine call_stepG (g47v (g47d (s := s) (by omega) hd) rfl (by simp only [List.length_map, List.length_nil] <;> omega)) ?_ | refine call_stepG (Run.toG (run_viewF (c48 s (by omega)) rfl)) ?_ | refine call_stepG (Run.toG (run_viewF (c48d (l := l) (by omega) he) rfl)) ?_ | refine call_stepG (Run.toG (run_viewF (c49 s (by omega)) rfl)) ?_ | refine call_stepG (Run.toG (run_view (c29 (decode s).1 (decode s).1 (by have := decode_small s; omega) (by have := decode_small s; omega)) rfl rfl)) ?_ | refine call_stepG (Run.toG (run_view (c29 l l (by omega) (by omega)) rfl rfl)) ?_ | refine call_stepG (Run.toG (run_view (c50 l (by omega)) rfl rfl)) ?_ | refine call_stepG (Run.toG (run_view (c51d (l := l) (by omega) he) rfl rfl)) ?_); conv => whnf)
    | ((with_reducible refine loop_go ?_); first | (refine loop1 (fun (k : Nat) => l.length - k) (fun (k : Nat) => k ≤ l.length ∧ ∀ x ∈ l.take k, x.path.length ≤ 300) (fun (k : Nat) => [(0, .d (.fs (l.map Rec.enc))), (1, .d (.str s)), (5, .d (i k))]) (fun (k : Nat) => []) (0) (by exact ⟨Nat.zero_le _, fun x hx => (by cases hx)⟩) ?_ (fun k C hI hC => ?_); (exact ⟨[], rfl, rfl, ⟨(by first | (show (_ : D) = _; with_reducible rfl) | exact rfl), (by first | (show (_ : D) = _; with_reducible rfl) | exact rfl), (by first | (show (_ : D) = _; with_reducible rfl) | exact congrArg (D.int .i64) (by omega) | exact congrArg (D.int .i64) (by simp only [List.length_map]) | exact rfl), trivial⟩, trivial⟩); all_goals (conv => whnf)))
    | ((with_reducible show C _ _); first | (refine hC (k + 1) _ _ ?_ (by omega) ?_; clear hC; rotate_left; (exact ⟨[], rfl, rfl, ⟨(by first | (show (_ : D) = _; with_reducible rfl) | exact rfl), (by first | (show (_ : D) = _; with_reducible rfl) | exact rfl), (by first | (show (_ : D) = _; with_reducible rfl) | exact congrArg (D.int .i64) (by omega) | exact congrArg (D.int .i64) (by simp only [List.length_map]) | exact rfl), trivial⟩, trivial⟩); (exact ⟨by omega, take_300 hI.2 (by omega) (by assumption)⟩)))
    | (refine ⟨⟨(by first | rfl | (simp; done)), cap_ok (by simp only [List.length_map, List.length_cons, List.length_nil, List.length_append]; omega) rfl⟩, ?_⟩; conv => whnf)
    | (refine ⟨mem_one ⟨rfl, rfl⟩, ?_⟩; conv => whnf)
    | (refine ⟨(by intro y hy; obtain ⟨x, _, rfl⟩ := List.mem_map.1 hy; first | rfl | exact ⟨rfl, rfl⟩), ?_⟩; conv => whnf)
    | (refine ⟨cap_ok (by first | omega | (simp only [List.length_map]; omega)) rfl, ?_⟩; conv => whnf)
    | (refine ix_map (by omega) ?_; conv => whnf)
    | (refine ix_str (by omega) ?_; conv => whnf)
    | (refine wrap64 (by omega) ?_; conv => whnf)
    | (refine ⟨Nat.le_refl _, ?_⟩; conv => whnf)
    | (refine ⟨⟨(by simp only [List.length_map, List.length_append]; omega), cap_ok (by have := decode_small s; simp only [List.length_map, List.length_cons, List.length_nil, List.length_append]; omega) rfl⟩, ?_⟩; conv => whnf)
    | (refine ⟨cap_ok (by have := decode_small s; simp only [List.length_map, List.length_cons, List.length_nil, List.length_append]; omega) rfl, ?_⟩; conv => whnf)
    | (refine wrap64 (by omega) ?_; conv => whnf)
    | (exfalso; simp only [List.length_map, List.length_cons, List.length_nil, List.length_append] at h; omega)
    | ((with_reducible refine endx_go ?_); first | (exact absurd (szOr_no (by assumption)) h; done) | (exact absurd (szOr_ok (by assumption)) h; done) | (exact endx rfl; done) | (refine endx (congrArg D.bool ?_); simp; done))
    | (refine ⟨rfl, ?_⟩; conv => whnf)
    | fail
    )

theorem c10c (l : List Rec) (s : Bs) (ha : ∀ x ∈ l, x.act < 9223372036854775808) (he : ¬ encErr l = 0) (hd : (decode s).2 = 0) : GFn 10 [.fs (l.map Rec.enc), .str s] (.bool true) := by
  refine run_walkG eok Tryz.func10 rfl (by kernel_rfl) ?_
  conv => whnf
  repeat' (first
    | ((with_reducible refine on_dec_t (by assumption) ?_); conv => whnf)
    | ((with_reducible refine on_dec_f (by assumption) ?_); conv => whnf)
    | ((with_reducible refine onBool_t (by assumption) ?_); conv => whnf)
    | ((with_reducible refine onBool_f (by assumption) ?_); conv => whnf)
    | ((with_reducible refine on_nt (by assumption) ?_); conv => whnf)
    | ((with_reducible refine on_nf (by assumption) ?_); conv => whnf)
    | ((with_reducible refine on_ndec_t (by first | assumption | rfl) ?_); conv => whnf)
    | ((with_reducible refine on_ndec_f (by assumption) ?_); conv => whnf)
    | ((with_reducible refine on_dec_t rfl ?_); conv => whnf)
    | ((with_reducible refine on_dec_f ?_ ?_); (focus ((try simp only [List.length_map, List.length_cons, List.length_nil, List.length_append]); omega)); conv => whnf)
    | ((with_reducible refine on_dec_t ?_ ?_); (focus ((try simp only [List.length_map, List.length_cons, List.length_nil, List.length_append]); omega)); conv => whnf)
    | ((with_reducible refine on_dec (fun h => ?_) (fun h => ?_)) <;> (try simp only [List.length_map] at h) <;> conv => whnf)
    | ((with_reducible refine on_ndec (fun h => ?_) (fun h => ?_)) <;> (try simp only [List.length_map] at h) <;> conv => whnf)
    | ((with_reducible refine on_not (fun h => ?_) (fun h => ?_)) <;> conv => whnf)
    | ((with_reducible refine onBool_split (fun h => ?_) (fun h => ?_)) <;> conv => whnf)
    | ((with_reducible refine call_goG ?_); (first | refine call_stepG (Run.toG (run_view c11 rfl rfl)) ?_ | refine call_stepG (Run.toG (run_view (c45 (l[k]'(by omega)) (ha _ (List.getElem_mem _)) (by omega)) rfl rfl)) ?_ | refine call_stepG (Run.toG (run_view (c46 _) rfl rfl)) ?_ | refine call_stepG (Run.toG (run_view (c32 (l[k]'(by omega)) (by omega)) rfl rfl)) ?_ | refine call_stepG (g47v (g47e (l := l) (by omega) he (hbs (k := k) (by assumption) hI.2 ha)) rfl (by simp only [List.length_map, List.length_nil] <;> omega)) ?_ | refine call_stepG (g47v (g47d (s := s) (by omega) hd) rfl (by simp only [List.length_map, List.length_nil] <;> omega)) ?_ | refine call_stepG (Run.toG (run_viewF (c48 s (by omega)) rfl)) ?_ | refine call_stepG (Run.toG (run_viewF (c49 s (by omega)) rfl)) ?_ | refine call_stepG (Run.toG (run_view (c29 (decode s).1 (decode s).1 (by have := decode_small s; omega) (by have := decode_small s; omega)) rfl rfl)) ?_ | refine call_stepG (Run.toG (run_view (c29 l l (by omega) (by omega)) rfl rfl)) ?_ | refine call_stepG (Run.toG (run_view (c50 l (by omega)) rfl rfl)) ?_ | refine call_stepG (Run.toG (run_view (c51 l) rfl rfl)) ?_); conv => whnf)
    | ((with_reducible refine loop_go ?_); first | (refine loop1 (fun (k : Nat) => l.length - k) (fun (k : Nat) => k ≤ l.length ∧ ∀ x ∈ l.take k, x.path.length ≤ 300) (fun (k : Nat) => [(0, .d (.fs (l.map Rec.enc))), (1, .d (.str s)), (5, .d (i k))]) (fun (k : Nat) => []) (0) (by exact ⟨Nat.zero_le _, fun x hx => (by cases hx)⟩) ?_ (fun k C hI hC => ?_); (exact ⟨[], rfl, rfl, ⟨(by first | (show (_ : D) = _; with_reducible rfl) | exact rfl), (by first | (show (_ : D) = _; with_reducible rfl) | exact rfl), (by first | (show (_ : D) = _; with_reducible rfl) | exact congrArg (D.int .i64) (by omega) | exact congrArg (D.int .i64) (by simp only [List.length_map]) | exact rfl), trivial⟩, trivial⟩); all_goals (conv => whnf)))
    | ((with_reducible show C _ _); first | (refine hC (k + 1) _ _ ?_ (by omega) ?_; clear hC; rotate_left; (exact ⟨[], rfl, rfl, ⟨(by first | (show (_ : D) = _; with_reducible rfl) | exact rfl), (by first | (show (_ : D) = _; with_reducible rfl) | exact rfl), (by first | (show (_ : D) = _; with_reducible rfl) | exact congrArg (D.int .i64) (by omega) | exact congrArg (D.int .i64) (by simp only [List.length_map]) | exact rfl), trivial⟩, trivial⟩); (exact ⟨by omega, take_300 hI.2 (by omega) (by assumption)⟩)))
    | (refine ⟨⟨(by first | rfl | (simp; done)), cap_ok (by simp only [List.length_map, List.length_cons, List.length_nil, List.length_append]; omega) rfl⟩, ?_⟩; conv => whnf)
    | (refine ⟨mem_one ⟨rfl, rfl⟩, ?_⟩; conv => whnf)
    | (refine ⟨(by intro y hy; obtain ⟨x, _, rfl⟩ := List.mem_map.1 hy; first | rfl | exact ⟨rfl, rfl⟩), ?_⟩; conv => whnf)
    | (refine ⟨cap_ok (by first | omega | (simp only [List.length_map]; omega)) rfl, ?_⟩; conv => whnf)
    | (refine ix_map (by omega) ?_; conv => whnf)
    | (refine ix_str (by omega) ?_; conv => whnf)
    | (refine wrap64 (by omega) ?_; conv => whnf)
    | (refine ⟨Nat.le_refl _, ?_⟩; conv => whnf)
    | (refine ⟨⟨(by simp only [List.length_map, List.length_append]; omega), cap_ok (by have := decode_small s; simp only [List.length_map, List.length_cons, List.length_nil, List.length_append]; omega) rfl⟩, ?_⟩; conv => whnf)
    | (refine ⟨cap_ok (by have := decode_small s; simp only [List.length_map, List.length_cons, List.length_nil, List.length_append]; omega) rfl, ?_⟩; conv => whnf)
    | (refine wrap64 (by omega) ?_; conv => whnf)
    | (exfalso; simp only [List.length_map, List.length_cons, List.length_nil, List.length_append] at h; omega)
    | ((with_reducible refine endx_go ?_); first | (exact absurd (szOr_no (by assumption)) h; done) | (exact absurd (szOr_ok (by assumption)) h; done) | (exact endx rfl; done) | (refine endx (congrArg D.bool ?_); simp; done))
    | (refine ⟨rfl, ?_⟩; conv => whnf)
    | fail
    )

theorem c10d (l : List Rec) (s : Bs) (ha : ∀ x ∈ l, x.act < 9223372036854775808) (he : ¬ encErr l = 0) (hd : ¬ (decode s).2 = 0) : GFn 10 [.fs (l.map Rec.enc), .str s] (.bool true) := by
  refine run_walkG eok Tryz.func10 rfl (by kernel_rfl) ?_
  conv => whnf
  repeat' (first
    | ((with_reducible refine on_dec_t (by assumption) ?_); conv => whnf)
    | ((with_reducible refine on_dec_f (by assumption) ?_); conv => whnf)
    | ((with_reducible refine onBool_t (by assumption) ?_); conv => whnf)
    | ((with_reducible refine onBool_f (by assumption) ?_); conv => whnf)
    | ((with_reducible refine on_nt (by assumption) ?_); conv => whnf)
    | ((with_reducible refine on_nf (by assumption) ?_); conv => whnf)
    | ((with_reducible refine on_ndec_t (by first | assumption | rfl) ?_); conv => whnf)
    | ((with_reducible refine on_ndec_f (by assumption) ?_); conv => whnf)
    | ((with_reducible refine on_dec_t rfl ?_); conv => whnf)
    | ((with_reducible refine on_dec_f ?_ ?_); (focus ((try simp only [List.length_map, List.length_cons, List.length_nil, List.length_append]); omega)); conv => whnf)
    | ((with_reducible refine on_dec_t ?_ ?_); (focus ((try simp only [List.length_map, List.length_cons, List.length_nil, List.length_append]); omega)); conv => whnf)
    | ((with_reducible refine on_dec (fun h => ?_) (fun h => ?_)) <;> (try simp only [List.length_map] at h) <;> conv => whnf)
    | ((with_reducible refine on_ndec (fun h => ?_) (fun h => ?_)) <;> (try simp only [List.length_map] at h) <;> conv => whnf)
    | ((with_reducible refine on_not (fun h => ?_) (fun h => ?_)) <;> conv => whnf)
    | ((with_reducible refine onBool_split (fun h => ?_) (fun h => ?_)) <;> conv => whnf)
    | ((with_reducible refine call_goG ?_); (first | refine call_stepG (Run.toG (run_view c11 rfl rfl)) ?_ | refine call_stepG (Run.toG (run_view (c45 (l[k]'(by omega)) (ha _ (List.getElem_mem _)) (by omega)) rfl rfl)) ?_ | refine call_stepG (Run.toG (run_view (c46 _) rfl rfl)) ?_ | refine call_stepG (Run.toG (run_view (c32 (l[k]'(by omega)) (by omega)) rfl rfl)) ?_ | refine call_stepG (g47v (g47e (l := l) (by omega) he (hbs (k := k) (by assumption) hI.2 ha)) rfl (by simp only [List.length_map, List.length_nil] <;> omega)) ?_ | refine call_stepG (g47v (g47d (s := s) (by omega) hd) rfl (by simp only [List.length_map, List.length_nil] <;> omega)) ?_ | refine call_stepG (Run.toG (run_viewF (c48 s (by omega)) rfl)) ?_ | refine call_stepG (Run.toG (run_viewF (c49 s (by omega)) rfl)) ?_ | refine call_stepG (Run.toG (run_view (c29 (decode s).1 (decode s).1 (by have := decode_small s; omega) (by have := decode_small s; omega)) rfl rfl)) ?_ | refine call_stepG (Run.toG (run_view (c29 l l (by omega) (by omega)) rfl rfl)) ?_ | refine call_stepG (Run.toG (run_view (c50 l (by omega)) rfl rfl)) ?_ | refine call_stepG (Run.toG (run_view (c51 l) rfl rfl)) ?_); conv => whnf)
    | ((with_reducible refine loop_go ?_); first | (refine loop1 (fun (k : Nat) => l.length - k) (fun (k : Nat) => k ≤ l.length ∧ ∀ x ∈ l.take k, x.path.length ≤ 300) (fun (k : Nat) => [(0, .d (.fs (l.map Rec.enc))), (1, .d (.str s)), (5, .d (i k))]) (fun (k : Nat) => []) (0) (by exact ⟨Nat.zero_le _, fun x hx => (by cases hx)⟩) ?_ (fun k C hI hC => ?_); (exact ⟨[], rfl, rfl, ⟨(by first | (show (_ : D) = _; with_reducible rfl) | exact rfl), (by first | (show (_ : D) = _; with_reducible rfl) | exact rfl), (by first | (show (_ : D) = _; with_reducible rfl) | exact congrArg (D.int .i64) (by omega) | exact congrArg (D.int .i64) (by simp only [List.length_map]) | exact rfl), trivial⟩, trivial⟩); all_goals (conv => whnf)))
    | ((with_reducible show C _ _); first | (refine hC (k + 1) _ _ ?_ (by omega) ?_; clear hC; rotate_left; (exact ⟨[], rfl, rfl, ⟨(by first | (show (_ : D) = _; with_reducible rfl) | exact rfl), (by first | (show (_ : D) = _; with_reducible rfl) | exact rfl), (by first | (show (_ : D) = _; with_reducible rfl) | exact congrArg (D.int .i64) (by omega) | exact congrArg (D.int .i64) (by simp only [List.length_map]) | exact rfl), trivial⟩, trivial⟩); (exact ⟨by omega, take_300 hI.2 (by omega) (by assumption)⟩)))
    | (refine ⟨⟨(by first | rfl | (simp; done)), cap_ok (by simp only [List.length_map, List.length_cons, List.length_nil, List.length_append]; omega) rfl⟩, ?_⟩; conv => whnf)
    | (refine ⟨mem_one ⟨rfl, rfl⟩, ?_⟩; conv => whnf)
    | (refine ⟨(by intro y hy; obtain ⟨x, _, rfl⟩ := List.mem_map.1 hy; first | rfl | exact ⟨rfl, rfl⟩), ?_⟩; conv => whnf)
    | (refine ⟨cap_ok (by first | omega | (simp only [List.length_map]; omega)) rfl, ?_⟩; conv => whnf)
    | (refine ix_map (by omega) ?_; conv => whnf)
    | (refine ix_str (by omega) ?_; conv => whnf)
    | (refine wrap64 (by omega) ?_; conv => whnf)
    | (refine ⟨Nat.le_refl _, ?_⟩; conv => whnf)
    | (refine ⟨⟨(by simp only [List.length_map, List.length_append]; omega), cap_ok (by have := decode_small s; simp only [List.length_map, List.length_cons, List.length_nil, List.length_append]; omega) rfl⟩, ?_⟩; conv => whnf)
    | (refine ⟨cap_ok (by have := decode_small s; simp only [List.length_map, List.length_cons, List.length_nil, List.length_append]; omega) rfl, ?_⟩; conv => whnf)
    | (refine wrap64 (by omega) ?_; conv => whnf)
    | (exfalso; simp only [List.length_map, List.length_cons, List.length_nil, List.length_append] at h; omega)
    | ((with_reducible refine endx_go ?_); first | (exact absurd (szOr_no (by assumption)) h; done) | (exact absurd (szOr_ok (by assumption)) h; done) | (exact endx rfl; done) | (refine endx (congrArg D.bool ?_); simp; done))
    | (refine ⟨rfl, ?_⟩; conv => whnf)
    | fail
    )

theorem c10 (l : List Rec) (s : Bs) (ha : ∀ x ∈ l, x.act < 9223372036854775808) : GFn 10 [.fs (l.map Rec.enc), .str s] (.bool true) := by
  by_cases he : encErr l = 0 <;> by_cases hd : (decode s).2 = 0
  · exact c10a l s ha he hd
  · exact c10b l s ha he hd
  · exact c10c l s ha he hd
  · exact c10d l s ha he hd

end Go.Proofs.YtbkmjpmgiaiacaaGreatDoor

/-! Lb -/
namespace Go.Proofs.YtbkmjpmgiaiacaaGreatDoor
open Go Dw Go.ChangeShapes Go.WideShapes Go.RowKit

section
attribute [local irreducible] Run RunG
theorem hrun10 : ∀ xs, shps E 6 Tryz.f10.params.toList xs → RunG Tryz.prog GT 10 (xs.map .d) [] (.d (.bool true)) [] := by
  intro xs h
  obtain ⟨x1, r1, rfl, h1, x2, r2, rfl, h2, rfl⟩ := h
  obtain ⟨l, rfl, ha⟩ := shpRecs h1
  obtain ⟨s, rfl, _⟩ := h2
  exact c10 l s ha
end

set_option maxRecDepth 100000 in
theorem lifted10 (os : Os) (started : os.Started) (H : Type) (enc : TypeId × Value → H) :
    ReturnsInHanded {} Tryz.checked os 10 .any (fun w args => (Rows.notifyBytesSpec.pre enc Tryz.prog Tryz.f10 [] false w args ∧ laidMetH Tryz.prog laid28b w) ∧ sizedMet enc Tryz.prog Tryz.f10 (OpenSpec.ofChange Rows.notifyBytesSpec) false w args)
      (Rows.notifyBytesSpec.post enc Tryz.prog Tryz.f10 false true false false) := by
  refine returnsInHanded_of_change_and (C := Tryz.checked) (X := fun w _ => laidMetH Tryz.prog laid28b w) (fun _ _ _ hh h => h.of_heap hh) own28 started (by kernel_rfl) Tryz.func10
    (ChangeSpec.witness_shaped (enc := enc) (C := Tryz.checked) (os := os) (X := fun w _ => laidMetH Tryz.prog laid28b w) false (wit28 os) #[.slice none 0 0, .string ⟨#[]⟩] 8 rfl (shaped28 os _) (by kernel_rfl) (by kernel_rfl) (by kernel_rfl) (door_met28b os _)) ?_
  intro W base args ds gs before hval hW hX1 hX2 hX3 hX4
  refine law_liftA (n := 6) (t4 := 4) eok Tryz.func10 (by kernel_rfl) rfl laidOut28 rfl ?_ rfl Tryz.underlying4 (by kernel_rfl) W (fun xs h => hrun10 xs h W.heap.size W (gt_laid (by assumption))) base args ds gs before hval hW
  intro H ds hds
  match ds, hds with
  | [a, b], _ => rfl

theorem over10 : Rows.NotifyBytesSaid :=
  OpenClaim.holds_of_wide 10 Tryz.f10 rfl rfl rfl rfl rfl rfl rfl ⟨rfl, rfl, rfl, rfl, rfl⟩ rfl rfl rfl rfl rfl (by kernel_rfl) Tryz.func10 (by kernel_rfl)
    (of_decide_eq_true (by kernel_rfl)) (by unfold Func.isWrapper; first | (rw [if_pos (by decide +kernel)]; kernel_rfl) | (rw [if_neg (by decide +kernel)]; exact ⟨rfl, rfl⟩))
    (fun os started H enc _ => lifted10 os started H enc)

theorem notifyBytes_proved : Rows.NotifyBytesCardSaid :=
  Claim7.holds_tied_plain_at .later [] [.data, .data, .data, .pinned] true (true, "109c5384165a96825d1f2089578ad2bcbcab01a966bcbf40a0fdea72bc267f3f") false
    over10 (fun _ h => by cases h) (by kernel_rfl) (fun _ h => by cases h) notifyBytes_row_tie rfl ⟨rfl, rfl⟩ (by kernel_rfl) rfl
    (card_hl (f0 := 10) (fn0 := Tryz.f10) (by kernel_rfl) Tryz.func10 (by kernel_rfl) (by kernel_rfl)) (by kernel_rfl)
end Go.Proofs.YtbkmjpmgiaiacaaGreatDoor
