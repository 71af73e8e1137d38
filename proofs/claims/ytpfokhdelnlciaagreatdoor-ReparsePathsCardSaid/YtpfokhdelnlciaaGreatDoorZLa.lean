/-
  Chapter 27: ReparsePaths holds at every input: no condition of ours (its card lists two tables of the library, tied to the text).
-/
import Derived.Test.YtpfokhdelnlciaaGreatDoorGrpG
import Derived.Test.YtpfokhdelnlciaaGreatDoorTie
import Derived.Test.YtpfokhdelnlciaaGreatDoorCards
import Derived.ProofKit
import Derived.LaidMore
import Derived.Test.YtpfokhdelnlciaaGreatDoorRows
set_option linter.unusedVariables false
set_option linter.unusedSimpArgs false

/-! Wi -/
namespace Go.Proofs.YtpfokhdelnlciaaGreatDoor
open Go Dw
set_option maxRecDepth 10000
set_option linter.unusedVariables false
set_option linter.unusedSimpArgs false
attribute [local irreducible] Run
set_option maxHeartbeats 2000000

open Paths
theorem glue_len {c : UInt8} {m : Nat} : ∀ {l : List Bs}, (∀ x ∈ l, x.length ≤ m) → (glue c l).length ≤ l.length * (m + 1)
  | [], _ => Nat.zero_le _
  | [x], h => by have := h x (by simp); simp only [glue, List.length_cons, List.length_nil]; omega
  | x :: y :: l, h => by
    have h1 := h x (by simp)
    have ih := glue_len (c := c) (l := y :: l) (fun z hz => h z (by simp [hz]))
    rw [glue, List.length_append, List.length_cons, List.length_cons (a := x), Nat.add_mul]
    omega
theorem text_len {p : PP} (h : p.parts.length ≤ 20) (hb : ∀ x ∈ p.parts, x.length ≤ 60) (ht : p.stream.length ≤ 60) : (text p).length < 1000000 := by
  have h1 := glue_len (c := 47) hb
  have h2 : p.parts.length * (60 + 1) ≤ 20 * 61 := Nat.mul_le_mul_right _ h
  have h3 : ((if p.abs then [47] else []) : Bs).length ≤ 1 := by split <;> simp
  have h4 : (if p.stream = [] then ([] : Bs) else 58 :: p.stream).length ≤ 61 := by split <;> simp; omega
  unfold text
  rw [List.length_append, List.length_append]
  omega
theorem parse_cases (s : Bs) : (∃ e, e ≠ 0 ∧ parse s = (noPP, e)) ∨ (s = [47] ∧ parse s = (⟨true, [], []⟩, 0)) ∨ (∃ l t, colons (cut 47 (restOf s)) = some (l, t) ∧ partsErr l t = 0 ∧ s.length ≤ 200 ∧ parse s = (⟨isAbs s, l, t⟩, 0)) := by
  unfold parse
  split
  · exact .inl ⟨8, by decide, rfl⟩
  · rename_i h1
    split
    · exact .inl ⟨7, by decide, rfl⟩
    · split
      · rename_i h3; exact .inr (.inl ⟨h3, rfl⟩)
      · split
        · exact .inl ⟨7, by decide, rfl⟩
        · rename_i l t hc
          split
          · exact .inl ⟨7, by decide, rfl⟩
          · split
            · rename_i h5; exact .inl ⟨_, h5, rfl⟩
            · rename_i h5; exact .inr (.inr ⟨l, t, hc, by simpa using h5, by omega, rfl⟩)
theorem parse_bad {s : Bs} (h : ¬ (parse s).2 = 0) : (parse s).1 = noPP := by
  rcases parse_cases s with ⟨e, _, h1⟩ | ⟨_, h1⟩ | ⟨l, t, _, _, _, h1⟩
  · rw [h1]
  · exact absurd (by rw [h1]) h
  · exact absurd (by rw [h1]) h
theorem colons_dots {l l' : List Bs} {t : Bs} (hl : l ≠ []) (h : colons l = some (l', t)) : l' ≠ [] ∧ (t = [] ∨ dots (l'.getLastD []) = false) := by
  unfold colons at h
  split at h
  · cases h; exact ⟨hl, .inl rfl⟩
  · rename_i a b e
    split at h
    · cases h
    · rename_i hd
      cases h
      refine ⟨by simp, .inr ?_⟩
      rw [getLastD_snoc]
      by_cases c : dots a = true
      · exact absurd (.inl c) hd
      · simpa using c
  · cases h
/-- What has been read of a path has a text. -/
theorem fmt_parse {s : Bs} (h : (parse s).2 = 0) : fmtErr (parse s).1 = 0 := by
  have ht := text_parse h
  rcases parse_cases s with ⟨e, h0, h1⟩ | ⟨_, h1⟩ | ⟨l, t, hc, hp, hs, h1⟩
  · rw [h1] at h; exact absurd h h0
  · rw [h1]; decide +kernel
  · rw [h1] at ht ⊢
    obtain ⟨hne, hd⟩ := colons_dots (cut_ne _ _) hc
    have k := fun e he => firstE_mem (l := [firstE (l.map partErr), if t = [] then 0 else nameErr t, if 16 < l.length then 8 else 0]) hp (e := e) he
    have k1 := k _ (.head _)
    have k2 := k _ (.tail _ (.head _))
    have k3 := k _ (.tail _ (.tail _ (.head _)))
    have k4 : l.length ≤ 16 := by
      by_cases c : 16 < l.length
      · rw [if_pos c] at k3; cases k3
      · omega
    rw [fmtT (p := ⟨isAbs s, l, t⟩) k4 k1 k2 (by rcases hd with hd | hd; · exact .inl hd
                                                 · exact .inr ⟨hne, hd⟩) (.inl hne), ht, if_pos hs]
attribute [local irreducible] nameErr cut normal dots partErr text parse glue fmtErr
theorem parse_le (s : Bs) : (parse s).1.parts.length ≤ 16 ∧ (∀ x ∈ (parse s).1.parts, x.length ≤ 32) := by
  by_cases h : (parse s).2 = 0
  · exact ⟨(parse_good h).2, fun x hx => (part_no ((parse_good h).1 x hx).2).2.2.2⟩
  · have e : (parse s).1 = noPP := parse_bad h
    rw [e]; exact ⟨Nat.zero_le _, fun x hx => by cases hx⟩

theorem take_all {l : List Bs} {k m : Nat} (h : ∀ x ∈ l.take k, x.length ≤ m) (hk : k < l.length) (h1 : l[k].length ≤ m) : ∀ x ∈ l.take (k + 1), x.length ≤ m := by
  rw [List.take_succ_eq_append_getElem hk]
  intro x hx
  rcases List.mem_append.1 hx with hx | hx
  · exact h x hx
  · rw [List.mem_singleton] at hx; subst hx; exact h1
theorem take_fin {l : List Bs} {k m : Nat} (h : ∀ x ∈ l.take k, x.length ≤ m) (hk : l.length ≤ k) : ∀ x ∈ l, x.length ≤ m := by
  rwa [List.take_of_length_le hk] at h

theorem c37o (p : PP) (hn : p.parts.length ≤ 20) (hb : ∀ x ∈ p.parts, x.length ≤ 60) (ht : p.stream.length ≤ 60) (hf : fmtErr p = 0) : Fn 37 [PPe p] (.tup [.str (text p), i 0]) := by
  have := c37 p (by omega) (fun x hx => by have := hb x hx; omega) (by omega) (text_len hn hb ht)
  rwa [hf, if_pos rfl] at this
theorem c37no (p : PP) (hn : p.parts.length ≤ 20) (hb : ∀ x ∈ p.parts, x.length ≤ 60) (ht : p.stream.length ≤ 60) (hf : ¬ fmtErr p = 0) : Fn 37 [PPe p] (.tup [.str [], i (fmtErr p)]) := by
  have := c37 p (by omega) (fun x hx => by have := hb x hx; omega) (by omega) (text_len hn hb ht)
  rwa [if_neg hf] at this
theorem stream_le {s : Bs} (h : (parse s).2 = 0) : (parse s).1.stream.length ≤ 200 ∧ (text (parse s).1).length ≤ 200 := by
  have h6 := (fmt_ok (fmt_parse h)).2.2.2.2.2
  refine ⟨?_, h6⟩
  have : (parse s).1.stream.length ≤ (text (parse s).1).length := by
    by_cases c : (parse s).1.stream = []
    · rw [c]; exact Nat.zero_le _
    · unfold text
      rw [List.length_append, if_neg c, List.length_cons]
      omega
  omega
theorem c37s (s : Bs) (h : (parse s).2 = 0) : Fn 37 [PPe (parse s).1] (.tup [.str s, i 0]) := by
  have h1 := parse_le s
  have h2 := stream_le h
  have := c37 (parse s).1 (by omega) (fun x hx => by have := h1.2 x hx; omega) (by omega) (by omega)
  rwa [fmt_parse h, if_pos rfl, text_parse h] at this
theorem c35t (p : PP) (hf : fmtErr p = 0) : Fn 35 [.str (text p)] (.tup [PPe p, i 0]) := by
  have := c35 (text p)
  rwa [parse_text hf] at this
theorem c39s (p : PP) (hn : p.parts.length ≤ 20) (hb : ∀ x ∈ p.parts, x.length ≤ 60) (ht : p.stream.length ≤ 60) : Fn 39 [PPe p] (i (fmtErr p)) := c39 p (by omega) (fun x hx => by have := hb x hx; omega) (by omega) (text_len hn hb ht)
theorem c39o (p : PP) (hn : p.parts.length ≤ 20) (hb : ∀ x ∈ p.parts, x.length ≤ 60) (ht : p.stream.length ≤ 60) (hf : fmtErr p = 0) : Fn 39 [PPe p] (i 0) := by
  have := c39s p hn hb ht
  rwa [hf] at this
theorem c31s (p : PP) (hn : p.parts.length ≤ 20) (hb : ∀ x ∈ p.parts, x.length ≤ 60) (ht : p.stream.length ≤ 60) : Fn 31 [PPe p] (.str (text p)) := c31 p (text_len hn hb ht) (by omega)
theorem c38s (s : Bs) : Fn 38 [PPe (parse s).1, PPe (parse s).1] (.bool true) := by
  have := c38 (parse s).1 (parse s).1 (by have := parse_le s; omega) (by have := parse_le s; omega)
  rwa [decide_eq_true rfl] at this
theorem c38p (p : PP) (hn : p.parts.length ≤ 20) : Fn 38 [PPe p, PPe p] (.bool true) := by
  have := c38 p p (by omega) (by omega)
  rwa [decide_eq_true rfl] at this

theorem c8a (s : Bs) (p : PP) (hf : fmtErr p = 0) : Fn 8 [.str s, PPe p] (.bool true) := by
  refine run_walkF eok Tryz.func8 rfl (by kernel_rfl) ?_
  conv => whnf
  repeat' (first
    | ((with_reducible refine on_dec_f ?_ ?_); (focus ((try simp only [List.length_map, List.length_cons, List.length_nil, List.length_append]); omega)); conv => whnf)
    | ((with_reducible refine on_dec_t ?_ ?_); (focus ((try simp only [List.length_map, List.length_cons, List.length_nil, List.length_append]); omega)); conv => whnf)
    | ((with_reducible refine on_dec (fun h => ?_) (fun h => ?_)) <;> (try simp only [List.length_map] at h) <;> conv => whnf)
    | ((with_reducible refine on_ndec (fun h => ?_) (fun h => ?_)) <;> (try simp only [List.length_map] at h) <;> conv => whnf)
    | ((with_reducible refine on_not (fun h => ?_) (fun h => ?_)) <;> conv => whnf)
    | ((with_reducible refine onBool_split (fun h => ?_) (fun h => ?_)) <;> conv => whnf)
    | ((with_reducible refine call_go ?_); (first | refine call_step (run_data (xs := []) c10 _) ?_ | refine call_step (run_viewF (c35 s) rfl) ?_ | refine call_step (run_viewF (c35t p hf) rfl) ?_ | refine call_step (run_viewF (c36 p.parts (by omega)) rfl) ?_ | refine call_step (run_view (c37s s (by assumption)) rfl rfl) ?_ | refine call_step (run_view (c37o p (by omega) (take_fin hI.2 (by omega)) (by omega) hf) rfl rfl) ?_ | refine call_step (run_view (c37no p (by omega) (take_fin hI.2 (by omega)) (by omega) hf) rfl rfl) ?_ | refine call_step (run_viewF (c30 s) rfl) ?_ | refine call_step (run_view (c38s s) rfl rfl) ?_ | refine call_step (run_view (c38p p (by omega)) rfl rfl) ?_ | refine call_step (run_view (c39o p (by omega) (take_fin hI.2 (by omega)) (by omega) hf) rfl rfl) ?_ | refine call_step (run_view (c39s p (by omega) (take_fin hI.2 (by omega)) (by omega)) rfl rfl) ?_ | refine call_step (run_view (c31s p (by omega) (take_fin hI.2 (by omega)) (by omega)) rfl rfl) ?_); conv => whnf)
    | (refine ⟨[], [(8, 4), (1, 4), (6, 4)], (by decide +kernel), ?_⟩; conv => whnf)
    | ((with_reducible refine loop_go ?_); first | (refine loop1 (fun (k : Nat) => p.parts.length - k) (fun (k : Nat) => k ≤ p.parts.length ∧ ∀ x ∈ p.parts.take k, x.length ≤ 60) (fun (k : Nat) => [(0, .d (.str s)), (3, .ptr 0 0 0), (5, .d (i k))]) (fun (k : Nat) => [⟨[.d (PPe p)], 3, 0⟩]) (0) (by exact ⟨Nat.zero_le _, fun x hx => by cases hx⟩) ?_ (fun k C hI hC => ?_); (exact ⟨[.old 0], rfl, rfl, ⟨(by first | (show (_ : D) = _; with_reducible rfl) | exact rfl), ⟨rfl, rfl, rfl⟩, (by first | (show (_ : D) = _; with_reducible rfl) | exact congrArg (D.int .i64) (by omega) | exact congrArg (D.int .i64) (by simp only [List.length_map]) | exact rfl), trivial⟩, ⟨⟨rfl, rfl, .inl ⟨[_], rfl, rfl⟩⟩, trivial⟩⟩); all_goals (conv => whnf)))
    | ((with_reducible show C _ _); first | (refine hC (k + 1) _ _ ?_ (by omega) ?_; clear hC; rotate_left; (exact ⟨[.old 0], rfl, rfl, ⟨(by first | (show (_ : D) = _; with_reducible rfl) | exact rfl), ⟨rfl, rfl, rfl⟩, (by first | (show (_ : D) = _; with_reducible rfl) | exact congrArg (D.int .i64) (by omega) | exact congrArg (D.int .i64) (by simp only [List.length_map]) | exact rfl), trivial⟩, ⟨⟨rfl, rfl, .inl ⟨[_], rfl, rfl⟩⟩, trivial⟩⟩); (exact ⟨by omega, take_all hI.2 (by omega) (by omega)⟩)))
    | (refine ⟨⟨(by first | rfl | (simp; done)), cap_ok (by simp only [List.length_map, List.length_cons, List.length_nil, List.length_append]; omega) rfl⟩, ?_⟩; conv => whnf)
    | (refine ⟨mem_one ⟨rfl, rfl⟩, ?_⟩; conv => whnf)
    | (refine ⟨(by intro y hy; obtain ⟨x, _, rfl⟩ := List.mem_map.1 hy; first | rfl | exact ⟨rfl, rfl⟩), ?_⟩; conv => whnf)
    | (refine ⟨cap_ok (by first | omega | (simp only [List.length_map]; omega)) rfl, ?_⟩; conv => whnf)
    | (refine ix_map (by omega) ?_; conv => whnf)
    | (refine ix_str (by omega) ?_; conv => whnf)
    | (refine wrap64 (by omega) ?_; conv => whnf)
    | (refine wrap64 (by first | omega | (simp only [List.length_map]; omega)) ?_; conv => whnf)
    | (exfalso; simp only [List.length_map, List.length_cons, List.length_nil, List.length_append] at h; omega)
    | ((with_reducible refine endx_go ?_); first | (exact endx rfl; done) | (exact absurd rfl h; done) | (exact absurd rfl (by assumption); done) | (exact absurd trivial h; done) | (exact absurd (by assumption) hf; done))
    | (refine ⟨rfl, ?_⟩; conv => whnf)
    | fail
    )

theorem c8b (s : Bs) (p : PP) (hf : ¬ fmtErr p = 0) : Fn 8 [.str s, PPe p] (.bool true) := by
  refine run_walkF eok Tryz.func8 rfl (by kernel_rfl) ?_
  conv => whnf
  repeat' (first
    | ((with_reducible refine on_dec_f ?_ ?_); (focus ((try simp only [List.length_map, List.length_cons, List.length_nil, List.length_append]); omega)); conv => whnf)
    | ((with_reducible refine on_dec_t ?_ ?_); (focus ((try simp only [List.length_map, List.length_cons, List.length_nil, List.length_append]); omega)); conv => whnf)
    | ((with_reducible refine on_dec (fun h => ?_) (fun h => ?_)) <;> (try simp only [List.length_map] at h) <;> conv => whnf)
    | ((with_reducible refine on_ndec (fun h => ?_) (fun h => ?_)) <;> (try simp only [List.length_map] at h) <;> conv => whnf)
    | ((with_reducible refine on_not (fun h => ?_) (fun h => ?_)) <;> conv => whnf)
    | ((with_reducible refine onBool_split (fun h => ?_) (fun h => ?_)) <;> conv => whnf)
    | ((with_reducible refine call_go ?_); (first | refine call_step (run_data (xs := []) c10 _) ?_ | refine call_step (run_viewF (c35 s) rfl) ?_ | refine call_step (run_viewF (c35t p hf) rfl) ?_ | refine call_step (run_viewF (c36 p.parts (by omega)) rfl) ?_ | refine call_step (run_view (c37s s (by assumption)) rfl rfl) ?_ | refine call_step (run_view (c37o p (by omega) (take_fin hI.2 (by omega)) (by omega) hf) rfl rfl) ?_ | refine call_step (run_view (c37no p (by omega) (take_fin hI.2 (by omega)) (by omega) hf) rfl rfl) ?_ | refine call_step (run_viewF (c30 s) rfl) ?_ | refine call_step (run_view (c38s s) rfl rfl) ?_ | refine call_step (run_view (c38p p (by omega)) rfl rfl) ?_ | refine call_step (run_view (c39o p (by omega) (take_fin hI.2 (by omega)) (by omega) hf) rfl rfl) ?_ | refine call_step (run_view (c39s p (by omega) (take_fin hI.2 (by omega)) (by omega)) rfl rfl) ?_ | refine call_step (run_view (c31s p (by omega) (take_fin hI.2 (by omega)) (by omega)) rfl rfl) ?_); conv => whnf)
    | (refine ⟨[], [(8, 4), (1, 4), (6, 4)], (by decide +kernel), ?_⟩; conv => whnf)
    | ((with_reducible refine loop_go ?_); first | (refine loop1 (fun (k : Nat) => p.parts.length - k) (fun (k : Nat) => k ≤ p.parts.length ∧ ∀ x ∈ p.parts.take k, x.length ≤ 60) (fun (k : Nat) => [(0, .d (.str s)), (3, .ptr 0 0 0), (5, .d (i k))]) (fun (k : Nat) => [⟨[.d (PPe p)], 3, 0⟩]) (0) (by exact ⟨Nat.zero_le _, fun x hx => by cases hx⟩) ?_ (fun k C hI hC => ?_); (exact ⟨[.old 0], rfl, rfl, ⟨(by first | (show (_ : D) = _; with_reducible rfl) | exact rfl), ⟨rfl, rfl, rfl⟩, (by first | (show (_ : D) = _; with_reducible rfl) | exact congrArg (D.int .i64) (by omega) | exact congrArg (D.int .i64) (by simp only [List.length_map]) | exact rfl), trivial⟩, ⟨⟨rfl, rfl, .inl ⟨[_], rfl, rfl⟩⟩, trivial⟩⟩); all_goals (conv => whnf)))
    | ((with_reducible show C _ _); first | (refine hC (k + 1) _ _ ?_ (by omega) ?_; clear hC; rotate_left; (exact ⟨[.old 0], rfl, rfl, ⟨(by first | (show (_ : D) = _; with_reducible rfl) | exact rfl), ⟨rfl, rfl, rfl⟩, (by first | (show (_ : D) = _; with_reducible rfl) | exact congrArg (D.int .i64) (by omega) | exact congrArg (D.int .i64) (by simp only [List.length_map]) | exact rfl), trivial⟩, ⟨⟨rfl, rfl, .inl ⟨[_], rfl, rfl⟩⟩, trivial⟩⟩); (exact ⟨by omega, take_all hI.2 (by omega) (by omega)⟩)))
    | (refine ⟨⟨(by first | rfl | (simp; done)), cap_ok (by simp only [List.length_map, List.length_cons, List.length_nil, List.length_append]; omega) rfl⟩, ?_⟩; conv => whnf)
    | (refine ⟨mem_one ⟨rfl, rfl⟩, ?_⟩; conv => whnf)
    | (refine ⟨(by intro y hy; obtain ⟨x, _, rfl⟩ := List.mem_map.1 hy; first | rfl | exact ⟨rfl, rfl⟩), ?_⟩; conv => whnf)
    | (refine ⟨cap_ok (by first | omega | (simp only [List.length_map]; omega)) rfl, ?_⟩; conv => whnf)
    | (refine ix_map (by omega) ?_; conv => whnf)
    | (refine ix_str (by omega) ?_; conv => whnf)
    | (refine wrap64 (by omega) ?_; conv => whnf)
    | (refine wrap64 (by first | omega | (simp only [List.length_map]; omega)) ?_; conv => whnf)
    | (exact absurd (by assumption) hf)
    | (exfalso; simp only [List.length_map, List.length_cons, List.length_nil, List.length_append] at h; omega)
    | ((with_reducible refine endx_go ?_); first | (exact endx rfl; done) | (exact absurd rfl h; done) | (exact absurd rfl (by assumption); done) | (exact absurd trivial h; done) | (exact absurd (by assumption) hf; done))
    | (refine ⟨rfl, ?_⟩; conv => whnf)
    | fail
    )

theorem c8 (s : Bs) (p : PP) : Fn 8 [.str s, PPe p] (.bool true) := by
  by_cases hf : fmtErr p = 0
  · exact c8a s p hf
  · exact c8b s p hf

end Go.Proofs.YtpfokhdelnlciaaGreatDoor

/-! Ld -/
namespace Go.Proofs.YtpfokhdelnlciaaGreatDoor
open Go Dw Go.ChangeShapes Go.WideShapes Go.RowKit
set_option maxRecDepth 100000

theorem own27 : ownKnob Tryz.prog.godebug = none := by kernel_rfl
theorem laidOut27 : laidOutB Tryz.prog = true := by kernel_rfl
/-- The variables that the rows list. -/
def laid27 : List (String × DataW Unit) := [("unicode/utf8.acceptRanges", Rows.laid_unicode_utf8_acceptRanges), ("unicode/utf8.first", Rows.laid_unicode_utf8_first)]
/-- The pinned table. -/
def table27 : Array Value := (Pinned.utf8FirstZ.map fun (n : Nat) => Value.int .u8 n).toArray
def withTable (o : Go.Obj) : Go.Obj := match o with
  | Go.Obj.cells _ t fr => Go.Obj.cells table27 t fr
  | o => o
/-- The world that the door leaves, with the pinned table in it. -/
noncomputable def wit27 (os : Os) : World :=
  { World.doorLaid Tryz.prog 60 os with heap := (World.doorLaid Tryz.prog 60 os).heap.modify 1 withTable }

theorem door_met27 (os : Os) (args : Array Value) : laidMetH Tryz.prog laid27 ((wit27 os).forCall (fun _ _ => 0) ⟨#[], args, []⟩).memory :=
  laidMetH_of_parts3 (fuel := 8) (laidMet_of_run' 8 (by kernel_rfl) (by kernel_rfl)) (by kernel_rfl) (by kernel_rfl)

theorem shaped27 (os : Os) (args : Array Value) : ((wit27 os).forCall (fun _ _ => 0) ⟨#[], args, []⟩).Shaped Tryz.prog :=
  World.shaped_of_RefB (by kernel_rfl) (by kernel_rfl)

theorem card_hl {P : Program} {nm : String} {f0 : Nat} {fn0 : Func} {lk : Bool} (h1 : P.funcNamed nm = some f0) (h2 : P.funcs[f0]? = some fn0) (h3 : lk = P.looks []) (h4 : (fn0.params.toList.all fun t => !P.wantsStandIn t) = true) :
    ∀ f fn, P.funcNamed nm = some f → P.funcs[f]? = some fn → lk = P.looks [] ∧ ∀ (j : Nat) t, fn.params[j]? = some t → P.wantsStandIn t = false := by
  intro f fn h5 h6
  obtain rfl : f = f0 := (Option.some.inj (h1.symm.trans h5)).symm
  obtain rfl : fn = fn0 := (Option.some.inj (h2.symm.trans h6)).symm
  refine ⟨h3, fun j t ht => ?_⟩
  have := List.all_eq_true.1 h4 t (List.mem_of_getElem? (by simpa using ht))
  simpa using this
end Go.Proofs.YtpfokhdelnlciaaGreatDoor

/-! Sh -/
namespace Go.Proofs.YtpfokhdelnlciaaGreatDoor
open Go Dw Paths
theorem map_of {α : Type} {f : α → D} : ∀ (l : List D), (∀ y ∈ l, ∃ a, y = f a) → ∃ r : List α, l = r.map f
  | [], _ => ⟨[], rfl⟩
  | x :: l, h => by
    obtain ⟨a, rfl⟩ := h x (by simp)
    obtain ⟨r, rfl⟩ := map_of l fun y hy => h y (by simp [hy])
    exact ⟨a :: r, rfl⟩
theorem shpStr {n : Nat} {x : D} (h : shp E (n + 1) 9 x) : ∃ s : Bs, x = .str s := by
  obtain ⟨s, rfl, _⟩ := h
  exact ⟨s, rfl⟩
theorem shpPP {n : Nat} {x : D} (h : shp E (n + 3) 61 x) : ∃ p : PP, x = PPe p := by
  obtain ⟨cs, rfl, y1, r1, ⟨k1, rfl, _⟩, rfl, y2, r2, h2, rfl, y3, r3, ⟨k3, rfl, _⟩, rfl, rfl⟩ := h
  obtain ⟨l, rfl, _, h4⟩ := h2
  obtain ⟨r, rfl⟩ := map_of (f := D.str) l fun y hy => shpStr (h4 y hy)
  exact ⟨⟨k1, r, k3⟩, rfl⟩
end Go.Proofs.YtpfokhdelnlciaaGreatDoor

/-! La -/
namespace Go.Proofs.YtpfokhdelnlciaaGreatDoor
open Go Dw Go.ChangeShapes Go.WideShapes Go.RowKit

section
attribute [local irreducible] Run
theorem hrun8 : ∀ xs, shps E 6 Tryz.f8.params.toList xs → Run Tryz.prog 8 (xs.map .d) [] (.d (.bool true)) [] := by
  intro xs h
  obtain ⟨x1, r1, rfl, h1, x2, r2, rfl, h2, rfl⟩ := h
  obtain ⟨s, rfl⟩ := shpStr h1
  obtain ⟨p, rfl⟩ := shpPP h2
  exact c8 s p
end

set_option maxRecDepth 100000 in
theorem lifted8 (os : Os) (started : os.Started) (H : Type) (enc : TypeId × Value → H) :
    ReturnsInHanded {} Tryz.checked os 8 .any (fun w args => (Rows.reparsePathsSpec.pre enc Tryz.prog Tryz.f8 [] false w args ∧ laidMetH Tryz.prog laid27 w) ∧ sizedMet enc Tryz.prog Tryz.f8 (OpenSpec.ofChange Rows.reparsePathsSpec) false w args)
      (Rows.reparsePathsSpec.post enc Tryz.prog Tryz.f8 false true false false) := by
  refine returnsInHanded_of_change_and (C := Tryz.checked) (X := fun w _ => laidMetH Tryz.prog laid27 w) (fun _ _ _ hh h => h.of_heap hh) own27 started (by kernel_rfl) Tryz.func8
    (ChangeSpec.witness_shaped (enc := enc) (C := Tryz.checked) (os := os) (X := fun w _ => laidMetH Tryz.prog laid27 w) false (wit27 os) #[.string ⟨#[]⟩, .agg #[.bool false, .slice none 0 0, .string ⟨#[]⟩]] 8 rfl (shaped27 os _) (by kernel_rfl) (by kernel_rfl) (by kernel_rfl) (door_met27 os _)) ?_
  intro W base args ds gs before hval hW _ _ _ _
  refine law_lift (n := 6) (t4 := 4) eok Tryz.func8 (by kernel_rfl) rfl laidOut27 rfl ?_ rfl Tryz.underlying4 (by kernel_rfl) hrun8 W base args ds gs before hval hW
  intro H ds hds
  match ds, hds with
  | [a, b], _ => rfl

theorem over8 : Rows.ReparsePathsSaid :=
  OpenClaim.holds_of_wide 8 Tryz.f8 rfl rfl rfl rfl rfl rfl rfl ⟨rfl, rfl, rfl, rfl, rfl⟩ rfl rfl rfl rfl rfl (by kernel_rfl) Tryz.func8 (by kernel_rfl)
    (of_decide_eq_true (by kernel_rfl)) (by unfold Func.isWrapper; first | (rw [if_pos (by decide +kernel)]; kernel_rfl) | (rw [if_neg (by decide +kernel)]; exact ⟨rfl, rfl⟩))
    (fun os started H enc _ => lifted8 os started H enc)

theorem reparsePaths_proved : Rows.ReparsePathsCardSaid :=
  Claim7.holds_tied_plain_at .later [] [.data, .pinned] true (true, "a16cbc1bcc8e620bf3fa5a01d12ddd2b9540fe44c3b039af40c111ac70deaea2") false
    over8 (fun _ h => by cases h) (by kernel_rfl) (fun _ h => by cases h) reparsePaths_row_tie rfl ⟨rfl, rfl⟩ (by kernel_rfl) rfl
    (card_hl (f0 := 8) (fn0 := Tryz.f8) (by kernel_rfl) Tryz.func8 (by kernel_rfl) (by kernel_rfl)) (by kernel_rfl)
end Go.Proofs.YtpfokhdelnlciaaGreatDoor
