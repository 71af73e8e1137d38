/-
  Chapter 27: ReparseRelative holds at every input: no condition of ours (its card lists two tables of the library, tied to the text).
-/
import Derived.Test.YtpfokhdelnlciaaGreatDoorGrpG
import Derived.Test.YtpfokhdelnlciaaGreatDoorTie
import Derived.Test.YtpfokhdelnlciaaGreatDoorCards
import Derived.ProofKit
import Derived.LaidMore
import Derived.Test.YtpfokhdelnlciaaGreatDoorRows
set_option linter.unusedVariables false
set_option linter.unusedSimpArgs false

/-! Wi -/
namespace Go.Proofs.YtpfokhdelnlciaaGreatDoor
open Go Dw
set_option maxRecDepth 10000
set_option linter.unusedVariables false
set_option linter.unusedSimpArgs false
attribute [local irreducible] Run
set_option maxHeartbeats 2000000

open Paths
theorem glue_len {c : UInt8} {m : Nat} : ∀ {l : List Bs}, (∀ x ∈ l, x.length ≤ m) → (glue c l).length ≤ l.length * (m + 1)
  | [], _ => Nat.zero_le _
  | [x], h => by have := h x (by simp); simp only [glue, List.length_cons, List.length_nil]; omega
  | x :: y :: l, h => by
    have h1 := h x (by simp)
    have ih := glue_len (c := c) (l := y :: l) (fun z hz => h z (by simp [hz]))
    rw [glue, List.length_append, List.length_cons, List.length_cons (a := x), Nat.add_mul]
    omega
theorem text_len {p : PP} (h : p.parts.length ≤ 20) (hb : ∀ x ∈ p.parts, x.length ≤ 60) (ht : p.stream.length ≤ 60) : (text p).length < 1000000 := by
  have h1 := glue_len (c := 47) hb
  have h2 : p.parts.length * (60 + 1) ≤ 20 * 61 := Nat.mul_le_mul_right _ h
  have h3 : ((if p.abs then [47] else []) : Bs).length ≤ 1 := by split <;> simp
  have h4 : (if p.stream = [] then ([] : Bs) else 58 :: p.stream).length ≤ 61 := by split <;> simp; omega
  unfold text
  rw [List.length_append, List.length_append]
  omega
theorem parse_cases (s : Bs) : (∃ e, e ≠ 0 ∧ parse s = (noPP, e)) ∨ (s = [47] ∧ parse s = (⟨true, [], []⟩, 0)) ∨ (∃ l t, colons (cut 47 (restOf s)) = some (l, t) ∧ partsErr l t = 0 ∧ s.length ≤ 200 ∧ parse s = (⟨isAbs s, l, t⟩, 0)) := by
  unfold parse
  split
  · exact .inl ⟨8, by decide, rfl⟩
  · rename_i h1
    split
    · exact .inl ⟨7, by decide, rfl⟩
    · split
      · rename_i h3; exact .inr (.inl ⟨h3, rfl⟩)
      · split
        · exact .inl ⟨7, by decide, rfl⟩
        · rename_i l t hc
          split
          · exact .inl ⟨7, by decide, rfl⟩
          · split
            · rename_i h5; exact .inl ⟨_, h5, rfl⟩
            · rename_i h5; exact .inr (.inr ⟨l, t, hc, by simpa using h5, by omega, rfl⟩)
theorem parse_bad {s : Bs} (h : ¬ (parse s).2 = 0) : (parse s).1 = noPP := by
  rcases parse_cases s with ⟨e, _, h1⟩ | ⟨_, h1⟩ | ⟨l, t, _, _, _, h1⟩
  · rw [h1]
  · exact absurd (by rw [h1]) h
  · exact absurd (by rw [h1]) h
theorem colons_dots {l l' : List Bs} {t : Bs} (hl : l ≠ []) (h : colons l = some (l', t)) : l' ≠ [] ∧ (t = [] ∨ dots (l'.getLastD []) = false) := by
  unfold colons at h
  split at h
  · cases h; exact ⟨hl, .inl rfl⟩
  · rename_i a b e
    split at h
    · cases h
    · rename_i hd
      cases h
      refine ⟨by simp, .inr ?_⟩
      rw [getLastD_snoc]
      by_cases c : dots a = true
      · exact absurd (.inl c) hd
      · simpa using c
  · cases h
/-- What has been read of a path has a text. -/
theorem fmt_parse {s : Bs} (h : (parse s).2 = 0) : fmtErr (parse s).1 = 0 := by
  have ht := text_parse h
  rcases parse_cases s with ⟨e, h0, h1⟩ | ⟨_, h1⟩ | ⟨l, t, hc, hp, hs, h1⟩
  · rw [h1] at h; exact absurd h h0
  · rw [h1]; decide +kernel
  · rw [h1] at ht ⊢
    obtain ⟨hne, hd⟩ := colons_dots (cut_ne _ _) hc
    have k := fun e he => firstE_mem (l := [firstE (l.map partErr), if t = [] then 0 else nameErr t, if 16 < l.length then 8 else 0]) hp (e := e) he
    have k1 := k _ (.head _)
    have k2 := k _ (.tail _ (.head _))
    have k3 := k _ (.tail _ (.tail _ (.head _)))
    have k4 : l.length ≤ 16 := by
      by_cases c : 16 < l.length
      · rw [if_pos c] at k3; cases k3
      · omega
    rw [fmtT (p := ⟨isAbs s, l, t⟩) k4 k1 k2 (by rcases hd with hd | hd; · exact .inl hd
                                                 · exact .inr ⟨hne, hd⟩) (.inl hne), ht, if_pos hs]
attribute [local irreducible] nameErr cut normal dots partErr text parse glue fmtErr
theorem parse_le (s : Bs) : (parse s).1.parts.length ≤ 16 ∧ (∀ x ∈ (parse s).1.parts, x.length ≤ 32) := by
  by_cases h : (parse s).2 = 0
  · exact ⟨(parse_good h).2, fun x hx => (part_no ((parse_good h).1 x hx).2).2.2.2⟩
  · have e : (parse s).1 = noPP := parse_bad h
    rw [e]; exact ⟨Nat.zero_le _, fun x hx => by cases hx⟩

theorem take_all {l : List Bs} {k m : Nat} (h : ∀ x ∈ l.take k, x.length ≤ m) (hk : k < l.length) (h1 : l[k].length ≤ m) : ∀ x ∈ l.take (k + 1), x.length ≤ m := by
  rw [List.take_succ_eq_append_getElem hk]
  intro x hx
  rcases List.mem_append.1 hx with hx | hx
  · exact h x hx
  · rw [List.mem_singleton] at hx; subst hx; exact h1
theorem take_fin {l : List Bs} {k m : Nat} (h : ∀ x ∈ l.take k, x.length ≤ m) (hk : l.length ≤ k) : ∀ x ∈ l, x.length ≤ m := by
  rwa [List.take_of_length_le hk] at h

theorem c37o (p : PP) (hn : p.parts.length ≤ 20) (hb : ∀ x ∈ p.parts, x.length ≤ 60) (ht : p.stream.length ≤ 60) (hf : fmtErr p = 0) : Fn 37 [PPe p] (.tup [.str (text p), i 0]) := by
  have := c37 p (by omega) (fun x hx => by have := hb x hx; omega) (by omega) (text_len hn hb ht)
  rwa [hf, if_pos rfl] at this
theorem c37no (p : PP) (hn : p.parts.length ≤ 20) (hb : ∀ x ∈ p.parts, x.length ≤ 60) (ht : p.stream.length ≤ 60) (hf : ¬ fmtErr p = 0) : Fn 37 [PPe p] (.tup [.str [], i (fmtErr p)]) := by
  have := c37 p (by omega) (fun x hx => by have := hb x hx; omega) (by omega) (text_len hn hb ht)
  rwa [if_neg hf] at this
theorem stream_le {s : Bs} (h : (parse s).2 = 0) : (parse s).1.stream.length ≤ 200 ∧ (text (parse s).1).length ≤ 200 := by
  have h6 := (fmt_ok (fmt_parse h)).2.2.2.2.2
  refine ⟨?_, h6⟩
  have : (parse s).1.stream.length ≤ (text (parse s).1).length := by
    by_cases c : (parse s).1.stream = []
    · rw [c]; exact Nat.zero_le _
    · unfold text
      rw [List.length_append, if_neg c, List.length_cons]
      omega
  omega
theorem c37s (s : Bs) (h : (parse s).2 = 0) : Fn 37 [PPe (parse s).1] (.tup [.str s, i 0]) := by
  have h1 := parse_le s
  have h2 := stream_le h
  have := c37 (parse s).1 (by omega) (fun x hx => by have := h1.2 x hx; omega) (by omega) (by omega)
  rwa [fmt_parse h, if_pos rfl, text_parse h] at this
theorem c35t (p : PP) (hf : fmtErr p = 0) : Fn 35 [.str (text p)] (.tup [PPe p, i 0]) := by
  have := c35 (text p)
  rwa [parse_text hf] at this
theorem c39s (p : PP) (hn : p.parts.length ≤ 20) (hb : ∀ x ∈ p.parts, x.length ≤ 60) (ht : p.stream.length ≤ 60) : Fn 39 [PPe p] (i (fmtErr p)) := c39 p (by omega) (fun x hx => by have := hb x hx; omega) (by omega) (text_len hn hb ht)
theorem c39o (p : PP) (hn : p.parts.length ≤ 20) (hb : ∀ x ∈ p.parts, x.length ≤ 60) (ht : p.stream.length ≤ 60) (hf : fmtErr p = 0) : Fn 39 [PPe p] (i 0) := by
  have := c39s p hn hb ht
  rwa [hf] at this
theorem c31s (p : PP) (hn : p.parts.length ≤ 20) (hb : ∀ x ∈ p.parts, x.length ≤ 60) (ht : p.stream.length ≤ 60) : Fn 31 [PPe p] (.str (text p)) := c31 p (text_len hn hb ht) (by omega)
theorem c38s (s : Bs) : Fn 38 [PPe (parse s).1, PPe (parse s).1] (.bool true) := by
  have := c38 (parse s).1 (parse s).1 (by have := parse_le s; omega) (by have := parse_le s; omega)
  rwa [decide_eq_true rfl] at this
theorem c38p (p : PP) (hn : p.parts.length ≤ 20) : Fn 38 [PPe p, PPe p] (.bool true) := by
  have := c38 p p (by omega) (by omega)
  rwa [decide_eq_true rfl] at this

theorem c8a (s : Bs) (p : PP) (hf : fmtErr p = 0) : Fn 8 [.str s, PPe p] (.bool true) := by
  refine run_walkF eok Tryz.func8 rfl (by kernel_rfl) ?_
  conv => whnf
  repeat' (first
    | ((with_reducible refine on_dec_f ?_ ?_); (focus ((try simp only [List.length_map, List.length_cons, List.length_nil, List.length_append]); omega)); conv => whnf)
    | ((with_reducible refine on_dec_t ?_ ?_); (focus ((try simp only [List.length_map, List.length_cons, List.length_nil, List.length_append]); omega)); conv => whnf)
    | ((with_reducible refine on_dec (fun h => ?_) (fun h => ?_)) <;> (try simp only [List.length_map] at h) <;> conv => whnf)
    | ((with_reducible refine on_ndec (fun h => ?_) (fun h => ?_)) <;> (try simp only [List.length_map] at h) <;> conv => whnf)
    | ((with_reducible refine on_not (fun h => ?_) (fun h => ?_)) <;> conv => whnf)
    | ((with_reducible refine onBool_split (fun h => ?_) (fun h => ?_)) <;> conv => whnf)
    | ((with_reducible refine call_go ?_); (first | refine call_step (run_data (xs := []) c10 _) ?_ | refine call_step (run_viewF (c35 s) rfl) ?_ | refine call_step (run_viewF (c35t p hf) rfl) ?_ | refine call_step (run_viewF (c36 p.parts (by omega)) rfl) ?_ | refine call_step (run_view (c37s s (by assumption)) rfl rfl) ?_ | refine call_step (run_view (c37o p (by omega) (take_fin hI.2 (by omega)) (by omega) hf) rfl rfl) ?_ | refine call_step (run_view (c37no p (by omega) (take_fin hI.2 (by omega)) (by omega) hf) rfl rfl) ?_ | refine call_step (run_viewF (c30 s) rfl) ?_ | refine call_step (run_view (c38s s) rfl rfl) ?_ | refine call_step (run_view (c38p p (by omega)) rfl rfl) ?_ | refine call_step (run_view (c39o p (by omega) (take_fin hI.2 (by omega)) (by omega) hf) rfl rfl) ?_ | refine call_step (run_view (c39s p (by omega) (take_fin hI.2 (by omega)) (by omega)) rfl rfl) ?_ | refine call_step (run_view (c31s p (by omega) (take_fin hI.2 (by omega)) (by omega)) rfl rfl) ?_); conv => whnf)
    | (refine ⟨[], [(8, 4), (1, 4), (6, 4)], (by decide +kernel), ?_⟩; conv => whnf)
    | ((with_reducible refine loop_go ?_); first | (refine loop1 (fun (k : Nat) => p.parts.length - k) (fun (k : Nat) => k ≤ p.parts.length ∧ ∀ x ∈ p.parts.take k, x.length ≤ 60) (fun (k : Nat) => [(0, .d (.str s)), (3, .ptr 0 0 0), (5, .d (i k))]) (fun (k : Nat) => [⟨[.d (PPe p)], 3, 0⟩]) (0) (by exact ⟨Nat.zero_le _, fun x hx => by cases hx⟩) ?_ (fun k C hI hC => ?_); (exact ⟨[.old 0], rfl, rfl, ⟨(by first | (show (_ : D) = _; with_reducible rfl) | exact rfl), ⟨rfl, rfl, rfl⟩, (by first | (show (_ : D) = _; with_reducible rfl) | exact congrArg (D.int .i64) (by omega) | exact congrArg (D.int .i64) (by simp only [List.length_map]) | exact rfl), trivial⟩, ⟨⟨rfl, rfl, .inl ⟨[_], rfl, rfl⟩⟩, trivial⟩⟩); all_goals (conv => whnf)))
    | ((with_reducible show C _ _); first | (refine hC (k + 1) _ _ ?_ (by omega) ?_; clear hC; rotate_left; (exact ⟨[.old 0], rfl, rfl, ⟨(by first | (show (_ : D) = _; with_reducible rfl) | exact rfl), ⟨rfl, rfl, rfl⟩, (by first | (show (_ : D) = _; with_reducible rfl) | exact congrArg (D.int .i64) (by omega) | exact congrArg (D.int .i64) (by simp only [List.length_map]) | exact rfl), trivial⟩, ⟨⟨rfl, rfl, .inl ⟨[_], rfl, rfl⟩⟩, trivial⟩⟩); (exact ⟨by omega, take_all hI.2 (by omega) (by omega)⟩)))
    | (refine ⟨⟨(by first | rfl | (simp; done)), cap_ok (by simp only [List.length_map, List.length_cons, List.length_nil, List.length_append]; omega) rfl⟩, ?_⟩; conv => whnf)
    | (refine ⟨mem_one ⟨rfl, rfl⟩, ?_⟩; conv => whnf)
    | (refine ⟨(by intro y hy; obtain ⟨x, _, rfl⟩ := List.mem_map.1 hy; first | rfl | exact ⟨rfl, rfl⟩), ?_⟩; conv => whnf)
    | (refine ⟨cap_ok (by first | omega | (simp only [List.length_map]; omega)) rfl, ?_⟩; conv => whnf)
    | (refine ix_map (by omega) ?_; conv => whnf)
    | (refine ix_str (by omega) ?_; conv => whnf)
    | (refine wrap64 (by omega) ?_; conv => whnf)
    | (refine wrap64 (by first | omega | (simp only [List.length_map]; omega)) ?_; conv => whnf)
    | (exfalso; simp only [List.length_map, List.length_cons, List.length_nil, List.length_append] at h; omega)
    | ((with_reducible refine endx_go ?_); first | (exact endx rfl; done) | (exact absurd rfl h; done) | (exact absurd rfl (by assumption); done) | (exact absurd trivial h; done) | (exact absurd (by assumption) hf; done))
    | (refine ⟨rfl, ?_⟩; conv => whnf)
    | fail
    )

theorem c8b (s : Bs) (p : PP) (hf : ¬ fmtErr p = 0) : Fn 8 [.str s, PPe p] (.bool true) := by
  refine run_walkF eok Tryz.func8 rfl (by kernel_rfl) ?_
  conv => whnf
  repeat' (first
    | ((with_reducible refine on_dec_f ?_ ?_); (focus ((try simp only [List.length_map, List.length_cons, List.length_nil, List.length_append]); omega)); conv => whnf)
    | ((with_reducible refine on_dec_t ?_ ?_); (focus ((try simp only [List.length_map, List.length_cons, List.length_nil, List.length_append]); omega)); conv => whnf)
    | ((with_reducible refine on_dec (fun h => ?_) (fun h => ?_)) <;> (try simp only [List.length_map] at h) <;> conv => whnf)
    | ((with_reducible refine on_ndec (fun h => ?_) (fun h => ?_)) <;> (try simp only [List.length_map] at h) <;> conv => whnf)
    | ((with_reducible refine on_not (fun h => ?_) (fun h => ?_)) <;> conv => whnf)
    | ((with_reducible refine onBool_split (fun h => ?_) (fun h => ?_)) <;> conv => whnf)
    | ((with_reducible refine call_go ?_); (first | refine call_step (run_data (xs := []) c10 _) ?_ | refine call_step (run_viewF (c35 s) rfl) ?_ | refine call_step (run_viewF (c35t p hf) rfl) ?_ | refine call_step (run_viewF (c36 p.parts (by omega)) rfl) ?_ | refine call_step (run_view (c37s s (by assumption)) rfl rfl) ?_ | refine call_step (run_view (c37o p (by omega) (take_fin hI.2 (by omega)) (by omega) hf) rfl rfl) ?_ | refine call_step (run_view (c37no p (by omega) (take_fin hI.2 (by omega)) (by omega) hf) rfl rfl) ?_ | refine call_step (run_viewF (c30 s) rfl) ?_ | refine call_step (run_view (c38s s) rfl rfl) ?_ | refine call_step (run_view (c38p p (by omega)) rfl rfl) ?_ | refine call_step (run_view (c39o p (by omega) (take_fin hI.2 (by omega)) (by omega) hf) rfl rfl) ?_ | refine call_step (run_view (c39s p (by omega) (take_fin hI.2 (by omega)) (by omega)) rfl rfl) ?_ | refine call_step (run_view (c31s p (by omega) (take_fin hI.2 (by omega)) (by omega)) rfl rfl) ?_); conv => whnf)
    | (refine ⟨[], [(8, 4), (1, 4), (6, 4)], (by decide +kernel), ?_⟩; conv => whnf)
    | ((with_reducible refine loop_go ?_); first | (refine loop1 (fun (k : Nat) => p.parts.length - k) (fun (k : Nat) => k ≤ p.parts.length ∧ ∀ x ∈ p.parts.take k, x.length ≤ 60) (fun (k : Nat) => [(0, .d (.str s)), (3, .ptr 0 0 0), (5, .d (i k))]) (fun (k : Nat) => [⟨[.d (PPe p)], 3, 0⟩]) (0) (by exact ⟨Nat.zero_le _, fun x hx => by cases hx⟩) ?_ (fun k C hI hC => ?_); (exact ⟨[.old 0], rfl, rfl, ⟨(by first | (show (_ : D) = _; with_reducible rfl) | exact rfl), ⟨rfl, rfl, rfl⟩, (by first | (show (_ : D) = _; with_reducible rfl) | exact congrArg (D.int .i64) (by omega) | exact congrArg (D.int .i64) (by simp only [List.length_map]) | exact rfl), trivial⟩, ⟨⟨rfl, rfl, .inl ⟨[_], rfl, rfl⟩⟩, trivial⟩⟩); all_goals (conv => whnf)))
    | ((with_reducible show C _ _); first | (refine hC (k + 1) _ _ ?_ (by omega) ?_; clear hC; rotate_left; (exact ⟨[.old 0], rfl, rfl, ⟨(by first | (show (_ : D) = _; with_reducible rfl) | exact rfl), ⟨rfl, rfl, rfl⟩, (by first | (show (_ : D) = _; with_reducible rfl) | exact congrArg (D.int .i64) (by omega) | exact congrArg (D.int .i64) (by simp only [List.length_map]) | exact rfl), trivial⟩, ⟨⟨rfl, rfl, .inl ⟨[_], rfl, rfl⟩⟩, trivial⟩⟩); (exact ⟨by omega, take_all hI.2 (by omega) (by omega)⟩)))
    | (refine ⟨⟨(by first | rfl | (simp; done)), cap_ok (by simp only [List.length_map, List.length_cons, List.length_nil, List.length_append]; omega) rfl⟩, ?_⟩; conv => whnf)
    | (refine ⟨mem_one ⟨rfl, rfl⟩, ?_⟩; conv => whnf)
    | (refine ⟨(by intro y hy; obtain ⟨x, _, rfl⟩ := List.mem_map.1 hy; first | rfl | exact ⟨rfl, rfl⟩), ?_⟩; conv => whnf)
    | (refine ⟨cap_ok (by first | omega | (simp only [List.length_map]; omega)) rfl, ?_⟩; conv => whnf)
    | (refine ix_map (by omega) ?_; conv => whnf)
    | (refine ix_str (by omega) ?_; conv => whnf)
    | (refine wrap64 (by omega) ?_; conv => whnf)
    | (refine wrap64 (by first | omega | (simp only [List.length_map]; omega)) ?_; conv => whnf)
    | (exact absurd (by assumption) hf)
    | (exfalso; simp only [List.length_map, List.length_cons, List.length_nil, List.length_append] at h; omega)
    | ((with_reducible refine endx_go ?_); first | (exact endx rfl; done) | (exact absurd rfl h; done) | (exact absurd rfl (by assumption); done) | (exact absurd trivial h; done) | (exact absurd (by assumption) hf; done))
    | (refine ⟨rfl, ?_⟩; conv => whnf)
    | fail
    )

theorem c8 (s : Bs) (p : PP) : Fn 8 [.str s, PPe p] (.bool true) := by
  by_cases hf : fmtErr p = 0
  · exact c8a s p hf
  · exact c8b s p hf

end Go.Proofs.YtpfokhdelnlciaaGreatDoor

/-! Wj -/
namespace Go.Proofs.YtpfokhdelnlciaaGreatDoor
open Go Dw
set_option maxRecDepth 10000
set_option linter.unusedVariables false
set_option linter.unusedSimpArgs false
attribute [local irreducible] Run
set_option maxHeartbeats 2000000

open Paths
attribute [local irreducible] nameErr cut normal dots partErr text parse glue fmtErr
def sized (p : PP) : Bs × Int := if 16 < p.parts.length ∨ 200 < (text p).length then ([], 8) else (text p, 0)
theorem sized_8 {p : PP} (h : (16 : Int) < p.parts.length ∨ (200 : Int) < (text p).length) : sized p = ([], 8) := if_pos (by omega)
theorem sized_0 {p : PP} (h : ¬ (16 : Int) < p.parts.length) (h2 : ¬ (200 : Int) < (text p).length) : sized p = (text p, 0) := if_neg (by omega)
attribute [local irreducible] sized

theorem c73 (p : PP) (hn : p.parts.length < 1000000) (hx : (text p).length < 1000000) : Fn 73 [PPe p] (.tup [.str (sized p).1, i (sized p).2]) := by
  refine run_walkF eok Tryz.func73 rfl (by kernel_rfl) ?_
  conv => whnf
  repeat' (first
    | ((with_reducible refine on_dec_f ?_ ?_); (focus ((try simp only [List.length_map, List.length_cons, List.length_nil, List.length_append]); omega)); conv => whnf)
    | ((with_reducible refine on_dec_t ?_ ?_); (focus ((try simp only [List.length_map, List.length_cons, List.length_nil, List.length_append]); omega)); conv => whnf)
    | ((with_reducible refine on_dec (fun h => ?_) (fun h => ?_)) <;> (try simp only [List.length_map] at h) <;> conv => whnf)
    | ((with_reducible refine on_ndec (fun h => ?_) (fun h => ?_)) <;> (try simp only [List.length_map] at h) <;> conv => whnf)
    | ((with_reducible refine on_not (fun h => ?_) (fun h => ?_)) <;> conv => whnf)
    | ((with_reducible refine onBool_split (fun h => ?_) (fun h => ?_)) <;> conv => whnf)
    | ((with_reducible refine call_go ?_); (first | refine call_step (run_view (c31 p hx hn) rfl rfl) ?_); conv => whnf)
    | (refine ⟨⟨(by first | rfl | (simp; done)), cap_ok (by simp only [List.length_map, List.length_cons, List.length_nil, List.length_append]; omega) rfl⟩, ?_⟩; conv => whnf)
    | (refine ⟨mem_one ⟨rfl, rfl⟩, ?_⟩; conv => whnf)
    | (refine ⟨(by intro y hy; obtain ⟨x, _, rfl⟩ := List.mem_map.1 hy; first | rfl | exact ⟨rfl, rfl⟩), ?_⟩; conv => whnf)
    | (refine ⟨cap_ok (by first | omega | (simp only [List.length_map]; omega)) rfl, ?_⟩; conv => whnf)
    | (refine ix_map (by omega) ?_; conv => whnf)
    | (refine ix_str (by omega) ?_; conv => whnf)
    | (refine wrap64 (by omega) ?_; conv => whnf)
    | (refine wrap64 (by first | omega | (simp only [List.length_map]; omega)) ?_; conv => whnf)
    | (exfalso; simp only [List.length_map, List.length_cons, List.length_nil, List.length_append] at h; omega)
    | ((with_reducible refine endx_go ?_); first | (refine endxv rfl ?_; (rw [sized_8 (.inl h)]) <;> rfl; done) | (refine endxv rfl ?_; (rw [sized_8 (.inr h)]) <;> rfl; done) | (refine endxv rfl ?_; (rw [sized_8 (.inr (of_decide_eq_true h))]) <;> rfl; done) | (refine endxv rfl ?_; (rw [sized_0 (by assumption) (by assumption)]) <;> rfl; done))
    | (refine ⟨rfl, ?_⟩; conv => whnf)
    | fail
    )

theorem c69 (p : PP) (hn : p.parts.length < 1000000) (hx : (text p).length < 1000000) : Fn 69 [PPe p] (.tup [.str (sized p).1, i (sized p).2]) := by
  refine run_walkF eok Tryz.func69 rfl (by kernel_rfl) ?_
  conv => whnf
  repeat' (first
    | ((with_reducible refine on_dec_f ?_ ?_); (focus ((try simp only [List.length_map, List.length_cons, List.length_nil, List.length_append]); omega)); conv => whnf)
    | ((with_reducible refine on_dec_t ?_ ?_); (focus ((try simp only [List.length_map, List.length_cons, List.length_nil, List.length_append]); omega)); conv => whnf)
    | ((with_reducible refine on_dec (fun h => ?_) (fun h => ?_)) <;> (try simp only [List.length_map] at h) <;> conv => whnf)
    | ((with_reducible refine on_ndec (fun h => ?_) (fun h => ?_)) <;> (try simp only [List.length_map] at h) <;> conv => whnf)
    | ((with_reducible refine on_not (fun h => ?_) (fun h => ?_)) <;> conv => whnf)
    | ((with_reducible refine onBool_split (fun h => ?_) (fun h => ?_)) <;> conv => whnf)
    | ((with_reducible refine call_go ?_); (first | refine call_step (run_view (c55 p hn hx) rfl rfl) ?_); conv => whnf)
    | (refine ⟨⟨(by first | rfl | (simp; done)), cap_ok (by simp only [List.length_map, List.length_cons, List.length_nil, List.length_append]; omega) rfl⟩, ?_⟩; conv => whnf)
    | (refine ⟨mem_one ⟨rfl, rfl⟩, ?_⟩; conv => whnf)
    | (refine ⟨(by intro y hy; obtain ⟨x, _, rfl⟩ := List.mem_map.1 hy; first | rfl | exact ⟨rfl, rfl⟩), ?_⟩; conv => whnf)
    | (refine ⟨cap_ok (by first | omega | (simp only [List.length_map]; omega)) rfl, ?_⟩; conv => whnf)
    | (refine ix_map (by omega) ?_; conv => whnf)
    | (refine ix_str (by omega) ?_; conv => whnf)
    | (refine wrap64 (by omega) ?_; conv => whnf)
    | (refine wrap64 (by first | omega | (simp only [List.length_map]; omega)) ?_; conv => whnf)
    | (exfalso; simp only [List.length_map, List.length_cons, List.length_nil, List.length_append] at h; omega)
    | ((with_reducible refine endx_go ?_); first | (refine endxv rfl ?_; (rw [sized_8 (.inl h)]) <;> rfl; done) | (refine endxv rfl ?_; (rw [sized_8 (.inr h)]) <;> rfl; done) | (refine endxv rfl ?_; (rw [sized_8 (.inr (of_decide_eq_true h))]) <;> rfl; done) | (refine endxv rfl ?_; (rw [sized_0 (by assumption) (by assumption)]) <;> rfl; done))
    | (refine ⟨rfl, ?_⟩; conv => whnf)
    | fail
    )

theorem grow_cap {z : Int} (h0 : 0 ≤ z) (h : z < 1000000) : z * ((16 : Nat) : Int) ≤ 140737488355328 := by omega
abbrev rep (n : Nat) : List AV := List.replicate n (.d (.str []))
theorem grow_row {n m : Nat} (e : m = n) : ([⟨List.replicate m (.d (.str [])), 1, 0⟩] : Heap) = [⟨rep n, 1, 0⟩] := by subst e; rfl
theorem grow_e2 {n : Nat} (e : n = 0) : EndX [] 0 [] (tupD [.nilS]) (.sl 0 0 0 1 none) [⟨rep n, 1, 0⟩] := by
  subst e
  exact endX_of (.inl ⟨[.void 1], rfl, rfl, ⟨⟨rfl, rfl, rfl, rfl⟩, trivial⟩, ⟨rfl, rfl, by decide, rfl⟩, trivial⟩)
def lens (L : List (List Bs)) (k : Nat) : Nat := ((L.take k).map List.length).sum
theorem lens_at {L : List (List Bs)} {k : Nat} (h : k < L.length) : lens L (k + 1) = lens L k + L[k].length := by
  unfold lens; rw [List.take_succ_eq_append_getElem h, List.map_append, List.sum_append]; simp only [List.map_cons, List.map_nil, List.sum_cons, List.sum_nil, Nat.add_zero]
theorem lens_flat (L : List (List Bs)) (k : Nat) : lens L k = (L.take k).flatten.length := by
  unfold lens; rw [List.length_flatten]
theorem lens_mono {L : List (List Bs)} {k : Nat} : lens L k ≤ lens L L.length := by
  rw [lens_flat, lens_flat, List.take_length]
  conv => rhs; rw [← List.take_append_drop k L]
  rw [List.flatten_append, List.length_append]
  omega
def catR (L : List (List Bs)) (k : Nat) : List AV := ((L.take k).flatten.map D.str).map .d ++ rep (lens L L.length - lens L k)
theorem cat_0 (L : List (List Bs)) : catR L 0 = (List.replicate (lens L L.length) (D.str [])).map .d := by
  simp [catR, lens, rep]
abbrev rowL (l : List Bs) : D := .fs (l.map .str)

theorem c104 (n : Nat) (hn : n < 1000000) : Run Tryz.prog 104 [.nilS, .d (i n)] [] (.sl 0 0 0 1 none) [⟨rep n, 1, 0⟩] := by
  refine run_walkF eok Tryz.func104 rfl (by kernel_rfl) ?_
  conv => whnf
  repeat' (first
    | ((with_reducible refine on_dec_f ?_ ?_); (focus ((try simp only [List.length_map, List.length_cons, List.length_nil, List.length_append]); omega)); conv => whnf)
    | ((with_reducible refine on_dec_t ?_ ?_); (focus ((try simp only [List.length_map, List.length_cons, List.length_nil, List.length_append]); omega)); conv => whnf)
    | ((with_reducible refine on_dec (fun h => ?_) (fun h => ?_)) <;> (try simp only [List.length_map] at h) <;> conv => whnf)
    | ((with_reducible refine on_ndec (fun h => ?_) (fun h => ?_)) <;> (try simp only [List.length_map] at h) <;> conv => whnf)
    | ((with_reducible refine on_not (fun h => ?_) (fun h => ?_)) <;> conv => whnf)
    | ((with_reducible refine onBool_split (fun h => ?_) (fun h => ?_)) <;> conv => whnf)
    | (refine ⟨⟨(by first | rfl | (simp; done)), cap_ok (by simp only [List.length_map, List.length_cons, List.length_nil, List.length_append]; omega) rfl⟩, ?_⟩; conv => whnf)
    | (refine ⟨mem_one ⟨rfl, rfl⟩, ?_⟩; conv => whnf)
    | (refine ⟨(by intro y hy; obtain ⟨x, _, rfl⟩ := List.mem_map.1 hy; first | rfl | exact ⟨rfl, rfl⟩), ?_⟩; conv => whnf)
    | (refine ⟨cap_ok (by first | omega | (simp only [List.length_map]; omega)) rfl, ?_⟩; conv => whnf)
    | (refine ix_map (by omega) ?_; conv => whnf)
    | (refine ix_str (by omega) ?_; conv => whnf)
    | (refine wrap64 (by omega) ?_; conv => whnf)
    | (refine wrap64 (by first | omega | (simp only [List.length_map]; omega)) ?_; conv => whnf)
    | (refine ⟨⟨rfl, rfl, rfl⟩, ?_⟩; conv => whnf)
    | (refine ⟨⟨by omega, by omega, grow_cap (by omega) (by omega)⟩, ?_⟩; conv => whnf)
    | (refine ⟨cap_ok (by simp only [List.length_replicate]; omega) rfl, ?_⟩; conv => whnf)
    | (refine own_sl 0 0 rfl rfl ⟨Nat.le_refl _, Nat.zero_le _⟩ ?_; conv => whnf)
    | (exfalso; simp only [List.length_map, List.length_cons, List.length_nil, List.length_append] at h; omega)
    | ((with_reducible refine endx_go ?_); first | (refine endx_same rfl ?_; exact grow_row (by omega); done) | (exact grow_e2 (by omega); done))
    | (refine ⟨rfl, ?_⟩; conv => whnf)
    | fail
    )

theorem c104e {L : List (List Bs)} {k : Nat} (h : ¬ (k : Int) < L.length) (hk : k ≤ L.length) (hs : lens L L.length < 1000000) : Run Tryz.prog 104 [.nilS, .d (i (lens L k))] [] (.sl 0 0 0 1 none) [⟨rep (lens L L.length), 1, 0⟩] := by
  have : k = L.length := by omega
  subst this
  exact c104 _ hs
theorem rep_d (n : Nat) : rep n = (List.replicate n (D.str [])).map .d := by simp [rep]
theorem cat_end {L : List (List Bs)} {k : Nat} (hk : L.length ≤ k) : catR L k = (L.flatten.map D.str).map .d := by
  have e : lens L L.length - lens L k = 0 := by rw [lens_flat, lens_flat, List.take_of_length_le hk, List.take_length]; omega
  unfold catR; rw [e, List.take_of_length_le hk]; simp [rep]
theorem lens_end {L : List (List Bs)} {k : Nat} (hk : L.length ≤ k) : lens L k = L.flatten.length := by rw [lens_flat, List.take_of_length_le hk]
theorem cat_len (L : List (List Bs)) (k : Nat) : (catR L k).length = lens L L.length := by
  have := lens_mono (L := L) (k := k)
  unfold catR
  simp only [List.length_append, List.length_map, rep, List.length_replicate]
  rw [← lens_flat]; omega
theorem cat_step {L : List (List Bs)} {k : Nat} (hk : k < L.length) : over (catR L k) (0 + lens L k) ((L[k].map D.str).map .d) = catR L (k + 1) := by
  have h1 := lens_mono (L := L) (k := k + 1)
  rw [lens_at hk] at h1
  have e1 : (((L.take k).flatten.map D.str).map AV.d).length = lens L k := by rw [List.length_map, List.length_map, lens_flat]
  unfold over catR
  rw [Nat.zero_add, List.take_left' e1, List.length_map, List.length_map, List.take_succ_eq_append_getElem hk, List.flatten_append, List.map_append, List.map_append, lens_at hk]
  rw [List.drop_append, e1, List.drop_of_length_le (by omega)]
  simp only [List.flatten_cons, List.flatten_nil, List.append_nil, List.nil_append, rep, List.drop_replicate, List.append_assoc]
  congr 2
  congr 1
  omega
theorem cat_fit {L : List (List Bs)} {k : Nat} (hk : k < L.length) : 0 + lens L k + L[k].length ≤ (catR L k).length := by
  have h1 := lens_mono (L := L) (k := k + 1)
  rw [lens_at hk] at h1
  rw [cat_len]; omega
theorem view_cat {L : List (List Bs)} {k : Nat} (hk : L.length ≤ k) : view 8 [⟨catR L k, 1, 0⟩] (.sl 0 0 (lens L k) 1 none) = some (rowL L.flatten) := by
  rw [cat_end hk, lens_end hk]
  exact view_map (n := 6) rfl Nat.two_pos
theorem catR_d (L : List (List Bs)) (k : Nat) : ∃ l : List D, catR L k = l.map .d := ⟨(L.take k).flatten.map D.str ++ List.replicate (lens L L.length - lens L k) (.str []), by simp [catR, rep]⟩

theorem c68 (L : List (List Bs)) (hL : L.length < 1000000) (hs : lens L L.length < 1000000) : Fn 68 [.fs (L.map rowL)] (rowL L.flatten) := by
  refine run_walkF eok Tryz.func68 rfl (by kernel_rfl) ?_
  conv => whnf
  repeat' (first
    | ((with_reducible refine on_dec_f ?_ ?_); (focus ((try simp only [List.length_map, List.length_cons, List.length_nil, List.length_append]); omega)); conv => whnf)
    | ((with_reducible refine on_dec_t ?_ ?_); (focus ((try simp only [List.length_map, List.length_cons, List.length_nil, List.length_append]); omega)); conv => whnf)
    | ((with_reducible refine on_dec (fun h => ?_) (fun h => ?_)) <;> (try simp only [List.length_map] at h) <;> conv => whnf)
    | ((with_reducible refine on_ndec (fun h => ?_) (fun h => ?_)) <;> (try simp only [List.length_map] at h) <;> conv => whnf)
    | ((with_reducible refine on_not (fun h => ?_) (fun h => ?_)) <;> conv => whnf)
    | ((with_reducible refine onBool_split (fun h => ?_) (fun h => ?_)) <;> conv => whnf)
    | ((with_reducible refine call_go ?_); (first | refine call_step (c104e h hI hs) ?_); conv => whnf)
    | ((with_reducible refine loop_go ?_); first | (refine loop1 (fun (k : Nat) => L.length - k) (fun (k : Nat) => k ≤ L.length) (fun (k : Nat) => [(6, .sl 0 0 (lens L k) 1 none), (25, .d (.fs (L.map rowL))), (26, .d (i L.length)), (27, .d (i k))]) (fun (k : Nat) => [⟨catR L k, 1, 0⟩]) (0) (by exact Nat.zero_le _) ?_ (fun k C hI hC => ?_); (exact ⟨[.old 0], rfl, rfl, ⟨(by first | exact congrArg (D.int .i64) (by omega) | exact ⟨rfl, rfl, rfl⟩ | exact ⟨rfl, rfl, rfl, rfl, rfl⟩ | (show (_ : D) = _; with_reducible rfl)), (by first | (show (_ : D) = _; with_reducible rfl) | exact rfl), (congrArg (D.int .i64) (by simp only [List.length_map])), (by first | (show (_ : D) = _; with_reducible rfl) | exact congrArg (D.int .i64) (by omega) | exact congrArg (D.int .i64) (by simp only [List.length_map]) | exact rfl), trivial⟩, ⟨⟨rfl, rfl, .inl ⟨_, rep_d _, cat_0 L⟩⟩, trivial⟩⟩); all_goals (conv => whnf)) | (refine loop1 (fun (k : Nat) => L.length - k) (fun (k : Nat) => k ≤ L.length) (fun (k : Nat) => [(0, .d (.fs (L.map rowL))), (3, .d (i (lens L k))), (9, .d (.fs (L.map rowL))), (10, .d (i L.length)), (11, .d (i k))]) (fun (k : Nat) => []) (0) (by exact Nat.zero_le _) ?_ (fun k C hI hC => ?_); (exact ⟨[], rfl, rfl, ⟨(by first | (show (_ : D) = _; with_reducible rfl) | exact rfl), (by first | (show (_ : D) = _; with_reducible rfl) | exact congrArg (D.int .i64) (by omega) | exact congrArg (D.int .i64) (by simp only [List.length_map]) | exact rfl), (by first | (show (_ : D) = _; with_reducible rfl) | exact rfl), (congrArg (D.int .i64) (by simp only [List.length_map])), (by first | (show (_ : D) = _; with_reducible rfl) | exact congrArg (D.int .i64) (by omega) | exact congrArg (D.int .i64) (by simp only [List.length_map]) | exact rfl), trivial⟩, trivial⟩); all_goals (conv => whnf)))
    | ((with_reducible show C _ _); first | (refine hC (k + 1) _ _ ?_ (by omega) ?_; clear hC; rotate_left; (exact ⟨[], rfl, rfl, ⟨(by first | (show (_ : D) = _; with_reducible rfl) | exact rfl), (congrArg (D.int .i64) (by rw [lens_at (by omega)]; simp only [List.length_map]; omega)), (by first | (show (_ : D) = _; with_reducible rfl) | exact rfl), (by first | (show (_ : D) = _; with_reducible rfl) | exact congrArg (D.int .i64) (by omega) | exact congrArg (D.int .i64) (by simp only [List.length_map]) | exact rfl), (by first | (show (_ : D) = _; with_reducible rfl) | exact congrArg (D.int .i64) (by omega) | exact congrArg (D.int .i64) (by simp only [List.length_map]) | exact rfl), trivial⟩, trivial⟩); (exact by omega)) | (refine hC (k + 1) _ _ ?_ (by omega) ?_; clear hC; rotate_left; (exact ⟨[.old 0], rfl, rfl, ⟨⟨rfl, rfl, (by rw [lens_at (by omega)]; simp only [List.length_map]), rfl, rfl⟩, (by first | (show (_ : D) = _; with_reducible rfl) | exact rfl), (by first | (show (_ : D) = _; with_reducible rfl) | exact congrArg (D.int .i64) (by omega) | exact congrArg (D.int .i64) (by simp only [List.length_map]) | exact rfl), (by first | (show (_ : D) = _; with_reducible rfl) | exact congrArg (D.int .i64) (by omega) | exact congrArg (D.int .i64) (by simp only [List.length_map]) | exact rfl), trivial⟩, ⟨⟨rfl, rfl, .inl ⟨_, (cat_step (by omega)).trans (catR_d L _).choose_spec, (catR_d L _).choose_spec⟩⟩, trivial⟩⟩); (exact by omega)))
    | (refine ⟨⟨(by first | rfl | (simp; done)), cap_ok (by simp only [List.length_map, List.length_cons, List.length_nil, List.length_append]; omega) rfl⟩, ?_⟩; conv => whnf)
    | (refine ⟨mem_one ⟨rfl, rfl⟩, ?_⟩; conv => whnf)
    | (refine ⟨(by intro y hy; obtain ⟨x, _, rfl⟩ := List.mem_map.1 hy; first | rfl | exact ⟨rfl, rfl⟩), ?_⟩; conv => whnf)
    | (refine ⟨cap_ok (by first | omega | (simp only [List.length_map]; omega)) rfl, ?_⟩; conv => whnf)
    | (refine ix_map (by omega) ?_; conv => whnf)
    | (refine ix_str (by omega) ?_; conv => whnf)
    | (refine wrap64 (by omega) ?_; conv => whnf)
    | (refine wrap64 (by have := lens_mono (L := L) (k := k + 1); rw [lens_at (by omega)] at this; simp only [List.length_map]; omega) ?_; conv => whnf)
    | (refine wrap64 (by first | omega | (simp only [List.length_map]; omega)) ?_; conv => whnf)
    | (exact absurd (cat_fit (by omega)) h)
    | (exfalso; simp only [List.length_map, List.length_cons, List.length_nil, List.length_append] at h; omega)
    | ((with_reducible refine endx_go ?_); first | (refine endxv (view_cat (by omega)) rfl; done))
    | (refine ⟨rfl, ?_⟩; conv => whnf)
    | fail
    )

end Go.Proofs.YtpfokhdelnlciaaGreatDoor

/-! Wk -/
namespace Go.Proofs.YtpfokhdelnlciaaGreatDoor
open Go Dw
set_option maxRecDepth 10000
set_option linter.unusedVariables false
set_option linter.unusedSimpArgs false
attribute [local irreducible] Run
set_option maxHeartbeats 2000000

open Paths
theorem step_bd {P : Bs → Prop} {abs : Bool} {out : List Bs} {s : Bs} (ho : ∀ x ∈ out, P x) (hs : P s) : (∀ x ∈ normStep abs out s, P x) ∧ (normStep abs out s).length ≤ out.length + 1 := by
  have ha : (∀ x ∈ out ++ [s], P x) ∧ (out ++ [s]).length ≤ out.length + 1 := ⟨fun x hx => by
    rcases List.mem_append.1 hx with hx | hx
    · exact ho x hx
    · rw [List.mem_singleton] at hx; subst hx; exact hs, by simp⟩
  have hz : (∀ x ∈ out, P x) ∧ out.length ≤ out.length + 1 := ⟨ho, by omega⟩
  unfold normStep
  split
  · exact hz
  · split
    · exact ha
    · split
      · exact ⟨fun x hx => ho x ((List.dropLast_sublist _).mem hx), by rw [List.length_dropLast]; omega⟩
      · split
        · exact hz
        · exact ha
theorem foldn_bd {P : Bs → Prop} {abs : Bool} : ∀ {l out : List Bs}, (∀ x ∈ out, P x) → (∀ x ∈ l, P x) → (∀ x ∈ l.foldl (normStep abs) out, P x) ∧ (l.foldl (normStep abs) out).length ≤ out.length + l.length
  | [], out, ho, _ => ⟨ho, Nat.le_refl _⟩
  | s :: l, out, ho, h => by
    have h1 := step_bd (abs := abs) ho (h s (by simp))
    have ih := foldn_bd (abs := abs) (l := l) h1.1 (fun x hx => h x (by simp [hx]))
    refine ⟨ih.1, ?_⟩
    have := ih.2
    rw [List.foldl_cons, List.length_cons]
    omega
theorem normal_bd {P : Bs → Prop} {p : PP} (h : ∀ x ∈ p.parts, P x) (h0 : P [46]) : (∀ x ∈ (normal p).parts, P x) ∧ (normal p).parts.length ≤ p.parts.length + 1 := by
  have hf := foldn_bd (abs := p.abs) (l := p.parts) (out := []) (fun x hx => by cases hx) h
  unfold normal
  simp only
  split
  · exact ⟨fun x hx => by rw [List.mem_singleton] at hx; subst hx; exact h0, by simp⟩
  · exact ⟨hf.1, by have := hf.2; rw [List.length_nil] at this; omega⟩
theorem text_lenG {p : PP} (h : p.parts.length ≤ 1000) (hb : ∀ x ∈ p.parts, x.length ≤ 60) (ht : p.stream.length ≤ 200) : (text p).length < 1000000 := by
  have h1 := glue_len (c := 47) hb
  have h2 : p.parts.length * (60 + 1) ≤ 1000 * 61 := Nat.mul_le_mul_right _ h
  have h3 : ((if p.abs then [47] else []) : Bs).length ≤ 1 := by split <;> simp
  have h4 : (if p.stream = [] then ([] : Bs) else 58 :: p.stream).length ≤ 201 := by split <;> simp; omega
  unfold text
  rw [List.length_append, List.length_append]
  omega
/-- A path's parts and stream are small. -/
def Sm (p : PP) : Prop := p.parts.length ≤ 900 ∧ (∀ x ∈ p.parts, x.length ≤ 60) ∧ p.stream.length ≤ 200
theorem Sm.text {p : PP} (h : Sm p) : (text p).length < 1000000 := text_lenG (by have := h.1; omega) h.2.1 h.2.2
theorem Sm.parts {p : PP} (h : Sm p) : p.parts.length < 1000000 := by have := h.1; omega
theorem Sm.normal {p : PP} (h : p.parts.length ≤ 800) (hb : ∀ x ∈ p.parts, x.length ≤ 60) (ht : p.stream.length ≤ 200) : Sm (normal p) := by
  have := normal_bd (P := fun x => x.length ≤ 60) hb (by decide)
  exact ⟨by have := this.2; omega, this.1, ht⟩
theorem sm_parse {s : Bs} (h : (parse s).2 = 0) : Sm (parse s).1 := by
  have := parse_le s
  exact ⟨by omega, fun x hx => by have := this.2 x hx; omega, (stream_le h).1⟩
theorem parts_ne {b : Bs} (h : (parse b).2 = 0) (ha : (parse b).1.abs = false) : 0 < (parse b).1.parts.length := by
  rcases parse_cases b with ⟨e, h0, h1⟩ | ⟨_, h1⟩ | ⟨l, t, hc, hp, hs, h1⟩
  · rw [h1] at h; exact absurd h h0
  · rw [h1] at ha; cases ha
  · rw [h1]; exact List.length_pos_iff.2 (colons_dots (cut_ne _ _) hc).1
theorem view_two {l m : List Bs} {H : Heap} {id k k' st n : Nat} {c : Option Nat} (h : H[id]? = some ⟨(l.map D.str).map .d ++ (m.map D.str).map .d, k, st⟩) (hst : st < 2) (hn : n = l.length + m.length) : view 7 H (.sl id 0 n k' c) = some (.fs ((l ++ m).map D.str)) := by
  have e : n = (l ++ m).length := by rw [hn, List.length_append]
  rw [e]
  exact view_map (n := 5) (k := k) (st := st) (by rw [h, List.map_append, List.map_append]) hst
/-- b's parts behind a's. -/
def behind (a b : PP) : PP := ⟨true, a.parts ++ b.parts, b.stream⟩
theorem sm_behind {a b : Bs} (ha : (parse a).2 = 0) (hb : (parse b).2 = 0) : Sm (normal (behind (parse a).1 (parse b).1)) := by
  have h1 := parse_le a
  have h2 := parse_le b
  refine Sm.normal (by simp only [behind, List.length_append]; omega) (fun x hx => ?_) (stream_le hb).1
  rcases List.mem_append.1 hx with hx | hx
  · have := h1.2 x hx; omega
  · have := h2.2 x hx; omega
theorem sm_norm {b : Bs} (hb : (parse b).2 = 0) : Sm (normal (parse b).1) := by
  have h2 := parse_le b
  exact Sm.normal (by omega) (fun x hx => by have := h2.2 x hx; omega) (stream_le hb).1
def joinR (a b : Bs) : Bs × Int :=
  if (parse a).2 ≠ 0 then ([], (parse a).2) else if (parse b).2 ≠ 0 then ([], (parse b).2) else if (parse a).1.abs = false ∨ (parse a).1.stream ≠ [] then ([], 3)
  else if (parse b).1.abs = true then sized (normal (parse b).1) else sized (normal (behind (parse a).1 (parse b).1))
theorem jA {a b : Bs} (h : ¬ (parse a).2 = 0) : joinR a b = ([], (parse a).2) := if_pos h
theorem jB {a b : Bs} (h : (parse a).2 = 0) (h2 : ¬ (parse b).2 = 0) : joinR a b = ([], (parse b).2) := by unfold joinR; rw [if_neg (by simpa using h), if_pos h2]
theorem jC {a b : Bs} (h : (parse a).2 = 0) (h2 : (parse b).2 = 0) (h3 : (parse a).1.abs = false ∨ ¬ (parse a).1.stream = []) : joinR a b = ([], 3) := by unfold joinR; rw [if_neg (by simpa using h), if_neg (by simpa using h2), if_pos h3]
theorem jD {a b : Bs} (h : (parse a).2 = 0) (h2 : (parse b).2 = 0) (h3 : (parse a).1.abs = true) (h4 : (parse a).1.stream = []) (h5 : (parse b).1.abs = true) : joinR a b = sized (normal (parse b).1) := by unfold joinR; rw [if_neg (by simpa using h), if_neg (by simpa using h2), if_neg (by simp [h3, h4]), if_pos h5]
theorem jE {a b : Bs} (h : (parse a).2 = 0) (h2 : (parse b).2 = 0) (h3 : (parse a).1.abs = true) (h4 : (parse a).1.stream = []) (h5 : (parse b).1.abs = false) : joinR a b = sized (normal (behind (parse a).1 (parse b).1)) := by unfold joinR; rw [if_neg (by simpa using h), if_neg (by simpa using h2), if_neg (by simp [h3, h4]), if_neg (by simp [h5])]
attribute [local irreducible] nameErr cut normal dots partErr text parse glue fmtErr sized joinR

theorem c36n (l : List Bs) (hl : l.length < 1000000) : Run Tryz.prog 36 (([rowL l] : List D).map .d) [] (.sl 0 0 l.length 1 none) [⟨(l.map D.str).map .d, 1, 0⟩] := by
  refine run_walkF eok Tryz.func36 rfl (by kernel_rfl) ?_
  conv => whnf
  repeat' (first
    | ((with_reducible refine on_dec_f ?_ ?_); (focus ((try simp only [List.length_map, List.length_cons, List.length_nil, List.length_append]); omega)); conv => whnf)
    | ((with_reducible refine on_dec_t ?_ ?_); (focus ((try simp only [List.length_map, List.length_cons, List.length_nil, List.length_append]); omega)); conv => whnf)
    | ((with_reducible refine on_dec (fun h => ?_) (fun h => ?_)) <;> (try simp only [List.length_map] at h) <;> conv => whnf)
    | ((with_reducible refine on_ndec (fun h => ?_) (fun h => ?_)) <;> (try simp only [List.length_map] at h) <;> conv => whnf)
    | ((with_reducible refine on_not (fun h => ?_) (fun h => ?_)) <;> conv => whnf)
    | ((with_reducible refine onBool_split (fun h => ?_) (fun h => ?_)) <;> conv => whnf)
    | (refine ⟨⟨(by first | rfl | (simp; done)), cap_ok (by simp only [List.length_map, List.length_cons, List.length_nil, List.length_append]; omega) rfl⟩, ?_⟩; conv => whnf)
    | (refine ⟨mem_one ⟨rfl, rfl⟩, ?_⟩; conv => whnf)
    | (refine ⟨(by intro y hy; obtain ⟨x, _, rfl⟩ := List.mem_map.1 hy; first | rfl | exact ⟨rfl, rfl⟩), ?_⟩; conv => whnf)
    | (refine ⟨cap_ok (by first | omega | (simp only [List.length_map]; omega)) rfl, ?_⟩; conv => whnf)
    | (refine ix_map (by omega) ?_; conv => whnf)
    | (refine ix_str (by omega) ?_; conv => whnf)
    | (refine wrap64 (by omega) ?_; conv => whnf)
    | (refine wrap64 (by first | omega | (simp only [List.length_map]; omega)) ?_; conv => whnf)
    | (refine ⟨cap_ok (by simp only [List.length_map]; omega) rfl, ?_⟩; conv => whnf)
    | (exfalso; simp only [List.length_map, List.length_cons, List.length_nil, List.length_append] at h; omega)
    | ((with_reducible refine endx_go ?_); first | (exact endX_of (.inl ⟨[.old 0], rfl, rfl, ⟨⟨rfl, rfl, (by simp only [List.length_map]), rfl, rfl⟩, trivial⟩, ⟨rfl, rfl, .inl ⟨_, rfl, rfl⟩⟩, trivial⟩); done))
    | (refine ⟨rfl, ?_⟩; conv => whnf)
    | fail
    )

theorem c28 (a b : Bs) : Fn 28 [.str a, .str b] (.tup [.str (joinR a b).1, i (joinR a b).2]) := by
  refine run_walkF eok Tryz.func28 rfl (by kernel_rfl) ?_
  conv => whnf
  repeat' (first
    | ((with_reducible refine on_dec_f ?_ ?_); (focus ((try simp only [List.length_map, List.length_cons, List.length_nil, List.length_append]); omega)); conv => whnf)
    | ((with_reducible refine on_dec_t ?_ ?_); (focus ((try simp only [List.length_map, List.length_cons, List.length_nil, List.length_append]); omega)); conv => whnf)
    | ((with_reducible refine on_dec (fun h => ?_) (fun h => ?_)) <;> (try simp only [List.length_map] at h) <;> conv => whnf)
    | ((with_reducible refine on_ndec (fun h => ?_) (fun h => ?_)) <;> (try simp only [List.length_map] at h) <;> conv => whnf)
    | ((with_reducible refine on_not (fun h => ?_) (fun h => ?_)) <;> conv => whnf)
    | ((with_reducible refine onBool_split (fun h => ?_) (fun h => ?_)) <;> conv => whnf)
    | ((with_reducible refine call_go ?_); (first | refine call_step (run_viewF (c30 a) rfl) ?_ | refine call_step (run_viewF (c30 b) rfl) ?_ | refine call_step (run_viewF (c32 (parse b).1 (sm_parse (by assumption)).parts) rfl) ?_ | refine call_step (run_viewF (c32 (behind (parse a).1 (parse b).1) (by have h1 := parse_le a; have h2 := parse_le b; simp only [behind, List.length_append]; omega)) (vlc (view_agg (vlc rfl (vlc (view_two rfl Nat.two_pos (by simp only [List.length_map])) (vlc rfl vln)))) vln)) ?_ | refine call_step (run_view (c73 (normal (parse b).1) (sm_norm (by assumption)).parts (sm_norm (by assumption)).text) rfl rfl) ?_ | refine call_step (run_view (c73 (normal (behind (parse a).1 (parse b).1)) (sm_behind (by assumption) (by assumption)).parts (sm_behind (by assumption) (by assumption)).text) rfl rfl) ?_ | refine call_step (run_new (xs := [_]) (c36n (parse a).1.parts (sm_parse (by assumption)).parts) (fun _ => rfl) rfl) ?_); conv => whnf)
    | (refine ⟨[], [(4, 2), (7, 2), (7, 5)], (by decide +kernel), ?_⟩; conv => whnf)
    | (refine ⟨⟨(by first | rfl | (simp; done)), cap_ok (by simp only [List.length_map, List.length_cons, List.length_nil, List.length_append]; omega) rfl⟩, ?_⟩; conv => whnf)
    | (refine ⟨mem_one ⟨rfl, rfl⟩, ?_⟩; conv => whnf)
    | (refine ⟨(by intro y hy; obtain ⟨x, _, rfl⟩ := List.mem_map.1 hy; first | rfl | exact ⟨rfl, rfl⟩), ?_⟩; conv => whnf)
    | (refine ⟨cap_ok (by first | omega | (simp only [List.length_map]; omega)) rfl, ?_⟩; conv => whnf)
    | (refine ix_map (by omega) ?_; conv => whnf)
    | (refine ix_str (by omega) ?_; conv => whnf)
    | (refine wrap64 (by omega) ?_; conv => whnf)
    | (refine wrap64 (by first | omega | (simp only [List.length_map]; omega)) ?_; conv => whnf)
    | (exact absurd h (by have := parts_ne (b := b) (by assumption) (by assumption); omega))
    | (refine ⟨⟨by simp only [List.length_map]; omega, cap_ok (by have := parse_le a; have := parse_le b; simp only [List.length_map]; omega) rfl⟩, ?_⟩; conv => whnf)
    | (exfalso; simp only [List.length_map, List.length_cons, List.length_nil, List.length_append] at h; omega)
    | ((with_reducible refine endx_go ?_); first | (refine endxv rfl ?_; (rw [jA h]) <;> rfl; done) | (refine endxv rfl ?_; (rw [jB (by assumption) h]) <;> rfl; done) | (refine endxv rfl ?_; (rw [jC (by assumption) (by assumption) (.inl h)]) <;> rfl; done) | (refine endxv rfl ?_; (rw [jC (by assumption) (by assumption) (.inr (of_decide_eq_false h))]) <;> rfl; done) | (refine endxv rfl ?_; (rw [jD (by assumption) (by assumption) (by assumption) (of_decide_eq_true (by assumption)) h]) <;> rfl; done) | (refine endxv rfl ?_; (rw [jE (by assumption) (by assumption) (by assumption) (of_decide_eq_true (by assumption)) (by assumption)]) <;> rfl; done))
    | (refine ⟨rfl, ?_⟩; conv => whnf)
    | fail
    )

theorem first3 (a b c : Int) : firstE [a, b, c] = if a = 0 then (if b = 0 then c else b) else a := by
  simp only [firstE]
  by_cases h : c = 0
  · rw [if_pos h, h]
  · rw [if_neg h]
theorem jF {a b : Bs} {c : Bool} (hc : c = true ↔ (parse a).1.abs = true ∧ (parse a).1.stream = []) (h : ¬ firstE [(parse a).2, (parse b).2, if c = true then 0 else 3] = 0) : joinR a b = ([], firstE [(parse a).2, (parse b).2, if c = true then 0 else 3]) := by
  rw [first3] at h ⊢
  by_cases h1 : (parse a).2 = 0
  · rw [if_pos h1] at h ⊢
    by_cases h2 : (parse b).2 = 0
    · rw [if_pos h2] at h ⊢
      cases c
      · rw [jC h1 h2 (by
          cases ha : (parse a).1.abs
          · exact .inl rfl
          · exact .inr fun hs => by have := hc.2 ⟨ha, hs⟩; cases this)]; rfl
      · exact absurd rfl h
    · rw [if_neg h2, jB h1 h2]
  · rw [if_neg h1, jA h1]
theorem jG {a b : Bs} {c : Bool} (hc : c = true ↔ (parse a).1.abs = true ∧ (parse a).1.stream = []) (h : firstE [(parse a).2, (parse b).2, if c = true then 0 else 3] = 0) : (parse a).2 = 0 ∧ (parse b).2 = 0 ∧ (parse a).1.abs = true ∧ (parse a).1.stream = [] := by
  rw [first3] at h
  by_cases h1 : (parse a).2 = 0
  · rw [if_pos h1] at h
    by_cases h2 : (parse b).2 = 0
    · rw [if_pos h2] at h
      cases c
      · cases h
      · exact ⟨h1, h2, hc.1 rfl⟩
    · rw [if_neg h2] at h; exact absurd h h2
  · rw [if_neg h1] at h; exact absurd h h1

theorem jF1 {a b : Bs} (ha : (parse a).1.abs = true) (h : ¬ firstE [(parse a).2, (parse b).2, if decide ((parse a).1.stream = []) = true then 0 else 3] = 0) : joinR a b = ([], firstE [(parse a).2, (parse b).2, if decide ((parse a).1.stream = []) = true then 0 else 3]) :=
  jF (c := decide ((parse a).1.stream = [])) ⟨fun h => ⟨ha, of_decide_eq_true h⟩, fun h => decide_eq_true h.2⟩ h
theorem jF0 {a b : Bs} (ha : (parse a).1.abs = false) : joinR a b = ([], firstE [(parse a).2, (parse b).2, 3]) ∧ ¬ firstE [(parse a).2, (parse b).2, 3] = 0 := by
  have h0 : ¬ firstE [(parse a).2, (parse b).2, 3] = 0 := by
    rw [first3]
    split
    · split
      · decide
      · assumption
    · assumption
  exact ⟨jF (c := false) ⟨fun h => (by cases h), fun h => absurd h.1 (by rw [ha]; decide)⟩ h0, h0⟩
theorem jG1 {a b : Bs} (ha : (parse a).1.abs = true) (h : firstE [(parse a).2, (parse b).2, if decide ((parse a).1.stream = []) = true then 0 else 3] = 0) : (parse a).2 = 0 ∧ (parse b).2 = 0 ∧ (parse a).1.abs = true ∧ (parse a).1.stream = [] :=
  jG (c := decide ((parse a).1.stream = [])) ⟨fun h => ⟨ha, of_decide_eq_true h⟩, fun h => decide_eq_true h.2⟩ h
theorem c68ab (l m : List Bs) (hl : l.length ≤ 1000) (hm : m.length ≤ 1000) : Fn 68 [.fs [rowL l, rowL m]] (rowL (l ++ m)) := by
  have e : lens [l, m] [l, m].length = l.length + m.length := by simp [lens]
  have := c68 [l, m] (by simp) (by rw [e]; omega)
  simpa using this

theorem c26 (a b : Bs) : Fn 26 [.str a, .str b] (.tup [.str (joinR a b).1, i (joinR a b).2]) := by
  refine run_walkF eok Tryz.func26 rfl (by kernel_rfl) ?_
  conv => whnf
  repeat' (first
    | ((with_reducible refine on_dec_f ?_ ?_); (focus ((try simp only [List.length_map, List.length_cons, List.length_nil, List.length_append]); omega)); conv => whnf)
    | ((with_reducible refine on_dec_t ?_ ?_); (focus ((try simp only [List.length_map, List.length_cons, List.length_nil, List.length_append]); omega)); conv => whnf)
    | ((with_reducible refine on_dec (fun h => ?_) (fun h => ?_)) <;> (try simp only [List.length_map] at h) <;> conv => whnf)
    | ((with_reducible refine on_ndec (fun h => ?_) (fun h => ?_)) <;> (try simp only [List.length_map] at h) <;> conv => whnf)
    | ((with_reducible refine on_not (fun h => ?_) (fun h => ?_)) <;> conv => whnf)
    | ((with_reducible refine onBool_split (fun h => ?_) (fun h => ?_)) <;> conv => whnf)
    | ((with_reducible refine call_go ?_); (first | refine call_step (run_viewF (c35 a) rfl) ?_ | refine call_step (run_viewF (c35 b) rfl) ?_ | refine call_step (run_view (c53 _ _) rfl rfl) ?_ | refine call_step (run_view (c52 [_, _, _] (by simp)) rfl rfl) ?_ | refine call_step (run_viewF (c68ab (parse a).1.parts (parse b).1.parts (by have := parse_le a; omega) (by have := parse_le b; omega)) rfl) ?_ | refine call_step (run_viewF (c56 (parse b).1 (by have := parse_le b; omega)) rfl) ?_ | refine call_step (run_viewF (c56 (behind (parse a).1 (parse b).1) (by have h1 := parse_le a; have h2 := parse_le b; simp only [behind, List.length_append]; omega)) rfl) ?_ | refine call_step (run_view (c69 (normal (parse b).1) (sm_norm (jG1 (a := a) (b := b) (by assumption) (by assumption)).2.1).parts (sm_norm (jG1 (a := a) (b := b) (by assumption) (by assumption)).2.1).text) rfl rfl) ?_ | refine call_step (run_view (c69 (normal (behind (parse a).1 (parse b).1)) (sm_behind (jG1 (a := a) (b := b) (by assumption) (by assumption)).1 (jG1 (a := a) (b := b) (by assumption) (by assumption)).2.1).parts (sm_behind (jG1 (a := a) (b := b) (by assumption) (by assumption)).1 (jG1 (a := a) (b := b) (by assumption) (by assumption)).2.1).text) rfl rfl) ?_); conv => whnf)
    | (refine ⟨⟨(by first | rfl | (simp; done)), cap_ok (by simp only [List.length_map, List.length_cons, List.length_nil, List.length_append]; omega) rfl⟩, ?_⟩; conv => whnf)
    | (refine ⟨mem_one ⟨rfl, rfl⟩, ?_⟩; conv => whnf)
    | (refine ⟨(by intro y hy; obtain ⟨x, _, rfl⟩ := List.mem_map.1 hy; first | rfl | exact ⟨rfl, rfl⟩), ?_⟩; conv => whnf)
    | (refine ⟨cap_ok (by first | omega | (simp only [List.length_map]; omega)) rfl, ?_⟩; conv => whnf)
    | (refine ix_map (by omega) ?_; conv => whnf)
    | (refine ix_str (by omega) ?_; conv => whnf)
    | (refine wrap64 (by omega) ?_; conv => whnf)
    | (refine wrap64 (by first | omega | (simp only [List.length_map]; omega)) ?_; conv => whnf)
    | (refine absurd ?_ (jF0 (a := a) (b := b) (by assumption)).2; (simp only [Bool.false_eq_true, if_false] at *); assumption)
    | (exfalso; simp only [List.length_map, List.length_cons, List.length_nil, List.length_append] at h; omega)
    | ((with_reducible refine endx_go ?_); first | (refine endxv rfl ?_; (rw [jF1 (by assumption) h]) <;> rfl; done) | (refine endxv rfl ?_; (rw [(jF0 (b := b) (by assumption)).1]) <;> rfl; done) | (exact absurd h (jF0 (by assumption)).2; done) | (refine endxv rfl ?_; (have hg := jG1 (a := a) (b := b) (by assumption) (by assumption)); (rw [jD hg.1 hg.2.1 hg.2.2.1 hg.2.2.2 (by assumption)]) <;> rfl; done) | (refine endxv rfl ?_; (have hg := jG1 (a := a) (b := b) (by assumption) (by assumption)); (rw [jE hg.1 hg.2.1 hg.2.2.1 hg.2.2.2 (by assumption)]) <;> rfl; done))
    | (refine ⟨rfl, ?_⟩; conv => whnf)
    | fail
    )

end Go.Proofs.YtpfokhdelnlciaaGreatDoor

/-! Wl -/
namespace Go.Proofs.YtpfokhdelnlciaaGreatDoor
open Go Dw
set_option maxRecDepth 10000
set_option linter.unusedVariables false
set_option linter.unusedSimpArgs false
attribute [local irreducible] Run
set_option maxHeartbeats 2000000

open Paths
def up : Bs := [46, 46]
theorem c72_0 : Run Tryz.prog 72 [.d (.fs [.str [46, 46]]), .d (.int .i64 0)] [] (.sl 0 0 0 1 (some 0)) [⟨[], 1, 0⟩] :=
  evFun2_ok eok (fs := Tryz.prog.funcs.toList) (orc := orcA) horcA rfl names_ok (dm := fun _ => false) (N := 60) 40 72 _ _ _ _ (by kernel_rfl)
theorem c72_1 : Run Tryz.prog 72 [.d (.fs [.str [46, 46]]), .d (.int .i64 1)] [] (.sl 0 0 1 1 (some 1)) [⟨[.d (.str [46, 46])], 1, 0⟩] :=
  evFun2_ok eok (fs := Tryz.prog.funcs.toList) (orc := orcA) horcA rfl names_ok (dm := fun _ => false) (N := 60) 40 72 _ _ _ _ (by kernel_rfl)
theorem c72_2 : Run Tryz.prog 72 [.d (.fs [.str [46, 46]]), .d (.int .i64 2)] [] (.sl 0 0 2 1 (some 2)) [⟨[.d (.str [46, 46]), .d (.str [46, 46])], 1, 0⟩] :=
  evFun2_ok eok (fs := Tryz.prog.funcs.toList) (orc := orcA) horcA rfl names_ok (dm := fun _ => false) (N := 60) 40 72 _ _ _ _ (by kernel_rfl)
theorem c72_3 : Run Tryz.prog 72 [.d (.fs [.str [46, 46]]), .d (.int .i64 3)] [] (.sl 0 0 3 1 (some 3)) [⟨[.d (.str [46, 46]), .d (.str [46, 46]), .d (.str [46, 46])], 1, 0⟩] :=
  evFun2_ok eok (fs := Tryz.prog.funcs.toList) (orc := orcA) horcA rfl names_ok (dm := fun _ => false) (N := 60) 40 72 _ _ _ _ (by kernel_rfl)
theorem c72_4 : Run Tryz.prog 72 [.d (.fs [.str [46, 46]]), .d (.int .i64 4)] [] (.sl 0 0 4 1 (some 4)) [⟨[.d (.str [46, 46]), .d (.str [46, 46]), .d (.str [46, 46]), .d (.str [46, 46])], 1, 0⟩] :=
  evFun2_ok eok (fs := Tryz.prog.funcs.toList) (orc := orcA) horcA rfl names_ok (dm := fun _ => false) (N := 60) 40 72 _ _ _ _ (by kernel_rfl)
theorem c72_5 : Run Tryz.prog 72 [.d (.fs [.str [46, 46]]), .d (.int .i64 5)] [] (.sl 0 0 5 1 (some 5)) [⟨[.d (.str [46, 46]), .d (.str [46, 46]), .d (.str [46, 46]), .d (.str [46, 46]), .d (.str [46, 46])], 1, 0⟩] :=
  evFun2_ok eok (fs := Tryz.prog.funcs.toList) (orc := orcA) horcA rfl names_ok (dm := fun _ => false) (N := 60) 40 72 _ _ _ _ (by kernel_rfl)
theorem c72_6 : Run Tryz.prog 72 [.d (.fs [.str [46, 46]]), .d (.int .i64 6)] [] (.sl 0 0 6 1 (some 6)) [⟨[.d (.str [46, 46]), .d (.str [46, 46]), .d (.str [46, 46]), .d (.str [46, 46]), .d (.str [46, 46]), .d (.str [46, 46])], 1, 0⟩] :=
  evFun2_ok eok (fs := Tryz.prog.funcs.toList) (orc := orcA) horcA rfl names_ok (dm := fun _ => false) (N := 60) 40 72 _ _ _ _ (by kernel_rfl)
theorem c72_7 : Run Tryz.prog 72 [.d (.fs [.str [46, 46]]), .d (.int .i64 7)] [] (.sl 0 0 7 1 (some 7)) [⟨[.d (.str [46, 46]), .d (.str [46, 46]), .d (.str [46, 46]), .d (.str [46, 46]), .d (.str [46, 46]), .d (.str [46, 46]), .d (.str [46, 46])], 1, 0⟩] :=
  evFun2_ok eok (fs := Tryz.prog.funcs.toList) (orc := orcA) horcA rfl names_ok (dm := fun _ => false) (N := 60) 40 72 _ _ _ _ (by kernel_rfl)
theorem c72_8 : Run Tryz.prog 72 [.d (.fs [.str [46, 46]]), .d (.int .i64 8)] [] (.sl 0 0 8 1 (some 8)) [⟨[.d (.str [46, 46]), .d (.str [46, 46]), .d (.str [46, 46]), .d (.str [46, 46]), .d (.str [46, 46]), .d (.str [46, 46]), .d (.str [46, 46]), .d (.str [46, 46])], 1, 0⟩] :=
  evFun2_ok eok (fs := Tryz.prog.funcs.toList) (orc := orcA) horcA rfl names_ok (dm := fun _ => false) (N := 60) 40 72 _ _ _ _ (by kernel_rfl)
theorem c72_9 : Run Tryz.prog 72 [.d (.fs [.str [46, 46]]), .d (.int .i64 9)] [] (.sl 0 0 9 1 (some 9)) [⟨[.d (.str [46, 46]), .d (.str [46, 46]), .d (.str [46, 46]), .d (.str [46, 46]), .d (.str [46, 46]), .d (.str [46, 46]), .d (.str [46, 46]), .d (.str [46, 46]), .d (.str [46, 46])], 1, 0⟩] :=
  evFun2_ok eok (fs := Tryz.prog.funcs.toList) (orc := orcA) horcA rfl names_ok (dm := fun _ => false) (N := 60) 40 72 _ _ _ _ (by kernel_rfl)
theorem c72_10 : Run Tryz.prog 72 [.d (.fs [.str [46, 46]]), .d (.int .i64 10)] [] (.sl 0 0 10 1 (some 10)) [⟨[.d (.str [46, 46]), .d (.str [46, 46]), .d (.str [46, 46]), .d (.str [46, 46]), .d (.str [46, 46]), .d (.str [46, 46]), .d (.str [46, 46]), .d (.str [46, 46]), .d (.str [46, 46]), .d (.str [46, 46])], 1, 0⟩] :=
  evFun2_ok eok (fs := Tryz.prog.funcs.toList) (orc := orcA) horcA rfl names_ok (dm := fun _ => false) (N := 60) 40 72 _ _ _ _ (by kernel_rfl)
theorem c72_11 : Run Tryz.prog 72 [.d (.fs [.str [46, 46]]), .d (.int .i64 11)] [] (.sl 0 0 11 1 (some 11)) [⟨[.d (.str [46, 46]), .d (.str [46, 46]), .d (.str [46, 46]), .d (.str [46, 46]), .d (.str [46, 46]), .d (.str [46, 46]), .d (.str [46, 46]), .d (.str [46, 46]), .d (.str [46, 46]), .d (.str [46, 46]), .d (.str [46, 46])], 1, 0⟩] :=
  evFun2_ok eok (fs := Tryz.prog.funcs.toList) (orc := orcA) horcA rfl names_ok (dm := fun _ => false) (N := 60) 40 72 _ _ _ _ (by kernel_rfl)
theorem c72_12 : Run Tryz.prog 72 [.d (.fs [.str [46, 46]]), .d (.int .i64 12)] [] (.sl 0 0 12 1 (some 12)) [⟨[.d (.str [46, 46]), .d (.str [46, 46]), .d (.str [46, 46]), .d (.str [46, 46]), .d (.str [46, 46]), .d (.str [46, 46]), .d (.str [46, 46]), .d (.str [46, 46]), .d (.str [46, 46]), .d (.str [46, 46]), .d (.str [46, 46]), .d (.str [46, 46])], 1, 0⟩] :=
  evFun2_ok eok (fs := Tryz.prog.funcs.toList) (orc := orcA) horcA rfl names_ok (dm := fun _ => false) (N := 60) 40 72 _ _ _ _ (by kernel_rfl)
theorem c72_13 : Run Tryz.prog 72 [.d (.fs [.str [46, 46]]), .d (.int .i64 13)] [] (.sl 0 0 13 1 (some 13)) [⟨[.d (.str [46, 46]), .d (.str [46, 46]), .d (.str [46, 46]), .d (.str [46, 46]), .d (.str [46, 46]), .d (.str [46, 46]), .d (.str [46, 46]), .d (.str [46, 46]), .d (.str [46, 46]), .d (.str [46, 46]), .d (.str [46, 46]), .d (.str [46, 46]), .d (.str [46, 46])], 1, 0⟩] :=
  evFun2_ok eok (fs := Tryz.prog.funcs.toList) (orc := orcA) horcA rfl names_ok (dm := fun _ => false) (N := 60) 40 72 _ _ _ _ (by kernel_rfl)
theorem c72_14 : Run Tryz.prog 72 [.d (.fs [.str [46, 46]]), .d (.int .i64 14)] [] (.sl 0 0 14 1 (some 14)) [⟨[.d (.str [46, 46]), .d (.str [46, 46]), .d (.str [46, 46]), .d (.str [46, 46]), .d (.str [46, 46]), .d (.str [46, 46]), .d (.str [46, 46]), .d (.str [46, 46]), .d (.str [46, 46]), .d (.str [46, 46]), .d (.str [46, 46]), .d (.str [46, 46]), .d (.str [46, 46]), .d (.str [46, 46])], 1, 0⟩] :=
  evFun2_ok eok (fs := Tryz.prog.funcs.toList) (orc := orcA) horcA rfl names_ok (dm := fun _ => false) (N := 60) 40 72 _ _ _ _ (by kernel_rfl)
theorem c72_15 : Run Tryz.prog 72 [.d (.fs [.str [46, 46]]), .d (.int .i64 15)] [] (.sl 0 0 15 1 (some 15)) [⟨[.d (.str [46, 46]), .d (.str [46, 46]), .d (.str [46, 46]), .d (.str [46, 46]), .d (.str [46, 46]), .d (.str [46, 46]), .d (.str [46, 46]), .d (.str [46, 46]), .d (.str [46, 46]), .d (.str [46, 46]), .d (.str [46, 46]), .d (.str [46, 46]), .d (.str [46, 46]), .d (.str [46, 46]), .d (.str [46, 46])], 1, 0⟩] :=
  evFun2_ok eok (fs := Tryz.prog.funcs.toList) (orc := orcA) horcA rfl names_ok (dm := fun _ => false) (N := 60) 40 72 _ _ _ _ (by kernel_rfl)
theorem c72_16 : Run Tryz.prog 72 [.d (.fs [.str [46, 46]]), .d (.int .i64 16)] [] (.sl 0 0 16 1 (some 16)) [⟨[.d (.str [46, 46]), .d (.str [46, 46]), .d (.str [46, 46]), .d (.str [46, 46]), .d (.str [46, 46]), .d (.str [46, 46]), .d (.str [46, 46]), .d (.str [46, 46]), .d (.str [46, 46]), .d (.str [46, 46]), .d (.str [46, 46]), .d (.str [46, 46]), .d (.str [46, 46]), .d (.str [46, 46]), .d (.str [46, 46]), .d (.str [46, 46])], 1, 0⟩] :=
  evFun2_ok eok (fs := Tryz.prog.funcs.toList) (orc := orcA) horcA rfl names_ok (dm := fun _ => false) (N := 60) 40 72 _ _ _ _ (by kernel_rfl)
theorem c72 (n : Nat) (h : n ≤ 16) : Run Tryz.prog 72 [.d (.fs [.str [46, 46]]), .d (i n)] [] (.sl 0 0 n 1 (some n)) [⟨((List.replicate n up).map D.str).map .d, 1, 0⟩] := by
  match n, h with
  | 0, _ => exact c72_0
  | 1, _ => exact c72_1
  | 2, _ => exact c72_2
  | 3, _ => exact c72_3
  | 4, _ => exact c72_4
  | 5, _ => exact c72_5
  | 6, _ => exact c72_6
  | 7, _ => exact c72_7
  | 8, _ => exact c72_8
  | 9, _ => exact c72_9
  | 10, _ => exact c72_10
  | 11, _ => exact c72_11
  | 12, _ => exact c72_12
  | 13, _ => exact c72_13
  | 14, _ => exact c72_14
  | 15, _ => exact c72_15
  | 16, _ => exact c72_16
  | n + 17, h => exact absurd h (by omega)

attribute [local irreducible] nameErr cut normal dots partErr text parse glue fmtErr sized joinR fold
theorem fold_dec {a b : Bs} (h : a = b) : true = decide (fold a = fold b) := by rw [h]; exact (decide_eq_true rfl).symm

theorem c71 (a b : Bs) (ha : a.length < 1000000) (hb : b.length < 1000000) (h0 : nameErr a = 0) (h1 : nameErr b = 0) : Fn 71 [.str a, .str b] (.bool (decide (fold a = fold b))) := by
  refine run_walkF eok Tryz.func71 rfl (by kernel_rfl) ?_
  conv => whnf
  repeat' (first
    | ((with_reducible refine on_dec_f ?_ ?_); (focus ((try simp only [List.length_map, List.length_cons, List.length_nil, List.length_append]); omega)); conv => whnf)
    | ((with_reducible refine on_dec_t ?_ ?_); (focus ((try simp only [List.length_map, List.length_cons, List.length_nil, List.length_append]); omega)); conv => whnf)
    | ((with_reducible refine on_dec (fun h => ?_) (fun h => ?_)) <;> (try simp only [List.length_map] at h) <;> conv => whnf)
    | ((with_reducible refine on_ndec (fun h => ?_) (fun h => ?_)) <;> (try simp only [List.length_map] at h) <;> conv => whnf)
    | ((with_reducible refine on_not (fun h => ?_) (fun h => ?_)) <;> conv => whnf)
    | ((with_reducible refine onBool_split (fun h => ?_) (fun h => ?_)) <;> conv => whnf)
    | ((with_reducible refine call_go ?_); (first | refine call_step (run_view (c105 a ha h0) rfl rfl) ?_ | refine call_step (run_view (c105 b hb h1) rfl rfl) ?_); conv => whnf)
    | (refine ⟨⟨(by first | rfl | (simp; done)), cap_ok (by simp only [List.length_map, List.length_cons, List.length_nil, List.length_append]; omega) rfl⟩, ?_⟩; conv => whnf)
    | (refine ⟨mem_one ⟨rfl, rfl⟩, ?_⟩; conv => whnf)
    | (refine ⟨(by intro y hy; obtain ⟨x, _, rfl⟩ := List.mem_map.1 hy; first | rfl | exact ⟨rfl, rfl⟩), ?_⟩; conv => whnf)
    | (refine ⟨cap_ok (by first | omega | (simp only [List.length_map]; omega)) rfl, ?_⟩; conv => whnf)
    | (refine ix_map (by omega) ?_; conv => whnf)
    | (refine ix_str (by omega) ?_; conv => whnf)
    | (refine wrap64 (by omega) ?_; conv => whnf)
    | (refine wrap64 (by first | omega | (simp only [List.length_map]; omega)) ?_; conv => whnf)
    | (exfalso; simp only [List.length_map, List.length_cons, List.length_nil, List.length_append] at h; omega)
    | ((with_reducible refine endx_go ?_); first | (exact endx (congrArg D.bool (fold_dec h)); done) | (exact endx rfl; done))
    | (refine ⟨rfl, ?_⟩; conv => whnf)
    | fail
    )

theorem plain_iff {p : PP} : plainErr p = 0 ↔ p.abs = true ∧ p.stream = [] ∧ (normal p).parts = p.parts := by
  unfold plainErr
  by_cases h1 : p.abs = false
  · rw [if_pos (.inl h1)]; simp [h1]
  · have h1' : p.abs = true := by simpa using h1
    by_cases h2 : (normal p).parts = p.parts
    · by_cases h3 : p.stream = []
      · rw [if_neg (fun c => c.elim h1 fun c => c.elim (fun c => c h2) (fun c => c h3))]; simp [h1', h2, h3]
      · rw [if_pos (.inr (.inr h3))]; simp [h3]
    · rw [if_pos (.inr (.inl h2))]; simp [h2]
theorem plain_txt {s : Bs} (h : (parse s).2 = 0) (h1 : (parse s).1.abs = true) (h2 : (parse s).1.stream = []) : decide (text (normal (parse s).1) = s) = decide (plainErr (parse s).1 = 0) := by
  rw [decide_eq_decide, plain_iff]
  have := text_normal (good_parse h)
  rw [text_parse h] at this
  rw [this]
  exact ⟨fun e => ⟨h1, h2, e⟩, fun e => e.2.2⟩
theorem plain_no1 {p : PP} (h : p.abs = false) : decide (plainErr p = 0) = false := decide_eq_false (by rw [plain_iff, h]; simp)
theorem plain_no2 {p : PP} (h : ¬ p.stream = []) : decide (plainErr p = 0) = false := decide_eq_false (by rw [plain_iff]; simp [h])
theorem noPP_abs {s : Bs} (h : ¬ (parse s).2 = 0) : (parse s).1.abs = false := by rw [parse_bad h]; rfl
theorem abs_ok {s : Bs} (h : (parse s).1.abs = true) : (parse s).2 = 0 := by
  by_cases c : (parse s).2 = 0
  · exact c
  · rw [noPP_abs c] at h; cases h
attribute [local irreducible] plainErr

theorem c70 (s : Bs) : Fn 70 [PPe (parse s).1, .str s] (.bool (decide (plainErr (parse s).1 = 0))) := by
  refine run_walkF eok Tryz.func70 rfl (by kernel_rfl) ?_
  conv => whnf
  repeat' (first
    | ((with_reducible refine on_dec_f ?_ ?_); (focus ((try simp only [List.length_map, List.length_cons, List.length_nil, List.length_append]); omega)); conv => whnf)
    | ((with_reducible refine on_dec_t ?_ ?_); (focus ((try simp only [List.length_map, List.length_cons, List.length_nil, List.length_append]); omega)); conv => whnf)
    | ((with_reducible refine on_dec (fun h => ?_) (fun h => ?_)) <;> (try simp only [List.length_map] at h) <;> conv => whnf)
    | ((with_reducible refine on_ndec (fun h => ?_) (fun h => ?_)) <;> (try simp only [List.length_map] at h) <;> conv => whnf)
    | ((with_reducible refine on_not (fun h => ?_) (fun h => ?_)) <;> conv => whnf)
    | ((with_reducible refine onBool_split (fun h => ?_) (fun h => ?_)) <;> conv => whnf)
    | ((with_reducible refine call_go ?_); (first | refine call_step (run_viewF (c56 (parse s).1 (by have := parse_le s; omega)) rfl) ?_ | refine call_step (run_view (c55 (normal (parse s).1) (sm_norm (abs_ok (by assumption))).parts (sm_norm (abs_ok (by assumption))).text) rfl rfl) ?_); conv => whnf)
    | (refine ⟨⟨(by first | rfl | (simp; done)), cap_ok (by simp only [List.length_map, List.length_cons, List.length_nil, List.length_append]; omega) rfl⟩, ?_⟩; conv => whnf)
    | (refine ⟨mem_one ⟨rfl, rfl⟩, ?_⟩; conv => whnf)
    | (refine ⟨(by intro y hy; obtain ⟨x, _, rfl⟩ := List.mem_map.1 hy; first | rfl | exact ⟨rfl, rfl⟩), ?_⟩; conv => whnf)
    | (refine ⟨cap_ok (by first | omega | (simp only [List.length_map]; omega)) rfl, ?_⟩; conv => whnf)
    | (refine ix_map (by omega) ?_; conv => whnf)
    | (refine ix_str (by omega) ?_; conv => whnf)
    | (refine wrap64 (by omega) ?_; conv => whnf)
    | (refine wrap64 (by first | omega | (simp only [List.length_map]; omega)) ?_; conv => whnf)
    | (exfalso; simp only [List.length_map, List.length_cons, List.length_nil, List.length_append] at h; omega)
    | ((with_reducible refine endx_go ?_); first | (exact endx (congrArg D.bool (plain_no1 (by assumption)).symm); done) | (exact endx (congrArg D.bool (plain_no2 (of_decide_eq_false (by assumption))).symm); done) | (exact endx (congrArg D.bool (plain_txt (abs_ok (by assumption)) (by assumption) (of_decide_eq_true (by assumption)))); done))
    | (refine ⟨rfl, ?_⟩; conv => whnf)
    | fail
    )

end Go.Proofs.YtpfokhdelnlciaaGreatDoor

/-! Wm -/
namespace Go.Proofs.YtpfokhdelnlciaaGreatDoor
open Go Dw
set_option maxRecDepth 10000
set_option linter.unusedVariables false
set_option linter.unusedSimpArgs false
attribute [local irreducible] Run
set_option maxHeartbeats 2000000

open Paths
theorem run_uncap {f n k : Nat} {args : List AV} {h H : Heap} {o : AO} (hf : Run Tryz.prog f args h (.sl 0 0 n k (some n)) (o :: H)) (ho : o.elems.length = n) (hs : o.st < 2) : Run Tryz.prog f args h (.sl 0 0 n k none) (o :: H) := by
  unfold Run at hf ⊢
  intro B W w st vs hw ha
  refine Good.mono (fun v w' hp => ?_) (hf B W w st vs hw ha)
  obtain ⟨st', h1, h2, h3, h4⟩ := hp
  refine ⟨st', h1, ?_, h3, h4⟩
  obtain ⟨a, c, rfl, a1, a2, a3, a4, a5, a6⟩ := aV_sl.1 h2
  refine aV_sl.2 ⟨a, c, rfl, a1, a2, a3, a4, fun c' e => (by cases e), fun r hr => ⟨(a6 r hr).1, (a6 r hr).2.1, (a6 r hr).2.2.1, fun _ => ?_⟩⟩
  have hc := a5 n rfl
  obtain ⟨r0, e0, hobj⟩ := h1.obj 0 o rfl hs a2
  rw [hr] at e0; cases e0
  have := hobj.n
  constructor <;> omega
theorem c72u (n : Nat) (h : n ≤ 16) : Run Tryz.prog 72 (([.fs [.str up], i n] : List D).map .d) [] (.sl 0 0 (List.replicate n up).length 1 none) [⟨((List.replicate n up).map D.str).map .d, 1, 0⟩] := by
  rw [List.length_replicate]
  exact run_uncap (c72 n h) (by simp) (Nat.zero_lt_two)
attribute [local irreducible] nameErr cut normal dots partErr text parse glue fmtErr sized joinR fold plainErr
/-- How many parts two paths have in common. -/
def pre : List Bs → List Bs → Nat
  | x :: l, y :: m => if fold x = fold y then pre l m + 1 else 0
  | _, _ => 0
theorem pre_at {l m : List Bs} {k : Nat} (h1 : k < l.length) (h2 : k < m.length) : pre (l.drop k) (m.drop k) = if fold l[k] = fold m[k] then pre (l.drop (k + 1)) (m.drop (k + 1)) + 1 else 0 := by
  rw [List.drop_eq_getElem_cons h1, List.drop_eq_getElem_cons h2]; rfl
theorem pre_nl {l m : List Bs} {k : Nat} (h : l.length ≤ k) : pre (l.drop k) (m.drop k) = 0 := by
  rw [List.drop_eq_nil_of_le h]
  cases m.drop k <;> rfl
theorem pre_nr {l m : List Bs} {k : Nat} (h : m.length ≤ k) : pre (l.drop k) (m.drop k) = 0 := by
  rw [List.drop_eq_nil_of_le h]
  cases l.drop k <;> rfl
def relP (l m : List Bs) : List Bs := if List.replicate (l.length - pre l m) up ++ m.drop (pre l m) = [] then [[46]] else List.replicate (l.length - pre l m) up ++ m.drop (pre l m)
def relR (a b : Bs) : Bs × Int :=
  if (parse a).2 ≠ 0 then ([], (parse a).2) else if (parse b).2 ≠ 0 then ([], (parse b).2) else if ¬ plainErr (parse a).1 = 0 ∨ ¬ plainErr (parse b).1 = 0 then ([], 3)
  else sized ⟨false, relP (parse a).1.parts (parse b).1.parts, []⟩
theorem rA {a b : Bs} (h : ¬ (parse a).2 = 0) : relR a b = ([], (parse a).2) := if_pos h
theorem rB {a b : Bs} (h : (parse a).2 = 0) (h2 : ¬ (parse b).2 = 0) : relR a b = ([], (parse b).2) := by unfold relR; rw [if_neg (by simpa using h), if_pos h2]
theorem rC {a b : Bs} (h : (parse a).2 = 0) (h2 : (parse b).2 = 0) (h3 : ¬ plainErr (parse a).1 = 0 ∨ ¬ plainErr (parse b).1 = 0) : relR a b = ([], 3) := by unfold relR; rw [if_neg (by simpa using h), if_neg (by simpa using h2), if_pos h3]
theorem rD {a b : Bs} (h : (parse a).2 = 0) (h2 : (parse b).2 = 0) (h3 : plainErr (parse a).1 = 0) (h4 : plainErr (parse b).1 = 0) : relR a b = sized ⟨false, relP (parse a).1.parts (parse b).1.parts, []⟩ := by unfold relR; rw [if_neg (by simpa using h), if_neg (by simpa using h2), if_neg (by simp [h3, h4])]
theorem legal_of {s : Bs} (h : (parse s).2 = 0) (h2 : plainErr (parse s).1 = 0) : ∀ x ∈ (parse s).1.parts, nameErr x = 0 := plain_legal (s := s) (by unfold pathErr; rw [if_pos h]; exact h2)
theorem r3e {a b : Bs} {c : Bool} (hc : c = true ↔ plainErr (parse a).1 = 0 ∧ plainErr (parse b).1 = 0) (h : ¬ firstE [(parse a).2, (parse b).2, if c = true then 0 else 3] = 0) : relR a b = ([], firstE [(parse a).2, (parse b).2, if c = true then 0 else 3]) := by
  rw [first3] at h ⊢
  by_cases h1 : (parse a).2 = 0
  · rw [if_pos h1] at h ⊢
    by_cases h2 : (parse b).2 = 0
    · rw [if_pos h2] at h ⊢
      cases c
      · rw [rC h1 h2 (by
          by_cases ha : plainErr (parse a).1 = 0
          · exact .inr fun hs => by have := hc.2 ⟨ha, hs⟩; cases this
          · exact .inl ha)]; rfl
      · exact absurd rfl h
    · rw [if_neg h2, rB h1 h2]
  · rw [if_neg h1, rA h1]
theorem r3g {a b : Bs} {c : Bool} (hc : c = true ↔ plainErr (parse a).1 = 0 ∧ plainErr (parse b).1 = 0) (h : firstE [(parse a).2, (parse b).2, if c = true then 0 else 3] = 0) : (parse a).2 = 0 ∧ (parse b).2 = 0 ∧ plainErr (parse a).1 = 0 ∧ plainErr (parse b).1 = 0 := by
  rw [first3] at h
  by_cases h1 : (parse a).2 = 0
  · rw [if_pos h1] at h
    by_cases h2 : (parse b).2 = 0
    · rw [if_pos h2] at h
      cases c
      · cases h
      · exact ⟨h1, h2, hc.1 rfl⟩
    · rw [if_neg h2] at h; exact absurd h h2
  · rw [if_neg h1] at h; exact absurd h h1

theorem r3e1 {a b : Bs} (ha : plainErr (parse a).1 = 0) (h : ¬ firstE [(parse a).2, (parse b).2, if decide (plainErr (parse b).1 = 0) = true then 0 else 3] = 0) : relR a b = ([], firstE [(parse a).2, (parse b).2, if decide (plainErr (parse b).1 = 0) = true then 0 else 3]) :=
  r3e (c := decide (plainErr (parse b).1 = 0)) ⟨fun h => ⟨ha, of_decide_eq_true h⟩, fun h => decide_eq_true h.2⟩ h
theorem r3g1 {a b : Bs} (ha : plainErr (parse a).1 = 0) (h : firstE [(parse a).2, (parse b).2, if decide (plainErr (parse b).1 = 0) = true then 0 else 3] = 0) : (parse a).2 = 0 ∧ (parse b).2 = 0 ∧ plainErr (parse a).1 = 0 ∧ plainErr (parse b).1 = 0 :=
  r3g (c := decide (plainErr (parse b).1 = 0)) ⟨fun h => ⟨ha, of_decide_eq_true h⟩, fun h => decide_eq_true h.2⟩ h
theorem r3e0 {a b : Bs} (ha : ¬ plainErr (parse a).1 = 0) (h : ¬ firstE [(parse a).2, (parse b).2, if false = true then 0 else 3] = 0) : relR a b = ([], firstE [(parse a).2, (parse b).2, if false = true then 0 else 3]) :=
  r3e (c := false) ⟨fun h => (by cases h), fun h => absurd h.1 ha⟩ h
theorem r3n0 {a b : Bs} (ha : ¬ plainErr (parse a).1 = 0) (h : firstE [(parse a).2, (parse b).2, if false = true then 0 else 3] = 0) : False :=
  ha (r3g (c := false) ⟨fun h => (by cases h), fun h => absurd h.1 ha⟩ h).2.2.1
theorem pre_step {l m : List Bs} {k : Nat} (hI : pre l m = k + pre (l.drop k) (m.drop k)) (h1 : k < l.length) (h2 : k < m.length) (h : fold l[k] = fold m[k]) : pre l m = k + 1 + pre (l.drop (k + 1)) (m.drop (k + 1)) := by
  rw [hI, pre_at h1 h2, if_pos h]; omega
theorem pre_ne {l m : List Bs} {k : Nat} (hI : pre l m = k + pre (l.drop k) (m.drop k)) (h1 : k < l.length) (h2 : k < m.length) (h : ¬ fold l[k] = fold m[k]) : pre l m = k := by
  rw [hI, pre_at h1 h2, if_neg h]; omega
theorem pre_l {l m : List Bs} {k : Nat} (hI : pre l m = k + pre (l.drop k) (m.drop k)) (h1 : l.length ≤ k) : pre l m = k := by
  rw [hI, pre_nl h1]; omega
theorem pre_r {l m : List Bs} {k : Nat} (hI : pre l m = k + pre (l.drop k) (m.drop k)) (h1 : m.length ≤ k) : pre l m = k := by
  rw [hI, pre_nr h1]; omega
theorem view_i {n : Nat} {H : Heap} {x y : Int} (e : x = y) : view (n + 1) H (.d (i x)) = some (i y) := by subst e; rfl
theorem view_over {l m : List Bs} {H : Heap} {id k k' st n a : Nat} {c : Option Nat} (h : H[id]? = some ⟨over ((l.map D.str).map .d) a ((m.map D.str).map .d), k, st⟩) (ha : a = 0 + l.length) (hst : st < 2) (hn : n = l.length + m.length) (hm : 0 + l.length + m.length ≤ l.length) : view 7 H (.sl id 0 n k' c) = some (.fs ((l ++ m).map D.str)) := by
  have e : m = [] := List.length_eq_zero_iff.1 (by omega)
  subst e; subst ha
  refine view_two (l := l) (m := []) (k := k) (st := st) ?_ hst hn
  rw [h]
  congr 2
  simp [over]
def rel0 (l m : List Bs) (k : Nat) : List Bs := List.replicate (l.length - k) up ++ m.drop k
theorem rel_dot {l m : List Bs} {k : Nat} (hk : pre l m = k) (h : rel0 l m k = []) : relP l m = [[46]] := by unfold relP; rw [hk]; exact if_pos h
theorem rel_no {l m : List Bs} {k : Nat} (hk : pre l m = k) (h : ¬ rel0 l m k = []) : relP l m = rel0 l m k := by unfold relP; rw [hk]; exact if_neg h
theorem sm_rel {a b : Bs} {k : Nat} : Sm ⟨false, rel0 (parse a).1.parts (parse b).1.parts k, []⟩ := by
  have h1 := parse_le a
  have h2 := parse_le b
  refine ⟨by simp only [rel0, List.length_append, List.length_replicate, List.length_drop]; omega, fun x hx => ?_, Nat.zero_le _⟩
  rcases List.mem_append.1 hx with hx | hx
  · rw [List.eq_of_mem_replicate hx]; decide
  · have := h2.2 x (List.mem_of_mem_drop hx); omega
theorem sm_dot : Sm ⟨false, [[46]], []⟩ := ⟨by decide, fun x hx => by rw [List.mem_singleton] at hx; subst hx; decide, Nat.zero_le _⟩
theorem rel_len (l m : List Bs) (k : Nat) : (rel0 l m k).length = (List.replicate (l.length - k) up).length + (m.drop k).length := by rw [rel0, List.length_append]
theorem rel_z {l m : List Bs} {k : Nat} {z : Int} (h : z = 0) (hz : z = (((List.replicate (l.length - k) up).length + (m.drop k).length : Nat) : Int)) : rel0 l m k = [] := List.length_eq_zero_iff.1 (by rw [rel_len]; omega)
theorem rel_nz {l m : List Bs} {k : Nat} {z : Int} (h : ¬ z = 0) (hz : z = (((List.replicate (l.length - k) up).length + (m.drop k).length : Nat) : Int)) : ¬ rel0 l m k = [] := fun c => h (by have := congrArg List.length c; rw [rel_len, List.length_nil] at this; omega)
theorem rel_g {l m : List Bs} {k : Nat} (h : ¬ 0 + (List.replicate (l.length - k) up).length + (m.drop k).length ≤ (List.replicate (l.length - k) up).length) : ¬ rel0 l m k = [] := fun c => h (by have := congrArg List.length c; rw [rel_len, List.length_nil] at this; omega)
theorem len_of {s : Bs} {k : Nat} (h : k < (parse s).1.parts.length) : ((parse s).1.parts[k]'h).length < 1000000 := by
  have := (parse_le s).2 _ (List.getElem_mem h); omega

theorem c27 (a b : Bs) : Fn 27 [.str a, .str b] (.tup [.str (relR a b).1, i (relR a b).2]) := by
  refine run_walkF eok Tryz.func27 rfl (by kernel_rfl) ?_
  conv => whnf
  repeat' (first
    | ((with_reducible refine on_dec_f ?_ ?_); (focus ((try simp only [List.length_map, List.length_cons, List.length_nil, List.length_append]); omega)); conv => whnf)
    | ((with_reducible refine on_dec_t ?_ ?_); (focus ((try simp only [List.length_map, List.length_cons, List.length_nil, List.length_append]); omega)); conv => whnf)
    | ((with_reducible refine on_dec (fun h => ?_) (fun h => ?_)) <;> (try simp only [List.length_map] at h) <;> conv => whnf)
    | ((with_reducible refine on_ndec (fun h => ?_) (fun h => ?_)) <;> (try simp only [List.length_map] at h) <;> conv => whnf)
    | ((with_reducible refine on_not (fun h => ?_) (fun h => ?_)) <;> conv => whnf)
    | ((with_reducible refine onBool_split (fun h => ?_) (fun h => ?_)) <;> conv => whnf)
    | ((with_reducible refine call_go ?_); (first | refine call_step (run_viewF (c35 a) rfl) ?_ | refine call_step (run_viewF (c35 b) rfl) ?_ | refine call_step (run_view (c53 _ _) rfl rfl) ?_ | refine call_step (run_view (c52 [_, _, _] (by simp)) rfl rfl) ?_ | refine call_step (run_view (c71 ((parse a).1.parts[k]'(by omega)) ((parse b).1.parts[k]'(by omega)) (len_of (by omega)) (len_of (by omega)) (legal_of hG.1 hG.2.2.1 _ (List.getElem_mem _)) (legal_of hG.2.1 hG.2.2.2 _ (List.getElem_mem _))) rfl rfl) ?_ | refine call_step (run_new (xs := [_, _]) (c72u ((parse a).1.parts.length - k) (by have := parse_le a; omega)) (fun _ => rfl) (vlc rfl (vlc (view_i (by simp only [List.length_map]; omega)) vln))) ?_ | refine call_step (run_view (c69 ⟨false, [[46]], []⟩ sm_dot.parts sm_dot.text) rfl rfl) ?_ | refine call_step (run_view (c69 ⟨false, rel0 (parse a).1.parts (parse b).1.parts k, []⟩ sm_rel.parts sm_rel.text) rfl (vlc (view_agg (vlc rfl (vlc (view_two rfl Nat.two_pos (by simp only [List.length_map])) (vlc rfl vln)))) vln)) ?_ | refine call_step (run_view (c69 ⟨false, rel0 (parse a).1.parts (parse b).1.parts k, []⟩ sm_rel.parts sm_rel.text) rfl (vlc (view_agg (vlc rfl (vlc (view_over rfl rfl Nat.two_pos (by simp only [List.length_map]) (by assumption)) (vlc rfl vln)))) vln)) ?_ | refine call_step (run_view (c70 a) rfl rfl) ?_ | refine call_step (run_view (c70 b) rfl rfl) ?_); conv => whnf)
    | (refine ⟨[], [], (by decide +kernel), ?_⟩; conv => whnf)
    | ((with_reducible refine loop_go ?_); first | (refine loop1 (fun (k : Nat) => (parse a).1.parts.length - k) (fun (k : Nat) => k ≤ (parse a).1.parts.length ∧ k ≤ (parse b).1.parts.length ∧ pre (parse a).1.parts (parse b).1.parts = k + pre ((parse a).1.parts.drop k) ((parse b).1.parts.drop k)) (fun (k : Nat) => [(6, .ptr 0 0 0), (8, .ptr 1 0 0), (12, .d (i k))]) (fun (k : Nat) => [⟨[.d (PPe (parse a).1)], 3, 0⟩, ⟨[.d (PPe (parse b).1)], 3, 0⟩]) (0) (by exact ⟨Nat.zero_le _, Nat.zero_le _, by simp⟩) ?_ (fun k C hI hC => ?_); (exact ⟨[.old 0, .old 1], rfl, rfl, ⟨⟨rfl, rfl, rfl⟩, ⟨rfl, rfl, rfl⟩, (by first | (show (_ : D) = _; with_reducible rfl) | exact congrArg (D.int .i64) (by omega) | exact congrArg (D.int .i64) (by simp only [List.length_map]) | exact rfl), trivial⟩, ⟨⟨rfl, rfl, .inl ⟨[_], rfl, rfl⟩⟩, ⟨rfl, rfl, .inl ⟨[_], rfl, rfl⟩⟩, trivial⟩⟩); have hG := r3g1 (a := a) (b := b) (by assumption) (by assumption); all_goals (conv => whnf)))
    | ((with_reducible show C _ _); first | (refine hC (k + 1) _ _ ?_ (by omega) ?_; clear hC; rotate_left; (exact ⟨[.old 0, .old 1], rfl, rfl, ⟨⟨rfl, rfl, rfl⟩, ⟨rfl, rfl, rfl⟩, (by first | (show (_ : D) = _; with_reducible rfl) | exact congrArg (D.int .i64) (by omega) | exact congrArg (D.int .i64) (by simp only [List.length_map]) | exact rfl), trivial⟩, ⟨⟨rfl, rfl, .inl ⟨[_], rfl, rfl⟩⟩, ⟨rfl, rfl, .inl ⟨[_], rfl, rfl⟩⟩, trivial⟩⟩); (exact ⟨by omega, by omega, pre_step hI.2.2 (by omega) (by omega) (by assumption)⟩)))
    | (refine ⟨⟨(by first | rfl | (simp; done)), cap_ok (by simp only [List.length_map, List.length_cons, List.length_nil, List.length_append]; omega) rfl⟩, ?_⟩; conv => whnf)
    | (refine ⟨mem_one ⟨rfl, rfl⟩, ?_⟩; conv => whnf)
    | (refine ⟨(by intro y hy; obtain ⟨x, _, rfl⟩ := List.mem_map.1 hy; first | rfl | exact ⟨rfl, rfl⟩), ?_⟩; conv => whnf)
    | (refine ⟨cap_ok (by first | omega | (simp only [List.length_map]; omega)) rfl, ?_⟩; conv => whnf)
    | (refine ix_map (by omega) ?_; conv => whnf)
    | (refine ix_str (by omega) ?_; conv => whnf)
    | (refine wrap64 (by omega) ?_; conv => whnf)
    | (refine ⟨⟨by simp only [List.length_map]; omega, cap_ok (by have h1 := parse_le a; have h2 := parse_le b; simp only [List.length_map, List.length_replicate, List.length_drop]; omega) rfl⟩, ?_⟩; conv => whnf)
    | (refine sl_map (l := (parse b).1.parts) (f := D.str) k (parse b).1.parts.length rfl (by simp only [List.length_map]) ⟨by omega, Nat.le_refl _⟩ (fun _ => rfl) ?_; rw [List.take_length]; conv => whnf)
    | (refine wrap64 (by have h1 := parse_le a; have h2 := parse_le b; (try simp only [List.length_map]); omega) ?_; conv => whnf)
    | (exact (r3n0 (by assumption) (by assumption)).elim)
    | (exfalso; simp only [List.length_map, List.length_cons, List.length_nil, List.length_append] at h; omega)
    | ((with_reducible refine endx_go ?_); first | (refine endxv rfl ?_; (rw [rD hG.1 hG.2.1 hG.2.2.1 hG.2.2.2, rel_no (by first | exact pre_ne hI.2.2 (by omega) (by omega) (by assumption) | exact pre_l hI.2.2 (by omega) | exact pre_r hI.2.2 (by omega)) (rel_g (by assumption))]) <;> rfl; done) | (refine endxv rfl ?_; (rw [rD hG.1 hG.2.1 hG.2.2.1 hG.2.2.2, rel_dot (by first | exact pre_ne hI.2.2 (by omega) (by omega) (by assumption) | exact pre_l hI.2.2 (by omega) | exact pre_r hI.2.2 (by omega)) (rel_z (by assumption) (by first | rfl | (simp only [List.length_map]; done) | omega))]) <;> rfl; done) | (refine endxv rfl ?_; (rw [rD hG.1 hG.2.1 hG.2.2.1 hG.2.2.2, rel_no (by first | exact pre_ne hI.2.2 (by omega) (by omega) (by assumption) | exact pre_l hI.2.2 (by omega) | exact pre_r hI.2.2 (by omega)) (rel_nz (by assumption) (by first | rfl | (simp only [List.length_map]; done) | omega))]) <;> rfl; done) | (refine endxv rfl ?_; (rw [r3e1 (by assumption) h]) <;> rfl; done) | (refine endxv rfl ?_; (rw [r3e0 (by assumption) h]) <;> rfl; done))
    | (refine ⟨rfl, ?_⟩; conv => whnf)
    | fail
    )

end Go.Proofs.YtpfokhdelnlciaaGreatDoor

/-! Wn -/
namespace Go.Proofs.YtpfokhdelnlciaaGreatDoor
open Go Dw
set_option maxRecDepth 10000
set_option linter.unusedVariables false
set_option linter.unusedSimpArgs false
attribute [local irreducible] Run
set_option maxHeartbeats 2000000

open Paths
attribute [local irreducible] nameErr cut normal dots partErr text parse glue fmtErr sized joinR fold plainErr relR relP
def rowU (m : Nat) : List AV := ((List.replicate m up).map D.str).map .d
theorem rowU_add {μ : List Mu} (m : Nat) : wks μ (rowU m ++ [.d (.str up)]) (rowU (m + 1)) := by
  have e : rowU (m + 1) = rowU m ++ [.d (.str up)] := by unfold rowU; rw [List.replicate_succ']; simp
  rw [e]
  have : rowU m ++ [AV.d (.str up)] = ((List.replicate m up).map D.str ++ [D.str up]).map .d := by simp [rowU]
  rw [this]
  exact wksd _ _
theorem rowU_step {μ : List Mu} {j k : Nat} (h : k ≤ j) : wks μ (rowU (j - k) ++ [.d (.str up)]) (rowU (j + 1 - k)) := by
  rw [show j + 1 - k = j - k + 1 by omega]; exact rowU_add _
theorem rowU_0 (k : Nat) : rowU (k - k) = [] := by simp [rowU]
theorem rowU_d (m : Nat) : ∃ l : List D, rowU m = l.map .d ∧ rowU m = l.map .d := ⟨_, rfl, rfl⟩
theorem rowU_no {m : Nat} (h : 0 + m + 1 ≤ (rowU m).length) : False := by simp only [rowU, List.length_map, List.length_replicate] at h; omega
theorem sm_j {a b : Bs} {j k : Nat} (hj : j ≤ (parse a).1.parts.length) : Sm ⟨false, List.replicate (j - k) up ++ (parse b).1.parts.drop k, []⟩ := by
  have h1 := parse_le a
  have h2 := parse_le b
  refine ⟨by simp only [List.length_append, List.length_replicate, List.length_drop]; omega, fun x hx => ?_, Nat.zero_le _⟩
  rcases List.mem_append.1 hx with hx | hx
  · rw [List.eq_of_mem_replicate hx]; decide
  · have := h2.2 x (List.mem_of_mem_drop hx); omega
theorem rel_k {l m : List Bs} {k : Nat} (h : k < l.length) : ¬ rel0 l m k = [] := fun c => by
  have := congrArg List.length c
  rw [rel_len, List.length_nil, List.length_replicate] at this
  omega
theorem rowU_fit {m q : Nat} (h : 0 + m + q ≤ (rowU m).length) : 0 + (List.replicate m up).length + q ≤ (List.replicate m up).length := by simpa only [rowU, List.length_map, List.length_replicate] using h
theorem rowU_nfit {m q : Nat} (h : ¬ 0 + m + q ≤ (rowU m).length) : ¬ 0 + (List.replicate m up).length + q ≤ (List.replicate m up).length := by simpa only [rowU, List.length_map, List.length_replicate] using h
theorem rowU_len (m : Nat) : 0 + m = (rowU m).length := by simp [rowU]
theorem view_up {m : Bs → Prop} {q : List Bs} {H : Heap} {id k k' st n j : Nat} {c : Option Nat} (h : H[id]? = some ⟨rowU j ++ (q.map D.str).map .d, k, st⟩) (hst : st < 2) (hn : n = j + q.length) : view 7 H (.sl id 0 n k' c) = some (.fs ((List.replicate j up ++ q).map D.str)) :=
  view_two (l := List.replicate j up) (m := q) h hst (by rw [List.length_replicate]; exact hn)

theorem c29 (a b : Bs) : Fn 29 [.str a, .str b] (.tup [.str (relR a b).1, i (relR a b).2]) := by
  refine run_walkF eok Tryz.func29 rfl (by kernel_rfl) ?_
  conv => whnf
  repeat' (first
    | ((with_reducible refine on_dec_f ?_ ?_); (focus ((try simp only [List.length_map, List.length_cons, List.length_nil, List.length_append]); omega)); conv => whnf)
    | ((with_reducible refine on_dec_t ?_ ?_); (focus ((try simp only [List.length_map, List.length_cons, List.length_nil, List.length_append]); omega)); conv => whnf)
    | ((with_reducible refine on_dec (fun h => ?_) (fun h => ?_)) <;> (try simp only [List.length_map] at h) <;> conv => whnf)
    | ((with_reducible refine on_ndec (fun h => ?_) (fun h => ?_)) <;> (try simp only [List.length_map] at h) <;> conv => whnf)
    | ((with_reducible refine on_not (fun h => ?_) (fun h => ?_)) <;> conv => whnf)
    | ((with_reducible refine onBool_split (fun h => ?_) (fun h => ?_)) <;> conv => whnf)
    | ((with_reducible refine call_go ?_); (first | refine call_step (run_viewF (c30 a) rfl) ?_ | refine call_step (run_viewF (c30 b) rfl) ?_ | refine call_step (run_view (c33 (parse a).1 (by have := parse_le a; omega)) rfl rfl) ?_ | refine call_step (run_view (c33 (parse b).1 (by have := parse_le b; omega)) rfl rfl) ?_ | refine call_step (run_view (c34 ((parse a).1.parts[k]'(by omega)) ((parse b).1.parts[k]'(by omega)) (len_of (by omega)) (len_of (by omega))) rfl rfl) ?_ | refine call_step (run_view (c73 ⟨false, [[46]], []⟩ sm_dot.parts sm_dot.text) rfl rfl) ?_ | refine call_step (run_view (c73 ⟨false, List.replicate (j - k) up ++ (parse b).1.parts.drop k, []⟩ (sm_j (a := a) (b := b) (j := j) (k := k) (by omega)).parts (sm_j (a := a) (b := b) (j := j) (k := k) (by omega)).text) rfl (vlc (view_agg (vlc rfl (vlc (view_two (l := List.replicate (j - k) up) rfl Nat.two_pos (by simp only [List.length_map, List.length_replicate])) (vlc rfl vln)))) vln)) ?_ | refine call_step (run_view (c73 ⟨false, List.replicate (j - k) up ++ (parse b).1.parts.drop k, []⟩ (sm_j (a := a) (b := b) (j := j) (k := k) (by omega)).parts (sm_j (a := a) (b := b) (j := j) (k := k) (by omega)).text) rfl (vlc (view_agg (vlc rfl (vlc (view_over (l := List.replicate (j - k) up) rfl (by simp only [List.length_replicate]) Nat.two_pos (by simp only [List.length_map, List.length_replicate]) (rowU_fit (by assumption))) (vlc rfl vln)))) vln)) ?_); conv => whnf)
    | (refine ⟨[], [], (by decide +kernel), ?_⟩; conv => whnf)
    | ((with_reducible refine loop_go ?_); first | (refine loop1 (fun (j : Nat) => (parse a).1.parts.length - j) (fun (j : Nat) => k ≤ j ∧ j ≤ (parse a).1.parts.length) (fun (j : Nat) => [(6, .ptr 0 0 0), (8, .ptr 1 0 0), (9, .d (i k)), (10, .ptr 2 0 0), (11, .d (i j))]) (fun (j : Nat) => [⟨[.d (PPe (parse a).1)], 3, 0⟩, ⟨[.d (PPe (parse b).1)], 3, 0⟩, ⟨[.agg [.d (.bool false), .sl 3 0 (j - k) 1 none, .d (.str [])]], 3, 0⟩, ⟨rowU (j - k), 1, 0⟩]) (k) (by exact ⟨Nat.le_refl _, by omega⟩) ?_ (fun j Cj hIj hCj => ?_); (exact ⟨[.old 0, .old 1, .old 2, .void 1], rfl, rfl, ⟨⟨rfl, rfl, rfl⟩, ⟨rfl, rfl, rfl⟩, (by first | (show (_ : D) = _; with_reducible rfl) | exact congrArg (D.int .i64) (by omega) | exact congrArg (D.int .i64) (by simp only [List.length_map]) | exact rfl), ⟨rfl, rfl, rfl⟩, (by first | (show (_ : D) = _; with_reducible rfl) | exact congrArg (D.int .i64) (by omega) | exact congrArg (D.int .i64) (by simp only [List.length_map]) | exact rfl), trivial⟩, ⟨⟨rfl, rfl, .inl ⟨[_], rfl, rfl⟩⟩, ⟨rfl, rfl, .inl ⟨[_], rfl, rfl⟩⟩, ⟨rfl, rfl, .inr ⟨⟨rfl, ⟨rfl, rfl, Nat.sub_self k, rfl⟩, rfl, trivial⟩, trivial⟩⟩, ⟨rowU_0 k, rfl, by decide, rfl⟩, trivial⟩⟩); all_goals (conv => whnf)) | (refine loop1 (fun (k : Nat) => (parse a).1.parts.length - k) (fun (k : Nat) => k ≤ (parse a).1.parts.length ∧ k ≤ (parse b).1.parts.length ∧ pre (parse a).1.parts (parse b).1.parts = k + pre ((parse a).1.parts.drop k) ((parse b).1.parts.drop k)) (fun (k : Nat) => [(6, .ptr 0 0 0), (8, .ptr 1 0 0), (9, .d (i k))]) (fun (k : Nat) => [⟨[.d (PPe (parse a).1)], 3, 0⟩, ⟨[.d (PPe (parse b).1)], 3, 0⟩]) (0) (by exact ⟨Nat.zero_le _, Nat.zero_le _, by simp⟩) ?_ (fun k C hI hC => ?_); (exact ⟨[.old 0, .old 1], rfl, rfl, ⟨⟨rfl, rfl, rfl⟩, ⟨rfl, rfl, rfl⟩, (by first | (show (_ : D) = _; with_reducible rfl) | exact congrArg (D.int .i64) (by omega) | exact congrArg (D.int .i64) (by simp only [List.length_map]) | exact rfl), trivial⟩, ⟨⟨rfl, rfl, .inl ⟨[_], rfl, rfl⟩⟩, ⟨rfl, rfl, .inl ⟨[_], rfl, rfl⟩⟩, trivial⟩⟩); all_goals (conv => whnf)))
    | ((with_reducible show C _ _); first | (refine hC (k + 1) _ _ ?_ (by omega) ?_; clear hC; rotate_left; (exact ⟨[.old 0, .old 1], rfl, rfl, ⟨⟨rfl, rfl, rfl⟩, ⟨rfl, rfl, rfl⟩, (by first | (show (_ : D) = _; with_reducible rfl) | exact congrArg (D.int .i64) (by omega) | exact congrArg (D.int .i64) (by simp only [List.length_map]) | exact rfl), trivial⟩, ⟨⟨rfl, rfl, .inl ⟨[_], rfl, rfl⟩⟩, ⟨rfl, rfl, .inl ⟨[_], rfl, rfl⟩⟩, trivial⟩⟩); (exact ⟨by omega, by omega, pre_step hI.2.2 (by omega) (by omega) (by assumption)⟩)))
    | ((with_reducible show Cj _ _); first | (refine hCj (j + 1) _ _ ?_ (by omega) ?_; clear hCj; rotate_left; (exact ⟨[.old 0, .old 1, .old 2, .old 5], rfl, rfl, ⟨⟨rfl, rfl, rfl⟩, ⟨rfl, rfl, rfl⟩, (by first | (show (_ : D) = _; with_reducible rfl) | exact congrArg (D.int .i64) (by omega) | exact congrArg (D.int .i64) (by simp only [List.length_map]) | exact rfl), ⟨rfl, rfl, rfl⟩, (by first | (show (_ : D) = _; with_reducible rfl) | exact congrArg (D.int .i64) (by omega) | exact congrArg (D.int .i64) (by simp only [List.length_map]) | exact rfl), trivial⟩, ⟨⟨rfl, rfl, .inl ⟨[_], rfl, rfl⟩⟩, ⟨rfl, rfl, .inl ⟨[_], rfl, rfl⟩⟩, ⟨rfl, rfl, .inr ⟨⟨rfl, ⟨rfl, rfl, (by show j - k + 1 = j + 1 - k; omega), rfl, rfl⟩, rfl, trivial⟩, trivial⟩⟩, ⟨rfl, rfl, .inr (rowU_step (by omega))⟩, trivial⟩⟩); (exact ⟨by omega, by omega⟩)))
    | (refine ⟨⟨(by first | rfl | (simp; done)), cap_ok (by simp only [List.length_map, List.length_cons, List.length_nil, List.length_append]; omega) rfl⟩, ?_⟩; conv => whnf)
    | (refine ⟨mem_one ⟨rfl, rfl⟩, ?_⟩; conv => whnf)
    | (refine ⟨(by intro y hy; obtain ⟨x, _, rfl⟩ := List.mem_map.1 hy; first | rfl | exact ⟨rfl, rfl⟩), ?_⟩; conv => whnf)
    | (refine ⟨cap_ok (by first | omega | (simp only [List.length_map]; omega)) rfl, ?_⟩; conv => whnf)
    | (refine ix_map (by omega) ?_; conv => whnf)
    | (refine ix_str (by omega) ?_; conv => whnf)
    | (refine wrap64 (by omega) ?_; conv => whnf)
    | (refine wrap64 (by have h1 := parse_le a; have h2 := parse_le b; (try simp only [List.length_map]); omega) ?_; conv => whnf)
    | (refine ⟨⟨rowU_len _, cap_ok (by have h1 := parse_le a; have h2 := parse_le b; simp only [List.length_map, List.length_drop]; omega) rfl⟩, ?_⟩; conv => whnf)
    | (refine sl_map (l := (parse b).1.parts) (f := D.str) k (parse b).1.parts.length rfl (by simp only [List.length_map]) ⟨by omega, Nat.le_refl _⟩ (fun _ => rfl) ?_; rw [List.take_length]; conv => whnf)
    | (exact (rowU_no h).elim)
    | (refine ⟨⟨rowU_len _, cap_ok (by have h1 := parse_le a; simp only [List.length_cons, List.length_nil]; omega) rfl⟩, ?_⟩; conv => whnf)
    | (refine ⟨Nat.le_refl _, ?_⟩; conv => whnf)
    | ((with_reducible refine dropN_of ?_); conv => whnf)
    | (exfalso; simp only [List.length_map, List.length_cons, List.length_nil, List.length_append] at h; omega)
    | ((with_reducible refine endx_go ?_); first | (refine endxv rfl ?_; (rw [rA h]) <;> rfl; done) | (refine endxv rfl ?_; (rw [rB (by assumption) h]) <;> rfl; done) | (refine endxv rfl ?_; (rw [rC (by assumption) (by assumption) (.inl h)]) <;> rfl; done) | (refine endxv rfl ?_; (rw [rC (by assumption) (by assumption) (.inr h)]) <;> rfl; done) | (refine endxv rfl ?_; (rw [rC (by assumption) (by assumption) (.inl (by simpa using h))]) <;> rfl; done) | (refine endxv rfl ?_; (rw [rC (by assumption) (by assumption) (.inr (by simpa using h))]) <;> rfl; done) | ((have e : j = (parse a).1.parts.length := by omega); subst e; refine endxv rfl ?_; (rw [rD (by assumption) (by assumption) (by assumption) (by assumption), rel_no (by first | exact pre_ne hI.2.2 (by omega) (by omega) (by assumption) | exact pre_l hI.2.2 (by omega) | exact pre_r hI.2.2 (by omega)) (rel_k (by omega))]) <;> rfl; done) | ((have e : j = (parse a).1.parts.length := by omega); subst e; refine endxv rfl ?_; (rw [rD (by assumption) (by assumption) (by assumption) (by assumption), rel_no (by first | exact pre_ne hI.2.2 (by omega) (by omega) (by assumption) | exact pre_l hI.2.2 (by omega) | exact pre_r hI.2.2 (by omega)) (rel_g (rowU_nfit (by assumption)))]) <;> rfl; done) | ((have e : j = (parse a).1.parts.length := by omega); subst e; refine endxv rfl ?_; (rw [rD (by assumption) (by assumption) (by assumption) (by assumption), rel_dot (by first | exact pre_ne hI.2.2 (by omega) (by omega) (by assumption) | exact pre_l hI.2.2 (by omega) | exact pre_r hI.2.2 (by omega)) (rel_z (by assumption) (by first | rfl | (simp only [List.length_map, List.length_replicate]; done) | omega))]) <;> rfl; done) | ((have e : j = (parse a).1.parts.length := by omega); subst e; refine endxv rfl ?_; (rw [rD (by assumption) (by assumption) (by assumption) (by assumption), rel_no (by first | exact pre_ne hI.2.2 (by omega) (by omega) (by assumption) | exact pre_l hI.2.2 (by omega) | exact pre_r hI.2.2 (by omega)) (rel_nz (by assumption) (by first | rfl | (simp only [List.length_map, List.length_replicate]; done) | omega))]) <;> rfl; done))
    | (refine ⟨rfl, ?_⟩; conv => whnf)
    | fail
    )

end Go.Proofs.YtpfokhdelnlciaaGreatDoor

/-! Pi -/
namespace Go.Proofs.YtpfokhdelnlciaaGreatDoor
open Paths
/-- Parts that are normal: some '..' ahead, then names. -/
def Nf (abs : Bool) (out : List Bs) : Prop := ∃ (u : Nat) (l : List Bs), out = List.replicate u [46, 46] ++ l ∧ (abs = true → u = 0) ∧ ∀ x ∈ l, x ≠ [46] ∧ x ≠ [46, 46]
theorem nf_step {abs : Bool} {out : List Bs} {s : Bs} (h : Nf abs out) : Nf abs (normStep abs out s) := by
  obtain ⟨u, l, rfl, hu, hl⟩ := h
  unfold normStep
  split
  · exact ⟨u, l, rfl, hu, hl⟩
  · rename_i h1
    split
    · rename_i h2
      refine ⟨u, l ++ [s], by rw [List.append_assoc], hu, fun x hx => ?_⟩
      rcases List.mem_append.1 hx with hx | hx
      · exact hl x hx
      · rw [List.mem_singleton] at hx; subst hx; exact ⟨h1, h2⟩
    · rename_i h2
      have hs : s = [46, 46] := by simpa using h2
      subst hs
      split
      · rename_i h3
        by_cases hl0 : l = []
        · subst hl0
          exfalso
          rw [List.append_nil] at h3
          cases u with
          | zero => exact h3.1 rfl
          | succ u => exact h3.2 (by rw [List.replicate_succ']; simp)
        · refine ⟨u, l.dropLast, by rw [List.dropLast_append_of_ne_nil hl0], hu, fun x hx => hl x ((List.dropLast_sublist _).mem hx)⟩
      · rename_i h3
        split
        · exact ⟨u, l, rfl, hu, hl⟩
        · rename_i h4
          have hl0 : l = [] := by
            by_cases hl0 : l = []
            · exact hl0
            · exfalso
              refine h3 ⟨by simp [hl0], fun c => ?_⟩
              rw [List.getLast?_append, List.getLast?_eq_some_getLast hl0, Option.some_or] at c
              exact (hl _ (List.getLast_mem hl0)).2 (Option.some.inj c)
          subst hl0
          exact ⟨u + 1, [], by rw [List.replicate_succ']; simp, fun c => absurd c h4, fun x hx => by cases hx⟩
theorem nf_fold {abs : Bool} : ∀ {l out : List Bs}, Nf abs out → Nf abs (l.foldl (normStep abs) out)
  | [], _, h => h
  | s :: l, out, h => nf_fold (l := l) (out := normStep abs out s) (nf_step h)
theorem nf_nil {abs : Bool} : Nf abs [] := ⟨0, [], rfl, fun _ => rfl, fun x hx => by cases hx⟩
theorem fold_names {abs : Bool} : ∀ {l out : List Bs}, (∀ x ∈ l, x ≠ [46] ∧ x ≠ [46, 46]) → l.foldl (normStep abs) out = out ++ l
  | [], out, _ => by simp
  | x :: l, out, h => by
    have hx := h x (by simp)
    have e : normStep abs out x = out ++ [x] := by unfold normStep; rw [if_neg hx.1, if_pos hx.2]
    rw [List.foldl_cons, e, fold_names (fun y hy => h y (by simp [hy])), List.append_assoc]
    rfl
theorem fold_ups : ∀ (u v : Nat), (List.replicate u [46, 46]).foldl (normStep false) (List.replicate v [46, 46]) = List.replicate (v + u) [46, 46]
  | 0, v => rfl
  | u + 1, v => by
    have e : normStep false (List.replicate v [46, 46]) [46, 46] = List.replicate (v + 1) [46, 46] := by
      unfold normStep
      rw [if_neg (by decide), if_neg (by simp), if_neg, if_neg (by decide), List.replicate_succ']
      rintro ⟨h1, h2⟩
      cases v with
      | zero => exact h1 rfl
      | succ v => exact h2 (by rw [List.replicate_succ']; simp)
    rw [List.replicate_succ, List.foldl_cons, e, fold_ups u (v + 1)]
    congr 1; omega
theorem fold_nf {abs : Bool} {out : List Bs} (h : Nf abs out) : out.foldl (normStep abs) [] = out := by
  obtain ⟨u, l, rfl, hu, hl⟩ := h
  rw [List.foldl_append, fold_names hl]
  cases abs with
  | true => rw [hu rfl]; rfl
  | false =>
    have := fold_ups u 0
    rw [Nat.zero_add] at this
    show (List.replicate u [46, 46]).foldl (normStep false) (List.replicate 0 [46, 46]) ++ l = _
    rw [this]
theorem normal_idem (p : PP) : normal (normal p) = normal p := by
  have hn : Nf p.abs (p.parts.foldl (normStep p.abs) []) := nf_fold nf_nil
  have hf := fold_nf hn
  unfold normal
  simp only
  split
  · rename_i h
    have e : ([[46]] : List Bs).foldl (normStep p.abs) [] = [] := rfl
    rw [e, if_pos ⟨rfl, h.2⟩]
  · rename_i h
    rw [hf, if_neg h]
/-- Signs of parts, with one for each between. -/
def wt (l : List Bs) : Nat := (l.map fun x => x.length + 1).sum
theorem wt_app (l m : List Bs) : wt (l ++ m) = wt l + wt m := by simp [wt]
theorem wt_drop (l : List Bs) : wt l.dropLast ≤ wt l := by
  by_cases h : l = []
  · subst h; exact Nat.le_refl _
  · conv => rhs; rw [← List.dropLast_concat_getLast h]
    rw [wt_app]; omega
theorem wt_step {abs : Bool} {out : List Bs} {s : Bs} : wt (normStep abs out s) ≤ wt out + wt [s] := by
  have ha := wt_app out [s]
  have hd := wt_drop out
  unfold normStep
  split
  · omega
  · split
    · omega
    · split
      · omega
      · split <;> omega
theorem wt_fold {abs : Bool} : ∀ {l out : List Bs}, wt (l.foldl (normStep abs) out) ≤ wt out + wt l
  | [], out => Nat.le_refl _
  | s :: l, out => by
    have h1 := wt_step (abs := abs) (out := out) (s := s)
    have ih := wt_fold (abs := abs) (l := l) (out := normStep abs out s)
    have e : wt (s :: l) = wt [s] + wt l := wt_app [s] l
    rw [List.foldl_cons]; omega
theorem glue_wt {c : UInt8} : ∀ {l : List Bs}, (glue c l).length = wt l - 1
  | [] => by simp [glue, wt]
  | [x] => by simp [glue, wt]
  | x :: y :: l => by
    have ih := glue_wt (c := c) (l := y :: l)
    have e : wt (x :: y :: l) = x.length + 1 + wt (y :: l) := by simp [wt]
    have e2 : 1 ≤ wt (y :: l) := by simp [wt]; omega
    rw [glue, List.length_append, List.length_cons, ih, e]; omega
theorem step_len {abs : Bool} {out : List Bs} {s : Bs} : (normStep abs out s).length ≤ out.length + 1 := (step_bd (P := fun _ => True) (fun _ _ => trivial) trivial).2
theorem fmt_normal {p : PP} (h : fmtErr p = 0) : fmtErr (normal p) = 0 := by
  obtain ⟨h1, h2, h3, h4, h5, h6⟩ := fmt_ok h
  have hP := (normal_bd (P := fun x => partErr x = 0) h2 (by decide)).1
  have hne : ∀ x ∈ p.parts, x ≠ [] := fun x hx => (part_no (h2 x hx)).2.2.1
  have hlf := (foldn_bd (P := fun _ => True) (abs := p.abs) (l := p.parts) (out := []) (fun _ _ => trivial) (fun _ _ => trivial)).2
  have hwf := wt_fold (abs := p.abs) (l := p.parts) (out := [])
  have hw0 : wt [] = 0 := rfl
  have hl : (normal p).parts.length ≤ 16 := by
    unfold normal; simp only
    split
    · decide
    · rw [List.length_nil] at hlf; omega
  have hz : firstE ((normal p).parts.map partErr) = 0 := by
    have : ∀ k : List Bs, (∀ y ∈ k, partErr y = 0) → firstE (k.map partErr) = 0 := by
      intro k
      induction k with
      | nil => intro _; rfl
      | cons y k ih =>
        intro hk
        rw [List.map_cons]
        show (if partErr y = 0 then firstE (k.map partErr) else partErr y) = 0
        rw [if_pos (hk y (by simp))]
        exact ih fun z hz => hk z (by simp [hz])
    exact this _ hP
  have hab : (normal p).parts ≠ [] ∨ (normal p).abs = true := by
    cases ha : p.abs with
    | true => exact .inr ha
    | false =>
      left
      unfold normal; simp only
      split
      · simp
      · rename_i c; exact fun e => c ⟨e, ha⟩
  have hst : (normal p).stream = [] ∨ ((normal p).parts ≠ [] ∧ dots ((normal p).parts.getLastD []) = false) := by
    rcases h4 with h4 | ⟨h4, h4d⟩
    · exact .inl h4
    · right
      obtain ⟨m, x, hx⟩ := snoc_of h4
      rw [hx, getLastD_snoc] at h4d
      have hxd : x ≠ [46] ∧ x ≠ [46, 46] := by
        constructor <;> rintro rfl <;> exact absurd h4d (by decide)
      have e : p.parts.foldl (normStep p.abs) [] = m.foldl (normStep p.abs) [] ++ [x] := by
        rw [hx, List.foldl_append]
        show normStep p.abs _ x = _
        unfold normStep
        rw [if_neg hxd.1, if_pos hxd.2]
      have e2 : (normal p).parts = m.foldl (normStep p.abs) [] ++ [x] := by
        unfold normal; simp only
        rw [e, if_neg (by simp)]
      rw [e2, getLastD_snoc]
      exact ⟨by simp, h4d⟩
  have htl : (text (normal p)).length ≤ 200 := by
    have hg : (glue 47 (normal p).parts).length ≤ (glue 47 p.parts).length := by
      rw [glue_wt, glue_wt]
      have : wt (normal p).parts ≤ wt p.parts ∨ wt (normal p).parts ≤ 0 := by
        unfold normal; simp only
        split
        · rename_i c
          left
          have hp : p.parts ≠ [] := by
            rcases h5 with h5 | h5
            · exact h5
            · rw [h5] at c; cases c.2
          obtain ⟨m, x, hx⟩ := snoc_of hp
          have := List.length_pos_iff.2 (hne x (by rw [hx]; simp))
          rw [hx, wt_app]
          simp only [wt, List.map_cons, List.map_nil, List.sum_cons, List.sum_nil, List.length_cons, List.length_nil]
          omega
        · left; omega
      omega
    unfold text at h6 ⊢
    rw [List.length_append, List.length_append] at h6 ⊢
    have ha : (normal p).abs = p.abs := rfl
    have hs : (normal p).stream = p.stream := rfl
    rw [ha, hs]
    omega
  rw [fmtT (p := normal p) hl hz h3 hst hab, if_pos htl]
end Go.Proofs.YtpfokhdelnlciaaGreatDoor

/-! Wo -/
namespace Go.Proofs.YtpfokhdelnlciaaGreatDoor
open Go Dw
set_option maxRecDepth 10000
set_option linter.unusedVariables false
set_option linter.unusedSimpArgs false
attribute [local irreducible] Run
set_option maxHeartbeats 2000000

open Paths
theorem c19n (a : Bs) (h : (parse a).2 = 0) : Fn 19 [.str (text (normal (parse a).1))] (.tup [.str (text (normal (parse a).1)), i 0]) := by
  have e := parse_text (fmt_normal (fmt_parse h))
  have := c19t (text (normal (parse a).1)) (by rw [e])
  rwa [e, normal_idem] at this
attribute [local irreducible] nameErr cut normal dots partErr text parse glue fmtErr sized joinR fold plainErr relR relP

theorem c6a (a b : Bs) (h0 : (parse a).2 = 0) : Fn 6 [.str a, .str b] (.bool true) := by
  refine run_walkF eok Tryz.func6 rfl (by kernel_rfl) ?_
  conv => whnf
  repeat' (first
    | ((with_reducible refine on_dec_f ?_ ?_); (focus ((try simp only [List.length_map, List.length_cons, List.length_nil, List.length_append]); omega)); conv => whnf)
    | ((with_reducible refine on_dec_t ?_ ?_); (focus ((try simp only [List.length_map, List.length_cons, List.length_nil, List.length_append]); omega)); conv => whnf)
    | ((with_reducible refine on_dec (fun h => ?_) (fun h => ?_)) <;> (try simp only [List.length_map] at h) <;> conv => whnf)
    | ((with_reducible refine on_ndec (fun h => ?_) (fun h => ?_)) <;> (try simp only [List.length_map] at h) <;> conv => whnf)
    | ((with_reducible refine on_not (fun h => ?_) (fun h => ?_)) <;> conv => whnf)
    | ((with_reducible refine onBool_split (fun h => ?_) (fun h => ?_)) <;> conv => whnf)
    | ((with_reducible refine call_go ?_); (first | refine call_step (run_data (xs := []) c10 _) ?_ | refine call_step (run_view (c19t a h0) rfl rfl) ?_ | refine call_step (run_view (c19n a h0) rfl rfl) ?_ | refine call_step (run_view (c26 a b) rfl rfl) ?_ | refine call_step (run_view (c27 a b) rfl rfl) ?_ | refine call_step (run_view (c28 a b) rfl rfl) ?_ | refine call_step (run_view (c29 a b) rfl rfl) ?_ | refine call_step (run_viewF (c30 a) rfl) ?_ | refine call_step (run_viewF (c32 (parse a).1 (sm_parse h0).parts) rfl) ?_ | refine call_step (run_view (c31 (normal (parse a).1) (sm_norm h0).text (sm_norm h0).parts) rfl rfl) ?_); conv => whnf)
    | (refine ⟨⟨(by first | rfl | (simp; done)), cap_ok (by simp only [List.length_map, List.length_cons, List.length_nil, List.length_append]; omega) rfl⟩, ?_⟩; conv => whnf)
    | (refine ⟨mem_one ⟨rfl, rfl⟩, ?_⟩; conv => whnf)
    | (refine ⟨(by intro y hy; obtain ⟨x, _, rfl⟩ := List.mem_map.1 hy; first | rfl | exact ⟨rfl, rfl⟩), ?_⟩; conv => whnf)
    | (refine ⟨cap_ok (by first | omega | (simp only [List.length_map]; omega)) rfl, ?_⟩; conv => whnf)
    | (refine ix_map (by omega) ?_; conv => whnf)
    | (refine ix_str (by omega) ?_; conv => whnf)
    | (refine wrap64 (by omega) ?_; conv => whnf)
    | (exact absurd h0 (by assumption))
    | (refine wrap64 (by first | omega | (simp only [List.length_map]; omega)) ?_; conv => whnf)
    | (exfalso; simp only [List.length_map, List.length_cons, List.length_nil, List.length_append] at h; omega)
    | ((with_reducible refine endx_go ?_); first | (exact endx rfl; done) | (exact absurd rfl h; done) | (exact absurd trivial h; done) | (exact absurd rfl (by assumption); done) | (exact endx (congrArg D.bool (decide_eq_true rfl)); done) | (exact endx (congrArg D.bool (of_decide_eq_true h)); done))
    | (refine ⟨rfl, ?_⟩; conv => whnf)
    | fail
    )

theorem c6b (a b : Bs) (h0 : ¬ (parse a).2 = 0) : Fn 6 [.str a, .str b] (.bool true) := by
  refine run_walkF eok Tryz.func6 rfl (by kernel_rfl) ?_
  conv => whnf
  repeat' (first
    | ((with_reducible refine on_dec_f ?_ ?_); (focus ((try simp only [List.length_map, List.length_cons, List.length_nil, List.length_append]); omega)); conv => whnf)
    | ((with_reducible refine on_dec_t ?_ ?_); (focus ((try simp only [List.length_map, List.length_cons, List.length_nil, List.length_append]); omega)); conv => whnf)
    | ((with_reducible refine on_dec (fun h => ?_) (fun h => ?_)) <;> (try simp only [List.length_map] at h) <;> conv => whnf)
    | ((with_reducible refine on_ndec (fun h => ?_) (fun h => ?_)) <;> (try simp only [List.length_map] at h) <;> conv => whnf)
    | ((with_reducible refine on_not (fun h => ?_) (fun h => ?_)) <;> conv => whnf)
    | ((with_reducible refine onBool_split (fun h => ?_) (fun h => ?_)) <;> conv => whnf)
    | ((with_reducible refine call_go ?_); (first | refine call_step (run_data (xs := []) c10 _) ?_ | refine call_step (run_view (c19f a h0) rfl rfl) ?_ | refine call_step (run_view (c26 a b) rfl rfl) ?_ | refine call_step (run_view (c27 a b) rfl rfl) ?_ | refine call_step (run_view (c28 a b) rfl rfl) ?_ | refine call_step (run_view (c29 a b) rfl rfl) ?_ | refine call_step (run_viewF (c30 a) rfl) ?_ | refine call_step (run_viewF (c32 (parse a).1 (sm_parse h0).parts) rfl) ?_ | refine call_step (run_view (c31 (normal (parse a).1) (sm_norm h0).text (sm_norm h0).parts) rfl rfl) ?_); conv => whnf)
    | (refine ⟨⟨(by first | rfl | (simp; done)), cap_ok (by simp only [List.length_map, List.length_cons, List.length_nil, List.length_append]; omega) rfl⟩, ?_⟩; conv => whnf)
    | (refine ⟨mem_one ⟨rfl, rfl⟩, ?_⟩; conv => whnf)
    | (refine ⟨(by intro y hy; obtain ⟨x, _, rfl⟩ := List.mem_map.1 hy; first | rfl | exact ⟨rfl, rfl⟩), ?_⟩; conv => whnf)
    | (refine ⟨cap_ok (by first | omega | (simp only [List.length_map]; omega)) rfl, ?_⟩; conv => whnf)
    | (refine ix_map (by omega) ?_; conv => whnf)
    | (refine ix_str (by omega) ?_; conv => whnf)
    | (refine wrap64 (by omega) ?_; conv => whnf)
    | (exact absurd (by assumption) h0)
    | (refine wrap64 (by first | omega | (simp only [List.length_map]; omega)) ?_; conv => whnf)
    | (exfalso; simp only [List.length_map, List.length_cons, List.length_nil, List.length_append] at h; omega)
    | ((with_reducible refine endx_go ?_); first | (exact endx rfl; done) | (exact absurd rfl h; done) | (exact absurd trivial h; done) | (exact absurd rfl (by assumption); done) | (exact endx (congrArg D.bool (decide_eq_true rfl)); done) | (exact endx (congrArg D.bool (of_decide_eq_true h)); done))
    | (refine ⟨rfl, ?_⟩; conv => whnf)
    | fail
    )

theorem c6 (a b : Bs) : Fn 6 [.str a, .str b] (.bool true) := by
  by_cases h0 : (parse a).2 = 0
  · exact c6a a b h0
  · exact c6b a b h0

end Go.Proofs.YtpfokhdelnlciaaGreatDoor

/-! Pj -/
namespace Go.Proofs.YtpfokhdelnlciaaGreatDoor
open Paths
theorem pre_spec : ∀ (l m : List Bs), pre l m ≤ l.length ∧ pre l m ≤ m.length ∧ (l.take (pre l m)).map fold = (m.take (pre l m)).map fold
  | [], m => ⟨Nat.zero_le _, Nat.zero_le _, rfl⟩
  | x :: l, [] => ⟨Nat.zero_le _, Nat.zero_le _, rfl⟩
  | x :: l, y :: m => by
    have ih := pre_spec l m
    unfold pre
    split
    · rename_i h
      refine ⟨by simp only [List.length_cons]; omega, by simp only [List.length_cons]; omega, ?_⟩
      rw [List.take_succ_cons, List.take_succ_cons, List.map_cons, List.map_cons, h, ih.2.2]
    · exact ⟨Nat.zero_le _, Nat.zero_le _, rfl⟩
/-- Names: no dots. -/
def Nms (l : List Bs) : Prop := ∀ x ∈ l, nameErr x = 0
theorem Nms.ne {l : List Bs} (h : Nms l) : ∀ x ∈ l, x ≠ [46] ∧ x ≠ [46, 46] := fun x hx => by
  have := name_dots (h x hx)
  constructor <;> rintro rfl <;> exact absurd this (by decide)
theorem ups_take : ∀ (u : Nat) (l : List Bs), Nms l → u ≤ l.length → (List.replicate u up).foldl (normStep true) l = l.take (l.length - u)
  | 0, l, _, _ => by simp
  | u + 1, l, h, hu => by
    have hl : l ≠ [] := by intro e; subst e; simp at hu
    have e : normStep true l up = l.dropLast := by
      unfold normStep
      rw [if_neg (by decide), if_neg (by simp [up]), if_pos]
      refine ⟨hl, fun c => ?_⟩
      rw [List.getLast?_eq_some_getLast hl] at c
      exact (h.ne _ (List.getLast_mem hl)).2 (Option.some.inj c)
    rw [List.replicate_succ, List.foldl_cons, e, ups_take u l.dropLast (fun x hx => h x ((List.dropLast_sublist _).mem hx)) (by rw [List.length_dropLast]; omega), List.length_dropLast, List.dropLast_eq_take, List.take_take]
    congr 1; omega
theorem rel_fold {l m : List Bs} (hl : Nms l) (hm : Nms m) : (l ++ relP l m).foldl (normStep true) [] = l.take (pre l m) ++ m.drop (pre l m) := by
  have hp := pre_spec l m
  have h1 : l.foldl (normStep true) [] = l := by rw [fold_names hl.ne]; rfl
  rw [List.foldl_append, h1]
  unfold relP
  split
  · rename_i h
    obtain ⟨h2, h3⟩ := List.append_eq_nil_iff.1 h
    have h4 : l.length - pre l m = 0 := by have := congrArg List.length h2; simpa using this
    have e : ([[46]] : List Bs).foldl (normStep true) l = l := rfl
    rw [e, h3, List.append_nil, List.take_of_length_le (by omega)]
  · rw [List.foldl_append, ups_take _ _ hl (by omega), fold_names (fun x hx => hm.ne x (List.mem_of_mem_drop hx))]
    congr 2; omega
theorem fold_app (a b : Bs) : fold (a ++ b) = fold a ++ fold b := by simp [fold]
theorem fold_glue : ∀ l : List Bs, fold (glue 47 l) = glue 47 (l.map fold)
  | [] => rfl
  | [x] => rfl
  | x :: y :: l => by
    have ih := fold_glue (y :: l)
    rw [glue, fold_app]
    show fold x ++ fold (47 :: glue 47 (y :: l)) = _
    have e : fold (47 :: glue 47 (y :: l)) = 47 :: fold (glue 47 (y :: l)) := rfl
    rw [e, ih]; rfl
theorem fold_len (s : Bs) : (fold s).length = s.length := by simp [fold]
/-- The path that the joined one is. -/
def joined (l m : List Bs) : PP := ⟨true, l.take (pre l m) ++ m.drop (pre l m), []⟩
theorem joined_fold (l m : List Bs) : fold (text (joined l m)) = fold (text ⟨true, m, []⟩) := by
  have hp := pre_spec l m
  have e : (l.take (pre l m) ++ m.drop (pre l m)).map fold = m.map fold := by
    rw [List.map_append, hp.2.2, ← List.map_append, List.take_append_drop]
  unfold text joined
  simp only [if_true, List.append_nil]
  rw [fold_app, fold_app, fold_glue, fold_glue, e]
theorem joined_len (l m : List Bs) : (joined l m).parts.length = m.length := by
  have hp := pre_spec l m
  simp only [joined, List.length_append, List.length_take, List.length_drop]; omega
theorem plain_pp {s : Bs} (h : (parse s).2 = 0) (h2 : plainErr (parse s).1 = 0) : (parse s).1 = ⟨true, (parse s).1.parts, []⟩ ∧ Nms (parse s).1.parts ∧ text ⟨true, (parse s).1.parts, []⟩ = s ∧ (parse s).1.parts.length ≤ 16 ∧ s.length ≤ 200 := by
  have hp := (plain_iff).1 h2
  have e : (parse s).1 = ⟨true, (parse s).1.parts, []⟩ := by
    obtain ⟨q, hq⟩ : ∃ q, (parse s).1 = q := ⟨_, rfl⟩
    rw [hq] at hp ⊢
    obtain ⟨a, l, t⟩ := q
    simp only at hp
    rw [hp.1, hp.2.1]
  have ht := text_parse h
  have hs := (stream_le h).2
  rw [ht] at hs
  exact ⟨e, legal_of h h2, by rw [← e]; exact ht, (parse_le s).1, hs⟩
theorem sized_ok {p : PP} (h : p.parts.length ≤ 16) (h2 : (text p).length ≤ 200) : sized p = (text p, 0) := by
  unfold sized; rw [if_neg (by omega)]
theorem sized_e {p : PP} (h : ¬ (sized p).2 = 0) : (sized p).2 = 8 := by
  unfold sized at h ⊢; split
  · rfl
  · rename_i c; rw [if_neg c] at h; exact absurd rfl h
theorem sized_z {p : PP} (h : (sized p).2 = 0) : sized p = (text p, 0) ∧ p.parts.length ≤ 16 ∧ (text p).length ≤ 200 := by
  unfold sized at h ⊢; split
  · rename_i c; rw [if_pos c] at h; cases h
  · exact ⟨rfl, by omega, by omega⟩
/-- What a relative path says is read as it was said. -/
theorem rel_parse {l m : List Bs} (hm : Nms m) (h : (sized ⟨false, relP l m, []⟩).2 = 0) : parse (sized ⟨false, relP l m, []⟩).1 = (⟨false, relP l m, []⟩, 0) := by
  obtain ⟨e, h1, h2⟩ := sized_z h
  rw [e]
  refine parse_text ?_
  have hz : ∀ x ∈ relP l m, partErr x = 0 := by
    intro x hx
    unfold relP at hx
    split at hx
    · rw [List.mem_singleton] at hx; subst hx; rfl
    · rcases List.mem_append.1 hx with hx | hx
      · rw [List.eq_of_mem_replicate hx]; rfl
      · have := hm x (List.mem_of_mem_drop hx)
        unfold partErr; rw [name_dots this]; exact this
  have hf : firstE ((relP l m).map partErr) = 0 := by
    have : ∀ k : List Bs, (∀ y ∈ k, partErr y = 0) → firstE (k.map partErr) = 0 := by
      intro k
      induction k with
      | nil => intro _; rfl
      | cons y k ih =>
        intro hk
        rw [List.map_cons]
        show (if partErr y = 0 then firstE (k.map partErr) else partErr y) = 0
        rw [if_pos (hk y (by simp))]
        exact ih fun z hz => hk z (by simp [hz])
    exact this _ hz
  have hne : relP l m ≠ [] := by
    unfold relP; split
    · simp
    · assumption
  rw [fmtT (p := ⟨false, relP l m, []⟩) h1 hf rfl (.inl rfl) (.inl hne), if_pos h2]
theorem join_rel {a b : Bs} (h1 : (parse a).2 = 0) (h2 : (parse b).2 = 0) (h3 : plainErr (parse a).1 = 0) (h4 : plainErr (parse b).1 = 0) (hz : (relR a b).2 = 0) : joinR a (relR a b).1 = (text (joined (parse a).1.parts (parse b).1.parts), 0) ∧ fold (text (joined (parse a).1.parts (parse b).1.parts)) = fold b := by
  rw [rD h1 h2 h3 h4] at hz ⊢
  obtain ⟨ea, na, ta, la, sa⟩ := plain_pp h1 h3
  obtain ⟨eb, nb, tb, lb, sb⟩ := plain_pp h2 h4
  have hp := rel_parse (l := (parse a).1.parts) nb hz
  have hf := joined_fold (parse a).1.parts (parse b).1.parts
  rw [tb] at hf
  refine ⟨?_, hf⟩
  rw [jE h1 (by rw [hp]) (by rw [ea]) (by rw [ea]) (by rw [hp]), hp]
  have e : normal (behind (parse a).1 ⟨false, relP (parse a).1.parts (parse b).1.parts, []⟩) = joined (parse a).1.parts (parse b).1.parts := by
    unfold normal behind joined
    simp only
    rw [rel_fold na nb, if_neg (by simp)]
  rw [e]
  have hl := fold_len (text (joined (parse a).1.parts (parse b).1.parts))
  rw [hf, fold_len] at hl
  exact sized_ok (by rw [joined_len]; exact lb) (by omega)
theorem join_root {b : Bs} (h2 : (parse b).2 = 0) (h4 : plainErr (parse b).1 = 0) : joinR [47] b = (b, 0) := by
  obtain ⟨eb, nb, tb, lb, sb⟩ := plain_pp h2 h4
  have hr : parse [47] = (⟨true, [], []⟩, 0) := rfl
  have hn := (plain_iff.1 h4).2.2
  rw [jD (by rw [hr]) h2 (by rw [hr]) (by rw [hr]) (by rw [eb])]
  have e : normal (parse b).1 = ⟨true, (parse b).1.parts, []⟩ := by
    have : normal (parse b).1 = ⟨(parse b).1.abs, (normal (parse b).1).parts, (parse b).1.stream⟩ := rfl
    rw [this, hn, (plain_iff.1 h4).1, (plain_iff.1 h4).2.1]
  rw [e, sized_ok (p := ⟨true, (parse b).1.parts, []⟩) lb (by rw [tb]; exact sb), tb]
end Go.Proofs.YtpfokhdelnlciaaGreatDoor

/-! Wq -/
namespace Go.Proofs.YtpfokhdelnlciaaGreatDoor
open Go Dw
set_option maxRecDepth 10000
set_option linter.unusedVariables false
set_option linter.unusedSimpArgs false
attribute [local irreducible] Run
set_option maxHeartbeats 2000000

open Paths
attribute [local irreducible] nameErr cut normal dots partErr text parse glue fmtErr sized joinR fold plainErr relR relP
theorem rel_8 {a b : Bs} (h1 : (parse a).2 = 0) (h2 : (parse b).2 = 0) (h3 : plainErr (parse a).1 = 0) (h4 : plainErr (parse b).1 = 0) (h : ¬ (relR a b).2 = 0) : (relR a b).2 = 8 := by
  rw [rD h1 h2 h3 h4] at h ⊢; exact sized_e h
def back (a b : Bs) : Bs := text (joined (parse a).1.parts (parse b).1.parts)
theorem back_bd {a b : Bs} (h1 : (parse a).2 = 0) (h2 : (parse b).2 = 0) (h3 : plainErr (parse a).1 = 0) (h4 : plainErr (parse b).1 = 0) : fold (back a b) = fold b ∧ (back a b).length ≤ 200 ∧ b.length ≤ 200 := by
  obtain ⟨eb, nb, tb, lb, sb⟩ := plain_pp h2 h4
  have hf := joined_fold (parse a).1.parts (parse b).1.parts
  rw [tb] at hf
  have hl := fold_len (back a b)
  have hl2 := fold_len b
  have hf2 : fold (back a b) = fold b := hf
  rw [hf2] at hl
  exact ⟨hf2, by omega, sb⟩
theorem c26r {a b : Bs} (h1 : (parse a).2 = 0) (h2 : (parse b).2 = 0) (h3 : plainErr (parse a).1 = 0) (h4 : plainErr (parse b).1 = 0) (hz : (relR a b).2 = 0) : Fn 26 [.str a, .str (relR a b).1] (.tup [.str (back a b), i 0]) := by
  have := c26 a (relR a b).1
  rwa [(join_rel h1 h2 h3 h4 hz).1] at this
theorem c26t {b : Bs} (h2 : (parse b).2 = 0) (h4 : plainErr (parse b).1 = 0) : Fn 26 [.str [47], .str b] (.tup [.str b, i 0]) := by
  have := c26 [47] b
  rwa [join_root h2 h4] at this
theorem c34b {a b : Bs} (h1 : (parse a).2 = 0) (h2 : (parse b).2 = 0) (h3 : plainErr (parse a).1 = 0) (h4 : plainErr (parse b).1 = 0) : Fn 34 [.str (back a b), .str b] (.bool true) := by
  have hb := back_bd h1 h2 h3 h4
  have := c34 (back a b) b (by omega) (by omega)
  rwa [decide_eq_true hb.1] at this
attribute [local irreducible] back

theorem c7 (a b : Bs) : Fn 7 [.str a, .str b] (.bool true) := by
  refine run_walkF eok Tryz.func7 rfl (by kernel_rfl) ?_
  conv => whnf
  repeat' (first
    | ((with_reducible refine on_dec_f ?_ ?_); (focus ((try simp only [List.length_map, List.length_cons, List.length_nil, List.length_append]); omega)); conv => whnf)
    | ((with_reducible refine on_dec_t ?_ ?_); (focus ((try simp only [List.length_map, List.length_cons, List.length_nil, List.length_append]); omega)); conv => whnf)
    | ((with_reducible refine on_dec (fun h => ?_) (fun h => ?_)) <;> (try simp only [List.length_map] at h) <;> conv => whnf)
    | ((with_reducible refine on_ndec (fun h => ?_) (fun h => ?_)) <;> (try simp only [List.length_map] at h) <;> conv => whnf)
    | ((with_reducible refine on_not (fun h => ?_) (fun h => ?_)) <;> conv => whnf)
    | ((with_reducible refine onBool_split (fun h => ?_) (fun h => ?_)) <;> conv => whnf)
    | ((with_reducible refine call_go ?_); (first | refine call_step (run_data (xs := []) c10 _) ?_ | refine call_step (run_viewF (c30 a) rfl) ?_ | refine call_step (run_viewF (c30 b) rfl) ?_ | refine call_step (run_view (c33 (parse a).1 (by have := parse_le a; omega)) rfl rfl) ?_ | refine call_step (run_view (c33 (parse b).1 (by have := parse_le b; omega)) rfl rfl) ?_ | refine call_step (run_view (c27 a b) rfl rfl) ?_ | refine call_step (run_view (c26r (a := a) (b := b) (by assumption) (by assumption) (by assumption) (by assumption) (by assumption)) rfl rfl) ?_ | refine call_step (run_view (c26t (b := b) (by assumption) (by assumption)) rfl rfl) ?_ | refine call_step (run_view (c34b (a := a) (b := b) (by assumption) (by assumption) (by assumption) (by assumption)) rfl rfl) ?_); conv => whnf)
    | (refine ⟨⟨(by first | rfl | (simp; done)), cap_ok (by simp only [List.length_map, List.length_cons, List.length_nil, List.length_append]; omega) rfl⟩, ?_⟩; conv => whnf)
    | (refine ⟨mem_one ⟨rfl, rfl⟩, ?_⟩; conv => whnf)
    | (refine ⟨(by intro y hy; obtain ⟨x, _, rfl⟩ := List.mem_map.1 hy; first | rfl | exact ⟨rfl, rfl⟩), ?_⟩; conv => whnf)
    | (refine ⟨cap_ok (by first | omega | (simp only [List.length_map]; omega)) rfl, ?_⟩; conv => whnf)
    | (refine ix_map (by omega) ?_; conv => whnf)
    | (refine ix_str (by omega) ?_; conv => whnf)
    | (refine wrap64 (by omega) ?_; conv => whnf)
    | (refine wrap64 (by first | omega | (simp only [List.length_map]; omega)) ?_; conv => whnf)
    | (exfalso; simp only [List.length_map, List.length_cons, List.length_nil, List.length_append] at h; omega)
    | ((with_reducible refine endx_go ?_); first | (exact endx rfl; done) | (exact absurd rfl h; done) | (exact endx (congrArg D.bool (decide_eq_true (rel_8 (a := a) (b := b) (by assumption) (by assumption) (by assumption) (by assumption) h))); done) | (exact endx (congrArg D.bool (decide_eq_true (rel_8 (a := a) (b := b) (by assumption) (by assumption) (by assumption) (by assumption) (by assumption)))); done) | (exact endx (congrArg D.bool (decide_eq_true rfl)); done))
    | (refine ⟨rfl, ?_⟩; conv => whnf)
    | fail
    )

end Go.Proofs.YtpfokhdelnlciaaGreatDoor

/-! Ld -/
namespace Go.Proofs.YtpfokhdelnlciaaGreatDoor
open Go Dw Go.ChangeShapes Go.WideShapes Go.RowKit
set_option maxRecDepth 100000

theorem own27 : ownKnob Tryz.prog.godebug = none := by kernel_rfl
theorem laidOut27 : laidOutB Tryz.prog = true := by kernel_rfl
/-- The variables that the rows list. -/
def laid27 : List (String × DataW Unit) := [("unicode/utf8.acceptRanges", Rows.laid_unicode_utf8_acceptRanges), ("unicode/utf8.first", Rows.laid_unicode_utf8_first)]
/-- The pinned table. -/
def table27 : Array Value := (Pinned.utf8FirstZ.map fun (n : Nat) => Value.int .u8 n).toArray
def withTable (o : Go.Obj) : Go.Obj := match o with
  | Go.Obj.cells _ t fr => Go.Obj.cells table27 t fr
  | o => o
/-- The world that the door leaves, with the pinned table in it. -/
noncomputable def wit27 (os : Os) : World :=
  { World.doorLaid Tryz.prog 60 os with heap := (World.doorLaid Tryz.prog 60 os).heap.modify 1 withTable }

theorem door_met27 (os : Os) (args : Array Value) : laidMetH Tryz.prog laid27 ((wit27 os).forCall (fun _ _ => 0) ⟨#[], args, []⟩).memory :=
  laidMetH_of_parts3 (fuel := 8) (laidMet_of_run' 8 (by kernel_rfl) (by kernel_rfl)) (by kernel_rfl) (by kernel_rfl)

theorem shaped27 (os : Os) (args : Array Value) : ((wit27 os).forCall (fun _ _ => 0) ⟨#[], args, []⟩).Shaped Tryz.prog :=
  World.shaped_of_RefB (by kernel_rfl) (by kernel_rfl)

theorem card_hl {P : Program} {nm : String} {f0 : Nat} {fn0 : Func} {lk : Bool} (h1 : P.funcNamed nm = some f0) (h2 : P.funcs[f0]? = some fn0) (h3 : lk = P.looks []) (h4 : (fn0.params.toList.all fun t => !P.wantsStandIn t) = true) :
    ∀ f fn, P.funcNamed nm = some f → P.funcs[f]? = some fn → lk = P.looks [] ∧ ∀ (j : Nat) t, fn.params[j]? = some t → P.wantsStandIn t = false := by
  intro f fn h5 h6
  obtain rfl : f = f0 := (Option.some.inj (h1.symm.trans h5)).symm
  obtain rfl : fn = fn0 := (Option.some.inj (h2.symm.trans h6)).symm
  refine ⟨h3, fun j t ht => ?_⟩
  have := List.all_eq_true.1 h4 t (List.mem_of_getElem? (by simpa using ht))
  simpa using this
end Go.Proofs.YtpfokhdelnlciaaGreatDoor

/-! Sh -/
namespace Go.Proofs.YtpfokhdelnlciaaGreatDoor
open Go Dw Paths
theorem map_of {α : Type} {f : α → D} : ∀ (l : List D), (∀ y ∈ l, ∃ a, y = f a) → ∃ r : List α, l = r.map f
  | [], _ => ⟨[], rfl⟩
  | x :: l, h => by
    obtain ⟨a, rfl⟩ := h x (by simp)
    obtain ⟨r, rfl⟩ := map_of l fun y hy => h y (by simp [hy])
    exact ⟨a :: r, rfl⟩
theorem shpStr {n : Nat} {x : D} (h : shp E (n + 1) 9 x) : ∃ s : Bs, x = .str s := by
  obtain ⟨s, rfl, _⟩ := h
  exact ⟨s, rfl⟩
theorem shpPP {n : Nat} {x : D} (h : shp E (n + 3) 61 x) : ∃ p : PP, x = PPe p := by
  obtain ⟨cs, rfl, y1, r1, ⟨k1, rfl, _⟩, rfl, y2, r2, h2, rfl, y3, r3, ⟨k3, rfl, _⟩, rfl, rfl⟩ := h
  obtain ⟨l, rfl, _, h4⟩ := h2
  obtain ⟨r, rfl⟩ := map_of (f := D.str) l fun y hy => shpStr (h4 y hy)
  exact ⟨⟨k1, r, k3⟩, rfl⟩
end Go.Proofs.YtpfokhdelnlciaaGreatDoor

/-! Lc -/
namespace Go.Proofs.YtpfokhdelnlciaaGreatDoor
open Go Dw Go.ChangeShapes Go.WideShapes Go.RowKit

section
attribute [local irreducible] Run
theorem hrun7 : ∀ xs, shps E 6 Tryz.f7.params.toList xs → Run Tryz.prog 7 (xs.map .d) [] (.d (.bool true)) [] := by
  intro xs h
  obtain ⟨x1, r1, rfl, h1, x2, r2, rfl, h2, rfl⟩ := h
  obtain ⟨a, rfl⟩ := shpStr h1
  obtain ⟨b, rfl⟩ := shpStr h2
  exact c7 a b
end

set_option maxRecDepth 100000 in
theorem lifted7 (os : Os) (started : os.Started) (H : Type) (enc : TypeId × Value → H) :
    ReturnsInHanded {} Tryz.checked os 7 .any (fun w args => (Rows.reparseRelativeSpec.pre enc Tryz.prog Tryz.f7 [] false w args ∧ laidMetH Tryz.prog laid27 w) ∧ sizedMet enc Tryz.prog Tryz.f7 (OpenSpec.ofChange Rows.reparseRelativeSpec) false w args)
      (Rows.reparseRelativeSpec.post enc Tryz.prog Tryz.f7 false true false false) := by
  refine returnsInHanded_of_change_and (C := Tryz.checked) (X := fun w _ => laidMetH Tryz.prog laid27 w) (fun _ _ _ hh h => h.of_heap hh) own27 started (by kernel_rfl) Tryz.func7
    (ChangeSpec.witness_shaped (enc := enc) (C := Tryz.checked) (os := os) (X := fun w _ => laidMetH Tryz.prog laid27 w) false (wit27 os) #[.string ⟨#[]⟩, .string ⟨#[]⟩] 8 rfl (shaped27 os _) (by kernel_rfl) (by kernel_rfl) (by kernel_rfl) (door_met27 os _)) ?_
  intro W base args ds gs before hval hW _ _ _ _
  refine law_lift (n := 6) (t4 := 4) eok Tryz.func7 (by kernel_rfl) rfl laidOut27 rfl ?_ rfl Tryz.underlying4 (by kernel_rfl) hrun7 W base args ds gs before hval hW
  intro H ds hds
  match ds, hds with
  | [a, b], _ => rfl

theorem over7 : Rows.ReparseRelativeSaid :=
  OpenClaim.holds_of_wide 7 Tryz.f7 rfl rfl rfl rfl rfl rfl rfl ⟨rfl, rfl, rfl, rfl, rfl⟩ rfl rfl rfl rfl rfl (by kernel_rfl) Tryz.func7 (by kernel_rfl)
    (of_decide_eq_true (by kernel_rfl)) (by unfold Func.isWrapper; first | (rw [if_pos (by decide +kernel)]; kernel_rfl) | (rw [if_neg (by decide +kernel)]; exact ⟨rfl, rfl⟩))
    (fun os started H enc _ => lifted7 os started H enc)

theorem reparseRelative_proved : Rows.ReparseRelativeCardSaid :=
  Claim7.holds_tied_plain_at .later [] [.data, .pinned] true (true, "a16cbc1bcc8e620bf3fa5a01d12ddd2b9540fe44c3b039af40c111ac70deaea2") false
    over7 (fun _ h => by cases h) (by kernel_rfl) (fun _ h => by cases h) reparseRelative_row_tie rfl ⟨rfl, rfl⟩ (by kernel_rfl) rfl
    (card_hl (f0 := 7) (fn0 := Tryz.f7) (by kernel_rfl) Tryz.func7 (by kernel_rfl) (by kernel_rfl)) (by kernel_rfl)
end Go.Proofs.YtpfokhdelnlciaaGreatDoor
