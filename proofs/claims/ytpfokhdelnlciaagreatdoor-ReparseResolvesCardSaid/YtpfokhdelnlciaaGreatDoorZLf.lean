/-
  Chapter 27: ReparseResolves holds at every input: no condition of ours (its card lists two tables of the library, tied to the text).
-/
import Derived.Test.YtpfokhdelnlciaaGreatDoorGrpK
set_option linter.unusedVariables false
set_option linter.unusedSimpArgs false
namespace Go.Proofs.YtpfokhdelnlciaaGreatDoor
open Go Dw
set_option maxRecDepth 10000
attribute [local irreducible] Run
set_option maxHeartbeats 1000000
open Paths
attribute [local irreducible] nameErr cut normal dots partErr text parse glue fold within
theorem sm_all : ∀ (l : List Nod) (n : Int), smGo l n = true → ∀ x ∈ l, x.ents.length ≤ 24 ∧ ∀ y ∈ x.ents, y.name.length ≤ 60
  | [], _, _, x, hx => by cases hx
  | y :: l, n, h, x, hx => by
    simp only [smGo] at h
    split at h
    · cases h
    · rename_i h1
      split at h
      · cases h
      · rename_i h2
        rcases List.mem_cons.1 hx with rfl | hx
        · simp only [Bool.or_eq_true, decide_eq_true_eq] at h1
          refine ⟨by omega, fun y hy => ?_⟩
          refine Nat.le_of_not_lt fun hh => h2 (List.any_eq_true.2 ⟨y, hy, ?_⟩)
          unfold longE
          exact decide_eq_true (by omega)
        · exact sm_all l _ h x hx
theorem tb_small {t : List Nod} (h : smallT t = true) : Tb t := by
  unfold smallT at h
  split at h
  · cases h
  · rename_i h1
    have := sm_all t 0 h
    exact ⟨by omega, fun x hx => by have := (this x hx).1; omega, fun x hx y hy => by have := (this x hx).2 y hy; omega⟩
attribute [local irreducible] checkT lookE look entR noN smallT lookN
end Go.Proofs.YtpfokhdelnlciaaGreatDoor
namespace Go.Proofs.YtpfokhdelnlciaaGreatDoor
open Go Dw
set_option maxRecDepth 10000
attribute [local irreducible] Run
set_option maxHeartbeats 1000000
open Paths
attribute [local irreducible] nameErr cut normal dots partErr text parse glue fold within
theorem fol_tl {t : List Nod} : ∀ (n : Nat) {tr : List Int} {ps : List Bs} {last : Bool} {st : Int} {o : Fo}, fol t n tr ps last st = some o → o.x.trail.length ≤ tr.length + n + 1
  | 0, _, _, _, _, _, h => by cases h
  | n + 1, tr, [], last, st, o, h => by
    have := fol_nil h
    subst this
    show tr.length ≤ _; omega
  | n + 1, tr, p :: r, last, st, o, h => by
    have IH : ∀ {tr : List Int} {ps : List Bs} {last : Bool} {st : Int} {o : Fo}, fol t n tr ps last st = some o → o.x.trail.length ≤ tr.length + n + 1 := fol_tl n
    obtain ⟨m, e, hc⟩ := fol_cons h
    cases e
    have hA : ∀ {x : Int}, (tr ++ [x]).length = tr.length + 1 := by simp
    rcases hc with ⟨hb, he⟩ | ⟨hz, hf⟩ | ⟨hz0, hz, h1, hf⟩ | ⟨hz0, hz, h1, hf⟩ | ⟨hz0, hz, hl, hr, he⟩ | ⟨hz0, hz, hl, hr, he⟩ | ⟨hz0, hz, hl, hk, hf⟩ | ⟨hz0, hz, hl, hk, hr, he⟩ | ⟨hz0, hz, hl, hk, hr, he⟩ | ⟨hz0, hz, hl, k0, k1, hr, hfl, he⟩ | ⟨hz0, hz, hl, k0, k1, hr, h8, he⟩ | ⟨hz0, hz, hl, hk, hr, h8, hab, hf⟩ | ⟨hz0, hz, hl, hk, hr, h8, hab, hf⟩ | ⟨hz0, hz, hl, k0, k1, k2, hr, h8, q, hg, hc⟩
    · subst he; exact Nat.zero_le _
    · have := IH hf; omega
    · have := IH hf; rw [List.length_dropLast] at this; omega
    · have := IH hf; omega
    · subst he; show tr.length ≤ _; omega
    · subst he; show tr.length ≤ _; omega
    · have := IH hf; rw [hA] at this; omega
    · subst he; show tr.length ≤ _; omega
    · subst he; show tr.length ≤ _; omega
    · subst he; show tr.length ≤ _; omega
    · subst he; exact Nat.zero_le _
    · have := IH hf; simp only [List.length_cons, List.length_nil] at this; omega
    · have := IH hf; omega
    · rcases hc with ⟨he, ho⟩ | ⟨he, hn, ho⟩ | ⟨he, hn, hk, ho⟩ | ⟨he, hn, hk, hf⟩
      · subst ho; exact Nat.zero_le _
      · subst ho; exact Nat.zero_le _
      · subst ho; exact Nat.zero_le _
      · have := IH hf; rw [hA] at this; omega
theorem resR_cases {P : Rs → Prop} {t : List Nod} (B : Tb t) {s : Bs} {last : Bool} (h0 : ∀ e : Int, ¬ e = 0 → P ⟨noFd, [], 0, e⟩) (h1 : ∀ V : Vt t, (parse s).2 = 0 → (parse s).1.abs = true → (folR t (parse s).1.parts last).e = 0 → P ⟨(folR t (parse s).1.parts last).x, (parse s).1.stream, (folR t (parse s).1.parts last).st, 0⟩) : P (resR t s last) := by
  by_cases hc : (checkT t).2 = 0
  · rw [rr_b hc]
    by_cases hp : (parse s).2 = 0
    · cases ha : (parse s).1.abs with
      | false => rw [rp_b hp ha]; exact h0 3 (by decide)
      | true =>
        by_cases he : (folR t (parse s).1.parts last).e = 0
        · rw [rp_d hp ha he]; exact h1 ⟨B, hc⟩ hp ha he
        · rw [rp_c hp ha he]; exact h0 _ he
    · rw [rp_a hp]; exact h0 _ hp
  · rw [rr_a hc]; exact h0 _ hc
theorem resR_tl {t : List Nod} (B : Tb t) (s : Bs) (last : Bool) : (resR t s last).x.trail.length < 1000000 :=
  resR_cases (P := fun r => r.x.trail.length < 1000000) B (fun e _ => by show 0 < _; omega) fun V hp _ _ => by
    have := fol_tl 2000 (folR_some (last := last) V (ps := (parse s).1.parts) (by have := (parse_ok hp).2; omega))
    simp only [List.length_cons, List.length_nil] at this
    show (folR t (parse s).1.parts last).x.trail.length < _
    omega
theorem resR_st {t : List Nod} (B : Tb t) (s : Bs) (last : Bool) : (resR t s last).st ≤ 8 :=
  resR_cases (P := fun r => r.st ≤ 8) B (fun e _ => by show (0 : Int) ≤ 8; omega) fun V hp _ he => by
    have := fol_ok V 2000 V.root (folR_some (last := last) V (ps := (parse s).1.parts) (by have := (parse_ok hp).2; omega))
    exact (this.2 he).1 (by omega)
theorem c14x {t : List Nod} (B : Tb t) {s : Bs} {a b : Int} (h : stR t s = (a, b)) : Fn 14 [treeD t, .str s] (.tup [i a, i b]) := by
  have := c14 t B s
  rwa [h] at this
theorem c15e' {t : List Nod} (B : Tb t) {s : Bs} {last : Bool} {e : Int} (h : (resR t s last).e = e) : Fn 15 [treeD t, .str s, .bool last] (.tup [(resR t s last).enc, i e]) := by subst h; exact c15 t B s last
attribute [local irreducible] resP resR folR fol checkT fdR stR smallT
theorem c3a (t : List Nod) (s : Bs) (last : Bool) (hf : smallT t = false) : Fn 3 [treeD t, .str s, .bool last] (.bool true) := by
  refine run_walkF eok Tryz.func3 rfl (by kernel_rfl) ?_
  conv => whnf
  repeat' (first
 | ((with_reducible refine on_nf (by assumption) ?_); conv => whnf)
 | ((with_reducible refine call_go ?_); (first | refine call_step (run_data (xs := []) c10 _) ?_ | refine call_step (run_data (xs := [_]) (c11 t) _) ?_); conv => whnf)
 | ((with_reducible refine endx_go ?_); first | (exact endx rfl; done) )
    | fail
    )
theorem c3b (t : List Nod) (s : Bs) (last : Bool) (hf : smallT t = true) (h6 : (300 : Int) < s.length) : Fn 3 [treeD t, .str s, .bool last] (.bool true) := by
  refine run_walkF eok Tryz.func3 rfl (by kernel_rfl) ?_
  conv => whnf
  repeat' (first
 | ((with_reducible refine on_dec_t (by assumption) ?_); conv => whnf)
 | ((with_reducible refine on_nt (by assumption) ?_); conv => whnf)
 | ((with_reducible refine call_go ?_); (first | refine call_step (run_data (xs := []) c10 _) ?_ | refine call_step (run_data (xs := [_]) (c11 t) _) ?_); conv => whnf)
 | ((with_reducible refine endx_go ?_); first | (exact endx rfl; done) )
    | fail
    )
theorem c3c (t : List Nod) (s : Bs) (last : Bool) (hf : smallT t = true) (h6 : ¬ (300 : Int) < s.length) (he : ¬ (resR t s true).e = 0) : Fn 3 [treeD t, .str s, .bool last] (.bool true) := by
  have B := tb_small hf; have h8 := resR_st B s true
  refine run_walkF eok Tryz.func3 rfl (by kernel_rfl) ?_
  conv => whnf
  repeat' (first
 | ((with_reducible refine on_dec_f (by assumption) ?_); conv => whnf)
 | ((with_reducible refine on_nt (by assumption) ?_); conv => whnf)
 | ((with_reducible refine on_ndec_t (by first | assumption | rfl) ?_); conv => whnf)
 | ((with_reducible refine on_ndec_f (by assumption) ?_); conv => whnf)
 | ((with_reducible refine on_dec_t rfl ?_); conv => whnf)
 | ((with_reducible refine call_go ?_); (first | refine call_step (run_data (xs := []) c10 _) ?_ | refine call_step (run_data (xs := [_]) (c11 t) _) ?_ | refine call_step (run_data (xs := [_]) (c13 t B) _) ?_ | refine call_step (run_data (xs := [_, _, _]) (c12 t B s last) _) ?_ | refine call_step (run_data (xs := [_, _]) (c14x B (st_a he)) _) ?_ | refine call_step (run_data (xs := [_, _, _]) (c15e' B (last := true) (rfl)) _) ?_ | refine call_step (run_data (xs := [_, _, _]) (c15 t B s last) _) ?_ | refine call_step (run_data (xs := [_, _]) (c16 (resR t s last) (resR_tl B s last)) _) ?_); conv => whnf)
 | ((with_reducible refine endx_go ?_); first | (exact endx rfl; done) )
    | fail
    )
theorem c3d (t : List Nod) (s : Bs) (last : Bool) (hf : smallT t = true) (h6 : ¬ (300 : Int) < s.length) (he : (resR t s true).e = 0) (hn : (resR t s true).x.node = -1) : Fn 3 [treeD t, .str s, .bool last] (.bool true) := by
  have B := tb_small hf; have h8 := resR_st B s true
  refine run_walkF eok Tryz.func3 rfl (by kernel_rfl) ?_
  conv => whnf
  repeat' (first
 | ((with_reducible refine on_dec_t (by assumption) ?_); conv => whnf)
 | ((with_reducible refine on_dec_f (by assumption) ?_); conv => whnf)
 | ((with_reducible refine on_nt (by assumption) ?_); conv => whnf)
 | ((with_reducible refine on_ndec_t (by first | assumption | rfl) ?_); conv => whnf)
 | ((with_reducible refine call_go ?_); (first | refine call_step (run_data (xs := []) c10 _) ?_ | refine call_step (run_data (xs := [_]) (c11 t) _) ?_ | refine call_step (run_data (xs := [_]) (c13 t B) _) ?_ | refine call_step (run_data (xs := [_, _, _]) (c12 t B s last) _) ?_ | refine call_step (run_data (xs := [_, _]) (c14x B (st_b he hn)) _) ?_ | refine call_step (run_data (xs := [_, _, _]) (c15e' B (last := true) (he)) _) ?_ | refine call_step (run_data (xs := [_, _, _]) (c15 t B s last) _) ?_ | refine call_step (run_data (xs := [_, _]) (c16 (resR t s last) (resR_tl B s last)) _) ?_); conv => whnf)
 | ((with_reducible refine endx_go ?_); first | (exact endx rfl; done) )
    | fail
    )
theorem c3e (t : List Nod) (s : Bs) (last : Bool) (hf : smallT t = true) (h6 : ¬ (300 : Int) < s.length) (he : (resR t s true).e = 0) (hn : ¬ (resR t s true).x.node = -1) : Fn 3 [treeD t, .str s, .bool last] (.bool true) := by
  have B := tb_small hf; have h8 := resR_st B s true
  refine run_walkF eok Tryz.func3 rfl (by kernel_rfl) ?_
  conv => whnf
  repeat' (first
 | ((with_reducible refine on_dec_f (by assumption) ?_); conv => whnf)
 | ((with_reducible refine on_nt (by assumption) ?_); conv => whnf)
 | ((with_reducible refine on_ndec_t (by first | assumption | rfl) ?_); conv => whnf)
 | ((with_reducible refine on_dec_t rfl ?_); conv => whnf)
 | ((with_reducible refine call_go ?_); (first | refine call_step (run_data (xs := []) c10 _) ?_ | refine call_step (run_data (xs := [_]) (c11 t) _) ?_ | refine call_step (run_data (xs := [_]) (c13 t B) _) ?_ | refine call_step (run_data (xs := [_, _, _]) (c12 t B s last) _) ?_ | refine call_step (run_data (xs := [_, _]) (c14x B (st_c he hn)) _) ?_ | refine call_step (run_data (xs := [_, _, _]) (c15e' B (last := true) (he)) _) ?_ | refine call_step (run_data (xs := [_, _, _]) (c15 t B s last) _) ?_ | refine call_step (run_data (xs := [_, _]) (c16 (resR t s last) (resR_tl B s last)) _) ?_); conv => whnf)
 | ((with_reducible refine endx_go ?_); first | (exact endx (congrArg D.bool (decide_eq_true (by assumption))); done))
    | fail
    )
theorem c3 (t : List Nod) (s : Bs) (last : Bool) : Fn 3 [treeD t, .str s, .bool last] (.bool true) := by
  cases hf : smallT t with
  | false => exact c3a t s last hf
  | true =>
    by_cases h6 : (300 : Int) < s.length
    · exact c3b t s last hf h6
    · by_cases he : (resR t s true).e = 0
      · by_cases hn : (resR t s true).x.node = -1
        · exact c3d t s last hf h6 he hn
        · exact c3e t s last hf h6 he hn
      · exact c3c t s last hf h6 he
end Go.Proofs.YtpfokhdelnlciaaGreatDoor
namespace Go.Proofs.YtpfokhdelnlciaaGreatDoor
open Go Dw Go.ChangeShapes Go.WideShapes Go.RowKit
section
attribute [local irreducible] Run
theorem hrun3 : ∀ xs, shps E 6 Tryz.f3.params.toList xs → Run Tryz.prog 3 (xs.map .d) [] (.d (.bool true)) [] := by
  intro xs h
  obtain ⟨x1, r1, rfl, h1, x2, r2, rfl, h2, x3, r3, rfl, h3, rfl⟩ := h
  obtain ⟨t, rfl⟩ := shpTree h1
  obtain ⟨s, rfl⟩ := shpStr h2
  obtain ⟨b, rfl⟩ := shpBool h3
  exact c3 t s b
end
set_option maxRecDepth 100000 in
theorem lifted3 (os : Os) (started : os.Started) (H : Type) (enc : TypeId × Value → H) :
    ReturnsInHanded {} Tryz.checked os 3 .any (fun w args => (Rows.reparseResolvesSpec.pre enc Tryz.prog Tryz.f3 [] false w args ∧ laidMetH Tryz.prog laid27 w) ∧ sizedMet enc Tryz.prog Tryz.f3 (OpenSpec.ofChange Rows.reparseResolvesSpec) false w args)
      (Rows.reparseResolvesSpec.post enc Tryz.prog Tryz.f3 false true false false) := by
  refine returnsInHanded_of_change_and (C := Tryz.checked) (X := fun w _ => laidMetH Tryz.prog laid27 w) (fun _ _ _ hh h => h.of_heap hh) own27 started (by kernel_rfl) Tryz.func3
    (ChangeSpec.witness_shaped (enc := enc) (C := Tryz.checked) (os := os) (X := fun w _ => laidMetH Tryz.prog laid27 w) false (wit27 os) #[.slice none 0 0, .string ⟨#[]⟩, .bool false] 8 rfl (shaped27 os _) (by kernel_rfl) (by kernel_rfl) (by kernel_rfl) (door_met27 os _)) ?_
  intro W base args ds gs before hval hW _ _ _ _
  refine law_lift (n := 6) (t4 := 4) eok Tryz.func3 (by kernel_rfl) rfl laidOut27 rfl ?_ rfl Tryz.underlying4 (by kernel_rfl) hrun3 W base args ds gs before hval hW
  intro H ds hds
  match ds, hds with
  | [a, b, c], _ => rfl
theorem over3 : Rows.ReparseResolvesSaid :=
  OpenClaim.holds_of_wide 3 Tryz.f3 rfl rfl rfl rfl rfl rfl rfl ⟨rfl, rfl, rfl, rfl, rfl⟩ rfl rfl rfl rfl rfl (by kernel_rfl) Tryz.func3 (by kernel_rfl)
    (of_decide_eq_true (by kernel_rfl)) (by unfold Func.isWrapper; first | (rw [if_pos (by decide +kernel)]; kernel_rfl) | (rw [if_neg (by decide +kernel)]; exact ⟨rfl, rfl⟩))
    (fun os started H enc _ => lifted3 os started H enc)
theorem reparseResolves_proved : Rows.ReparseResolvesCardSaid :=
  Claim7.holds_tied_plain_at .later [] [.data, .pinned] true (true, "a16cbc1bcc8e620bf3fa5a01d12ddd2b9540fe44c3b039af40c111ac70deaea2") false
    over3 (fun _ h => by cases h) (by kernel_rfl) (fun _ h => by cases h) reparseResolves_row_tie rfl ⟨rfl, rfl⟩ (by kernel_rfl) rfl
    (card_hl (f0 := 3) (fn0 := Tryz.f3) (by kernel_rfl) Tryz.func3 (by kernel_rfl) (by kernel_rfl)) (by kernel_rfl)
end Go.Proofs.YtpfokhdelnlciaaGreatDoor
