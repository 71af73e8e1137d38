/-
  Own lemmas, no conditions: Ph, Ws, Wt, Wu.
-/
import Derived.Test.YtolfkcmdfgakkaaGrpG
set_option linter.unusedVariables false
set_option linter.unusedSimpArgs false

/-! Ph -/
namespace Go.Proofs.Ytolfkcmdfgakkaa
open Go Dw
set_option maxRecDepth 100000
set_option linter.unusedVariables false

def usedA (a : Act) : Act := if a.kind = 3 then ⟨a.kind, 0, 0, 0, a.lim⟩ else ⟨a.kind, a.who, if a.kind = 2 then a.to else 0, a.bytes, lim0⟩
def actF (a : Act) : Int := if within a.kind 0 3 = true then (if a = usedA a then 0 else 3) else 15
def aE : List Act → Int
  | [] => 0
  | a :: l => if actF a = 0 then aE l else actF a
theorem aE_drop {l : List Act} {k : Nat} (h : k < l.length) : aE (l.drop k) = if actF l[k] = 0 then aE (l.drop (k + 1)) else actF l[k] := by
  rw [List.drop_eq_getElem_cons h]; rfl
theorem aE_end {l : List Act} {k : Nat} (h : ¬ k < l.length) : aE (l.drop k) = 0 := by
  rw [List.drop_eq_nil_of_le (by omega)]; rfl
def aI : List Act → Nat → Int × Int
  | [], _ => (0, 0)
  | a :: l, k => if actF a = 0 then aI l (k + 1) else (k, actF a)
theorem aI_drop {l : List Act} {k : Nat} (h : k < l.length) : aI (l.drop k) k = if actF l[k] = 0 then aI (l.drop (k + 1)) (k + 1) else (k, actF l[k]) := by
  rw [List.drop_eq_getElem_cons h]; rfl
theorem aI_end {l : List Act} {k : Nat} (h : ¬ k < l.length) : aI (l.drop k) k = (0, 0) := by
  rw [List.drop_eq_nil_of_le (by omega)]; rfl
theorem aI_2 : ∀ (l : List Act) (k : Nat), (aI l k).2 = aE l
  | [], _ => rfl
  | a :: l, k => by
    simp only [aI, aE]
    split
    · exact aI_2 l _
    · rfl
theorem aE_ok : ∀ {l : List Act}, aE l = 0 → ∀ a ∈ l, actF a = 0
  | [], _, a, h => by cases h
  | b :: l, h, a, ha => by
    simp only [aE] at h
    split at h
    · rename_i h0
      rcases List.mem_cons.1 ha with rfl | ha
      · exact h0
      · exact aE_ok h a ha
    · rename_i h0; exact absurd h h0
def runE (x : Quo) (l : List Act) : Int := if ¬ (checkQ x).2 = 0 then (checkQ x).2 else if 100 < l.length then 8 else aE l
def runS (s : Quo × List Int) (a : Act) : Quo × List Int := ((doA s.1 a).1, s.2 ++ [(doA s.1 a).2])
def runQ (x : Quo) (l : List Act) : Quo × List Int := l.foldl runS (x, [])
theorem runQ_take {x : Quo} {l : List Act} {k : Nat} (h : k < l.length) : runQ x (l.take (k + 1)) = runS (runQ x (l.take k)) l[k] := by
  unfold runQ; rw [List.take_succ_eq_append_getElem h, List.foldl_append]; rfl
theorem actF_kind {a : Act} (h : actF a = 0) : kindOk a ∧ a = usedA a := by
  unfold actF at h
  split at h
  · rename_i hw
    split at h
    · rename_i hu
      refine ⟨?_, hu⟩
      unfold within at hw
      simp only [Bool.and_eq_true, decide_eq_true_eq] at hw
      unfold kindOk
      omega
    · exact absurd h (by decide)
  · exact absurd h (by decide)
/-- The act that the document does. -/
def refA (a : Act) : Act := if a.kind = 0 then actC a.who a.bytes else if a.kind = 1 then actR a.who a.bytes else if a.kind = 2 then actM a.who a.to a.bytes else actL a.lim
theorem refA_eq {a : Act} (h : actF a = 0) : refA a = a := by
  obtain ⟨hk, hu⟩ := actF_kind h
  obtain ⟨k, w, t, b, l⟩ := a
  unfold usedA at hu
  unfold refA actC actR actM actL
  rcases hk with hk | hk | hk | hk <;> (simp only at hk; subst hk; simp at hu ⊢; try (first | exact ⟨hu.1.symm, hu.2.symm⟩ | exact ⟨hu.1, hu.2.symm⟩ | (obtain ⟨h1, h2⟩ := hu; simp [*]) | simp [hu, *]))
theorem chg_err {x : Quo} {w b : Int} (h : ¬ (chg x w b).2 = 0) (h2 : ¬ (chg x w b).2 = 33) : (chg x w b).1 = x := by
  unfold chg at *
  split
  · rfl
  · rename_i c0
    rw [if_neg c0] at h h2
    split
    · rfl
    · rename_i c1
      rw [if_neg c1] at h h2
      split
      · rename_i c2
        rw [if_pos c2] at h2
        exact absurd rfl h2
      · rename_i c2
        rw [if_neg c2] at h h2
        split
        · rfl
        · rename_i c3
          rw [if_neg c3] at h
          exact absurd rfl h
theorem rls_err {x : Quo} {w b : Int} (h : ¬ (rls x w b).2 = 0) : (rls x w b).1 = x := by
  unfold rls at *
  split
  · rfl
  · rename_i c0
    rw [if_neg c0] at h
    split
    · rename_i c1
      rw [if_pos c1] at h; exact absurd rfl h
    · rfl
theorem doA_err {x : Quo} {a : Act} (hv : VQ x) (hk : kindOk a) (h : ¬ (doA x a).2 = 0) (h2 : ¬ (doA x a).2 = 33) : (doA x a).1 = x := by
  unfold doA at *
  split
  · rename_i c
    rw [if_pos c] at h h2
    unfold limF at *
    split
    · rename_i c1; rw [if_pos c1] at h; exact absurd rfl h
    · rfl
  · rename_i c
    rw [if_neg c] at h h2
    split
    · rename_i c1
      rw [if_pos c1] at h h2
      split
      · rename_i c2
        rw [if_pos c2] at h h2
        exact chg_err h h2
      · rename_i c2
        rw [if_neg c2] at h h2
        split
        · rename_i c3
          rw [if_pos c3] at h
          exact rls_err h
        · rename_i c3
          rw [if_neg c3] at h h2
          unfold mov at *
          split
          · rfl
          · rename_i d1
            rw [if_neg d1] at h h2
            split
            · rfl
            · rename_i d2
              rw [if_neg d2] at h h2
              split
              · rename_i d3
                rw [if_pos d3] at h
                exfalso
                apply h
                have e := chg_own hv (b := a.bytes) d2
                unfold rls
                rw [e, if_neg d1]
                split <;> rfl
              · rename_i d3
                rw [if_neg d3] at h h2
                exact chg_err h h2
    · rfl
/-- The document's run. -/
def refS (s : Quo × List Int) (a : Act) : Quo × List Int :=
  (if (aftQ s.1 (refA a)).2 = 0 ∨ (aftQ s.1 (refA a)).2 = 33 then (aftQ s.1 (refA a)).1 else s.1, s.2 ++ [(aftQ s.1 (refA a)).2])
theorem refS_eq {s : Quo × List Int} {a : Act} (hv : VQ s.1) (h : actF a = 0) : refS s a = runS s a := by
  have hk := (actF_kind h).1
  unfold refS runS
  rw [refA_eq h]
  have hq := (checkQ_iff s.1).2 hv
  have e : aftQ s.1 a = resQ (doA s.1 a) := by unfold aftQ; rw [if_pos hq]
  rw [e, res_2]
  by_cases hz : (doA s.1 a).2 = 0 ∨ (doA s.1 a).2 = 33
  · rw [if_pos hz]
    unfold resQ; rw [if_pos hz]
  · rw [if_neg hz, doA_err hv hk (fun h => hz (.inl h)) (fun h => hz (.inr h))]
theorem run_valid {x : Quo} {l : List Act} (hv : VQ x) (h : ∀ a ∈ l, actF a = 0) : VQ (runQ x l).1 := by
  have key : ∀ (l : List Act) (s : Quo × List Int), VQ s.1 → (∀ a ∈ l, actF a = 0) → VQ (l.foldl runS s).1 := by
    intro l
    induction l with
    | nil => intro s hs _; exact hs
    | cons a l ih =>
      intro s hs ha
      exact ih _ (doA_ok hs (actF_kind (ha a (by simp))).1) (fun b hb => ha b (by simp [hb]))
  exact key l (x, []) hv h
theorem run_len (x : Quo) (l : List Act) : (runQ x l).2.length = l.length := by
  have key : ∀ (l : List Act) (s : Quo × List Int), (l.foldl runS s).2.length = s.2.length + l.length := by
    intro l
    induction l with
    | nil => intro s; rfl
    | cons a l ih => intro s; rw [List.foldl_cons, ih]; simp [runS]; omega
  rw [runQ, key]; simp
end Go.Proofs.Ytolfkcmdfgakkaa

/-! Ws -/
namespace Go.Proofs.Ytolfkcmdfgakkaa
open Go Dw
set_option maxRecDepth 10000
set_option linter.unusedVariables false
set_option linter.unusedSimpArgs false
attribute [local irreducible] Run
set_option maxHeartbeats 4000000

attribute [local irreducible] oE checkQ cnt isR ownR withR bsR fullQ put1 chg rls mov limErr limF actE doA resQ aftQ whoE limE numE goMin goMax actErr movErr filE iget iput upto eF srt isQ roomQ warned mget mput addK allK kys refF stO bgO gaps gapsR diffQ sref sumsQ actF aE aI runE runQ
theorem actF_15 {a : Act} (h : within a.kind 0 3 = false) : actF a = 15 := by unfold actF; rw [if_neg (by rw [h]; decide)]
theorem actF_u {a : Act} (h : within a.kind 0 3 = true) : actF a = if a = usedA a then 0 else 3 := by unfold actF; rw [if_pos h]
theorem act_cells (a b : Act) : cellsEq [i a.kind, i a.who, i a.to, i a.bytes, i a.lim.who, i a.lim.warn, i a.lim.lim] [i b.kind, i b.who, i b.to, i b.bytes, i b.lim.who, i b.lim.warn, i b.lim.lim] = decide (a = b) := by
  obtain ⟨a1, a2, a3, a4, a5, a6, a7⟩ := a
  obtain ⟨b1, b2, b3, b4, b5, b6, b7⟩ := b
  simp only [cellsEq, cellEq, Act.mk.injEq, Lim.mk.injEq, Bool.decide_and, Bool.and_true]
theorem actF_is {a b : Act} (h : within a.kind 0 3 = true) (hu : usedA a = b) {z : Bool} (hz : z = decide (a = b)) : (if z = true then (0 : Int) else 3) = actF a := by
  rw [actF_u h, hu, hz]; simp only [decide_eq_true_eq]

theorem c68 (a : Act) : Fn 68 [a.enc] (i (actF a)) := by
  refine run_walkF eok Try.func68 rfl (by kernel_rfl) ?_
  conv => whnf
  repeat' (first
    | ((with_reducible refine on_dec_t (by assumption) ?_); conv => whnf)
    | ((with_reducible refine on_dec_f (by assumption) ?_); conv => whnf)
    | ((with_reducible refine onBool_t (by assumption) ?_); conv => whnf)
    | ((with_reducible refine onBool_f (by assumption) ?_); conv => whnf)
    | ((with_reducible refine on_nt (by assumption) ?_); conv => whnf)
    | ((with_reducible refine on_nf (by assumption) ?_); conv => whnf)
    | ((with_reducible refine on_ndec_t (by first | assumption | rfl) ?_); conv => whnf)
    | ((with_reducible refine on_ndec_f (by assumption) ?_); conv => whnf)
    | ((with_reducible refine on_dec_t rfl ?_); conv => whnf)
    | ((with_reducible refine on_dec_f ?_ ?_); (focus ((try simp only [List.length_map, List.length_cons, List.length_nil, List.length_append]); omega)); conv => whnf)
    | ((with_reducible refine on_dec_t ?_ ?_); (focus ((try simp only [List.length_map, List.length_cons, List.length_nil, List.length_append]); omega)); conv => whnf)
    | ((with_reducible refine on_dec (fun h => ?_) (fun h => ?_)) <;> (try simp only [List.length_map] at h) <;> conv => whnf)
    | ((with_reducible refine on_ndec (fun h => ?_) (fun h => ?_)) <;> (try simp only [List.length_map] at h) <;> conv => whnf)
    | ((with_reducible refine on_not (fun h => ?_) (fun h => ?_)) <;> conv => whnf)
    | ((with_reducible refine onBool_split (fun h => ?_) (fun h => ?_)) <;> conv => whnf)
    | ((with_reducible refine call_go ?_); (first | refine call_step (run_view (c55 _ _ _) rfl rfl) ?_ | refine call_step (run_view (c52 _ _) rfl rfl) ?_); conv => whnf)
    | (refine ⟨⟨(by first | rfl | (simp; done)), cap_ok (by simp only [List.length_map, List.length_cons, List.length_nil, List.length_append]; omega) rfl⟩, ?_⟩; conv => whnf)
    | (refine ⟨mem_one ⟨rfl, rfl⟩, ?_⟩; conv => whnf)
    | (refine ⟨(by intro y hy; obtain ⟨x, _, rfl⟩ := List.mem_map.1 hy; first | rfl | exact ⟨rfl, rfl⟩), ?_⟩; conv => whnf)
    | (refine ⟨cap_ok (by first | omega | (simp only [List.length_map]; omega)) rfl, ?_⟩; conv => whnf)
    | (refine ix_map (by omega) ?_; conv => whnf)
    | (refine ix_str (by omega) ?_; conv => whnf)
    | (refine wrap64 (by omega) ?_; conv => whnf)
    | (refine wrap64 (by omega) ?_; conv => whnf)
    | (exfalso; simp only [List.length_map, List.length_cons, List.length_nil, List.length_append] at h; omega)
    | ((with_reducible refine endx_go ?_); first | (refine endx (congrArg i (actF_15 (by assumption)).symm); done) | (refine endx (congrArg i ?_); exact (actF_15 (by assumption)).symm; done) | (refine cut_ (usedA a = ⟨a.kind, 0, 0, 0, a.lim⟩) ?_ (fun hE => ?_); (focus (unfold usedA lim0; simp [*]; done)); refine endx (congrArg i ?_); exact actF_is (by assumption) hE (act_cells a ⟨a.kind, 0, 0, 0, a.lim⟩); done) | (refine cut_ (usedA a = ⟨a.kind, a.who, 0, a.bytes, lim0⟩) ?_ (fun hE => ?_); (focus (unfold usedA lim0; simp [*]; done)); refine endx (congrArg i ?_); exact actF_is (by assumption) hE (act_cells a ⟨a.kind, a.who, 0, a.bytes, lim0⟩); done) | (refine cut_ (usedA a = ⟨a.kind, a.who, a.to, a.bytes, lim0⟩) ?_ (fun hE => ?_); (focus (unfold usedA lim0; simp [*]; done)); refine endx (congrArg i ?_); exact actF_is (by assumption) hE (act_cells a ⟨a.kind, a.who, a.to, a.bytes, lim0⟩); done))
    | (refine ⟨rfl, ?_⟩; conv => whnf)
    | fail
    )

theorem c67 (k : Nat) (a : Act) : Fn 67 [i k, a.enc] (i (actF a)) := by
  refine run_walkF eok Try.func67 rfl (by kernel_rfl) ?_
  conv => whnf
  repeat' (first
    | ((with_reducible refine on_dec_t (by assumption) ?_); conv => whnf)
    | ((with_reducible refine on_dec_f (by assumption) ?_); conv => whnf)
    | ((with_reducible refine onBool_t (by assumption) ?_); conv => whnf)
    | ((with_reducible refine onBool_f (by assumption) ?_); conv => whnf)
    | ((with_reducible refine on_nt (by assumption) ?_); conv => whnf)
    | ((with_reducible refine on_nf (by assumption) ?_); conv => whnf)
    | ((with_reducible refine on_ndec_t (by first | assumption | rfl) ?_); conv => whnf)
    | ((with_reducible refine on_ndec_f (by assumption) ?_); conv => whnf)
    | ((with_reducible refine on_dec_t rfl ?_); conv => whnf)
    | ((with_reducible refine on_dec_f ?_ ?_); (focus ((try simp only [List.length_map, List.length_cons, List.length_nil, List.length_append]); omega)); conv => whnf)
    | ((with_reducible refine on_dec_t ?_ ?_); (focus ((try simp only [List.length_map, List.length_cons, List.length_nil, List.length_append]); omega)); conv => whnf)
    | ((with_reducible refine on_dec (fun h => ?_) (fun h => ?_)) <;> (try simp only [List.length_map] at h) <;> conv => whnf)
    | ((with_reducible refine on_ndec (fun h => ?_) (fun h => ?_)) <;> (try simp only [List.length_map] at h) <;> conv => whnf)
    | ((with_reducible refine on_not (fun h => ?_) (fun h => ?_)) <;> conv => whnf)
    | ((with_reducible refine onBool_split (fun h => ?_) (fun h => ?_)) <;> conv => whnf)
    | ((with_reducible refine call_go ?_); (first | refine call_step (run_data (c68 a) _) ?_); conv => whnf)
    | (refine ⟨⟨(by first | rfl | (simp; done)), cap_ok (by simp only [List.length_map, List.length_cons, List.length_nil, List.length_append]; omega) rfl⟩, ?_⟩; conv => whnf)
    | (refine ⟨mem_one ⟨rfl, rfl⟩, ?_⟩; conv => whnf)
    | (refine ⟨(by intro y hy; obtain ⟨x, _, rfl⟩ := List.mem_map.1 hy; first | rfl | exact ⟨rfl, rfl⟩), ?_⟩; conv => whnf)
    | (refine ⟨cap_ok (by first | omega | (simp only [List.length_map]; omega)) rfl, ?_⟩; conv => whnf)
    | (refine ix_map (by omega) ?_; conv => whnf)
    | (refine ix_str (by omega) ?_; conv => whnf)
    | (refine wrap64 (by omega) ?_; conv => whnf)
    | (refine wrap64 (by omega) ?_; conv => whnf)
    | (exfalso; simp only [List.length_map, List.length_cons, List.length_nil, List.length_append] at h; omega)
    | ((with_reducible refine endx_go ?_); first | (exact endx rfl; done))
    | (refine ⟨rfl, ?_⟩; conv => whnf)
    | fail
    )

theorem c66 (l : List Act) (hl : l.length < 1000) : Fn 66 [.fs (l.map Act.enc), .fn 67 [] []] (.tup [i (aI l 0).1, i (aI l 0).2]) := by
  refine run_walkF eok Try.func66 rfl (by kernel_rfl) ?_
  conv => whnf
  repeat' (first
    | ((with_reducible refine on_dec_f ?_ ?_); (focus ((try simp only [List.length_map, List.length_cons, List.length_nil, List.length_append]); omega)); conv => whnf)
    | ((with_reducible refine on_dec_t ?_ ?_); (focus ((try simp only [List.length_map, List.length_cons, List.length_nil, List.length_append]); omega)); conv => whnf)
    | ((with_reducible refine on_dec (fun h => ?_) (fun h => ?_)) <;> (try simp only [List.length_map] at h) <;> conv => whnf)
    | ((with_reducible refine on_ndec (fun h => ?_) (fun h => ?_)) <;> (try simp only [List.length_map] at h) <;> conv => whnf)
    | ((with_reducible refine on_not (fun h => ?_) (fun h => ?_)) <;> conv => whnf)
    | ((with_reducible refine onBool_split (fun h => ?_) (fun h => ?_)) <;> conv => whnf)
    | ((with_reducible refine call_go ?_); (first | refine call_step (run_view (c67 k _) rfl rfl) ?_); conv => whnf)
    | ((with_reducible refine loop_go ?_); first | (refine loop1 (fun (k : Nat) => l.length - k) (fun (k : Nat) => k ≤ l.length ∧ aI l 0 = aI (l.drop k) k) (fun (k : Nat) => [(1, .d (.fn 67 [] [])), (9, .d (.fs (l.map Act.enc))), (10, .d (i l.length)), (11, .d (i k))]) (fun (k : Nat) => []) (0) (by exact ⟨Nat.zero_le _, rfl⟩) ?_ (fun k C hI hC => ?_); (exact ⟨[], rfl, rfl, ⟨(by first | (show (_ : D) = _; with_reducible rfl) | exact rfl), (by first | (show (_ : D) = _; with_reducible rfl) | exact rfl), (by first | (show (_ : D) = _; with_reducible rfl) | exact congrArg (D.int .i64) (by omega) | exact congrArg (D.int .i64) (by simp only [List.length_map]) | exact rfl), (by first | (show (_ : D) = _; with_reducible rfl) | exact congrArg (D.int .i64) (by omega) | exact congrArg (D.int .i64) (by simp only [List.length_map]) | exact rfl), trivial⟩, trivial⟩); all_goals (conv => whnf)))
    | ((with_reducible show C _ _); first | (refine hC (k + 1) _ _ ?_ (by omega) ?_; clear hC; rotate_left; (exact ⟨[], rfl, rfl, ⟨(by first | (show (_ : D) = _; with_reducible rfl) | exact rfl), (by first | (show (_ : D) = _; with_reducible rfl) | exact rfl), (by first | (show (_ : D) = _; with_reducible rfl) | exact congrArg (D.int .i64) (by omega) | exact congrArg (D.int .i64) (by simp only [List.length_map]) | exact rfl), (by first | (show (_ : D) = _; with_reducible rfl) | exact congrArg (D.int .i64) (by omega) | exact congrArg (D.int .i64) (by simp only [List.length_map]) | exact rfl), trivial⟩, trivial⟩); (exact ⟨by omega, by rw [hI.2, aI_drop (by omega), if_pos h]⟩)))
    | (refine ⟨⟨(by first | rfl | (simp; done)), cap_ok (by simp only [List.length_map, List.length_cons, List.length_nil, List.length_append]; omega) rfl⟩, ?_⟩; conv => whnf)
    | (refine ⟨mem_one ⟨rfl, rfl⟩, ?_⟩; conv => whnf)
    | (refine ⟨(by intro y hy; obtain ⟨x, _, rfl⟩ := List.mem_map.1 hy; first | rfl | exact ⟨rfl, rfl⟩), ?_⟩; conv => whnf)
    | (refine ⟨cap_ok (by first | omega | (simp only [List.length_map]; omega)) rfl, ?_⟩; conv => whnf)
    | (refine ix_map (by omega) ?_; conv => whnf)
    | (refine ix_str (by omega) ?_; conv => whnf)
    | (refine wrap64 (by omega) ?_; conv => whnf)
    | (refine wrap64 (by omega) ?_; conv => whnf)
    | (exfalso; simp only [List.length_map, List.length_cons, List.length_nil, List.length_append] at h; omega)
    | ((with_reducible refine endx_go ?_); first | (refine endx2 ?_; (rw [hI.2, aI_drop (by omega), if_neg h]) <;> rfl; done) | (refine endx2 ?_; (rw [hI.2, aI_end (by omega)]) <;> rfl; done))
    | (refine ⟨rfl, ?_⟩; conv => whnf)
    | fail
    )

def runR (x : Quo) (l : List Act) : Quo × List Int × Int := if runE x l = 0 then ((runQ x l).1, (runQ x l).2, 0) else (emp, [], runE x l)

theorem c34a (x : Quo) (hx : x.os.length < 1000) (l : List Act) (hl : l.length < 1000) (hq : ¬ (checkQ x).2 = 0) : Fn 34 [x.enc, .fs (l.map Act.enc)] (.tup [(runR x l).1.enc, .fs ((runR x l).2.1.map i), i (runR x l).2.2]) := by
  have hv : firstE [(checkQ x).2, if decide ((↑(l.map Act.enc).length : Int) ≤ 100) = true then 0 else 8] = (checkQ x).2 := (by rw [firstE_cons, if_neg hq]); have hn : ¬ firstE [(checkQ x).2, if decide ((↑(l.map Act.enc).length : Int) ≤ 100) = true then 0 else 8] = 0 := (by rw [hv]; exact hq); have hr : runE x l = (checkQ x).2 := (by unfold runE; rw [if_pos hq]); have hd : runR x l = (emp, [], (checkQ x).2) := (by unfold runR; rw [hr, if_neg (by assumption)]); 
  refine run_walkF eok Try.func34 rfl (by kernel_rfl) ?_
  conv => whnf
  repeat' (first
    | ((with_reducible refine on_dec_t (by assumption) ?_); conv => whnf)
    | ((with_reducible refine on_dec_f (by assumption) ?_); conv => whnf)
    | ((with_reducible refine onBool_t (by assumption) ?_); conv => whnf)
    | ((with_reducible refine onBool_f (by assumption) ?_); conv => whnf)
    | ((with_reducible refine on_nt (by assumption) ?_); conv => whnf)
    | ((with_reducible refine on_nf (by assumption) ?_); conv => whnf)
    | ((with_reducible refine on_ndec_t (by first | assumption | rfl) ?_); conv => whnf)
    | ((with_reducible refine on_ndec_f (by assumption) ?_); conv => whnf)
    | ((with_reducible refine on_dec_t rfl ?_); conv => whnf)
    | ((with_reducible refine on_dec_f ?_ ?_); (focus ((try simp only [List.length_map, List.length_cons, List.length_nil, List.length_append]); omega)); conv => whnf)
    | ((with_reducible refine on_dec_t ?_ ?_); (focus ((try simp only [List.length_map, List.length_cons, List.length_nil, List.length_append]); omega)); conv => whnf)
    | ((with_reducible refine on_dec (fun h => ?_) (fun h => ?_)) <;> (try simp only [List.length_map] at h) <;> conv => whnf)
    | ((with_reducible refine on_ndec (fun h => ?_) (fun h => ?_)) <;> (try simp only [List.length_map] at h) <;> conv => whnf)
    | ((with_reducible refine on_not (fun h => ?_) (fun h => ?_)) <;> conv => whnf)
    | ((with_reducible refine onBool_split (fun h => ?_) (fun h => ?_)) <;> conv => whnf)
    | ((with_reducible refine call_go ?_); (first | refine call_step (c64r x hx hq _) ?_ | refine call_step (c64n x hx hq _) ?_ | refine call_step (run_view (c52 _ _) rfl rfl) ?_ | refine call_step (run_view (c50 [_, _] (by simp)) rfl rfl) ?_ | refine call_step (run_view (c50 [_, _, _, _, _] (by simp)) rfl rfl) ?_ | refine call_step (run_view (c50 [_, _, _, _, _, _] (by simp)) rfl rfl) ?_ | refine call_step (run_view (c66 l hl) rfl rfl) ?_ | refine call_step (Mv.at (c69 y hI.2.1 l[k] (actF_kind (aE_ok hz l[k] (List.getElem_mem (by omega)))).1) rfl (fun _ => rfl) rfl rfl rfl (Nat.ne_of_beq_eq_false rfl) (vlc rfl vln) (fun j hj => absurd hj (List.not_mem_nil))) ?_); conv => whnf)
    | (refine ⟨⟨(by first | rfl | (simp; done)), cap_ok (by simp only [List.length_map, List.length_cons, List.length_nil, List.length_append]; omega) rfl⟩, ?_⟩; conv => whnf)
    | (refine ⟨mem_one ⟨rfl, rfl⟩, ?_⟩; conv => whnf)
    | (refine ⟨(by intro y hy; obtain ⟨x, _, rfl⟩ := List.mem_map.1 hy; first | rfl | exact ⟨rfl, rfl⟩), ?_⟩; conv => whnf)
    | (refine ⟨cap_ok (by first | omega | (simp only [List.length_map]; omega)) rfl, ?_⟩; conv => whnf)
    | (refine ix_map (by omega) ?_; conv => whnf)
    | (refine ix_str (by omega) ?_; conv => whnf)
    | (refine wrap64 (by omega) ?_; conv => whnf)
    | (refine wrap64 (by omega) ?_; conv => whnf)
    | (exfalso; simp only [List.length_map, List.length_cons, List.length_nil, List.length_append] at h; omega)
    | ((with_reducible refine endx_go ?_); first | (refine endxv (view_tup (vlc (view_agg (vlc rfl (vlc rfl vln))) (vlc rfl (vlc rfl vln)))) ?_; (rw [hd]) <;> (first | rfl | (rw [hv] <;> rfl)); done))
    | (refine ⟨rfl, ?_⟩; conv => whnf)
    | fail
    )

theorem c34b (x : Quo) (hx : x.os.length < 1000) (l : List Act) (hl : l.length < 1000) (hq : (checkQ x).2 = 0) (hb : 100 < l.length) : Fn 34 [x.enc, .fs (l.map Act.enc)] (.tup [(runR x l).1.enc, .fs ((runR x l).2.1.map i), i (runR x l).2.2]) := by
  have hv : firstE [0, if decide ((↑(l.map Act.enc).length : Int) ≤ 100) = true then 0 else 8] = 8 := (by rw [List.length_map, if_neg (by simp; omega)]; rfl); have hn : ¬ firstE [0, if decide ((↑(l.map Act.enc).length : Int) ≤ 100) = true then 0 else 8] = 0 := (by rw [hv]; decide); have hr : runE x l = 8 := (by unfold runE; rw [if_neg (not_not_intro hq), if_pos hb]); have h80 : ¬ (8 : Int) = 0 := (by decide); have hd : runR x l = (emp, [], 8) := (by unfold runR; rw [hr, if_neg (by assumption)]); 
  refine run_walkF eok Try.func34 rfl (by kernel_rfl) ?_
  conv => whnf
  repeat' (first
    | ((with_reducible refine on_dec_t (by assumption) ?_); conv => whnf)
    | ((with_reducible refine on_dec_f (by assumption) ?_); conv => whnf)
    | ((with_reducible refine onBool_t (by assumption) ?_); conv => whnf)
    | ((with_reducible refine onBool_f (by assumption) ?_); conv => whnf)
    | ((with_reducible refine on_nt (by assumption) ?_); conv => whnf)
    | ((with_reducible refine on_nf (by assumption) ?_); conv => whnf)
    | ((with_reducible refine on_ndec_t (by first | assumption | rfl) ?_); conv => whnf)
    | ((with_reducible refine on_ndec_f (by assumption) ?_); conv => whnf)
    | ((with_reducible refine on_dec_t rfl ?_); conv => whnf)
    | ((with_reducible refine on_dec_f ?_ ?_); (focus ((try simp only [List.length_map, List.length_cons, List.length_nil, List.length_append]); omega)); conv => whnf)
    | ((with_reducible refine on_dec_t ?_ ?_); (focus ((try simp only [List.length_map, List.length_cons, List.length_nil, List.length_append]); omega)); conv => whnf)
    | ((with_reducible refine on_dec (fun h => ?_) (fun h => ?_)) <;> (try simp only [List.length_map] at h) <;> conv => whnf)
    | ((with_reducible refine on_ndec (fun h => ?_) (fun h => ?_)) <;> (try simp only [List.length_map] at h) <;> conv => whnf)
    | ((with_reducible refine on_not (fun h => ?_) (fun h => ?_)) <;> conv => whnf)
    | ((with_reducible refine onBool_split (fun h => ?_) (fun h => ?_)) <;> conv => whnf)
    | ((with_reducible refine call_go ?_); (first | refine call_step (c64r x hx hq _) ?_ | refine call_step (c64n x hx hq _) ?_ | refine call_step (run_view (c52 _ _) rfl rfl) ?_ | refine call_step (run_view (c50 [_, _] (by simp)) rfl rfl) ?_ | refine call_step (run_view (c50 [_, _, _, _, _] (by simp)) rfl rfl) ?_ | refine call_step (run_view (c50 [_, _, _, _, _, _] (by simp)) rfl rfl) ?_ | refine call_step (run_view (c66 l hl) rfl rfl) ?_ | refine call_step (Mv.at (c69 y hI.2.1 l[k] (actF_kind (aE_ok hz l[k] (List.getElem_mem (by omega)))).1) rfl (fun _ => rfl) rfl rfl rfl (Nat.ne_of_beq_eq_false rfl) (vlc rfl vln) (fun j hj => absurd hj (List.not_mem_nil))) ?_); conv => whnf)
    | (refine ⟨⟨(by first | rfl | (simp; done)), cap_ok (by simp only [List.length_map, List.length_cons, List.length_nil, List.length_append]; omega) rfl⟩, ?_⟩; conv => whnf)
    | (refine ⟨mem_one ⟨rfl, rfl⟩, ?_⟩; conv => whnf)
    | (refine ⟨(by intro y hy; obtain ⟨x, _, rfl⟩ := List.mem_map.1 hy; first | rfl | exact ⟨rfl, rfl⟩), ?_⟩; conv => whnf)
    | (refine ⟨cap_ok (by first | omega | (simp only [List.length_map]; omega)) rfl, ?_⟩; conv => whnf)
    | (refine ix_map (by omega) ?_; conv => whnf)
    | (refine ix_str (by omega) ?_; conv => whnf)
    | (refine wrap64 (by omega) ?_; conv => whnf)
    | (refine wrap64 (by omega) ?_; conv => whnf)
    | (exfalso; simp only [List.length_map, List.length_cons, List.length_nil, List.length_append] at h; omega)
    | ((with_reducible refine endx_go ?_); first | (refine endxv (view_tup (vlc (view_agg (vlc rfl (vlc rfl vln))) (vlc rfl (vlc rfl vln)))) ?_; (rw [hd]) <;> (first | rfl | (rw [hv] <;> rfl)); done))
    | (refine ⟨rfl, ?_⟩; conv => whnf)
    | fail
    )

theorem c34c (x : Quo) (hx : x.os.length < 1000) (l : List Act) (hl : l.length < 1000) (hq : (checkQ x).2 = 0) (hb : ¬ 100 < l.length) (hz : ¬ aE l = 0) : Fn 34 [x.enc, .fs (l.map Act.enc)] (.tup [(runR x l).1.enc, .fs ((runR x l).2.1.map i), i (runR x l).2.2]) := by
  have hn : firstE [0, if decide ((↑(l.map Act.enc).length : Int) ≤ 100) = true then 0 else 8] = 0 := (by rw [List.length_map, if_pos (by simp; omega)]; rfl); have hv : (aI l 0).2 = aE l := aI_2 l 0; have hn2 : ¬ (aI l 0).2 = 0 := (by rw [hv]; exact hz); have hr : runE x l = aE l := (by unfold runE; rw [if_neg (not_not_intro hq), if_neg hb]); have hd : runR x l = (emp, [], aE l) := (by unfold runR; rw [hr, if_neg (by assumption)]); 
  refine run_walkF eok Try.func34 rfl (by kernel_rfl) ?_
  conv => whnf
  repeat' (first
    | ((with_reducible refine on_dec_t (by assumption) ?_); conv => whnf)
    | ((with_reducible refine on_dec_f (by assumption) ?_); conv => whnf)
    | ((with_reducible refine onBool_t (by assumption) ?_); conv => whnf)
    | ((with_reducible refine onBool_f (by assumption) ?_); conv => whnf)
    | ((with_reducible refine on_nt (by assumption) ?_); conv => whnf)
    | ((with_reducible refine on_nf (by assumption) ?_); conv => whnf)
    | ((with_reducible refine on_ndec_t (by first | assumption | rfl) ?_); conv => whnf)
    | ((with_reducible refine on_ndec_f (by assumption) ?_); conv => whnf)
    | ((with_reducible refine on_dec_t rfl ?_); conv => whnf)
    | ((with_reducible refine on_dec_f ?_ ?_); (focus ((try simp only [List.length_map, List.length_cons, List.length_nil, List.length_append]); omega)); conv => whnf)
    | ((with_reducible refine on_dec_t ?_ ?_); (focus ((try simp only [List.length_map, List.length_cons, List.length_nil, List.length_append]); omega)); conv => whnf)
    | ((with_reducible refine on_dec (fun h => ?_) (fun h => ?_)) <;> (try simp only [List.length_map] at h) <;> conv => whnf)
    | ((with_reducible refine on_ndec (fun h => ?_) (fun h => ?_)) <;> (try simp only [List.length_map] at h) <;> conv => whnf)
    | ((with_reducible refine on_not (fun h => ?_) (fun h => ?_)) <;> conv => whnf)
    | ((with_reducible refine onBool_split (fun h => ?_) (fun h => ?_)) <;> conv => whnf)
    | ((with_reducible refine call_go ?_); (first | refine call_step (c64r x hx hq _) ?_ | refine call_step (c64n x hx hq _) ?_ | refine call_step (run_view (c52 _ _) rfl rfl) ?_ | refine call_step (run_view (c50 [_, _] (by simp)) rfl rfl) ?_ | refine call_step (run_view (c50 [_, _, _, _, _] (by simp)) rfl rfl) ?_ | refine call_step (run_view (c50 [_, _, _, _, _, _] (by simp)) rfl rfl) ?_ | refine call_step (run_view (c66 l hl) rfl rfl) ?_ | refine call_step (Mv.at (c69 y hI.2.1 l[k] (actF_kind (aE_ok hz l[k] (List.getElem_mem (by omega)))).1) rfl (fun _ => rfl) rfl rfl rfl (Nat.ne_of_beq_eq_false rfl) (vlc rfl vln) (fun j hj => absurd hj (List.not_mem_nil))) ?_); conv => whnf)
    | (refine ⟨⟨(by first | rfl | (simp; done)), cap_ok (by simp only [List.length_map, List.length_cons, List.length_nil, List.length_append]; omega) rfl⟩, ?_⟩; conv => whnf)
    | (refine ⟨mem_one ⟨rfl, rfl⟩, ?_⟩; conv => whnf)
    | (refine ⟨(by intro y hy; obtain ⟨x, _, rfl⟩ := List.mem_map.1 hy; first | rfl | exact ⟨rfl, rfl⟩), ?_⟩; conv => whnf)
    | (refine ⟨cap_ok (by first | omega | (simp only [List.length_map]; omega)) rfl, ?_⟩; conv => whnf)
    | (refine ix_map (by omega) ?_; conv => whnf)
    | (refine ix_str (by omega) ?_; conv => whnf)
    | (refine wrap64 (by omega) ?_; conv => whnf)
    | (refine wrap64 (by omega) ?_; conv => whnf)
    | (exfalso; simp only [List.length_map, List.length_cons, List.length_nil, List.length_append] at h; omega)
    | ((with_reducible refine endx_go ?_); first | (refine endxv (view_tup (vlc (view_agg (vlc rfl (vlc rfl vln))) (vlc rfl (vlc rfl vln)))) ?_; (rw [hd]) <;> (first | rfl | (rw [hv] <;> rfl)); done))
    | (refine ⟨rfl, ?_⟩; conv => whnf)
    | fail
    )

theorem runQ_0 (x : Quo) (l : List Act) : runQ x (l.take 0) = (x, []) := by rw [List.take_zero]; unfold runQ; rfl
theorem runQ_1 {x y : Quo} {l : List Act} {k : Nat} {es : List Int} (h : k < l.length) (hr : runQ x (l.take k) = (y, es)) : runQ x (l.take (k + 1)) = ((doA y l[k]).1, es ++ [(doA y l[k]).2]) := by rw [runQ_take h, hr]; rfl
theorem actF_at {l : List Act} (hz : aE l = 0) {k : Nat} (h : k < l.length) : kindOk l[k] := (actF_kind (aE_ok hz l[k] (List.getElem_mem h))).1

theorem c34d (x : Quo) (hx : x.os.length < 1000) (l : List Act) (hl : l.length < 1000) (hq : (checkQ x).2 = 0) (hb : ¬ 100 < l.length) (hz : aE l = 0) : Fn 34 [x.enc, .fs (l.map Act.enc)] (.tup [(runR x l).1.enc, .fs ((runR x l).2.1.map i), i (runR x l).2.2]) := by
  have hn : firstE [0, if decide ((↑(l.map Act.enc).length : Int) ≤ 100) = true then 0 else 8] = 0 := (by rw [List.length_map, if_pos (by simp; omega)]; rfl); have hv : (aI l 0).2 = aE l := aI_2 l 0; have hn2 : (aI l 0).2 = 0 := (by rw [hv]; exact hz); have hr : runE x l = 0 := (by unfold runE; rw [if_neg (not_not_intro hq), if_neg hb]; exact hz); have hd : runR x l = ((runQ x l).1, (runQ x l).2, 0) := (by unfold runR; rw [if_pos hr])
  refine run_walkF eok Try.func34 rfl (by kernel_rfl) ?_
  conv => whnf
  repeat' (first
    | ((with_reducible refine on_dec_t (by assumption) ?_); conv => whnf)
    | ((with_reducible refine on_dec_f (by assumption) ?_); conv => whnf)
    | ((with_reducible refine onBool_t (by assumption) ?_); conv => whnf)
    | ((with_reducible refine onBool_f (by assumption) ?_); conv => whnf)
    | ((with_reducible refine on_nt (by assumption) ?_); conv => whnf)
    | ((with_reducible refine on_nf (by assumption) ?_); conv => whnf)
    | ((with_reducible refine on_ndec_t (by first | assumption | rfl) ?_); conv => whnf)
    | ((with_reducible refine on_ndec_f (by assumption) ?_); conv => whnf)
    | ((with_reducible refine on_dec_t rfl ?_); conv => whnf)
    | ((with_reducible refine on_dec_f ?_ ?_); (focus ((try simp only [List.length_map, List.length_cons, List.length_nil, List.length_append]); omega)); conv => whnf)
    | ((with_reducible refine on_dec_t ?_ ?_); (focus ((try simp only [List.length_map, List.length_cons, List.length_nil, List.length_append]); omega)); conv => whnf)
    | ((with_reducible refine on_dec (fun h => ?_) (fun h => ?_)) <;> (try simp only [List.length_map] at h) <;> conv => whnf)
    | ((with_reducible refine on_ndec (fun h => ?_) (fun h => ?_)) <;> (try simp only [List.length_map] at h) <;> conv => whnf)
    | ((with_reducible refine on_not (fun h => ?_) (fun h => ?_)) <;> conv => whnf)
    | ((with_reducible refine onBool_split (fun h => ?_) (fun h => ?_)) <;> conv => whnf)
    | ((with_reducible refine call_go ?_); (first | refine call_step (c64r x hx hq _) ?_ | refine call_step (c64n x hx hq _) ?_ | refine call_step (run_view (c52 _ _) rfl rfl) ?_ | refine call_step (run_view (c50 [_, _] (by simp)) rfl rfl) ?_ | refine call_step (run_view (c50 [_, _, _, _, _] (by simp)) rfl rfl) ?_ | refine call_step (run_view (c50 [_, _, _, _, _, _] (by simp)) rfl rfl) ?_ | refine call_step (run_view (c66 l hl) rfl rfl) ?_ | refine call_step (Mv.at (c69 y hI.2.1 l[k] (actF_kind (aE_ok hz l[k] (List.getElem_mem (by omega)))).1) rfl (fun _ => rfl) rfl rfl rfl (Nat.ne_of_beq_eq_false rfl) (vlc rfl vln) (fun j hj => absurd hj (List.not_mem_nil))) ?_); conv => whnf)
    | ((with_reducible refine loop_go ?_); first | (refine loop3 (fun (k : Nat) (y : Quo) (es : List Int) => l.length - k) (fun (k : Nat) (y : Quo) (es : List Int) => k ≤ l.length ∧ VQ y ∧ es.length = k ∧ runQ x (l.take k) = (y, es)) (fun (k : Nat) (y : Quo) (es : List Int) => [(4, .ptr 0 0 0), (7, .ptr 1 0 0), (9, .sl 3 0 es.length 1 none), (35, .d (.fs (l.map Act.enc))), (36, .d (i l.length)), (37, .d (i k))]) (fun (k : Nat) (y : Quo) (es : List Int) => [⟨[.junk], 2, 0⟩, qO y.enf y.os.length 2, rO y.os, ⟨(es.map i).map .d, 1, 0⟩]) (0) (x) ([]) (by exact ⟨Nat.zero_le _, (checkQ_iff x).1 hq, rfl, runQ_0 x l⟩) ?_ (fun k y es C hI hC => ?_); (exact ⟨[.old 1, .old 2, .old 3, .void 1], rfl, rfl, ⟨⟨rfl, rfl, rfl⟩, ⟨rfl, rfl, rfl⟩, ⟨rfl, rfl, rfl, rfl⟩, (by first | (show (_ : D) = _; with_reducible rfl) | exact rfl), (by first | (show (_ : D) = _; with_reducible rfl) | exact congrArg (D.int .i64) (by omega) | exact congrArg (D.int .i64) (by simp only [List.length_map]) | exact rfl), (by first | (show (_ : D) = _; with_reducible rfl) | exact congrArg (D.int .i64) (by omega) | exact congrArg (D.int .i64) (by simp only [List.length_map]) | exact rfl), trivial⟩, ⟨⟨rfl, rfl, .inr ⟨trivial, trivial⟩⟩, ⟨rfl, rfl, .inr ⟨⟨⟨rfl, rfl, rfl, rfl, rfl⟩, rfl, trivial⟩, trivial⟩⟩, ⟨rfl, rfl, .inl ⟨_, rfl, rfl⟩⟩, ⟨rfl, rfl, Nat.zero_lt_succ _, rfl⟩, trivial⟩⟩); all_goals (conv => whnf)))
    | ((with_reducible show C _ _); first | (refine hC (k + 1) ((doA y l[k]).1) (es ++ [(doA y l[k]).2]) _ _ ?_ (by omega) ?_; clear hC; rotate_left; (exact ⟨[.old 0, .old 1, .old 5, .old 7], rfl, rfl, ⟨⟨rfl, rfl, rfl⟩, ⟨rfl, rfl, rfl⟩, ⟨rfl, rfl, (by simp), rfl, rfl⟩, (by first | (show (_ : D) = _; with_reducible rfl) | exact rfl), (by first | (show (_ : D) = _; with_reducible rfl) | exact congrArg (D.int .i64) (by omega) | exact congrArg (D.int .i64) (by simp only [List.length_map]) | exact rfl), (by first | (show (_ : D) = _; with_reducible rfl) | exact congrArg (D.int .i64) (by omega) | exact congrArg (D.int .i64) (by simp only [List.length_map]) | exact rfl), trivial⟩, ⟨⟨rfl, rfl, .inr ⟨trivial, trivial⟩⟩, ⟨rfl, rfl, .inr ⟨⟨⟨rfl, rfl, rfl, rfl, rfl⟩, rfl, trivial⟩, trivial⟩⟩, ⟨rfl, rfl, .inl ⟨_, rfl, rfl⟩⟩, ⟨rfl, rfl, .inr (wks_add (wksd _ _) rfl)⟩, trivial⟩⟩); (exact ⟨by omega, doA_ok hI.2.1 (actF_at hz (by omega)), by simp [hI.2.2.1], runQ_1 (by omega) hI.2.2.2⟩)))
    | (refine ⟨⟨(by first | rfl | (simp; done)), cap_ok (by simp only [List.length_map, List.length_cons, List.length_nil, List.length_append]; omega) rfl⟩, ?_⟩; conv => whnf)
    | (refine ⟨mem_one ⟨rfl, rfl⟩, ?_⟩; conv => whnf)
    | (refine ⟨(by intro y hy; obtain ⟨x, _, rfl⟩ := List.mem_map.1 hy; first | rfl | exact ⟨rfl, rfl⟩), ?_⟩; conv => whnf)
    | (refine ⟨cap_ok (by first | omega | (simp only [List.length_map]; omega)) rfl, ?_⟩; conv => whnf)
    | (refine ix_map (by omega) ?_; conv => whnf)
    | (refine ix_str (by omega) ?_; conv => whnf)
    | (refine wrap64 (by omega) ?_; conv => whnf)
    | (refine wrap64 (by omega) ?_; conv => whnf)
    | (refine ⟨Nat.le_refl _, ?_⟩; conv => whnf)
    | (refine ⟨⟨(by simp only [List.length_map, List.length_append]; omega), cap_ok (by obtain ⟨hI1, hI2, hI3, hI4⟩ := hI; simp only [List.length_map, List.length_cons, List.length_nil, List.length_append]; omega) rfl⟩, ?_⟩; conv => whnf)
    | (refine ⟨cap_ok (by obtain ⟨hI1, hI2, hI3, hI4⟩ := hI; simp only [List.length_map, List.length_cons, List.length_nil, List.length_append]; omega) rfl, ?_⟩; conv => whnf)
    | (exfalso; simp only [List.length_map, List.length_cons, List.length_nil, List.length_append] at h; omega)
    | ((with_reducible refine endx_go ?_); first | (obtain ⟨hI1, hI2, hI3, hI4⟩ := hI; rw [List.take_of_length_le (by omega)] at hI4; refine endxv (view_tup (vlc (view_agg (vlc (view_map rfl Nat.two_pos) (vlc rfl vln))) (vlc (view_map rfl Nat.two_pos) (vlc rfl vln)))) ?_; (rw [hd, hI4]) <;> rfl; done))
    | (refine ⟨rfl, ?_⟩; conv => whnf)
    | fail
    )

theorem c34 (x : Quo) (hx : x.os.length < 1000) (l : List Act) (hl : l.length < 1000) : Fn 34 [x.enc, .fs (l.map Act.enc)] (.tup [(runR x l).1.enc, .fs ((runR x l).2.1.map i), i (runR x l).2.2]) := by
  by_cases hq : (checkQ x).2 = 0
  · by_cases hb : 100 < l.length
    · exact c34b x hx l hl hq hb
    · by_cases hz : aE l = 0
      · exact c34d x hx l hl hq hb hz
      · exact c34c x hx l hl hq hb hz
  · exact c34a x hx l hl hq

end Go.Proofs.Ytolfkcmdfgakkaa

/-! Wt -/
namespace Go.Proofs.Ytolfkcmdfgakkaa
open Go Dw
set_option maxRecDepth 10000
set_option linter.unusedVariables false
set_option linter.unusedSimpArgs false
attribute [local irreducible] Run
set_option maxHeartbeats 4000000

attribute [local irreducible] oE checkQ cnt isR ownR withR bsR fullQ put1 chg rls mov limErr limF actE doA resQ aftQ whoE limE numE goMin goMax actErr movErr filE iget iput upto eF srt isQ roomQ warned mget mput addK allK kys refF stO bgO gaps gapsR diffQ sref sumsQ actF aE aI runE runQ
theorem lim_cells (l : Lim) : cellsEq [i l.who, i l.warn, i l.lim] [D.int .i64 0, D.int .i64 0, D.int .i64 0] = decide (l = lim0) := by
  obtain ⟨a1, a2, a3⟩ := l
  simp only [cellsEq, cellEq, lim0, Lim.mk.injEq, Bool.decide_and, Bool.and_true]
/-- What an act may not say. -/
def badA (a : Act) : Bool := (decide (a.kind = 3) && (!decide (a.who = 0) || !decide (a.bytes = 0))) || (!decide (a.kind = 3) && !decide (a.lim = lim0)) || (!decide (a.kind = 2) && !decide (a.to = 0))
theorem actF_bad {a : Act} (h : within a.kind 0 3 = true) : actF a = if badA a = true then 3 else 0 := by
  rw [actF_u h]
  obtain ⟨k, w, t, b, l⟩ := a
  unfold usedA badA
  by_cases h3 : k = 3
  · subst h3; by_cases h1 : w = 0 <;> by_cases h2 : b = 0 <;> by_cases h4 : t = 0 <;> simp [*]
  · by_cases h1 : l = lim0 <;> by_cases h2 : k = 2 <;> by_cases h4 : t = 0 <;> simp [*]
theorem runE_at {x : Quo} {l : List Act} {k : Nat} {e : Int} (hq : (checkQ x).2 = 0) (hb : ¬ (100 : Int) < l.length) (hI : aE l = aE (l.drop k)) (hk : (k : Int) < l.length) (he : actF (l[k]'(by omega)) = e) (hz : ¬ e = 0) : i e = i (runE x l) := by
  unfold runE
  rw [if_neg (not_not_intro hq), if_neg (by omega), hI, aE_drop (by omega), he, if_neg hz]
theorem runE_end {x : Quo} {l : List Act} {k : Nat} (hq : (checkQ x).2 = 0) (hb : ¬ (100 : Int) < l.length) (hI : aE l = aE (l.drop k)) (hk : ¬ (k : Int) < l.length) : i 0 = i (runE x l) := by
  unfold runE
  rw [if_neg (not_not_intro hq), if_neg (by omega), hI, aE_end (by omega)]

theorem c35 (x : Quo) (hx : x.os.length < 1000) (l : List Act) (hl : l.length < 1000) : Fn 35 [x.enc, .fs (l.map Act.enc)] (i (runE x l)) := by
  refine run_walkF eok Try.func35 rfl (by kernel_rfl) ?_
  conv => whnf
  repeat' (first
    | ((with_reducible refine on_dec_t (by assumption) ?_); conv => whnf)
    | ((with_reducible refine on_dec_f (by assumption) ?_); conv => whnf)
    | ((with_reducible refine onBool_t (by assumption) ?_); conv => whnf)
    | ((with_reducible refine onBool_f (by assumption) ?_); conv => whnf)
    | ((with_reducible refine on_nt (by assumption) ?_); conv => whnf)
    | ((with_reducible refine on_nf (by assumption) ?_); conv => whnf)
    | ((with_reducible refine on_ndec_t (by first | assumption | rfl) ?_); conv => whnf)
    | ((with_reducible refine on_ndec_f (by assumption) ?_); conv => whnf)
    | ((with_reducible refine on_dec_t rfl ?_); conv => whnf)
    | ((with_reducible refine on_dec_f ?_ ?_); (focus ((try simp only [List.length_map, List.length_cons, List.length_nil, List.length_append]); omega)); conv => whnf)
    | ((with_reducible refine on_dec_t ?_ ?_); (focus ((try simp only [List.length_map, List.length_cons, List.length_nil, List.length_append]); omega)); conv => whnf)
    | ((with_reducible refine on_dec (fun h => ?_) (fun h => ?_)) <;> (try simp only [List.length_map] at h) <;> conv => whnf)
    | ((with_reducible refine on_ndec (fun h => ?_) (fun h => ?_)) <;> (try simp only [List.length_map] at h) <;> conv => whnf)
    | ((with_reducible refine on_not (fun h => ?_) (fun h => ?_)) <;> conv => whnf)
    | ((with_reducible refine onBool_split (fun h => ?_) (fun h => ?_)) <;> conv => whnf)
    | ((with_reducible refine call_go ?_); (first | refine call_step (run_data (c31 x hx) _) ?_ | refine call_step (run_view (c38 _ _ _) rfl rfl) ?_); conv => whnf)
    | ((with_reducible refine loop_go ?_); first | (refine loop1 (fun (k : Nat) => l.length - k) (fun (k : Nat) => k ≤ l.length ∧ aE l = aE (l.drop k)) (fun (k : Nat) => [(1, .d (.fs (l.map Act.enc))), (6, .d (i k))]) (fun (k : Nat) => []) (0) (by exact ⟨Nat.zero_le _, rfl⟩) ?_ (fun k C hI hC => ?_); (exact ⟨[], rfl, rfl, ⟨(by first | (show (_ : D) = _; with_reducible rfl) | exact rfl), (by first | (show (_ : D) = _; with_reducible rfl) | exact congrArg (D.int .i64) (by omega) | exact congrArg (D.int .i64) (by simp only [List.length_map]) | exact rfl), trivial⟩, trivial⟩); all_goals (conv => whnf)))
    | ((with_reducible show C _ _); first | (refine hC (k + 1) _ _ ?_ (by omega) ?_; clear hC; rotate_left; (exact ⟨[], rfl, rfl, ⟨(by first | (show (_ : D) = _; with_reducible rfl) | exact rfl), (by first | (show (_ : D) = _; with_reducible rfl) | exact congrArg (D.int .i64) (by omega) | exact congrArg (D.int .i64) (by simp only [List.length_map]) | exact rfl), trivial⟩, trivial⟩); (refine ⟨by omega, ?_⟩; rw [hI.2, aE_drop (by omega), if_pos]; rw [actF_bad (by assumption)]; have hL := lim_cells l[k].lim; (simp_all [badA] <;> omega))))
    | (refine ⟨⟨(by first | rfl | (simp; done)), cap_ok (by simp only [List.length_map, List.length_cons, List.length_nil, List.length_append]; omega) rfl⟩, ?_⟩; conv => whnf)
    | (refine ⟨mem_one ⟨rfl, rfl⟩, ?_⟩; conv => whnf)
    | (refine ⟨(by intro y hy; obtain ⟨x, _, rfl⟩ := List.mem_map.1 hy; first | rfl | exact ⟨rfl, rfl⟩), ?_⟩; conv => whnf)
    | (refine ⟨cap_ok (by first | omega | (simp only [List.length_map]; omega)) rfl, ?_⟩; conv => whnf)
    | (refine ix_map (by omega) ?_; conv => whnf)
    | (refine ix_str (by omega) ?_; conv => whnf)
    | (refine wrap64 (by omega) ?_; conv => whnf)
    | (refine wrap64 (by omega) ?_; conv => whnf)
    | (exfalso; simp only [List.length_map, List.length_cons, List.length_nil, List.length_append] at h; omega)
    | ((with_reducible refine endx_go ?_); first | (refine endx (congrArg i ?_); unfold runE; rw [if_pos (by assumption)]; done) | (refine endx (congrArg i ?_); unfold runE; rw [if_neg (not_not_intro (by assumption)), if_pos (by omega)]; done) | (refine endx (runE_at (by assumption) (by assumption) hI.2 (by assumption) ?_ ?_); (focus (refine actF_15 ?_; assumption)); decide; done) | (refine endx (runE_at (by assumption) (by assumption) hI.2 (by assumption) ?_ ?_); (focus (rw [actF_bad (by assumption)]; have hL := lim_cells l[k].lim; clear hC; (simp_all [badA] <;> omega); done)); decide; done) | (refine endx (runE_end (by assumption) (by assumption) hI.2 (by assumption)); done))
    | (refine ⟨rfl, ?_⟩; conv => whnf)
    | fail
    )

theorem step_good {x y : Quo} {l : List Act} {k : Nat} {es : List Int} {A : Act} (h : k < l.length) (hr : runQ x (l.take k) = (y, es)) (hv : VQ y) (hz : aE l = 0) (hA : refA l[k] = A) (hg : (aftQ y A).2 = 0 ∨ (aftQ y A).2 = 33) :
    VQ (aftQ y A).1 ∧ runQ x (l.take (k + 1)) = ((aftQ y A).1, es ++ [(aftQ y A).2]) := by
  have ha := aE_ok hz l[k] (List.getElem_mem h)
  have e := refS_eq (s := (y, es)) hv ha
  unfold refS at e
  rw [hA, if_pos hg] at e
  have hrun : runQ x (l.take (k + 1)) = runS (y, es) l[k] := by rw [runQ_take h, hr]
  rw [hrun, ← e]
  refine ⟨?_, rfl⟩
  have e1 := congrArg (fun p => p.1) e
  simp only at e1
  rw [e1]
  exact doA_ok hv (actF_kind ha).1
theorem step_bad {x y : Quo} {l : List Act} {k : Nat} {es : List Int} {A : Act} (h : k < l.length) (hr : runQ x (l.take k) = (y, es)) (hv : VQ y) (hz : aE l = 0) (hA : refA l[k] = A) (h1 : ¬ (aftQ y A).2 = 0) (h2 : ¬ (aftQ y A).2 = 33) :
    runQ x (l.take (k + 1)) = (y, es ++ [(aftQ y A).2]) := by
  have ha := aE_ok hz l[k] (List.getElem_mem h)
  have e := refS_eq (s := (y, es)) hv ha
  unfold refS at e
  rw [hA, if_neg (by simp [h1, h2])] at e
  have hrun : runQ x (l.take (k + 1)) = runS (y, es) l[k] := by rw [runQ_take h, hr]
  rw [hrun, ← e]

theorem c37 (x : Quo) (hx : x.os.length < 1000) (l : List Act) (hl : l.length < 1000) (hv : VQ x) (hz : aE l = 0) : Fn 37 [x.enc, .fs (l.map Act.enc)] (.tup [(runQ x l).1.enc, .fs ((runQ x l).2.map i)]) := by
  refine run_walkF eok Try.func37 rfl (by kernel_rfl) ?_
  conv => whnf
  repeat' (first
    | ((with_reducible refine on_dec_t (by assumption) ?_); conv => whnf)
    | ((with_reducible refine on_dec_f (by assumption) ?_); conv => whnf)
    | ((with_reducible refine onBool_t (by assumption) ?_); conv => whnf)
    | ((with_reducible refine onBool_f (by assumption) ?_); conv => whnf)
    | ((with_reducible refine on_nt (by assumption) ?_); conv => whnf)
    | ((with_reducible refine on_nf (by assumption) ?_); conv => whnf)
    | ((with_reducible refine on_ndec_t (by first | assumption | rfl) ?_); conv => whnf)
    | ((with_reducible refine on_ndec_f (by assumption) ?_); conv => whnf)
    | ((with_reducible refine on_dec_t rfl ?_); conv => whnf)
    | ((with_reducible refine on_dec_f ?_ ?_); (focus ((try simp only [List.length_map, List.length_cons, List.length_nil, List.length_append]); omega)); conv => whnf)
    | ((with_reducible refine on_dec_t ?_ ?_); (focus ((try simp only [List.length_map, List.length_cons, List.length_nil, List.length_append]); omega)); conv => whnf)
    | ((with_reducible refine on_dec (fun h => ?_) (fun h => ?_)) <;> (try simp only [List.length_map] at h) <;> conv => whnf)
    | ((with_reducible refine on_ndec (fun h => ?_) (fun h => ?_)) <;> (try simp only [List.length_map] at h) <;> conv => whnf)
    | ((with_reducible refine on_not (fun h => ?_) (fun h => ?_)) <;> conv => whnf)
    | ((with_reducible refine onBool_split (fun h => ?_) (fun h => ?_)) <;> conv => whnf)
    | ((with_reducible refine call_go ?_); (first | refine call_step (run_data (c15 x (by omega)) _) ?_ | refine call_step (run_data (c18 y (by have := hI.2.1.len; omega) l[k].who l[k].bytes) _) ?_ | refine call_step (run_data (c23 y (by have := hI.2.1.len; omega) l[k].who l[k].bytes) _) ?_ | refine call_step (run_data (c27 y (by have := hI.2.1.len; omega) l[k].who l[k].to l[k].bytes) _) ?_ | refine call_step (run_dataV (c28 y (by have := hI.2.1.len; omega) l[k].lim) (vlc rfl (vlc (view_agg (vlc rfl (vlc rfl (vlc rfl vln)))) vln)) rfl) ?_); conv => whnf)
    | ((with_reducible refine loop_go ?_); first | (refine loop3 (fun (k : Nat) (y : Quo) (es : List Int) => l.length - k) (fun (k : Nat) (y : Quo) (es : List Int) => k ≤ l.length ∧ VQ y ∧ es.length = k ∧ runQ x (l.take k) = (y, es)) (fun (k : Nat) (y : Quo) (es : List Int) => [(1, .d (.fs (l.map Act.enc))), (4, .ptr 0 0 0), (6, .ptr 1 0 0), (7, .sl 2 0 es.length 1 none), (8, .d (i k))]) (fun (k : Nat) (y : Quo) (es : List Int) => [⟨[.junk], 2, 0⟩, ⟨[.d y.enc], 2, 0⟩, ⟨(es.map i).map .d, 1, 0⟩]) (0) (x) ([]) (by exact ⟨Nat.zero_le _, hv, rfl, runQ_0 x l⟩) ?_ (fun k y es C hI hC => ?_); (exact ⟨[.old 1, .old 2, .void 1], rfl, rfl, ⟨(by first | (show (_ : D) = _; with_reducible rfl) | exact rfl), ⟨rfl, rfl, rfl⟩, ⟨rfl, rfl, rfl⟩, ⟨rfl, rfl, rfl, rfl⟩, (by first | (show (_ : D) = _; with_reducible rfl) | exact congrArg (D.int .i64) (by omega) | exact congrArg (D.int .i64) (by simp only [List.length_map]) | exact rfl), trivial⟩, ⟨⟨rfl, rfl, .inr ⟨trivial, trivial⟩⟩, ⟨rfl, rfl, .inl ⟨[_], rfl, rfl⟩⟩, ⟨rfl, rfl, Nat.zero_lt_succ _, rfl⟩, trivial⟩⟩); all_goals (conv => whnf)))
    | ((with_reducible show C _ _); first | (refine hC (k + 1) ((aftQ y (actC l[k].who l[k].bytes)).1) (es ++ [(aftQ y (actC l[k].who l[k].bytes)).2]) _ _ ?_ (by omega) ?_; clear hC; rotate_left; (exact ⟨[.old 0, .old 1, .old 6], rfl, rfl, ⟨(by first | (show (_ : D) = _; with_reducible rfl) | exact rfl), ⟨rfl, rfl, rfl⟩, ⟨rfl, rfl, rfl⟩, ⟨rfl, rfl, (by simp), rfl, rfl⟩, (by first | (show (_ : D) = _; with_reducible rfl) | exact congrArg (D.int .i64) (by omega) | exact congrArg (D.int .i64) (by simp only [List.length_map]) | exact rfl), trivial⟩, ⟨⟨rfl, rfl, .inr ⟨trivial, trivial⟩⟩, ⟨rfl, rfl, .inl ⟨[_], rfl, rfl⟩⟩, ⟨rfl, rfl, .inr (wks_add (wksd _ _) rfl)⟩, trivial⟩⟩); (have hs := step_good (A := actC l[k].who l[k].bytes) (by omega) hI.2.2.2 hI.2.1 hz (by unfold refA; simp [*]) (by first | (left; assumption) | (right; assumption)); exact ⟨by omega, hs.1, by simp [hI.2.2.1], hs.2⟩)) | (refine hC (k + 1) (y) (es ++ [(aftQ y (actC l[k].who l[k].bytes)).2]) _ _ ?_ (by omega) ?_; clear hC; rotate_left; (exact ⟨[.old 0, .old 1, .old 6], rfl, rfl, ⟨(by first | (show (_ : D) = _; with_reducible rfl) | exact rfl), ⟨rfl, rfl, rfl⟩, ⟨rfl, rfl, rfl⟩, ⟨rfl, rfl, (by simp), rfl, rfl⟩, (by first | (show (_ : D) = _; with_reducible rfl) | exact congrArg (D.int .i64) (by omega) | exact congrArg (D.int .i64) (by simp only [List.length_map]) | exact rfl), trivial⟩, ⟨⟨rfl, rfl, .inr ⟨trivial, trivial⟩⟩, ⟨rfl, rfl, .inl ⟨[_], rfl, rfl⟩⟩, ⟨rfl, rfl, .inr (wks_add (wksd _ _) rfl)⟩, trivial⟩⟩); (have hs := step_bad (A := actC l[k].who l[k].bytes) (by omega) hI.2.2.2 hI.2.1 hz (by unfold refA; simp [*]) (by assumption) (by assumption); exact ⟨by omega, hI.2.1, by simp [hI.2.2.1], hs⟩)) | (refine hC (k + 1) ((aftQ y (actR l[k].who l[k].bytes)).1) (es ++ [(aftQ y (actR l[k].who l[k].bytes)).2]) _ _ ?_ (by omega) ?_; clear hC; rotate_left; (exact ⟨[.old 0, .old 1, .old 6], rfl, rfl, ⟨(by first | (show (_ : D) = _; with_reducible rfl) | exact rfl), ⟨rfl, rfl, rfl⟩, ⟨rfl, rfl, rfl⟩, ⟨rfl, rfl, (by simp), rfl, rfl⟩, (by first | (show (_ : D) = _; with_reducible rfl) | exact congrArg (D.int .i64) (by omega) | exact congrArg (D.int .i64) (by simp only [List.length_map]) | exact rfl), trivial⟩, ⟨⟨rfl, rfl, .inr ⟨trivial, trivial⟩⟩, ⟨rfl, rfl, .inl ⟨[_], rfl, rfl⟩⟩, ⟨rfl, rfl, .inr (wks_add (wksd _ _) rfl)⟩, trivial⟩⟩); (have hs := step_good (A := actR l[k].who l[k].bytes) (by omega) hI.2.2.2 hI.2.1 hz (by unfold refA; simp [*]) (by first | (left; assumption) | (right; assumption)); exact ⟨by omega, hs.1, by simp [hI.2.2.1], hs.2⟩)) | (refine hC (k + 1) (y) (es ++ [(aftQ y (actR l[k].who l[k].bytes)).2]) _ _ ?_ (by omega) ?_; clear hC; rotate_left; (exact ⟨[.old 0, .old 1, .old 6], rfl, rfl, ⟨(by first | (show (_ : D) = _; with_reducible rfl) | exact rfl), ⟨rfl, rfl, rfl⟩, ⟨rfl, rfl, rfl⟩, ⟨rfl, rfl, (by simp), rfl, rfl⟩, (by first | (show (_ : D) = _; with_reducible rfl) | exact congrArg (D.int .i64) (by omega) | exact congrArg (D.int .i64) (by simp only [List.length_map]) | exact rfl), trivial⟩, ⟨⟨rfl, rfl, .inr ⟨trivial, trivial⟩⟩, ⟨rfl, rfl, .inl ⟨[_], rfl, rfl⟩⟩, ⟨rfl, rfl, .inr (wks_add (wksd _ _) rfl)⟩, trivial⟩⟩); (have hs := step_bad (A := actR l[k].who l[k].bytes) (by omega) hI.2.2.2 hI.2.1 hz (by unfold refA; simp [*]) (by assumption) (by assumption); exact ⟨by omega, hI.2.1, by simp [hI.2.2.1], hs⟩)) | (refine hC (k + 1) ((aftQ y (actM l[k].who l[k].to l[k].bytes)).1) (es ++ [(aftQ y (actM l[k].who l[k].to l[k].bytes)).2]) _ _ ?_ (by omega) ?_; clear hC; rotate_left; (exact ⟨[.old 0, .old 1, .old 6], rfl, rfl, ⟨(by first | (show (_ : D) = _; with_reducible rfl) | exact rfl), ⟨rfl, rfl, rfl⟩, ⟨rfl, rfl, rfl⟩, ⟨rfl, rfl, (by simp), rfl, rfl⟩, (by first | (show (_ : D) = _; with_reducible rfl) | exact congrArg (D.int .i64) (by omega) | exact congrArg (D.int .i64) (by simp only [List.length_map]) | exact rfl), trivial⟩, ⟨⟨rfl, rfl, .inr ⟨trivial, trivial⟩⟩, ⟨rfl, rfl, .inl ⟨[_], rfl, rfl⟩⟩, ⟨rfl, rfl, .inr (wks_add (wksd _ _) rfl)⟩, trivial⟩⟩); (have hs := step_good (A := actM l[k].who l[k].to l[k].bytes) (by omega) hI.2.2.2 hI.2.1 hz (by unfold refA; simp [*]) (by first | (left; assumption) | (right; assumption)); exact ⟨by omega, hs.1, by simp [hI.2.2.1], hs.2⟩)) | (refine hC (k + 1) (y) (es ++ [(aftQ y (actM l[k].who l[k].to l[k].bytes)).2]) _ _ ?_ (by omega) ?_; clear hC; rotate_left; (exact ⟨[.old 0, .old 1, .old 6], rfl, rfl, ⟨(by first | (show (_ : D) = _; with_reducible rfl) | exact rfl), ⟨rfl, rfl, rfl⟩, ⟨rfl, rfl, rfl⟩, ⟨rfl, rfl, (by simp), rfl, rfl⟩, (by first | (show (_ : D) = _; with_reducible rfl) | exact congrArg (D.int .i64) (by omega) | exact congrArg (D.int .i64) (by simp only [List.length_map]) | exact rfl), trivial⟩, ⟨⟨rfl, rfl, .inr ⟨trivial, trivial⟩⟩, ⟨rfl, rfl, .inl ⟨[_], rfl, rfl⟩⟩, ⟨rfl, rfl, .inr (wks_add (wksd _ _) rfl)⟩, trivial⟩⟩); (have hs := step_bad (A := actM l[k].who l[k].to l[k].bytes) (by omega) hI.2.2.2 hI.2.1 hz (by unfold refA; simp [*]) (by assumption) (by assumption); exact ⟨by omega, hI.2.1, by simp [hI.2.2.1], hs⟩)) | (refine hC (k + 1) ((aftQ y (actL l[k].lim)).1) (es ++ [(aftQ y (actL l[k].lim)).2]) _ _ ?_ (by omega) ?_; clear hC; rotate_left; (exact ⟨[.old 0, .old 1, .old 6], rfl, rfl, ⟨(by first | (show (_ : D) = _; with_reducible rfl) | exact rfl), ⟨rfl, rfl, rfl⟩, ⟨rfl, rfl, rfl⟩, ⟨rfl, rfl, (by simp), rfl, rfl⟩, (by first | (show (_ : D) = _; with_reducible rfl) | exact congrArg (D.int .i64) (by omega) | exact congrArg (D.int .i64) (by simp only [List.length_map]) | exact rfl), trivial⟩, ⟨⟨rfl, rfl, .inr ⟨trivial, trivial⟩⟩, ⟨rfl, rfl, .inl ⟨[_], rfl, rfl⟩⟩, ⟨rfl, rfl, .inr (wks_add (wksd _ _) rfl)⟩, trivial⟩⟩); (have hs := step_good (A := actL l[k].lim) (by omega) hI.2.2.2 hI.2.1 hz (by unfold refA; simp [*]) (by first | (left; assumption) | (right; assumption)); exact ⟨by omega, hs.1, by simp [hI.2.2.1], hs.2⟩)) | (refine hC (k + 1) (y) (es ++ [(aftQ y (actL l[k].lim)).2]) _ _ ?_ (by omega) ?_; clear hC; rotate_left; (exact ⟨[.old 0, .old 1, .old 6], rfl, rfl, ⟨(by first | (show (_ : D) = _; with_reducible rfl) | exact rfl), ⟨rfl, rfl, rfl⟩, ⟨rfl, rfl, rfl⟩, ⟨rfl, rfl, (by simp), rfl, rfl⟩, (by first | (show (_ : D) = _; with_reducible rfl) | exact congrArg (D.int .i64) (by omega) | exact congrArg (D.int .i64) (by simp only [List.length_map]) | exact rfl), trivial⟩, ⟨⟨rfl, rfl, .inr ⟨trivial, trivial⟩⟩, ⟨rfl, rfl, .inl ⟨[_], rfl, rfl⟩⟩, ⟨rfl, rfl, .inr (wks_add (wksd _ _) rfl)⟩, trivial⟩⟩); (have hs := step_bad (A := actL l[k].lim) (by omega) hI.2.2.2 hI.2.1 hz (by unfold refA; simp [*]) (by assumption) (by assumption); exact ⟨by omega, hI.2.1, by simp [hI.2.2.1], hs⟩)))
    | (refine ⟨⟨(by first | rfl | (simp; done)), cap_ok (by simp only [List.length_map, List.length_cons, List.length_nil, List.length_append]; omega) rfl⟩, ?_⟩; conv => whnf)
    | (refine ⟨mem_one ⟨rfl, rfl⟩, ?_⟩; conv => whnf)
    | (refine ⟨(by intro y hy; obtain ⟨x, _, rfl⟩ := List.mem_map.1 hy; first | rfl | exact ⟨rfl, rfl⟩), ?_⟩; conv => whnf)
    | (refine ⟨cap_ok (by first | omega | (simp only [List.length_map]; omega)) rfl, ?_⟩; conv => whnf)
    | (refine ix_map (by omega) ?_; conv => whnf)
    | (refine ix_str (by omega) ?_; conv => whnf)
    | (refine wrap64 (by omega) ?_; conv => whnf)
    | (refine wrap64 (by omega) ?_; conv => whnf)
    | (refine ⟨Nat.le_refl _, ?_⟩; conv => whnf)
    | (refine ⟨⟨(by simp only [List.length_map, List.length_append]; omega), cap_ok (by obtain ⟨hI1, hI2, hI3, hI4⟩ := hI; simp only [List.length_map, List.length_cons, List.length_nil, List.length_append]; omega) rfl⟩, ?_⟩; conv => whnf)
    | (refine ⟨cap_ok (by obtain ⟨hI1, hI2, hI3, hI4⟩ := hI; simp only [List.length_map, List.length_cons, List.length_nil, List.length_append]; omega) rfl, ?_⟩; conv => whnf)
    | (exfalso; simp only [List.length_map, List.length_cons, List.length_nil, List.length_append] at h; omega)
    | ((with_reducible refine endx_go ?_); first | (obtain ⟨hI1, hI2, hI3, hI4⟩ := hI; rw [List.take_of_length_le (by omega)] at hI4; refine endxv (view_tup (vlc rfl (vlc (view_map rfl Nat.two_pos) vln))) ?_; (rw [hI4]) <;> rfl; done))
    | (refine ⟨rfl, ?_⟩; conv => whnf)
    | fail
    )

end Go.Proofs.Ytolfkcmdfgakkaa

/-! Wu -/
namespace Go.Proofs.Ytolfkcmdfgakkaa
open Go Dw
set_option maxRecDepth 10000
set_option linter.unusedVariables false
set_option linter.unusedSimpArgs false
attribute [local irreducible] Run
set_option maxHeartbeats 4000000

attribute [local irreducible] oE checkQ cnt isR ownR withR bsR fullQ put1 chg rls mov limErr limF actE doA resQ aftQ whoE limE numE goMin goMax actErr movErr filE iget iput upto eF srt isQ roomQ warned mget mput addK allK kys refF stO bgO gaps gapsR diffQ sref sumsQ actF aE aI runE runQ runR
theorem run_row2 {f : Nat} {x : D} {l : List D} {k k' id : Nat} {r : D} (hf : Run Try.prog f ([x, .fs l].map .d) [] (.d r) []) {H : Heap} (h : H[id]? = some ⟨l.map .d, k, 0⟩) : Run Try.prog f [.d x, .sl id 0 (l.map AV.d).length k' none] H (.d r) (H.set id ⟨l.map .d, k, 1⟩) := by
  have := run_viewF hf (H := H) (args := [.d x, .sl id 0 (l.map AV.d).length k' none]) (vlc rfl (vlc (view_new h Nat.two_pos) vln))
  have e : [AV.d x, .sl id 0 (l.map AV.d).length k' none].flatMap (reach 8 H) = [id] := by
    show [] ++ ((id :: (match H[id]? with | some o => o.elems.flatMap (reach 7 H) | none => [])) ++ []) = [id]
    rw [h]
    show [] ++ ((id :: (l.map AV.d).flatMap (reach 7 H)) ++ []) = [id]
    rw [reach_ds]; rfl
  rw [e] at this
  have e2 : Dw.freeze H [id] = H.set id ⟨l.map .d, k, 1⟩ := by
    show Dw.freeze (match H[id]? with | some o => H.set id o.freeze | none => H) [] = _
    rw [h]; rfl
  rw [e2] at this
  exact this
theorem c34E (x : Quo) (hx : x.os.length < 1000) (l : List Act) (hl : l.length < 1000) (h : ¬ runE x l = 0) : Fn 34 [x.enc, .fs (l.map Act.enc)] (.tup [emp.enc, .fs [], i (runE x l)]) := by
  have := c34 x hx l hl
  unfold runR at this
  rw [if_neg h] at this
  exact this
theorem c34O (x : Quo) (hx : x.os.length < 1000) (l : List Act) (hl : l.length < 1000) (h : runE x l = 0) : Fn 34 [x.enc, .fs (l.map Act.enc)] (.tup [(runQ x l).1.enc, .fs ((runQ x l).2.map i), i 0]) := by
  have := c34 x hx l hl
  unfold runR at this
  rw [if_pos h] at this
  exact this
theorem runE_0 {x : Quo} {l : List Act} (h : runE x l = 0) : VQ x ∧ l.length ≤ 100 ∧ aE l = 0 := by
  unfold runE at h
  split at h
  · rename_i h1; exact absurd h h1
  · rename_i h1
    split at h
    · exact absurd h (by decide)
    · exact ⟨(checkQ_iff x).1 (Classical.not_not.1 h1), by omega, h⟩

theorem c7e (x : Quo) (l : List Act) (hr : ¬ runE x l = 0) : Fn 7 [x.enc, .fs (l.map Act.enc)] (.bool true) := by
  refine run_walkF eok Try.func7 rfl (by kernel_rfl) ?_
  conv => whnf
  repeat' (first
    | ((with_reducible refine on_dec_t (by assumption) ?_); conv => whnf)
    | ((with_reducible refine on_dec_f (by assumption) ?_); conv => whnf)
    | ((with_reducible refine onBool_t (by assumption) ?_); conv => whnf)
    | ((with_reducible refine onBool_f (by assumption) ?_); conv => whnf)
    | ((with_reducible refine on_nt (by assumption) ?_); conv => whnf)
    | ((with_reducible refine on_nf (by assumption) ?_); conv => whnf)
    | ((with_reducible refine on_ndec_t (by first | assumption | rfl) ?_); conv => whnf)
    | ((with_reducible refine on_ndec_f (by assumption) ?_); conv => whnf)
    | ((with_reducible refine on_dec_t rfl ?_); conv => whnf)
    | ((with_reducible refine on_dec_f ?_ ?_); (focus ((try simp only [List.length_map, List.length_cons, List.length_nil, List.length_append]); omega)); conv => whnf)
    | ((with_reducible refine on_dec_t ?_ ?_); (focus ((try simp only [List.length_map, List.length_cons, List.length_nil, List.length_append]); omega)); conv => whnf)
    | ((with_reducible refine on_dec (fun h => ?_) (fun h => ?_)) <;> (try simp only [List.length_map] at h) <;> conv => whnf)
    | ((with_reducible refine on_ndec (fun h => ?_) (fun h => ?_)) <;> (try simp only [List.length_map] at h) <;> conv => whnf)
    | ((with_reducible refine on_not (fun h => ?_) (fun h => ?_)) <;> conv => whnf)
    | ((with_reducible refine onBool_split (fun h => ?_) (fun h => ?_)) <;> conv => whnf)
    | ((with_reducible refine call_go ?_); (first | refine call_step (run_data c12 _) ?_ | refine call_step (run_data (c13 x) _) ?_ | refine call_step (run_data (c15 x (by omega)) _) ?_ | refine call_step (run_row2 (c34E x (by omega) l (by omega) hr) rfl) ?_ | refine call_step (run_row2 (c34O x (by omega) l (by omega) hr) rfl) ?_ | refine call_step (run_data (c35 x (by omega) l (by omega)) _) ?_ | refine call_step (run_dataV (c36s emp (Nat.zero_lt_succ _)) (vlc rfl (vlc (view_agg (vlc rfl (vlc rfl vln))) vln)) rfl) ?_ | refine call_step (run_data (c36s _ hrl) _) ?_ | refine call_step (run_data (c37 x (by omega) l (by omega) hr0.1 hr0.2.2) _) ?_); conv => whnf)
    | (refine ⟨[], [], (by decide +kernel), ?_⟩; conv => whnf)
    | (refine ⟨⟨(by first | rfl | (simp; done)), cap_ok (by simp only [List.length_map, List.length_cons, List.length_nil, List.length_append]; omega) rfl⟩, ?_⟩; conv => whnf)
    | (refine ⟨mem_one ⟨rfl, rfl⟩, ?_⟩; conv => whnf)
    | (refine ⟨(by intro y hy; obtain ⟨x, _, rfl⟩ := List.mem_map.1 hy; first | rfl | exact ⟨rfl, rfl⟩), ?_⟩; conv => whnf)
    | (refine ⟨cap_ok (by first | omega | (simp only [List.length_map]; omega)) rfl, ?_⟩; conv => whnf)
    | (refine ix_map (by omega) ?_; conv => whnf)
    | (refine ix_str (by omega) ?_; conv => whnf)
    | (refine wrap64 (by omega) ?_; conv => whnf)
    | (refine wrap64 (by omega) ?_; conv => whnf)
    | (refine ⟨Nat.le_refl _, ?_⟩; conv => whnf)
    | (refine ⟨⟨(by simp only [List.length_map, List.length_append]; omega), cap_ok (by skip; simp only [List.length_map, List.length_cons, List.length_nil, List.length_append]; omega) rfl⟩, ?_⟩; conv => whnf)
    | (refine ⟨cap_ok (by skip; simp only [List.length_map, List.length_cons, List.length_nil, List.length_append]; omega) rfl, ?_⟩; conv => whnf)
    | (exfalso; simp only [List.length_map, List.length_cons, List.length_nil, List.length_append] at h; omega)
    | ((with_reducible refine endx_go ?_); first | (exact endx rfl; done))
    | (refine ⟨rfl, ?_⟩; conv => whnf)
    | fail
    )

theorem c7o (x : Quo) (l : List Act) (hr : runE x l = 0) : Fn 7 [x.enc, .fs (l.map Act.enc)] (.bool true) := by
  have hr0 := runE_0 hr; have hrl : (runQ x l).1.os.length < 1000 := (by have := (run_valid hr0.1 (aE_ok hr0.2.2)).len; omega); have hen := run_len x l; have hl1 := hr0.2.1
  refine run_walkF eok Try.func7 rfl (by kernel_rfl) ?_
  conv => whnf
  repeat' (first
    | ((with_reducible refine on_dec_t (by assumption) ?_); conv => whnf)
    | ((with_reducible refine on_dec_f (by assumption) ?_); conv => whnf)
    | ((with_reducible refine onBool_t (by assumption) ?_); conv => whnf)
    | ((with_reducible refine onBool_f (by assumption) ?_); conv => whnf)
    | ((with_reducible refine on_nt (by assumption) ?_); conv => whnf)
    | ((with_reducible refine on_nf (by assumption) ?_); conv => whnf)
    | ((with_reducible refine on_ndec_t (by first | assumption | rfl) ?_); conv => whnf)
    | ((with_reducible refine on_ndec_f (by assumption) ?_); conv => whnf)
    | ((with_reducible refine on_dec_t rfl ?_); conv => whnf)
    | ((with_reducible refine on_dec_f ?_ ?_); (focus ((try simp only [List.length_map, List.length_cons, List.length_nil, List.length_append]); omega)); conv => whnf)
    | ((with_reducible refine on_dec_t ?_ ?_); (focus ((try simp only [List.length_map, List.length_cons, List.length_nil, List.length_append]); omega)); conv => whnf)
    | ((with_reducible refine on_dec (fun h => ?_) (fun h => ?_)) <;> (try simp only [List.length_map] at h) <;> conv => whnf)
    | ((with_reducible refine on_ndec (fun h => ?_) (fun h => ?_)) <;> (try simp only [List.length_map] at h) <;> conv => whnf)
    | ((with_reducible refine on_not (fun h => ?_) (fun h => ?_)) <;> conv => whnf)
    | ((with_reducible refine onBool_split (fun h => ?_) (fun h => ?_)) <;> conv => whnf)
    | ((with_reducible refine call_go ?_); (first | refine call_step (run_data c12 _) ?_ | refine call_step (run_data (c13 x) _) ?_ | refine call_step (run_data (c15 x (by omega)) _) ?_ | refine call_step (run_row2 (c34E x (by omega) l (by omega) hr) rfl) ?_ | refine call_step (run_row2 (c34O x (by omega) l (by omega) hr) rfl) ?_ | refine call_step (run_data (c35 x (by omega) l (by omega)) _) ?_ | refine call_step (run_dataV (c36s emp (Nat.zero_lt_succ _)) (vlc rfl (vlc (view_agg (vlc rfl (vlc rfl vln))) vln)) rfl) ?_ | refine call_step (run_data (c36s _ hrl) _) ?_ | refine call_step (run_data (c37 x (by omega) l (by omega) hr0.1 hr0.2.2) _) ?_); conv => whnf)
    | (refine ⟨[], [], (by decide +kernel), ?_⟩; conv => whnf)
    | ((with_reducible refine loop_go ?_); first | (refine loop1 (fun (k : Nat) => (runQ x l).2.length - k) (fun (k : Nat) => k ≤ (runQ x l).2.length) (fun (k : Nat) => [(6, .d (.fs ((runQ x l).2.map i))), (10, .d (.fs ((runQ x l).2.map i))), (11, .d (i k))]) (fun (k : Nat) => []) (0) (by exact Nat.zero_le _) ?_ (fun k C hI hC => ?_); (exact ⟨[], rfl, rfl, ⟨(by first | (show (_ : D) = _; with_reducible rfl) | exact rfl), (by first | (show (_ : D) = _; with_reducible rfl) | exact rfl), (by first | (show (_ : D) = _; with_reducible rfl) | exact congrArg (D.int .i64) (by omega) | exact congrArg (D.int .i64) (by simp only [List.length_map]) | exact rfl), trivial⟩, trivial⟩); all_goals (conv => whnf)))
    | ((with_reducible show C _ _); first | (refine hC (k + 1) _ _ ?_ (by omega) ?_; clear hC; rotate_left; (exact ⟨[], rfl, rfl, ⟨(by first | (show (_ : D) = _; with_reducible rfl) | exact rfl), (by first | (show (_ : D) = _; with_reducible rfl) | exact rfl), (by first | (show (_ : D) = _; with_reducible rfl) | exact congrArg (D.int .i64) (by omega) | exact congrArg (D.int .i64) (by simp only [List.length_map]) | exact rfl), trivial⟩, trivial⟩); (exact (by omega : k + 1 ≤ (runQ x l).2.length))))
    | (refine ⟨⟨(by first | rfl | (simp; done)), cap_ok (by simp only [List.length_map, List.length_cons, List.length_nil, List.length_append]; omega) rfl⟩, ?_⟩; conv => whnf)
    | (refine ⟨mem_one ⟨rfl, rfl⟩, ?_⟩; conv => whnf)
    | (refine ⟨(by intro y hy; obtain ⟨x, _, rfl⟩ := List.mem_map.1 hy; first | rfl | exact ⟨rfl, rfl⟩), ?_⟩; conv => whnf)
    | (refine ⟨cap_ok (by first | omega | (simp only [List.length_map]; omega)) rfl, ?_⟩; conv => whnf)
    | (refine ix_map (by omega) ?_; conv => whnf)
    | (refine ix_str (by omega) ?_; conv => whnf)
    | (refine wrap64 (by omega) ?_; conv => whnf)
    | (refine wrap64 (by omega) ?_; conv => whnf)
    | (refine ⟨Nat.le_refl _, ?_⟩; conv => whnf)
    | (refine ⟨⟨(by simp only [List.length_map, List.length_append]; omega), cap_ok (by skip; simp only [List.length_map, List.length_cons, List.length_nil, List.length_append]; omega) rfl⟩, ?_⟩; conv => whnf)
    | (refine ⟨cap_ok (by skip; simp only [List.length_map, List.length_cons, List.length_nil, List.length_append]; omega) rfl, ?_⟩; conv => whnf)
    | (exfalso; simp only [List.length_map, List.length_cons, List.length_nil, List.length_append] at h; omega)
    | ((with_reducible refine endx_go ?_); first | (exact endx rfl; done))
    | (refine ⟨rfl, ?_⟩; conv => whnf)
    | fail
    )

theorem c7 (x : Quo) (l : List Act) : Fn 7 [x.enc, .fs (l.map Act.enc)] (.bool true) := by
  by_cases hr : runE x l = 0
  · exact c7o x l hr
  · exact c7e x l hr

end Go.Proofs.Ytolfkcmdfgakkaa
