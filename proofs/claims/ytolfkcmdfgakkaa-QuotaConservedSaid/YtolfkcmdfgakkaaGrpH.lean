/-
  Own lemmas, no conditions: Ph, Ws, Wt, Wu, Pi.
-/
import Derived.Test.YtolfkcmdfgakkaaGrpG
set_option linter.unusedVariables false
set_option linter.unusedSimpArgs false

/-! Ph -/
namespace Go.Proofs.Ytolfkcmdfgakkaa
open Go Dw
set_option maxRecDepth 100000
set_option linter.unusedVariables false

def usedA (a : Act) : Act := if a.kind = 3 then ⟨a.kind, 0, 0, 0, a.lim⟩ else ⟨a.kind, a.who, if a.kind = 2 then a.to else 0, a.bytes, lim0⟩
def actF (a : Act) : Int := if within a.kind 0 3 = true then (if a = usedA a then 0 else 3) else 15
def aE : List Act → Int
  | [] => 0
  | a :: l => if actF a = 0 then aE l else actF a
theorem aE_drop {l : List Act} {k : Nat} (h : k < l.length) : aE (l.drop k) = if actF l[k] = 0 then aE (l.drop (k + 1)) else actF l[k] := by
  rw [List.drop_eq_getElem_cons h]; rfl
theorem aE_end {l : List Act} {k : Nat} (h : ¬ k < l.length) : aE (l.drop k) = 0 := by
  rw [List.drop_eq_nil_of_le (by omega)]; rfl
def aI : List Act → Nat → Int × Int
  | [], _ => (0, 0)
  | a :: l, k => if actF a = 0 then aI l (k + 1) else (k, actF a)
theorem aI_drop {l : List Act} {k : Nat} (h : k < l.length) : aI (l.drop k) k = if actF l[k] = 0 then aI (l.drop (k + 1)) (k + 1) else (k, actF l[k]) := by
  rw [List.drop_eq_getElem_cons h]; rfl
theorem aI_end {l : List Act} {k : Nat} (h : ¬ k < l.length) : aI (l.drop k) k = (0, 0) := by
  rw [List.drop_eq_nil_of_le (by omega)]; rfl
theorem aI_2 : ∀ (l : List Act) (k : Nat), (aI l k).2 = aE l
  | [], _ => rfl
  | a :: l, k => by
    simp only [aI, aE]
    split
    · exact aI_2 l _
    · rfl
theorem aE_ok : ∀ {l : List Act}, aE l = 0 → ∀ a ∈ l, actF a = 0
  | [], _, a, h => by cases h
  | b :: l, h, a, ha => by
    simp only [aE] at h
    split at h
    · rename_i h0
      rcases List.mem_cons.1 ha with rfl | ha
      · exact h0
      · exact aE_ok h a ha
    · rename_i h0; exact absurd h h0
def runE (x : Quo) (l : List Act) : Int := if ¬ (checkQ x).2 = 0 then (checkQ x).2 else if 100 < l.length then 8 else aE l
def runS (s : Quo × List Int) (a : Act) : Quo × List Int := ((doA s.1 a).1, s.2 ++ [(doA s.1 a).2])
def runQ (x : Quo) (l : List Act) : Quo × List Int := l.foldl runS (x, [])
theorem runQ_take {x : Quo} {l : List Act} {k : Nat} (h : k < l.length) : runQ x (l.take (k + 1)) = runS (runQ x (l.take k)) l[k] := by
  unfold runQ; rw [List.take_succ_eq_append_getElem h, List.foldl_append]; rfl
theorem actF_kind {a : Act} (h : actF a = 0) : kindOk a ∧ a = usedA a := by
  unfold actF at h
  split at h
  · rename_i hw
    split at h
    · rename_i hu
      refine ⟨?_, hu⟩
      unfold within at hw
      simp only [Bool.and_eq_true, decide_eq_true_eq] at hw
      unfold kindOk
      omega
    · exact absurd h (by decide)
  · exact absurd h (by decide)
theorem run_valid {x : Quo} {l : List Act} (hv : VQ x) (h : ∀ a ∈ l, actF a = 0) : VQ (runQ x l).1 := by
  have key : ∀ (l : List Act) (s : Quo × List Int), VQ s.1 → (∀ a ∈ l, actF a = 0) → VQ (l.foldl runS s).1 := by
    intro l
    induction l with
    | nil => intro s hs _; exact hs
    | cons a l ih =>
      intro s hs ha
      exact ih _ (doA_ok hs (actF_kind (ha a (by simp))).1) (fun b hb => ha b (by simp [hb]))
  exact key l (x, []) hv h
theorem run_len (x : Quo) (l : List Act) : (runQ x l).2.length = l.length := by
  have key : ∀ (l : List Act) (s : Quo × List Int), (l.foldl runS s).2.length = s.2.length + l.length := by
    intro l
    induction l with
    | nil => intro s; rfl
    | cons a l ih => intro s; rw [List.foldl_cons, ih]; simp [runS]; omega
  rw [runQ, key]; simp
end Go.Proofs.Ytolfkcmdfgakkaa

/-! Ws -/
namespace Go.Proofs.Ytolfkcmdfgakkaa
open Go Dw
set_option maxRecDepth 10000
set_option linter.unusedVariables false
set_option linter.unusedSimpArgs false
attribute [local irreducible] Run
set_option maxHeartbeats 4000000

attribute [local irreducible] oE checkQ cnt isR ownR withR bsR fullQ put1 chg rls mov limErr limF actE doA resQ aftQ whoE limE numE goMin goMax actErr movErr filE iget iput upto eF srt isQ roomQ warned mget mput addK allK kys refF stO bgO gaps gapsR diffQ sref sumsQ actF aE aI runE runQ
theorem actF_15 {a : Act} (h : within a.kind 0 3 = false) : actF a = 15 := by unfold actF; rw [if_neg (by rw [h]; decide)]
theorem actF_u {a : Act} (h : within a.kind 0 3 = true) : actF a = if a = usedA a then 0 else 3 := by unfold actF; rw [if_pos h]
theorem act_cells (a b : Act) : cellsEq [i a.kind, i a.who, i a.to, i a.bytes, i a.lim.who, i a.lim.warn, i a.lim.lim] [i b.kind, i b.who, i b.to, i b.bytes, i b.lim.who, i b.lim.warn, i b.lim.lim] = decide (a = b) := by
  obtain ⟨a1, a2, a3, a4, a5, a6, a7⟩ := a
  obtain ⟨b1, b2, b3, b4, b5, b6, b7⟩ := b
  simp only [cellsEq, cellEq, Act.mk.injEq, Lim.mk.injEq, Bool.decide_and, Bool.and_true]
theorem actF_is {a b : Act} (h : within a.kind 0 3 = true) (hu : usedA a = b) {z : Bool} (hz : z = decide (a = b)) : (if z = true then (0 : Int) else 3) = actF a := by
  rw [actF_u h, hu, hz]; simp only [decide_eq_true_eq]

theorem c68 (a : Act) : Fn 68 [a.enc] (i (actF a)) := by
  refine run_walkF eok Try.func68 rfl (by kernel_rfl) ?_
  conv => whnf
  repeat' (first
    | ((with_reducible refine on_dec_t (by assumption) ?_); conv => whnf)
    | ((with_reducible refine on_dec_f (by assumption) ?_); conv => whnf)
    | ((with_reducible refine onBool_t (by assumption) ?_); conv => whnf)
    | ((with_reducible refine onBool_f (by assumption) ?_); conv => whnf)
    | ((with_reducible refine on_nt (by assumption) ?_); conv => whnf)
    | ((with_reducible refine on_nf (by assumption) ?_); conv => whnf)
    | ((with_reducible refine on_ndec_t (by first | assumption | rfl) ?_); conv => whnf)
    | ((with_reducible refine on_ndec_f (by assumption) ?_); conv => whnf)
    | ((with_reducible refine on_dec_t rfl ?_); conv => whnf)
    | ((with_reducible refine on_dec_f ?_ ?_); (focus ((try simp only [List.length_map, List.length_cons, List.length_nil, List.length_append]); omega)); conv => whnf)
    | ((with_reducible refine on_dec_t ?_ ?_); (focus ((try simp only [List.length_map, List.length_cons, List.length_nil, List.length_append]); omega)); conv => whnf)
    | ((with_reducible refine on_dec (fun h => ?_) (fun h => ?_)) <;> (try simp only [List.length_map] at h) <;> conv => whnf)
    | ((with_reducible refine on_ndec (fun h => ?_) (fun h => ?_)) <;> (try simp only [List.length_map] at h) <;> conv => whnf)
    | ((with_reducible refine on_not (fun h => ?_) (fun h => ?_)) <;> conv => whnf)
    | ((with_reducible refine onBool_split (fun h => ?_) (fun h => ?_)) <;> conv => whnf)
    | ((with_reducible refine call_go ?_); (first | refine call_step (run_view (c55 _ _ _) rfl rfl) ?_ | refine call_step (run_view (c52 _ _) rfl rfl) ?_); conv => whnf)
    | (refine ⟨⟨(by first | rfl | (simp; done)), cap_ok (by simp only [List.length_map, List.length_cons, List.length_nil, List.length_append]; omega) rfl⟩, ?_⟩; conv => whnf)
    | (refine ⟨mem_one ⟨rfl, rfl⟩, ?_⟩; conv => whnf)
    | (refine ⟨(by intro y hy; obtain ⟨x, _, rfl⟩ := List.mem_map.1 hy; first | rfl | exact ⟨rfl, rfl⟩), ?_⟩; conv => whnf)
    | (refine ⟨cap_ok (by first | omega | (simp only [List.length_map]; omega)) rfl, ?_⟩; conv => whnf)
    | (refine ix_map (by omega) ?_; conv => whnf)
    | (refine ix_str (by omega) ?_; conv => whnf)
    | (refine wrap64 (by omega) ?_; conv => whnf)
    | (refine wrap64 (by omega) ?_; conv => whnf)
    | (exfalso; simp only [List.length_map, List.length_cons, List.length_nil, List.length_append] at h; omega)
    | ((with_reducible refine endx_go ?_); first | (refine endx (congrArg i (actF_15 (by assumption)).symm); done) | (refine endx (congrArg i ?_); exact (actF_15 (by assumption)).symm; done) | (refine cut_ (usedA a = ⟨a.kind, 0, 0, 0, a.lim⟩) ?_ (fun hE => ?_); (focus (unfold usedA lim0; simp [*]; done)); refine endx (congrArg i ?_); exact actF_is (by assumption) hE (act_cells a ⟨a.kind, 0, 0, 0, a.lim⟩); done) | (refine cut_ (usedA a = ⟨a.kind, a.who, 0, a.bytes, lim0⟩) ?_ (fun hE => ?_); (focus (unfold usedA lim0; simp [*]; done)); refine endx (congrArg i ?_); exact actF_is (by assumption) hE (act_cells a ⟨a.kind, a.who, 0, a.bytes, lim0⟩); done) | (refine cut_ (usedA a = ⟨a.kind, a.who, a.to, a.bytes, lim0⟩) ?_ (fun hE => ?_); (focus (unfold usedA lim0; simp [*]; done)); refine endx (congrArg i ?_); exact actF_is (by assumption) hE (act_cells a ⟨a.kind, a.who, a.to, a.bytes, lim0⟩); done))
    | (refine ⟨rfl, ?_⟩; conv => whnf)
    | fail
    )

theorem c67 (k : Nat) (a : Act) : Fn 67 [i k, a.enc] (i (actF a)) := by
  refine run_walkF eok Try.func67 rfl (by kernel_rfl) ?_
  conv => whnf
  repeat' (first
    | ((with_reducible refine on_dec_t (by assumption) ?_); conv => whnf)
    | ((with_reducible refine on_dec_f (by assumption) ?_); conv => whnf)
    | ((with_reducible refine onBool_t (by assumption) ?_); conv => whnf)
    | ((with_reducible refine onBool_f (by assumption) ?_); conv => whnf)
    | ((with_reducible refine on_nt (by assumption) ?_); conv => whnf)
    | ((with_reducible refine on_nf (by assumption) ?_); conv => whnf)
    | ((with_reducible refine on_ndec_t (by first | assumption | rfl) ?_); conv => whnf)
    | ((with_reducible refine on_ndec_f (by assumption) ?_); conv => whnf)
    | ((with_reducible refine on_dec_t rfl ?_); conv => whnf)
    | ((with_reducible refine on_dec_f ?_ ?_); (focus ((try simp only [List.length_map, List.length_cons, List.length_nil, List.length_append]); omega)); conv => whnf)
    | ((with_reducible refine on_dec_t ?_ ?_); (focus ((try simp only [List.length_map, List.length_cons, List.length_nil, List.length_append]); omega)); conv => whnf)
    | ((with_reducible refine on_dec (fun h => ?_) (fun h => ?_)) <;> (try simp only [List.length_map] at h) <;> conv => whnf)
    | ((with_reducible refine on_ndec (fun h => ?_) (fun h => ?_)) <;> (try simp only [List.length_map] at h) <;> conv => whnf)
    | ((with_reducible refine on_not (fun h => ?_) (fun h => ?_)) <;> conv => whnf)
    | ((with_reducible refine onBool_split (fun h => ?_) (fun h => ?_)) <;> conv => whnf)
    | ((with_reducible refine call_go ?_); (first | refine call_step (run_data (c68 a) _) ?_); conv => whnf)
    | (refine ⟨⟨(by first | rfl | (simp; done)), cap_ok (by simp only [List.length_map, List.length_cons, List.length_nil, List.length_append]; omega) rfl⟩, ?_⟩; conv => whnf)
    | (refine ⟨mem_one ⟨rfl, rfl⟩, ?_⟩; conv => whnf)
    | (refine ⟨(by intro y hy; obtain ⟨x, _, rfl⟩ := List.mem_map.1 hy; first | rfl | exact ⟨rfl, rfl⟩), ?_⟩; conv => whnf)
    | (refine ⟨cap_ok (by first | omega | (simp only [List.length_map]; omega)) rfl, ?_⟩; conv => whnf)
    | (refine ix_map (by omega) ?_; conv => whnf)
    | (refine ix_str (by omega) ?_; conv => whnf)
    | (refine wrap64 (by omega) ?_; conv => whnf)
    | (refine wrap64 (by omega) ?_; conv => whnf)
    | (exfalso; simp only [List.length_map, List.length_cons, List.length_nil, List.length_append] at h; omega)
    | ((with_reducible refine endx_go ?_); first | (exact endx rfl; done))
    | (refine ⟨rfl, ?_⟩; conv => whnf)
    | fail
    )

theorem c66 (l : List Act) (hl : l.length < 1000) : Fn 66 [.fs (l.map Act.enc), .fn 67 [] []] (.tup [i (aI l 0).1, i (aI l 0).2]) := by
  refine run_walkF eok Try.func66 rfl (by kernel_rfl) ?_
  conv => whnf
  repeat' (first
    | ((with_reducible refine on_dec_f ?_ ?_); (focus ((try simp only [List.length_map, List.length_cons, List.length_nil, List.length_append]); omega)); conv => whnf)
    | ((with_reducible refine on_dec_t ?_ ?_); (focus ((try simp only [List.length_map, List.length_cons, List.length_nil, List.length_append]); omega)); conv => whnf)
    | ((with_reducible refine on_dec (fun h => ?_) (fun h => ?_)) <;> (try simp only [List.length_map] at h) <;> conv => whnf)
    | ((with_reducible refine on_ndec (fun h => ?_) (fun h => ?_)) <;> (try simp only [List.length_map] at h) <;> conv => whnf)
    | ((with_reducible refine on_not (fun h => ?_) (fun h => ?_)) <;> conv => whnf)
    | ((with_reducible refine onBool_split (fun h => ?_) (fun h => ?_)) <;> conv => whnf)
    | ((with_reducible refine call_go ?_); (first | refine call_step (run_view (c67 k _) rfl rfl) ?_); conv => whnf)
    | ((with_reducible refine loop_go ?_); first | (refine loop1 (fun (k : Nat) => l.length - k) (fun (k : Nat) => k ≤ l.length ∧ aI l 0 = aI (l.drop k) k) (fun (k : Nat) => [(1, .d (.fn 67 [] [])), (9, .d (.fs (l.map Act.enc))), (10, .d (i l.length)), (11, .d (i k))]) (fun (k : Nat) => []) (0) (by exact ⟨Nat.zero_le _, rfl⟩) ?_ (fun k C hI hC => ?_); (exact ⟨[], rfl, rfl, ⟨(by first | (show (_ : D) = _; with_reducible rfl) | exact rfl), (by first | (show (_ : D) = _; with_reducible rfl) | exact rfl), (by first | (show (_ : D) = _; with_reducible rfl) | exact congrArg (D.int .i64) (by omega) | exact congrArg (D.int .i64) (by simp only [List.length_map]) | exact rfl), (by first | (show (_ : D) = _; with_reducible rfl) | exact congrArg (D.int .i64) (by omega) | exact congrArg (D.int .i64) (by simp only [List.length_map]) | exact rfl), trivial⟩, trivial⟩); all_goals (conv => whnf)))
    | ((with_reducible show C _ _); first | (refine hC (k + 1) _ _ ?_ (by omega) ?_; clear hC; rotate_left; (exact ⟨[], rfl, rfl, ⟨(by first | (show (_ : D) = _; with_reducible rfl) | exact rfl), (by first | (show (_ : D) = _; with_reducible rfl) | exact rfl), (by first | (show (_ : D) = _; with_reducible rfl) | exact congrArg (D.int .i64) (by omega) | exact congrArg (D.int .i64) (by simp only [List.length_map]) | exact rfl), (by first | (show (_ : D) = _; with_reducible rfl) | exact congrArg (D.int .i64) (by omega) | exact congrArg (D.int .i64) (by simp only [List.length_map]) | exact rfl), trivial⟩, trivial⟩); (exact ⟨by omega, by rw [hI.2, aI_drop (by omega), if_pos h]⟩)))
    | (refine ⟨⟨(by first | rfl | (simp; done)), cap_ok (by simp only [List.length_map, List.length_cons, List.length_nil, List.length_append]; omega) rfl⟩, ?_⟩; conv => whnf)
    | (refine ⟨mem_one ⟨rfl, rfl⟩, ?_⟩; conv => whnf)
    | (refine ⟨(by intro y hy; obtain ⟨x, _, rfl⟩ := List.mem_map.1 hy; first | rfl | exact ⟨rfl, rfl⟩), ?_⟩; conv => whnf)
    | (refine ⟨cap_ok (by first | omega | (simp only [List.length_map]; omega)) rfl, ?_⟩; conv => whnf)
    | (refine ix_map (by omega) ?_; conv => whnf)
    | (refine ix_str (by omega) ?_; conv => whnf)
    | (refine wrap64 (by omega) ?_; conv => whnf)
    | (refine wrap64 (by omega) ?_; conv => whnf)
    | (exfalso; simp only [List.length_map, List.length_cons, List.length_nil, List.length_append] at h; omega)
    | ((with_reducible refine endx_go ?_); first | (refine endx2 ?_; (rw [hI.2, aI_drop (by omega), if_neg h]) <;> rfl; done) | (refine endx2 ?_; (rw [hI.2, aI_end (by omega)]) <;> rfl; done))
    | (refine ⟨rfl, ?_⟩; conv => whnf)
    | fail
    )

def runR (x : Quo) (l : List Act) : Quo × List Int × Int := if runE x l = 0 then ((runQ x l).1, (runQ x l).2, 0) else (emp, [], runE x l)

theorem c34a (x : Quo) (hx : x.os.length < 1000) (l : List Act) (hl : l.length < 1000) (hq : ¬ (checkQ x).2 = 0) : Fn 34 [x.enc, .fs (l.map Act.enc)] (.tup [(runR x l).1.enc, .fs ((runR x l).2.1.map i), i (runR x l).2.2]) := by
  have hv : firstE [(checkQ x).2, if decide ((↑(l.map Act.enc).length : Int) ≤ 100) = true then 0 else 8] = (checkQ x).2 := (by rw [firstE_cons, if_neg hq]); have hn : ¬ firstE [(checkQ x).2, if decide ((↑(l.map Act.enc).length : Int) ≤ 100) = true then 0 else 8] = 0 := (by rw [hv]; exact hq); have hr : runE x l = (checkQ x).2 := (by unfold runE; rw [if_pos hq]); have hd : runR x l = (emp, [], (checkQ x).2) := (by unfold runR; rw [hr, if_neg (by assumption)]); 
  refine run_walkF eok Try.func34 rfl (by kernel_rfl) ?_
  conv => whnf
  repeat' (first
    | ((with_reducible refine on_dec_t (by assumption) ?_); conv => whnf)
    | ((with_reducible refine on_dec_f (by assumption) ?_); conv => whnf)
    | ((with_reducible refine onBool_t (by assumption) ?_); conv => whnf)
    | ((with_reducible refine onBool_f (by assumption) ?_); conv => whnf)
    | ((with_reducible refine on_nt (by assumption) ?_); conv => whnf)
    | ((with_reducible refine on_nf (by assumption) ?_); conv => whnf)
    | ((with_reducible refine on_ndec_t (by first | assumption | rfl) ?_); conv => whnf)
    | ((with_reducible refine on_ndec_f (by assumption) ?_); conv => whnf)
    | ((with_reducible refine on_dec_t rfl ?_); conv => whnf)
    | ((with_reducible refine on_dec_f ?_ ?_); (focus ((try simp only [List.length_map, List.length_cons, List.length_nil, List.length_append]); omega)); conv => whnf)
    | ((with_reducible refine on_dec_t ?_ ?_); (focus ((try simp only [List.length_map, List.length_cons, List.length_nil, List.length_append]); omega)); conv => whnf)
    | ((with_reducible refine on_dec (fun h => ?_) (fun h => ?_)) <;> (try simp only [List.length_map] at h) <;> conv => whnf)
    | ((with_reducible refine on_ndec (fun h => ?_) (fun h => ?_)) <;> (try simp only [List.length_map] at h) <;> conv => whnf)
    | ((with_reducible refine on_not (fun h => ?_) (fun h => ?_)) <;> conv => whnf)
    | ((with_reducible refine onBool_split (fun h => ?_) (fun h => ?_)) <;> conv => whnf)
    | ((with_reducible refine call_go ?_); (first | refine call_step (c64r x hx hq _) ?_ | refine call_step (c64n x hx hq _) ?_ | refine call_step (run_view (c52 _ _) rfl rfl) ?_ | refine call_step (run_view (c50 [_, _] (by simp)) rfl rfl) ?_ | refine call_step (run_view (c50 [_, _, _, _, _] (by simp)) rfl rfl) ?_ | refine call_step (run_view (c50 [_, _, _, _, _, _] (by simp)) rfl rfl) ?_ | refine call_step (run_view (c66 l hl) rfl rfl) ?_ | refine call_step (Mv.at (c69 y hI.2.1 l[k] (actF_kind (aE_ok hz l[k] (List.getElem_mem (by omega)))).1) rfl (fun _ => rfl) rfl rfl rfl (Nat.ne_of_beq_eq_false rfl) (vlc rfl vln) (fun j hj => absurd hj (List.not_mem_nil))) ?_); conv => whnf)
    | (refine ⟨⟨(by first | rfl | (simp; done)), cap_ok (by simp only [List.length_map, List.length_cons, List.length_nil, List.length_append]; omega) rfl⟩, ?_⟩; conv => whnf)
    | (refine ⟨mem_one ⟨rfl, rfl⟩, ?_⟩; conv => whnf)
    | (refine ⟨(by intro y hy; obtain ⟨x, _, rfl⟩ := List.mem_map.1 hy; first | rfl | exact ⟨rfl, rfl⟩), ?_⟩; conv => whnf)
    | (refine ⟨cap_ok (by first | omega | (simp only [List.length_map]; omega)) rfl, ?_⟩; conv => whnf)
    | (refine ix_map (by omega) ?_; conv => whnf)
    | (refine ix_str (by omega) ?_; conv => whnf)
    | (refine wrap64 (by omega) ?_; conv => whnf)
    | (refine wrap64 (by omega) ?_; conv => whnf)
    | (exfalso; simp only [List.length_map, List.length_cons, List.length_nil, List.length_append] at h; omega)
    | ((with_reducible refine endx_go ?_); first | (refine endxv (view_tup (vlc (view_agg (vlc rfl (vlc rfl vln))) (vlc rfl (vlc rfl vln)))) ?_; (rw [hd]) <;> (first | rfl | (rw [hv] <;> rfl)); done))
    | (refine ⟨rfl, ?_⟩; conv => whnf)
    | fail
    )

theorem c34b (x : Quo) (hx : x.os.length < 1000) (l : List Act) (hl : l.length < 1000) (hq : (checkQ x).2 = 0) (hb : 100 < l.length) : Fn 34 [x.enc, .fs (l.map Act.enc)] (.tup [(runR x l).1.enc, .fs ((runR x l).2.1.map i), i (runR x l).2.2]) := by
  have hv : firstE [0, if decide ((↑(l.map Act.enc).length : Int) ≤ 100) = true then 0 else 8] = 8 := (by rw [List.length_map, if_neg (by simp; omega)]; rfl); have hn : ¬ firstE [0, if decide ((↑(l.map Act.enc).length : Int) ≤ 100) = true then 0 else 8] = 0 := (by rw [hv]; decide); have hr : runE x l = 8 := (by unfold runE; rw [if_neg (not_not_intro hq), if_pos hb]); have h80 : ¬ (8 : Int) = 0 := (by decide); have hd : runR x l = (emp, [], 8) := (by unfold runR; rw [hr, if_neg (by assumption)]); 
  refine run_walkF eok Try.func34 rfl (by kernel_rfl) ?_
  conv => whnf
  repeat' (first
    | ((with_reducible refine on_dec_t (by assumption) ?_); conv => whnf)
    | ((with_reducible refine on_dec_f (by assumption) ?_); conv => whnf)
    | ((with_reducible refine onBool_t (by assumption) ?_); conv => whnf)
    | ((with_reducible refine onBool_f (by assumption) ?_); conv => whnf)
    | ((with_reducible refine on_nt (by assumption) ?_); conv => whnf)
    | ((with_reducible refine on_nf (by assumption) ?_); conv => whnf)
    | ((with_reducible refine on_ndec_t (by first | assumption | rfl) ?_); conv => whnf)
    | ((with_reducible refine on_ndec_f (by assumption) ?_); conv => whnf)
    | ((with_reducible refine on_dec_t rfl ?_); conv => whnf)
    | ((with_reducible refine on_dec_f ?_ ?_); (focus ((try simp only [List.length_map, List.length_cons, List.length_nil, List.length_append]); omega)); conv => whnf)
    | ((with_reducible refine on_dec_t ?_ ?_); (focus ((try simp only [List.length_map, List.length_cons, List.length_nil, List.length_append]); omega)); conv => whnf)
    | ((with_reducible refine on_dec (fun h => ?_) (fun h => ?_)) <;> (try simp only [List.length_map] at h) <;> conv => whnf)
    | ((with_reducible refine on_ndec (fun h => ?_) (fun h => ?_)) <;> (try simp only [List.length_map] at h) <;> conv => whnf)
    | ((with_reducible refine on_not (fun h => ?_) (fun h => ?_)) <;> conv => whnf)
    | ((with_reducible refine onBool_split (fun h => ?_) (fun h => ?_)) <;> conv => whnf)
    | ((with_reducible refine call_go ?_); (first | refine call_step (c64r x hx hq _) ?_ | refine call_step (c64n x hx hq _) ?_ | refine call_step (run_view (c52 _ _) rfl rfl) ?_ | refine call_step (run_view (c50 [_, _] (by simp)) rfl rfl) ?_ | refine call_step (run_view (c50 [_, _, _, _, _] (by simp)) rfl rfl) ?_ | refine call_step (run_view (c50 [_, _, _, _, _, _] (by simp)) rfl rfl) ?_ | refine call_step (run_view (c66 l hl) rfl rfl) ?_ | refine call_step (Mv.at (c69 y hI.2.1 l[k] (actF_kind (aE_ok hz l[k] (List.getElem_mem (by omega)))).1) rfl (fun _ => rfl) rfl rfl rfl (Nat.ne_of_beq_eq_false rfl) (vlc rfl vln) (fun j hj => absurd hj (List.not_mem_nil))) ?_); conv => whnf)
    | (refine ⟨⟨(by first | rfl | (simp; done)), cap_ok (by simp only [List.length_map, List.length_cons, List.length_nil, List.length_append]; omega) rfl⟩, ?_⟩; conv => whnf)
    | (refine ⟨mem_one ⟨rfl, rfl⟩, ?_⟩; conv => whnf)
    | (refine ⟨(by intro y hy; obtain ⟨x, _, rfl⟩ := List.mem_map.1 hy; first | rfl | exact ⟨rfl, rfl⟩), ?_⟩; conv => whnf)
    | (refine ⟨cap_ok (by first | omega | (simp only [List.length_map]; omega)) rfl, ?_⟩; conv => whnf)
    | (refine ix_map (by omega) ?_; conv => whnf)
    | (refine ix_str (by omega) ?_; conv => whnf)
    | (refine wrap64 (by omega) ?_; conv => whnf)
    | (refine wrap64 (by omega) ?_; conv => whnf)
    | (exfalso; simp only [List.length_map, List.length_cons, List.length_nil, List.length_append] at h; omega)
    | ((with_reducible refine endx_go ?_); first | (refine endxv (view_tup (vlc (view_agg (vlc rfl (vlc rfl vln))) (vlc rfl (vlc rfl vln)))) ?_; (rw [hd]) <;> (first | rfl | (rw [hv] <;> rfl)); done))
    | (refine ⟨rfl, ?_⟩; conv => whnf)
    | fail
    )

theorem c34c (x : Quo) (hx : x.os.length < 1000) (l : List Act) (hl : l.length < 1000) (hq : (checkQ x).2 = 0) (hb : ¬ 100 < l.length) (hz : ¬ aE l = 0) : Fn 34 [x.enc, .fs (l.map Act.enc)] (.tup [(runR x l).1.enc, .fs ((runR x l).2.1.map i), i (runR x l).2.2]) := by
  have hn : firstE [0, if decide ((↑(l.map Act.enc).length : Int) ≤ 100) = true then 0 else 8] = 0 := (by rw [List.length_map, if_pos (by simp; omega)]; rfl); have hv : (aI l 0).2 = aE l := aI_2 l 0; have hn2 : ¬ (aI l 0).2 = 0 := (by rw [hv]; exact hz); have hr : runE x l = aE l := (by unfold runE; rw [if_neg (not_not_intro hq), if_neg hb]); have hd : runR x l = (emp, [], aE l) := (by unfold runR; rw [hr, if_neg (by assumption)]); 
  refine run_walkF eok Try.func34 rfl (by kernel_rfl) ?_
  conv => whnf
  repeat' (first
    | ((with_reducible refine on_dec_t (by assumption) ?_); conv => whnf)
    | ((with_reducible refine on_dec_f (by assumption) ?_); conv => whnf)
    | ((with_reducible refine onBool_t (by assumption) ?_); conv => whnf)
    | ((with_reducible refine onBool_f (by assumption) ?_); conv => whnf)
    | ((with_reducible refine on_nt (by assumption) ?_); conv => whnf)
    | ((with_reducible refine on_nf (by assumption) ?_); conv => whnf)
    | ((with_reducible refine on_ndec_t (by first | assumption | rfl) ?_); conv => whnf)
    | ((with_reducible refine on_ndec_f (by assumption) ?_); conv => whnf)
    | ((with_reducible refine on_dec_t rfl ?_); conv => whnf)
    | ((with_reducible refine on_dec_f ?_ ?_); (focus ((try simp only [List.length_map, List.length_cons, List.length_nil, List.length_append]); omega)); conv => whnf)
    | ((with_reducible refine on_dec_t ?_ ?_); (focus ((try simp only [List.length_map, List.length_cons, List.length_nil, List.length_append]); omega)); conv => whnf)
    | ((with_reducible refine on_dec (fun h => ?_) (fun h => ?_)) <;> (try simp only [List.length_map] at h) <;> conv => whnf)
    | ((with_reducible refine on_ndec (fun h => ?_) (fun h => ?_)) <;> (try simp only [List.length_map] at h) <;> conv => whnf)
    | ((with_reducible refine on_not (fun h => ?_) (fun h => ?_)) <;> conv => whnf)
    | ((with_reducible refine onBool_split (fun h => ?_) (fun h => ?_)) <;> conv => whnf)
    | ((with_reducible refine call_go ?_); (first | refine call_step (c64r x hx hq _) ?_ | refine call_step (c64n x hx hq _) ?_ | refine call_step (run_view (c52 _ _) rfl rfl) ?_ | refine call_step (run_view (c50 [_, _] (by simp)) rfl rfl) ?_ | refine call_step (run_view (c50 [_, _, _, _, _] (by simp)) rfl rfl) ?_ | refine call_step (run_view (c50 [_, _, _, _, _, _] (by simp)) rfl rfl) ?_ | refine call_step (run_view (c66 l hl) rfl rfl) ?_ | refine call_step (Mv.at (c69 y hI.2.1 l[k] (actF_kind (aE_ok hz l[k] (List.getElem_mem (by omega)))).1) rfl (fun _ => rfl) rfl rfl rfl (Nat.ne_of_beq_eq_false rfl) (vlc rfl vln) (fun j hj => absurd hj (List.not_mem_nil))) ?_); conv => whnf)
    | (refine ⟨⟨(by first | rfl | (simp; done)), cap_ok (by simp only [List.length_map, List.length_cons, List.length_nil, List.length_append]; omega) rfl⟩, ?_⟩; conv => whnf)
    | (refine ⟨mem_one ⟨rfl, rfl⟩, ?_⟩; conv => whnf)
    | (refine ⟨(by intro y hy; obtain ⟨x, _, rfl⟩ := List.mem_map.1 hy; first | rfl | exact ⟨rfl, rfl⟩), ?_⟩; conv => whnf)
    | (refine ⟨cap_ok (by first | omega | (simp only [List.length_map]; omega)) rfl, ?_⟩; conv => whnf)
    | (refine ix_map (by omega) ?_; conv => whnf)
    | (refine ix_str (by omega) ?_; conv => whnf)
    | (refine wrap64 (by omega) ?_; conv => whnf)
    | (refine wrap64 (by omega) ?_; conv => whnf)
    | (exfalso; simp only [List.length_map, List.length_cons, List.length_nil, List.length_append] at h; omega)
    | ((with_reducible refine endx_go ?_); first | (refine endxv (view_tup (vlc (view_agg (vlc rfl (vlc rfl vln))) (vlc rfl (vlc rfl vln)))) ?_; (rw [hd]) <;> (first | rfl | (rw [hv] <;> rfl)); done))
    | (refine ⟨rfl, ?_⟩; conv => whnf)
    | fail
    )

theorem runQ_0 (x : Quo) (l : List Act) : runQ x (l.take 0) = (x, []) := by rw [List.take_zero]; unfold runQ; rfl
theorem runQ_1 {x y : Quo} {l : List Act} {k : Nat} {es : List Int} (h : k < l.length) (hr : runQ x (l.take k) = (y, es)) : runQ x (l.take (k + 1)) = ((doA y l[k]).1, es ++ [(doA y l[k]).2]) := by rw [runQ_take h, hr]; rfl
theorem actF_at {l : List Act} (hz : aE l = 0) {k : Nat} (h : k < l.length) : kindOk l[k] := (actF_kind (aE_ok hz l[k] (List.getElem_mem h))).1

theorem c34d (x : Quo) (hx : x.os.length < 1000) (l : List Act) (hl : l.length < 1000) (hq : (checkQ x).2 = 0) (hb : ¬ 100 < l.length) (hz : aE l = 0) : Fn 34 [x.enc, .fs (l.map Act.enc)] (.tup [(runR x l).1.enc, .fs ((runR x l).2.1.map i), i (runR x l).2.2]) := by
  have hn : firstE [0, if decide ((↑(l.map Act.enc).length : Int) ≤ 100) = true then 0 else 8] = 0 := (by rw [List.length_map, if_pos (by simp; omega)]; rfl); have hv : (aI l 0).2 = aE l := aI_2 l 0; have hn2 : (aI l 0).2 = 0 := (by rw [hv]; exact hz); have hr : runE x l = 0 := (by unfold runE; rw [if_neg (not_not_intro hq), if_neg hb]; exact hz); have hd : runR x l = ((runQ x l).1, (runQ x l).2, 0) := (by unfold runR; rw [if_pos hr])
  refine run_walkF eok Try.func34 rfl (by kernel_rfl) ?_
  conv => whnf
  repeat' (first
    | ((with_reducible refine on_dec_t (by assumption) ?_); conv => whnf)
    | ((with_reducible refine on_dec_f (by assumption) ?_); conv => whnf)
    | ((with_reducible refine onBool_t (by assumption) ?_); conv => whnf)
    | ((with_reducible refine onBool_f (by assumption) ?_); conv => whnf)
    | ((with_reducible refine on_nt (by assumption) ?_); conv => whnf)
    | ((with_reducible refine on_nf (by assumption) ?_); conv => whnf)
    | ((with_reducible refine on_ndec_t (by first | assumption | rfl) ?_); conv => whnf)
    | ((with_reducible refine on_ndec_f (by assumption) ?_); conv => whnf)
    | ((with_reducible refine on_dec_t rfl ?_); conv => whnf)
    | ((with_reducible refine on_dec_f ?_ ?_); (focus ((try simp only [List.length_map, List.length_cons, List.length_nil, List.length_append]); omega)); conv => whnf)
    | ((with_reducible refine on_dec_t ?_ ?_); (focus ((try simp only [List.length_map, List.length_cons, List.length_nil, List.length_append]); omega)); conv => whnf)
    | ((with_reducible refine on_dec (fun h => ?_) (fun h => ?_)) <;> (try simp only [List.length_map] at h) <;> conv => whnf)
    | ((with_reducible refine on_ndec (fun h => ?_) (fun h => ?_)) <;> (try simp only [List.length_map] at h) <;> conv => whnf)
    | ((with_reducible refine on_not (fun h => ?_) (fun h => ?_)) <;> conv => whnf)
    | ((with_reducible refine onBool_split (fun h => ?_) (fun h => ?_)) <;> conv => whnf)
    | ((with_reducible refine call_go ?_); (first | refine call_step (c64r x hx hq _) ?_ | refine call_step (c64n x hx hq _) ?_ | refine call_step (run_view (c52 _ _) rfl rfl) ?_ | refine call_step (run_view (c50 [_, _] (by simp)) rfl rfl) ?_ | refine call_step (run_view (c50 [_, _, _, _, _] (by simp)) rfl rfl) ?_ | refine call_step (run_view (c50 [_, _, _, _, _, _] (by simp)) rfl rfl) ?_ | refine call_step (run_view (c66 l hl) rfl rfl) ?_ | refine call_step (Mv.at (c69 y hI.2.1 l[k] (actF_kind (aE_ok hz l[k] (List.getElem_mem (by omega)))).1) rfl (fun _ => rfl) rfl rfl rfl (Nat.ne_of_beq_eq_false rfl) (vlc rfl vln) (fun j hj => absurd hj (List.not_mem_nil))) ?_); conv => whnf)
    | ((with_reducible refine loop_go ?_); first | (refine loop3 (fun (k : Nat) (y : Quo) (es : List Int) => l.length - k) (fun (k : Nat) (y : Quo) (es : List Int) => k ≤ l.length ∧ VQ y ∧ es.length = k ∧ runQ x (l.take k) = (y, es)) (fun (k : Nat) (y : Quo) (es : List Int) => [(4, .ptr 0 0 0), (7, .ptr 1 0 0), (9, .sl 3 0 es.length 1 none), (35, .d (.fs (l.map Act.enc))), (36, .d (i l.length)), (37, .d (i k))]) (fun (k : Nat) (y : Quo) (es : List Int) => [⟨[.junk], 2, 0⟩, qO y.enf y.os.length 2, rO y.os, ⟨(es.map i).map .d, 1, 0⟩]) (0) (x) ([]) (by exact ⟨Nat.zero_le _, (checkQ_iff x).1 hq, rfl, runQ_0 x l⟩) ?_ (fun k y es C hI hC => ?_); (exact ⟨[.old 1, .old 2, .old 3, .void 1], rfl, rfl, ⟨⟨rfl, rfl, rfl⟩, ⟨rfl, rfl, rfl⟩, ⟨rfl, rfl, rfl, rfl⟩, (by first | (show (_ : D) = _; with_reducible rfl) | exact rfl), (by first | (show (_ : D) = _; with_reducible rfl) | exact congrArg (D.int .i64) (by omega) | exact congrArg (D.int .i64) (by simp only [List.length_map]) | exact rfl), (by first | (show (_ : D) = _; with_reducible rfl) | exact congrArg (D.int .i64) (by omega) | exact congrArg (D.int .i64) (by simp only [List.length_map]) | exact rfl), trivial⟩, ⟨⟨rfl, rfl, .inr ⟨trivial, trivial⟩⟩, ⟨rfl, rfl, .inr ⟨⟨⟨rfl, rfl, rfl, rfl, rfl⟩, rfl, trivial⟩, trivial⟩⟩, ⟨rfl, rfl, .inl ⟨_, rfl, rfl⟩⟩, ⟨rfl, rfl, Nat.zero_lt_succ _, rfl⟩, trivial⟩⟩); all_goals (conv => whnf)))
    | ((with_reducible show C _ _); first | (refine hC (k + 1) ((doA y l[k]).1) (es ++ [(doA y l[k]).2]) _ _ ?_ (by omega) ?_; clear hC; rotate_left; (exact ⟨[.old 0, .old 1, .old 5, .old 7], rfl, rfl, ⟨⟨rfl, rfl, rfl⟩, ⟨rfl, rfl, rfl⟩, ⟨rfl, rfl, (by simp), rfl, rfl⟩, (by first | (show (_ : D) = _; with_reducible rfl) | exact rfl), (by first | (show (_ : D) = _; with_reducible rfl) | exact congrArg (D.int .i64) (by omega) | exact congrArg (D.int .i64) (by simp only [List.length_map]) | exact rfl), (by first | (show (_ : D) = _; with_reducible rfl) | exact congrArg (D.int .i64) (by omega) | exact congrArg (D.int .i64) (by simp only [List.length_map]) | exact rfl), trivial⟩, ⟨⟨rfl, rfl, .inr ⟨trivial, trivial⟩⟩, ⟨rfl, rfl, .inr ⟨⟨⟨rfl, rfl, rfl, rfl, rfl⟩, rfl, trivial⟩, trivial⟩⟩, ⟨rfl, rfl, .inl ⟨_, rfl, rfl⟩⟩, ⟨rfl, rfl, .inr (wks_add (wksd _ _) rfl)⟩, trivial⟩⟩); (exact ⟨by omega, doA_ok hI.2.1 (actF_at hz (by omega)), by simp [hI.2.2.1], runQ_1 (by omega) hI.2.2.2⟩)))
    | (refine ⟨⟨(by first | rfl | (simp; done)), cap_ok (by simp only [List.length_map, List.length_cons, List.length_nil, List.length_append]; omega) rfl⟩, ?_⟩; conv => whnf)
    | (refine ⟨mem_one ⟨rfl, rfl⟩, ?_⟩; conv => whnf)
    | (refine ⟨(by intro y hy; obtain ⟨x, _, rfl⟩ := List.mem_map.1 hy; first | rfl | exact ⟨rfl, rfl⟩), ?_⟩; conv => whnf)
    | (refine ⟨cap_ok (by first | omega | (simp only [List.length_map]; omega)) rfl, ?_⟩; conv => whnf)
    | (refine ix_map (by omega) ?_; conv => whnf)
    | (refine ix_str (by omega) ?_; conv => whnf)
    | (refine wrap64 (by omega) ?_; conv => whnf)
    | (refine wrap64 (by omega) ?_; conv => whnf)
    | (refine ⟨Nat.le_refl _, ?_⟩; conv => whnf)
    | (refine ⟨⟨(by simp only [List.length_map, List.length_append]; omega), cap_ok (by obtain ⟨hI1, hI2, hI3, hI4⟩ := hI; simp only [List.length_map, List.length_cons, List.length_nil, List.length_append]; omega) rfl⟩, ?_⟩; conv => whnf)
    | (refine ⟨cap_ok (by obtain ⟨hI1, hI2, hI3, hI4⟩ := hI; simp only [List.length_map, List.length_cons, List.length_nil, List.length_append]; omega) rfl, ?_⟩; conv => whnf)
    | (exfalso; simp only [List.length_map, List.length_cons, List.length_nil, List.length_append] at h; omega)
    | ((with_reducible refine endx_go ?_); first | (obtain ⟨hI1, hI2, hI3, hI4⟩ := hI; rw [List.take_of_length_le (by omega)] at hI4; refine endxv (view_tup (vlc (view_agg (vlc (view_map rfl Nat.two_pos) (vlc rfl vln))) (vlc (view_map rfl Nat.two_pos) (vlc rfl vln)))) ?_; (rw [hd, hI4]) <;> rfl; done))
    | (refine ⟨rfl, ?_⟩; conv => whnf)
    | fail
    )

theorem c34 (x : Quo) (hx : x.os.length < 1000) (l : List Act) (hl : l.length < 1000) : Fn 34 [x.enc, .fs (l.map Act.enc)] (.tup [(runR x l).1.enc, .fs ((runR x l).2.1.map i), i (runR x l).2.2]) := by
  by_cases hq : (checkQ x).2 = 0
  · by_cases hb : 100 < l.length
    · exact c34b x hx l hl hq hb
    · by_cases hz : aE l = 0
      · exact c34d x hx l hl hq hb hz
      · exact c34c x hx l hl hq hb hz
  · exact c34a x hx l hl hq

end Go.Proofs.Ytolfkcmdfgakkaa

/-! Wt -/
namespace Go.Proofs.Ytolfkcmdfgakkaa
open Go Dw
set_option maxRecDepth 10000
set_option linter.unusedVariables false
set_option linter.unusedSimpArgs false
attribute [local irreducible] Run
set_option maxHeartbeats 4000000

attribute [local irreducible] oE checkQ cnt isR ownR withR bsR fullQ put1 chg rls mov limErr limF actE doA resQ aftQ whoE limE numE goMin goMax actErr movErr filE iget iput upto eF srt isQ roomQ warned mget mput addK allK kys refF stO bgO gaps gapsR diffQ sref sumsQ actF aE aI runE runQ
theorem lim_cells (l : Lim) : cellsEq [i l.who, i l.warn, i l.lim] [D.int .i64 0, D.int .i64 0, D.int .i64 0] = decide (l = lim0) := by
  obtain ⟨a1, a2, a3⟩ := l
  simp only [cellsEq, cellEq, lim0, Lim.mk.injEq, Bool.decide_and, Bool.and_true]
/-- What an act may not say. -/
def badA (a : Act) : Bool := (decide (a.kind = 3) && (!decide (a.who = 0) || !decide (a.bytes = 0))) || (!decide (a.kind = 3) && !decide (a.lim = lim0)) || (!decide (a.kind = 2) && !decide (a.to = 0))
theorem actF_bad {a : Act} (h : within a.kind 0 3 = true) : actF a = if badA a = true then 3 else 0 := by
  rw [actF_u h]
  obtain ⟨k, w, t, b, l⟩ := a
  unfold usedA badA
  by_cases h3 : k = 3
  · subst h3; by_cases h1 : w = 0 <;> by_cases h2 : b = 0 <;> by_cases h4 : t = 0 <;> simp [*]
  · by_cases h1 : l = lim0 <;> by_cases h2 : k = 2 <;> by_cases h4 : t = 0 <;> simp [*]
theorem runE_at {x : Quo} {l : List Act} {k : Nat} {e : Int} (hq : (checkQ x).2 = 0) (hb : ¬ (100 : Int) < l.length) (hI : aE l = aE (l.drop k)) (hk : (k : Int) < l.length) (he : actF (l[k]'(by omega)) = e) (hz : ¬ e = 0) : i e = i (runE x l) := by
  unfold runE
  rw [if_neg (not_not_intro hq), if_neg (by omega), hI, aE_drop (by omega), he, if_neg hz]
theorem runE_end {x : Quo} {l : List Act} {k : Nat} (hq : (checkQ x).2 = 0) (hb : ¬ (100 : Int) < l.length) (hI : aE l = aE (l.drop k)) (hk : ¬ (k : Int) < l.length) : i 0 = i (runE x l) := by
  unfold runE
  rw [if_neg (not_not_intro hq), if_neg (by omega), hI, aE_end (by omega)]

theorem c35 (x : Quo) (hx : x.os.length < 1000) (l : List Act) (hl : l.length < 1000) : Fn 35 [x.enc, .fs (l.map Act.enc)] (i (runE x l)) := by
  refine run_walkF eok Try.func35 rfl (by kernel_rfl) ?_
  conv => whnf
  repeat' (first
    | ((with_reducible refine on_dec_t (by assumption) ?_); conv => whnf)
    | ((with_reducible refine on_dec_f (by assumption) ?_); conv => whnf)
    | ((with_reducible refine onBool_t (by assumption) ?_); conv => whnf)
    | ((with_reducible refine onBool_f (by assumption) ?_); conv => whnf)
    | ((with_reducible refine on_nt (by assumption) ?_); conv => whnf)
    | ((with_reducible refine on_nf (by assumption) ?_); conv => whnf)
    | ((with_reducible refine on_ndec_t (by first | assumption | rfl) ?_); conv => whnf)
    | ((with_reducible refine on_ndec_f (by assumption) ?_); conv => whnf)
    | ((with_reducible refine on_dec_t rfl ?_); conv => whnf)
    | ((with_reducible refine on_dec_f ?_ ?_); (focus ((try simp only [List.length_map, List.length_cons, List.length_nil, List.length_append]); omega)); conv => whnf)
    | ((with_reducible refine on_dec_t ?_ ?_); (focus ((try simp only [List.length_map, List.length_cons, List.length_nil, List.length_append]); omega)); conv => whnf)
    | ((with_reducible refine on_dec (fun h => ?_) (fun h => ?_)) <;> (try simp only [List.length_map] at h) <;> conv => whnf)
    | ((with_reducible refine on_ndec (fun h => ?_) (fun h => ?_)) <;> (try simp only [List.length_map] at h) <;> conv => whnf)
    | ((with_reducible refine on_not (fun h => ?_) (fun h => ?_)) <;> conv => whnf)
    | ((with_reducible refine onBool_split (fun h => ?_) (fun h => ?_)) <;> conv => whnf)
    | ((with_reducible refine call_go ?_); (first | refine call_step (run_data (c31 x hx) _) ?_ | refine call_step (run_view (c38 _ _ _) rfl rfl) ?_); conv => whnf)
    | ((with_reducible refine loop_go ?_); first | (refine loop1 (fun (k : Nat) => l.length - k) (fun (k : Nat) => k ≤ l.length ∧ aE l = aE (l.drop k)) (fun (k : Nat) => [(1, .d (.fs (l.map Act.enc))), (6, .d (i k))]) (fun (k : Nat) => []) (0) (by exact ⟨Nat.zero_le _, rfl⟩) ?_ (fun k C hI hC => ?_); (exact ⟨[], rfl, rfl, ⟨(by first | (show (_ : D) = _; with_reducible rfl) | exact rfl), (by first | (show (_ : D) = _; with_reducible rfl) | exact congrArg (D.int .i64) (by omega) | exact congrArg (D.int .i64) (by simp only [List.length_map]) | exact rfl), trivial⟩, trivial⟩); all_goals (conv => whnf)))
    | ((with_reducible show C _ _); first | (refine hC (k + 1) _ _ ?_ (by omega) ?_; clear hC; rotate_left; (exact ⟨[], rfl, rfl, ⟨(by first | (show (_ : D) = _; with_reducible rfl) | exact rfl), (by first | (show (_ : D) = _; with_reducible rfl) | exact congrArg (D.int .i64) (by omega) | exact congrArg (D.int .i64) (by simp only [List.length_map]) | exact rfl), trivial⟩, trivial⟩); (refine ⟨by omega, ?_⟩; rw [hI.2, aE_drop (by omega), if_pos]; rw [actF_bad (by assumption)]; have hL := lim_cells l[k].lim; (simp_all [badA] <;> omega))))
    | (refine ⟨⟨(by first | rfl | (simp; done)), cap_ok (by simp only [List.length_map, List.length_cons, List.length_nil, List.length_append]; omega) rfl⟩, ?_⟩; conv => whnf)
    | (refine ⟨mem_one ⟨rfl, rfl⟩, ?_⟩; conv => whnf)
    | (refine ⟨(by intro y hy; obtain ⟨x, _, rfl⟩ := List.mem_map.1 hy; first | rfl | exact ⟨rfl, rfl⟩), ?_⟩; conv => whnf)
    | (refine ⟨cap_ok (by first | omega | (simp only [List.length_map]; omega)) rfl, ?_⟩; conv => whnf)
    | (refine ix_map (by omega) ?_; conv => whnf)
    | (refine ix_str (by omega) ?_; conv => whnf)
    | (refine wrap64 (by omega) ?_; conv => whnf)
    | (refine wrap64 (by omega) ?_; conv => whnf)
    | (exfalso; simp only [List.length_map, List.length_cons, List.length_nil, List.length_append] at h; omega)
    | ((with_reducible refine endx_go ?_); first | (refine endx (congrArg i ?_); unfold runE; rw [if_pos (by assumption)]; done) | (refine endx (congrArg i ?_); unfold runE; rw [if_neg (not_not_intro (by assumption)), if_pos (by omega)]; done) | (refine endx (runE_at (by assumption) (by assumption) hI.2 (by assumption) ?_ ?_); (focus (refine actF_15 ?_; assumption)); decide; done) | (refine endx (runE_at (by assumption) (by assumption) hI.2 (by assumption) ?_ ?_); (focus (rw [actF_bad (by assumption)]; have hL := lim_cells l[k].lim; clear hC; (simp_all [badA] <;> omega); done)); decide; done) | (refine endx (runE_end (by assumption) (by assumption) hI.2 (by assumption)); done))
    | (refine ⟨rfl, ?_⟩; conv => whnf)
    | fail
    )

end Go.Proofs.Ytolfkcmdfgakkaa

/-! Wu -/
namespace Go.Proofs.Ytolfkcmdfgakkaa
open Go Dw
set_option maxRecDepth 10000
set_option linter.unusedVariables false
set_option linter.unusedSimpArgs false
attribute [local irreducible] Run
set_option maxHeartbeats 4000000

attribute [local irreducible] oE checkQ cnt isR ownR withR bsR fullQ put1 chg rls mov limErr limF actE doA resQ aftQ whoE limE numE goMin goMax actErr movErr filE iget iput upto eF srt isQ roomQ warned mget mput addK allK kys refF stO bgO gaps gapsR diffQ sref sumsQ actF aE aI runE runQ runR
theorem run_row2 {f : Nat} {x : D} {l : List D} {k k' id : Nat} {r : D} (hf : Run Try.prog f ([x, .fs l].map .d) [] (.d r) []) {H : Heap} (h : H[id]? = some ⟨l.map .d, k, 0⟩) : Run Try.prog f [.d x, .sl id 0 (l.map AV.d).length k' none] H (.d r) (H.set id ⟨l.map .d, k, 1⟩) := by
  have := run_viewF hf (H := H) (args := [.d x, .sl id 0 (l.map AV.d).length k' none]) (vlc rfl (vlc (view_new h Nat.two_pos) vln))
  have e : [AV.d x, .sl id 0 (l.map AV.d).length k' none].flatMap (reach 8 H) = [id] := by
    show [] ++ ((id :: (match H[id]? with | some o => o.elems.flatMap (reach 7 H) | none => [])) ++ []) = [id]
    rw [h]
    show [] ++ ((id :: (l.map AV.d).flatMap (reach 7 H)) ++ []) = [id]
    rw [reach_ds]; rfl
  rw [e] at this
  have e2 : Dw.freeze H [id] = H.set id ⟨l.map .d, k, 1⟩ := by
    show Dw.freeze (match H[id]? with | some o => H.set id o.freeze | none => H) [] = _
    rw [h]; rfl
  rw [e2] at this
  exact this
theorem c34O (x : Quo) (hx : x.os.length < 1000) (l : List Act) (hl : l.length < 1000) (h : runE x l = 0) : Fn 34 [x.enc, .fs (l.map Act.enc)] (.tup [(runQ x l).1.enc, .fs ((runQ x l).2.map i), i 0]) := by
  have := c34 x hx l hl
  unfold runR at this
  rw [if_pos h] at this
  exact this
theorem runE_0 {x : Quo} {l : List Act} (h : runE x l = 0) : VQ x ∧ l.length ≤ 100 ∧ aE l = 0 := by
  unfold runE at h
  split at h
  · rename_i h1; exact absurd h h1
  · rename_i h1
    split at h
    · exact absurd h (by decide)
    · exact ⟨(checkQ_iff x).1 (Classical.not_not.1 h1), by omega, h⟩

end Go.Proofs.Ytolfkcmdfgakkaa

/-! Pi -/
namespace Go.Proofs.Ytolfkcmdfgakkaa
open Go Dw
set_option maxRecDepth 100000
set_option linter.unusedVariables false

/-- The bytes that all owners use. -/
def tot : List Own → Int
  | [] => 0
  | o :: l => o.used + tot l
theorem tot_take {l : List Own} {k : Nat} (h : k < l.length) : tot (l.take (k + 1)) = tot (l.take k) + l[k].used := by
  have key : ∀ (a b : List Own), tot (a ++ b) = tot a + tot b := by
    intro a b
    induction a with
    | nil => simp [tot]
    | cons x a ih => simp only [List.cons_append, tot, ih]; omega
  rw [List.take_succ_eq_append_getElem h, key]
  simp [tot]
theorem tot_withR : ∀ (l : List Own) (o : Own), SRT l → tot (withR l o) = tot l + o.used - (ownR l o.who).used
  | [], o, _ => by simp [withR, tot, ownR, newO]
  | y :: l, o, h => by
    have h' := h
    rw [SRT, List.pairwise_cons] at h'
    simp only [withR]
    by_cases h1 : y.who < o.who
    · rw [if_pos h1]
      have ih := tot_withR l o h'.2
      simp only [tot, ownR]
      rw [if_neg (by omega), ih]; omega
    · rw [if_neg h1]
      by_cases h2 : y.who = o.who
      · rw [if_pos h2]
        simp only [tot, ownR]
        rw [if_pos h2]; omega
      · rw [if_neg h2]
        have hn : ownR (y :: l) o.who = newO o.who := by
          refine ownR_none _ _ ?_
          cases hr : isR (y :: l) o.who with
          | false => rfl
          | true =>
            obtain ⟨p, hp, e⟩ := (isR_iff _ _).1 hr
            rcases List.mem_cons.1 hp with rfl | hp
            · exact absurd e h2
            · have : y.who < p.who := h'.1 p hp
              omega
        rw [hn]
        simp [tot, newO]; omega
theorem tot_put {x : Quo} (hv : VQ x) (o : Own) : tot (put1 x o).os = tot x.os + o.used - (ownR x.os o.who).used := tot_withR _ _ hv.srt
/-- What an act that was not refused adds. -/
def addA (a : Act) (e : Int) : Int := if e = 0 then (if a.kind = 0 then a.bytes else if a.kind = 1 then - a.bytes else 0) else 0
theorem tot_chg {x : Quo} (hv : VQ x) (w b : Int) : tot (chg x w b).1.os = tot x.os + (if (chg x w b).2 = 0 then b else 0) := by
  have hw : (ownR x.os w).who = w := ownR_who _ _
  unfold chg
  split
  · rename_i h; simp [h]
  · split
    · simp
    · split
      · rw [tot_put hv]
        simp only [hw]
        simp
      · split
        · simp
        · rw [tot_put hv]
          simp only [hw]
          simp; omega
theorem tot_rls {x : Quo} (hv : VQ x) (w b : Int) (hb : 0 ≤ b) : tot (rls x w b).1.os = tot x.os - (if (rls x w b).2 = 0 then b else 0) := by
  have hw : (ownR x.os w).who = w := ownR_who _ _
  unfold rls
  split
  · simp
  · split
    · rw [tot_put hv]
      simp only [hw]
      simp; omega
    · have : b = 0 := by omega
      simp [this]
theorem rls_0 {x : Quo} {w b : Int} (h : ¬ (ownR x.os w).used < b) : (rls x w b).2 = 0 := by
  unfold rls; rw [if_neg h]; split <;> rfl
theorem tot_doA {x : Quo} (hv : VQ x) {a : Act} (hk : kindOk a) : tot (doA x a).1.os = tot x.os + addA a (doA x a).2 := by
  unfold doA addA
  by_cases h3 : a.kind = 3
  · rw [if_pos h3]
    have hz : (if (limF x a.lim).2 = 0 then (if a.kind = 0 then a.bytes else if a.kind = 1 then -a.bytes else 0) else 0) = (0 : Int) := by
      rw [if_neg (show ¬ a.kind = 0 by omega), if_neg (show ¬ a.kind = 1 by omega)]; split <;> rfl
    rw [hz]
    unfold limF
    split
    · have hw : (ownR x.os a.lim.who).who = a.lim.who := ownR_who _ _
      rw [tot_put hv]
      simp only [hw]; omega
    · simp
  rw [if_neg h3]
  by_cases h0 : actE a = 0
  · rw [if_pos h0]
    obtain ⟨hw, ht, hb⟩ := actE_0 h0
    by_cases k0 : a.kind = 0
    · simp only [if_pos k0]
      exact tot_chg hv _ _
    · simp only [if_neg k0]
      by_cases k1 : a.kind = 1
      · simp only [if_pos k1]
        rw [tot_rls hv _ _ hb.1]
        split <;> omega
      · simp only [if_neg k1]
        have k2 : a.kind = 2 := by rcases hk with h | h | h | h <;> omega
        have hz : (if (mov x a.who a.to a.bytes).2 = 0 then (0 : Int) else 0) = 0 := by split <;> rfl
        rw [hz]
        unfold mov
        split
        · simp
        · rename_i d1
          split
          · simp
          · rename_i d2
            split
            · rename_i d3
              have hc := chg_ok hv (ht k2) hb.1 (w := a.to) (b := a.bytes)
              rw [tot_rls hc _ _ hb.1, tot_chg hv, if_pos d3]
              have e := chg_own hv (b := a.bytes) d2
              rw [if_pos (rls_0 (by rw [e]; exact d1))]
              omega
            · rename_i d3
              rw [tot_chg hv, if_neg d3]
  · rw [if_neg h0]
    simp [h0]
theorem own_put {x : Quo} (hv : VQ x) (o : Own) (w : Int) : ownR (put1 x o).os w = if o.who = w then o else ownR x.os w := ownR_withR _ _ _ hv.srt
/-- An owner is within its limit. -/
def Kp (x : Quo) (w : Int) : Prop := x.enf = true → (ownR x.os w).lim = -1 ∨ (ownR x.os w).used ≤ (ownR x.os w).lim
def Kept (x y : Quo) (w : Int) : Prop := y.enf = x.enf ∧ (ownR y.os w).lim = (ownR x.os w).lim ∧ (Kp x w → Kp y w)
theorem Kept.refl (x : Quo) (w : Int) : Kept x x w := ⟨rfl, rfl, id⟩
theorem Kept.trans {x y z : Quo} {w : Int} (h : Kept x y w) (h2 : Kept y z w) : Kept x z w := ⟨h2.1.trans h.1, h2.2.1.trans h.2.1, fun k => h2.2.2 (h.2.2 k)⟩
theorem kept_put {x : Quo} (hv : VQ x) {o : Own} {w : Int} (h : o.who = w → o.lim = (ownR x.os w).lim ∧ (Kp x w → x.enf = true → o.lim = -1 ∨ o.used ≤ o.lim)) : Kept x (put1 x o) w := by
  refine ⟨rfl, ?_, fun k he => ?_⟩
  · rw [own_put hv]; split
    · rename_i e; exact (h e).1
    · rfl
  · rw [own_put hv]; split
    · rename_i e; exact (h e).2 k he
    · exact k he
theorem kept_chg {x : Quo} (hv : VQ x) (t b w : Int) : Kept x (chg x t b).1 w := by
  have hw : (ownR x.os t).who = t := ownR_who _ _
  unfold chg
  split
  · exact Kept.refl _ _
  · split
    · exact Kept.refl _ _
    · split
      · refine kept_put hv fun e => ?_
        have : t = w := hw.symm.trans e
        subst this
        exact ⟨rfl, fun k he => k he⟩
      · rename_i c
        split
        · exact Kept.refl _ _
        · refine kept_put hv fun e => ?_
          have : t = w := hw.symm.trans e
          subst this
          refine ⟨rfl, fun k he => ?_⟩
          show (ownR x.os t).lim = -1 ∨ (ownR x.os t).used + b ≤ (ownR x.os t).lim
          by_cases h1 : (ownR x.os t).lim = -1
          · exact .inl h1
          · right
            rcases Int.lt_or_le (ownR x.os t).lim ((ownR x.os t).used + b) with h2 | h2
            · exact absurd (by simp [he, h1, h2]) c
            · exact h2
theorem kept_rls {x : Quo} (hv : VQ x) {t b : Int} (hb : 0 ≤ b) (w : Int) : Kept x (rls x t b).1 w := by
  have hw : (ownR x.os t).who = t := ownR_who _ _
  unfold rls
  split
  · exact Kept.refl _ _
  · split
    · refine kept_put hv fun e => ?_
      have : t = w := hw.symm.trans e
      subst this
      refine ⟨rfl, fun k he => ?_⟩
      rcases k he with h | h
      · exact .inl h
      · right; show (ownR x.os t).used - b ≤ (ownR x.os t).lim; omega
    · exact Kept.refl _ _
theorem kept_doA {x : Quo} (hv : VQ x) {a : Act} (hk : kindOk a) {w : Int} (hn : ¬ ((doA x a).2 = 0 ∧ a.kind = 3 ∧ a.lim.who = w)) : Kept x (doA x a).1 w := by
  unfold doA at *
  by_cases h3 : a.kind = 3
  · rw [if_pos h3] at *
    unfold limF at *
    split
    · rename_i h
      rw [if_pos h] at hn
      refine kept_put hv fun e => ?_
      have hw : (ownR x.os a.lim.who).who = a.lim.who := ownR_who _ _
      exact absurd ⟨rfl, h3, hw.symm.trans e⟩ hn
    · exact Kept.refl _ _
  rw [if_neg h3]
  by_cases h0 : actE a = 0
  · rw [if_pos h0]
    obtain ⟨hw, ht, hb⟩ := actE_0 h0
    split
    · exact kept_chg hv _ _ _
    · split
      · exact kept_rls hv hb.1 _
      · rename_i k0 k1
        have k2 : a.kind = 2 := by rcases hk with h | h | h | h <;> omega
        unfold mov
        split
        · exact Kept.refl _ _
        · split
          · exact Kept.refl _ _
          · split
            · exact (kept_chg hv _ _ _).trans (kept_rls (chg_ok hv (ht k2) hb.1) hb.1 _)
            · exact kept_chg hv _ _ _
  · rw [if_neg h0]; exact Kept.refl _ _
/-- What a run adds, and whose limits it changes. -/
def accA : List Act → List Int → Int → List Bool → Int × List Bool
  | a :: l, e :: es, s, c => accA l es (s + addA a e) (if e = 0 ∧ a.kind = 3 then c.set a.lim.who.toNat true else c)
  | _, _, s, c => (s, c)
theorem accA_drop {l : List Act} {es : List Int} {k : Nat} (h : k < l.length) (h2 : k < es.length) (s : Int) (c : List Bool) : accA (l.drop k) (es.drop k) s c = accA (l.drop (k + 1)) (es.drop (k + 1)) (s + addA l[k] es[k]) (if es[k] = 0 ∧ l[k].kind = 3 then c.set l[k].lim.who.toNat true else c) := by
  rw [List.drop_eq_getElem_cons h, List.drop_eq_getElem_cons h2]; rfl
theorem accA_end {l : List Act} {es : List Int} {k : Nat} (h : ¬ k < l.length) (s : Int) (c : List Bool) : accA (l.drop k) (es.drop k) s c = (s, c) := by
  rw [List.drop_eq_nil_of_le (by omega : l.length ≤ k)]; rfl
theorem runQ_cons (x : Quo) (a : Act) (l : List Act) : runQ x (a :: l) = ((runQ (doA x a).1 l).1, (doA x a).2 :: (runQ (doA x a).1 l).2) := by
  have key : ∀ (l : List Act) (y : Quo) (es : List Int), l.foldl runS (y, es) = ((l.foldl runS (y, [])).1, es ++ (l.foldl runS (y, [])).2) := by
    intro l
    induction l with
    | nil => intro y es; simp
    | cons b l ih =>
      intro y es
      rw [List.foldl_cons, List.foldl_cons]
      show l.foldl runS ((doA y b).1, es ++ [(doA y b).2]) = ((l.foldl runS ((doA y b).1, [] ++ [(doA y b).2])).1, es ++ (l.foldl runS ((doA y b).1, [] ++ [(doA y b).2])).2)
      rw [ih (doA y b).1 (es ++ [(doA y b).2]), ih (doA y b).1 ([] ++ [(doA y b).2])]
      simp
  unfold runQ
  rw [List.foldl_cons]
  show l.foldl runS ((doA x a).1, [] ++ [(doA x a).2]) = _
  rw [key]; rfl
theorem acc_run : ∀ (l : List Act) (x : Quo) (s : Int) (c : List Bool), VQ x → (∀ a ∈ l, actF a = 0) → c.length = 1000 →
    (accA l (runQ x l).2 s c).1 = s + tot (runQ x l).1.os - tot x.os ∧ (accA l (runQ x l).2 s c).2.length = 1000 ∧
    ∀ w : Int, 0 ≤ w → (accA l (runQ x l).2 s c).2[w.toNat]? = some false → c[w.toNat]? = some false ∧ Kept x (runQ x l).1 w
  | [], x, s, c, hv, _, hc => by
    have e : runQ x [] = (x, []) := rfl
    rw [e]
    refine ⟨?_, hc, fun w h0 h => ⟨h, Kept.refl _ _⟩⟩
    show s = s + tot x.os - tot x.os
    omega
  | a :: l, x, s, c, hv, ha, hc => by
    have hk := (actF_kind (ha a (by simp))).1
    have hv2 := doA_ok hv hk
    rw [runQ_cons]
    simp only [accA]
    have hc2 : (if (doA x a).2 = 0 ∧ a.kind = 3 then c.set a.lim.who.toNat true else c).length = 1000 := by split <;> simp [hc]
    obtain ⟨i1, i2, i3⟩ := acc_run l (doA x a).1 (s + addA a (doA x a).2) _ hv2 (fun b hb => ha b (by simp [hb])) hc2
    refine ⟨?_, i2, fun w h0 h => ?_⟩
    · rw [i1, tot_doA hv hk]; omega
    · obtain ⟨j1, j2⟩ := i3 w h0 h
      by_cases hz : (doA x a).2 = 0 ∧ a.kind = 3
      · rw [if_pos hz] at j1
        rw [List.getElem?_set] at j1
        by_cases he : a.lim.who.toNat = w.toNat
        · rw [if_pos he] at j1
          split at j1 <;> simp at j1
        · rw [if_neg he] at j1
          exact ⟨j1, (kept_doA hv hk (by intro hn; apply he; rw [hn.2.2])).trans j2⟩
      · rw [if_neg hz] at j1
        exact ⟨j1, (kept_doA hv hk (fun hn => hz ⟨hn.1, hn.2.1⟩)).trans j2⟩
end Go.Proofs.Ytolfkcmdfgakkaa
