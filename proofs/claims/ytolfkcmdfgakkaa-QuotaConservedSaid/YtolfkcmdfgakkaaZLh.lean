/-
  Chapter 19: QuotaConserved holds at every input: no condition of ours.
-/
import Derived.Test.YtolfkcmdfgakkaaGrpH
set_option linter.unusedVariables false
set_option linter.unusedSimpArgs false

/-! Wv -/
namespace Go.Proofs.Ytolfkcmdfgakkaa
open Go Dw
set_option maxRecDepth 10000
set_option linter.unusedVariables false
set_option linter.unusedSimpArgs false
attribute [local irreducible] Run
set_option maxHeartbeats 4000000

attribute [local irreducible] oE checkQ cnt isR ownR withR bsR fullQ put1 chg rls mov limErr limF actE doA resQ aftQ whoE limE numE goMin goMax actErr movErr filE iget iput upto eF srt isQ roomQ warned mget mput addK allK kys refF stO bgO gaps gapsR diffQ sref sumsQ actF aE aI runE runQ runR tot addA accA
theorem tot_rng : ∀ {l : List Own}, (∀ o ∈ l, 0 ≤ o.used ∧ o.used ≤ 100000) → 0 ≤ tot l ∧ tot l ≤ 100000 * l.length
  | [], _ => by unfold tot; simp
  | o :: l, h => by
    have h1 := h o (by simp)
    have h2 := tot_rng (l := l) (fun p hp => h p (by simp [hp]))
    unfold tot
    simp only [List.length_cons]
    omega
theorem tot_big : ∀ {l : List Own}, (∀ o ∈ l, 0 ≤ o.used ∧ o.used ≤ 2147483647) → 0 ≤ tot l ∧ tot l ≤ 2147483647 * l.length
  | [], _ => by unfold tot; simp
  | o :: l, h => by
    have h1 := h o (by simp)
    have h2 := tot_big (l := l) (fun p hp => h p (by simp [hp]))
    unfold tot
    simp only [List.length_cons]
    omega
theorem take_all {α : Type} {P : α → Prop} {l : List α} {k : Nat} (h : k < l.length) (hp : ∀ a ∈ l.take k, P a) (h1 : P l[k]) : ∀ a ∈ l.take (k + 1), P a := by
  intro a ha
  rw [List.take_succ_eq_append_getElem h] at ha
  rcases List.mem_append.1 ha with ha | ha
  · exact hp a ha
  · rw [List.mem_singleton.1 ha]; exact h1
theorem es_at : ∀ (l : List Act) (x : Quo) (k : Nat) (h : k < l.length), (runQ x l).2[k]? = some (doA (runQ x (l.take k)).1 l[k]).2
  | a :: l, x, 0, _ => by rw [runQ_cons, List.take_zero]; unfold runQ; rfl
  | a :: l, x, k + 1, h => by
    rw [runQ_cons, List.take_succ_cons, runQ_cons]
    exact es_at l (doA x a).1 k (by simpa using h)
theorem lim_who {x : Quo} {l : List Act} {k : Nat} (h : k < l.length) (h2 : k < (runQ x l).2.length) (he : (runQ x l).2[k] = 0) (hk : l[k].kind = 3) : 0 ≤ l[k].lim.who ∧ l[k].lim.who ≤ 999 := by
  have e := es_at l x k h
  rw [List.getElem?_eq_getElem h2, he] at e
  have e2 := (Option.some.inj e).symm
  unfold doA at e2
  rw [if_pos hk] at e2
  unfold limF at e2
  have hz : limErr (runQ x (l.take k)).1 l[k].lim = 0 := by
    split at e2
    · rename_i h0; exact h0
    · exact e2
  unfold limErr at hz
  rw [firstE_z] at hz
  exact whoE_0 (hz (whoE l[k].lim.who) (by simp))
theorem acc_n {l : List Act} {es : List Int} {k : Nat} {s : Int} {c : List Bool} (h : k < l.length) (h2 : k < es.length) (he : ¬ es[k] = 0) : accA (l.drop k) (es.drop k) s c = accA (l.drop (k + 1)) (es.drop (k + 1)) s c := by
  rw [accA_drop h h2, if_neg (fun hh => he hh.1), show addA l[k] es[k] = 0 by unfold addA; rw [if_neg he], Int.add_zero]
theorem acc_0 {l : List Act} {es : List Int} {k : Nat} {s : Int} {c : List Bool} (h : k < l.length) (h2 : k < es.length) (he : es[k] = 0) (hk : l[k].kind = 0) : accA (l.drop k) (es.drop k) s c = accA (l.drop (k + 1)) (es.drop (k + 1)) (s + l[k].bytes) c := by
  rw [accA_drop h h2, if_neg (by omega), show addA l[k] es[k] = l[k].bytes by unfold addA; rw [if_pos he, if_pos hk]]
theorem acc_1 {l : List Act} {es : List Int} {k : Nat} {s : Int} {c : List Bool} (h : k < l.length) (h2 : k < es.length) (he : es[k] = 0) (hk : l[k].kind = 1) : accA (l.drop k) (es.drop k) s c = accA (l.drop (k + 1)) (es.drop (k + 1)) (s - l[k].bytes) c := by
  rw [accA_drop h h2, if_neg (by omega), show addA l[k] es[k] = - l[k].bytes by unfold addA; rw [if_pos he, if_neg (by omega), if_pos hk]]; rfl
theorem acc_3 {l : List Act} {es : List Int} {k : Nat} {s : Int} {c : List Bool} (h : k < l.length) (h2 : k < es.length) (he : es[k] = 0) (hk : l[k].kind = 3) : accA (l.drop k) (es.drop k) s c = accA (l.drop (k + 1)) (es.drop (k + 1)) s (c.set l[k].lim.who.toNat true) := by
  rw [accA_drop h h2, if_pos ⟨he, hk⟩, show addA l[k] es[k] = 0 by unfold addA; rw [if_pos he, if_neg (by omega), if_neg (by omega)], Int.add_zero]
theorem acc_x {l : List Act} {es : List Int} {k : Nat} {s : Int} {c : List Bool} (h : k < l.length) (h2 : k < es.length) (he : es[k] = 0) (h0 : ¬ l[k].kind = 0) (h1 : ¬ l[k].kind = 1) (h3 : ¬ l[k].kind = 3) : accA (l.drop k) (es.drop k) s c = accA (l.drop (k + 1)) (es.drop (k + 1)) s c := by
  rw [accA_drop h h2, if_neg (fun hh => h3 hh.2), show addA l[k] es[k] = 0 by unfold addA; rw [if_pos he, if_neg h0, if_neg h1], Int.add_zero]
theorem nth_b {c : List Bool} {j : Nat} {K : AV → Prop} (h : j < c.length) (hk : ∀ b, c[j]? = some b → K (.d (.bool b))) : nthK ((c.map D.bool).map .d) j K :=
  (nthK_iff _ _).2 ⟨_, by rw [List.getElem?_map, List.getElem?_map, List.getElem?_eq_getElem h]; rfl, hk _ (List.getElem?_eq_getElem h)⟩
theorem last_ok {x : Quo} {l : List Act} {s : Int} {c : List Bool} (hv : VQ x) (hz : aE l = 0) (g : accA l (runQ x l).2 (tot x.os) (List.replicate 1000 false) = (s, c)) :
    s = tot (runQ x l).1.os ∧ c.length = 1000 ∧ ∀ w : Int, 0 ≤ w → c[w.toNat]? = some false → Kept x (runQ x l).1 w := by
  obtain ⟨h1, h2, h3⟩ := acc_run l x (tot x.os) (List.replicate 1000 false) hv (aE_ok hz) (by simp)
  rw [g] at h1 h2 h3
  exact ⟨by simp only at h1; omega, h2, fun w h0 h => (h3 w h0 h).2⟩
theorem own_self : ∀ {l : List Own}, SRT l → ∀ {m : Nat} (h : m < l.length), ownR l l[m].who = l[m]
  | l, hs, m, h => by
    have e := congrArg (fun z => z[m]?) (SRT_own hs)
    simp only [List.getElem?_map, List.getElem?_eq_getElem h, Option.map_some] at e
    exact Option.some.inj e
theorem tot_0 (l : List Own) : tot (l.take 0) = 0 := by rw [List.take_zero]; unfold tot; rfl
/-- No owner that was within its limit is beyond it. -/
theorem no_bad {x : Quo} {l : List Act} {s : Int} {c : List Bool} (hv : VQ x) (hz : aE l = 0) (g : accA l (runQ x l).2 (tot x.os) (List.replicate 1000 false) = (s, c)) {m : Nat} (hm : m < (runQ x l).1.os.length) (he : x.enf = true) (hc : c[((runQ x l).1.os[m].who).toNat]? = some false) (h0 : 0 ≤ (runQ x l).1.os[m].who)
    (hw : (ownR x.os (runQ x l).1.os[m].who).lim = -1 ∨ (ownR x.os (runQ x l).1.os[m].who).used ≤ (ownR x.os (runQ x l).1.os[m].who).lim) (h1 : ¬ (runQ x l).1.os[m].lim = -1) (h2 : (runQ x l).1.os[m].lim < (runQ x l).1.os[m].used) : False := by
  obtain ⟨_, _, h3⟩ := last_ok hv hz g
  obtain ⟨k1, k2, k3⟩ := h3 _ h0 hc
  have k := k3 (fun _ => hw) (k1.trans he)
  rw [own_self (run_valid hv (aE_ok hz)).srt hm] at k
  rcases k with k | k
  · exact h1 k
  · omega
theorem c31v (x : Quo) (hv : VQ x) : Fn 31 [x.enc] (i 0) := by
  have hl := hv.len
  have := c31 x (by omega)
  rw [(checkQ_iff x).2 hv] at this
  exact this

theorem c8e (x : Quo) (l : List Act) (hr : ¬ runE x l = 0) : Fn 8 [x.enc, .fs (l.map Act.enc)] (.bool true) := by
  refine run_walkF eok Try.func8 rfl (by kernel_rfl) ?_
  conv => whnf
  repeat' (first
    | ((with_reducible refine on_dec_t (by assumption) ?_); conv => whnf)
    | ((with_reducible refine on_dec_f (by assumption) ?_); conv => whnf)
    | ((with_reducible refine onBool_t (by assumption) ?_); conv => whnf)
    | ((with_reducible refine onBool_f (by assumption) ?_); conv => whnf)
    | ((with_reducible refine on_nt (by assumption) ?_); conv => whnf)
    | ((with_reducible refine on_nf (by assumption) ?_); conv => whnf)
    | ((with_reducible refine on_ndec_t (by first | assumption | rfl) ?_); conv => whnf)
    | ((with_reducible refine on_ndec_f (by assumption) ?_); conv => whnf)
    | ((with_reducible refine on_dec_t rfl ?_); conv => whnf)
    | ((with_reducible refine on_dec_f ?_ ?_); (focus ((try simp only [List.length_map, List.length_cons, List.length_nil, List.length_append]); omega)); conv => whnf)
    | ((with_reducible refine on_dec_t ?_ ?_); (focus ((try simp only [List.length_map, List.length_cons, List.length_nil, List.length_append]); omega)); conv => whnf)
    | ((with_reducible refine on_dec (fun h => ?_) (fun h => ?_)) <;> (try simp only [List.length_map] at h) <;> conv => whnf)
    | ((with_reducible refine on_ndec (fun h => ?_) (fun h => ?_)) <;> (try simp only [List.length_map] at h) <;> conv => whnf)
    | ((with_reducible refine on_not (fun h => ?_) (fun h => ?_)) <;> conv => whnf)
    | ((with_reducible refine onBool_split (fun h => ?_) (fun h => ?_)) <;> conv => whnf)
    | ((with_reducible refine call_go ?_); (first | refine call_step (run_data c12 _) ?_ | refine call_step (run_data (c35 x (by omega) l (by omega)) _) ?_ | refine call_step (run_view (c38 _ _ _) rfl rfl) ?_ | refine call_step (run_data (c15 x (by omega)) _) ?_ | refine call_step (run_row2 (c34O x (by omega) l (by omega) hr) rfl) ?_ | refine call_step (run_data (c31v _ hv2) _) ?_); conv => whnf)
    | (refine ⟨⟨(by first | rfl | (simp; done)), cap_ok (by simp only [List.length_map, List.length_cons, List.length_nil, List.length_append]; omega) rfl⟩, ?_⟩; conv => whnf)
    | (refine ⟨mem_one ⟨rfl, rfl⟩, ?_⟩; conv => whnf)
    | (refine ⟨(by intro y hy; obtain ⟨x, _, rfl⟩ := List.mem_map.1 hy; first | rfl | exact ⟨rfl, rfl⟩), ?_⟩; conv => whnf)
    | (refine ⟨cap_ok (by first | omega | (simp only [List.length_map]; omega)) rfl, ?_⟩; conv => whnf)
    | (refine ix_map (by omega) ?_; conv => whnf)
    | (refine ix_str (by omega) ?_; conv => whnf)
    | (refine wrap64 (by omega) ?_; conv => whnf)
    | (refine wrap64 (by omega) ?_; conv => whnf)
    | (exfalso; simp only [List.length_map, List.length_cons, List.length_nil, List.length_append] at h; omega)
    | ((with_reducible refine endx_go ?_); first | (exact endx rfl; done))
    | (refine ⟨rfl, ?_⟩; conv => whnf)
    | fail
    )

theorem c8o (x : Quo) (l : List Act) (hr : runE x l = 0) : Fn 8 [x.enc, .fs (l.map Act.enc)] (.bool true) := by
  obtain ⟨hv, hl1, hz⟩ := runE_0 hr; have hxl := hv.len; have hv2 := run_valid hv (aE_ok hz); have hen := run_len x l
  refine run_walkF eok Try.func8 rfl (by kernel_rfl) ?_
  conv => whnf
  repeat' (first
    | ((with_reducible refine on_dec_t (by assumption) ?_); conv => whnf)
    | ((with_reducible refine on_dec_f (by assumption) ?_); conv => whnf)
    | ((with_reducible refine onBool_t (by assumption) ?_); conv => whnf)
    | ((with_reducible refine onBool_f (by assumption) ?_); conv => whnf)
    | ((with_reducible refine on_nt (by assumption) ?_); conv => whnf)
    | ((with_reducible refine on_nf (by assumption) ?_); conv => whnf)
    | ((with_reducible refine on_ndec_t (by first | assumption | rfl) ?_); conv => whnf)
    | ((with_reducible refine on_ndec_f (by assumption) ?_); conv => whnf)
    | ((with_reducible refine on_dec_t rfl ?_); conv => whnf)
    | ((with_reducible refine on_dec_f ?_ ?_); (focus ((try simp only [List.length_map, List.length_cons, List.length_nil, List.length_append]); omega)); conv => whnf)
    | ((with_reducible refine on_dec_t ?_ ?_); (focus ((try simp only [List.length_map, List.length_cons, List.length_nil, List.length_append]); omega)); conv => whnf)
    | ((with_reducible refine on_dec (fun h => ?_) (fun h => ?_)) <;> (try simp only [List.length_map] at h) <;> conv => whnf)
    | ((with_reducible refine on_ndec (fun h => ?_) (fun h => ?_)) <;> (try simp only [List.length_map] at h) <;> conv => whnf)
    | ((with_reducible refine on_not (fun h => ?_) (fun h => ?_)) <;> conv => whnf)
    | ((with_reducible refine onBool_split (fun h => ?_) (fun h => ?_)) <;> conv => whnf)
    | ((with_reducible refine call_go ?_); (first | refine call_step (run_data c12 _) ?_ | refine call_step (run_data (c35 x (by omega) l (by omega)) _) ?_ | refine call_step (run_view (c38 _ _ _) rfl rfl) ?_ | refine call_step (run_data (c15 x (by omega)) _) ?_ | refine call_step (run_row2 (c34O x (by omega) l (by omega) hr) rfl) ?_ | refine call_step (run_data (c31v _ hv2) _) ?_ | refine call_step (run_view (c24 x (by omega) (runQ x l).1.os[m].who) rfl rfl) ?_); conv => whnf)
    | ((with_reducible refine loop_go ?_); first | (refine loop2 (fun (m : Nat) (s2 : Int) => (runQ x l).1.os.length - m) (fun (m : Nat) (s2 : Int) => m ≤ (runQ x l).1.os.length ∧ s2 = tot (runQ x l).1.os - tot ((runQ x l).1.os.take m)) (fun (m : Nat) (s2 : Int) => [(2, .ptr 0 0 0), (5, .d (i s2)), (8, .ptr 1 0 0), (11, .sl 2 0 1000 1 (some 1000)), (13, .d (i m))]) (fun (m : Nat) (s2 : Int) => [⟨[.d x.enc], 2, 0⟩, ⟨[.d (runQ x l).1.enc], 2, 0⟩, ⟨(c.map .bool).map .d, 1, 0⟩]) (0) (s) (by obtain ⟨g1, g2, g3, g4, g5⟩ := hIc; rw [accA_end (by omega)] at g5; have hA := (last_ok hv hz g5).1; have h00 := tot_0 (runQ x l).1.os; exact ⟨Nat.zero_le _, by omega⟩) ?_ (fun m s2 Cd hId hCd => ?_); (exact ⟨[.old 0, .old 1, .old 2], rfl, rfl, ⟨⟨rfl, rfl, rfl⟩, (by first | (show (_ : D) = _; with_reducible rfl) | exact congrArg (D.int .i64) (by omega) | exact congrArg (D.int .i64) (by simp only [List.length_map]) | exact rfl), ⟨rfl, rfl, rfl⟩, (by first | exact congrArg (D.int .i64) (by omega) | exact ⟨rfl, rfl, rfl⟩ | exact ⟨rfl, rfl, rfl, rfl, rfl⟩ | (show (_ : D) = _; with_reducible rfl)), (by first | (show (_ : D) = _; with_reducible rfl) | exact congrArg (D.int .i64) (by omega) | exact congrArg (D.int .i64) (by simp only [List.length_map]) | exact rfl), trivial⟩, ⟨⟨rfl, rfl, .inl ⟨[_], rfl, rfl⟩⟩, ⟨rfl, rfl, .inl ⟨[_], rfl, rfl⟩⟩, ⟨rfl, rfl, .inl ⟨_, rfl, rfl⟩⟩, trivial⟩⟩); all_goals (conv => whnf)) | (refine loop3 (fun (k : Nat) (s : Int) (c : List Bool) => l.length - k) (fun (k : Nat) (s : Int) (c : List Bool) => k ≤ l.length ∧ c.length = 1000 ∧ -(100000 * k) ≤ s ∧ s ≤ 1000000 + 100000 * k ∧ accA l (runQ x l).2 (tot x.os) (List.replicate 1000 false) = accA (l.drop k) ((runQ x l).2.drop k) s c) (fun (k : Nat) (s : Int) (c : List Bool) => [(1, .d (.fs (l.map Act.enc))), (2, .ptr 0 0 0), (5, .d (i s)), (8, .ptr 1 0 0), (9, .d (.fs ((runQ x l).2.map i))), (11, .sl 2 0 1000 1 (some 1000)), (12, .d (i k))]) (fun (k : Nat) (s : Int) (c : List Bool) => [⟨[.d x.enc], 2, 0⟩, ⟨[.d (runQ x l).1.enc], 2, 0⟩, ⟨(c.map .bool).map .d, 1, 0⟩]) (0) (tot x.os) ((List.replicate 1000 false)) (by have ht := tot_rng (l := x.os) (by have hh := hI.2; rw [List.take_of_length_le (by omega)] at hh; exact hh); exact ⟨Nat.zero_le _, by simp, by omega, by omega, rfl⟩) ?_ (fun k s c Cc hIc hCc => ?_); (exact ⟨[.old 0, .old 2, .old 3], rfl, rfl, ⟨(by first | (show (_ : D) = _; with_reducible rfl) | exact rfl), ⟨rfl, rfl, rfl⟩, (by first | (show (_ : D) = _; with_reducible rfl) | exact congrArg (D.int .i64) (by omega) | exact congrArg (D.int .i64) (by simp only [List.length_map]) | exact rfl), ⟨rfl, rfl, rfl⟩, (by first | (show (_ : D) = _; with_reducible rfl) | exact rfl), (by first | exact congrArg (D.int .i64) (by omega) | exact ⟨rfl, rfl, rfl⟩ | exact ⟨rfl, rfl, rfl, rfl, rfl⟩ | (show (_ : D) = _; with_reducible rfl)), (by first | (show (_ : D) = _; with_reducible rfl) | exact congrArg (D.int .i64) (by omega) | exact congrArg (D.int .i64) (by simp only [List.length_map]) | exact rfl), trivial⟩, ⟨⟨rfl, rfl, .inl ⟨[_], rfl, rfl⟩⟩, ⟨rfl, rfl, .inl ⟨[_], rfl, rfl⟩⟩, ⟨rfl, rfl, .inl ⟨List.replicate 1000 (.bool false), (by rw [List.map_replicate]; rfl), (by rw [List.map_replicate])⟩⟩, trivial⟩⟩); all_goals (conv => whnf)) | (refine loop1 (fun (k : Nat) => l.length - k) (fun (k : Nat) => k ≤ l.length ∧ ∀ a ∈ l.take k, 0 ≤ a.bytes ∧ a.bytes ≤ 100000) (fun (k : Nat) => [(1, .d (.fs (l.map Act.enc))), (2, .ptr 0 0 0), (5, .d (i (tot x.os))), (7, .d (i k))]) (fun (k : Nat) => [⟨[.d x.enc], 2, 0⟩]) (0) (by exact ⟨Nat.zero_le _, fun o ho => by simp at ho⟩) ?_ (fun k Cb hIb hCb => ?_); (exact ⟨[.old 0], rfl, rfl, ⟨(by first | (show (_ : D) = _; with_reducible rfl) | exact rfl), ⟨rfl, rfl, rfl⟩, (by refine congrArg (D.int .i64) ?_; rw [List.take_of_length_le (by omega)]), (by first | (show (_ : D) = _; with_reducible rfl) | exact congrArg (D.int .i64) (by omega) | exact congrArg (D.int .i64) (by simp only [List.length_map]) | exact rfl), trivial⟩, ⟨⟨rfl, rfl, .inl ⟨[_], rfl, rfl⟩⟩, trivial⟩⟩); all_goals (conv => whnf)) | (refine loop1 (fun (k : Nat) => x.os.length - k) (fun (k : Nat) => k ≤ x.os.length ∧ ∀ o ∈ x.os.take k, 0 ≤ o.used ∧ o.used ≤ 100000) (fun (k : Nat) => [(1, .d (.fs (l.map Act.enc))), (2, .ptr 0 0 0), (5, .d (i (tot (x.os.take k)))), (6, .d (i k))]) (fun (k : Nat) => [⟨[.d x.enc], 2, 0⟩]) (0) (by exact ⟨Nat.zero_le _, fun o ho => by simp at ho⟩) ?_ (fun k C hI hC => ?_); (exact ⟨[.old 0], rfl, rfl, ⟨(by first | (show (_ : D) = _; with_reducible rfl) | exact rfl), ⟨rfl, rfl, rfl⟩, (by refine congrArg (D.int .i64) ?_; rw [List.take_zero]; unfold tot; rfl), (by first | (show (_ : D) = _; with_reducible rfl) | exact congrArg (D.int .i64) (by omega) | exact congrArg (D.int .i64) (by simp only [List.length_map]) | exact rfl), trivial⟩, ⟨⟨rfl, rfl, .inl ⟨[_], rfl, rfl⟩⟩, trivial⟩⟩); all_goals (conv => whnf)))
    | ((with_reducible show C _ _); first | (refine hC (k + 1) _ _ ?_ (by omega) ?_; clear hC; rotate_left; (exact ⟨[.old 0], rfl, rfl, ⟨(by first | (show (_ : D) = _; with_reducible rfl) | exact rfl), ⟨rfl, rfl, rfl⟩, (by refine congrArg (D.int .i64) ?_; rw [tot_take (by omega)]), (by first | (show (_ : D) = _; with_reducible rfl) | exact congrArg (D.int .i64) (by omega) | exact congrArg (D.int .i64) (by simp only [List.length_map]) | exact rfl), trivial⟩, ⟨⟨rfl, rfl, .inl ⟨[_], rfl, rfl⟩⟩, trivial⟩⟩); (exact ⟨by omega, take_all (by omega) hI.2 ⟨(hv.own _ (List.getElem_mem (by omega))).used.1, by omega⟩⟩)))
    | ((with_reducible show Cb _ _); first | (refine hCb (k + 1) _ _ ?_ (by omega) ?_; clear hCb; rotate_left; (exact ⟨[.old 0], rfl, rfl, ⟨(by first | (show (_ : D) = _; with_reducible rfl) | exact rfl), ⟨rfl, rfl, rfl⟩, (by first | (show (_ : D) = _; with_reducible rfl) | exact congrArg (D.int .i64) (by omega) | exact congrArg (D.int .i64) (by simp only [List.length_map]) | exact rfl), (by first | (show (_ : D) = _; with_reducible rfl) | exact congrArg (D.int .i64) (by omega) | exact congrArg (D.int .i64) (by simp only [List.length_map]) | exact rfl), trivial⟩, ⟨⟨rfl, rfl, .inl ⟨[_], rfl, rfl⟩⟩, trivial⟩⟩); (exact ⟨by omega, take_all (by omega) hIb.2 (within_t (by assumption))⟩)))
    | ((with_reducible show Cc _ _); first | (refine hCc (k + 1) (s) (c) _ _ ?_ (by omega) ?_; clear hCc; rotate_left; (exact ⟨[.old 0, .old 1, .old 2], rfl, rfl, ⟨(by first | (show (_ : D) = _; with_reducible rfl) | exact rfl), ⟨rfl, rfl, rfl⟩, (by first | (show (_ : D) = _; with_reducible rfl) | exact congrArg (D.int .i64) (by omega) | exact congrArg (D.int .i64) (by simp only [List.length_map]) | exact rfl), ⟨rfl, rfl, rfl⟩, (by first | (show (_ : D) = _; with_reducible rfl) | exact rfl), (by first | exact congrArg (D.int .i64) (by omega) | exact ⟨rfl, rfl, rfl⟩ | exact ⟨rfl, rfl, rfl, rfl, rfl⟩ | (show (_ : D) = _; with_reducible rfl)), (by first | (show (_ : D) = _; with_reducible rfl) | exact congrArg (D.int .i64) (by omega) | exact congrArg (D.int .i64) (by simp only [List.length_map]) | exact rfl), trivial⟩, ⟨⟨rfl, rfl, .inl ⟨[_], rfl, rfl⟩⟩, ⟨rfl, rfl, .inl ⟨[_], rfl, rfl⟩⟩, ⟨rfl, rfl, .inl ⟨_, rfl, rfl⟩⟩, trivial⟩⟩); (have hb0 : ∀ a ∈ l, 0 ≤ a.bytes ∧ a.bytes ≤ 100000 := (by have hh := hIb.2; rw [List.take_of_length_le (by omega)] at hh; exact hh); have hb1 := hb0 l[k] (List.getElem_mem (by omega)); obtain ⟨g1, g2, g3, g4, g5⟩ := hIc; exact ⟨by omega, by first | exact g2 | simp [g2], by omega, by omega, g5.trans (acc_n (by omega) (by omega) (by assumption))⟩)) | (refine hCc (k + 1) (s + l[k].bytes) (c) _ _ ?_ (by omega) ?_; clear hCc; rotate_left; (exact ⟨[.old 0, .old 1, .old 2], rfl, rfl, ⟨(by first | (show (_ : D) = _; with_reducible rfl) | exact rfl), ⟨rfl, rfl, rfl⟩, (by first | (show (_ : D) = _; with_reducible rfl) | exact congrArg (D.int .i64) (by omega) | exact congrArg (D.int .i64) (by simp only [List.length_map]) | exact rfl), ⟨rfl, rfl, rfl⟩, (by first | (show (_ : D) = _; with_reducible rfl) | exact rfl), (by first | exact congrArg (D.int .i64) (by omega) | exact ⟨rfl, rfl, rfl⟩ | exact ⟨rfl, rfl, rfl, rfl, rfl⟩ | (show (_ : D) = _; with_reducible rfl)), (by first | (show (_ : D) = _; with_reducible rfl) | exact congrArg (D.int .i64) (by omega) | exact congrArg (D.int .i64) (by simp only [List.length_map]) | exact rfl), trivial⟩, ⟨⟨rfl, rfl, .inl ⟨[_], rfl, rfl⟩⟩, ⟨rfl, rfl, .inl ⟨[_], rfl, rfl⟩⟩, ⟨rfl, rfl, .inl ⟨_, rfl, rfl⟩⟩, trivial⟩⟩); (have hb0 : ∀ a ∈ l, 0 ≤ a.bytes ∧ a.bytes ≤ 100000 := (by have hh := hIb.2; rw [List.take_of_length_le (by omega)] at hh; exact hh); have hb1 := hb0 l[k] (List.getElem_mem (by omega)); obtain ⟨g1, g2, g3, g4, g5⟩ := hIc; exact ⟨by omega, by first | exact g2 | simp [g2], by omega, by omega, g5.trans (acc_0 (by omega) (by omega) (by assumption) (by assumption))⟩)) | (refine hCc (k + 1) (s - l[k].bytes) (c) _ _ ?_ (by omega) ?_; clear hCc; rotate_left; (exact ⟨[.old 0, .old 1, .old 2], rfl, rfl, ⟨(by first | (show (_ : D) = _; with_reducible rfl) | exact rfl), ⟨rfl, rfl, rfl⟩, (by first | (show (_ : D) = _; with_reducible rfl) | exact congrArg (D.int .i64) (by omega) | exact congrArg (D.int .i64) (by simp only [List.length_map]) | exact rfl), ⟨rfl, rfl, rfl⟩, (by first | (show (_ : D) = _; with_reducible rfl) | exact rfl), (by first | exact congrArg (D.int .i64) (by omega) | exact ⟨rfl, rfl, rfl⟩ | exact ⟨rfl, rfl, rfl, rfl, rfl⟩ | (show (_ : D) = _; with_reducible rfl)), (by first | (show (_ : D) = _; with_reducible rfl) | exact congrArg (D.int .i64) (by omega) | exact congrArg (D.int .i64) (by simp only [List.length_map]) | exact rfl), trivial⟩, ⟨⟨rfl, rfl, .inl ⟨[_], rfl, rfl⟩⟩, ⟨rfl, rfl, .inl ⟨[_], rfl, rfl⟩⟩, ⟨rfl, rfl, .inl ⟨_, rfl, rfl⟩⟩, trivial⟩⟩); (have hb0 : ∀ a ∈ l, 0 ≤ a.bytes ∧ a.bytes ≤ 100000 := (by have hh := hIb.2; rw [List.take_of_length_le (by omega)] at hh; exact hh); have hb1 := hb0 l[k] (List.getElem_mem (by omega)); obtain ⟨g1, g2, g3, g4, g5⟩ := hIc; exact ⟨by omega, by first | exact g2 | simp [g2], by omega, by omega, g5.trans (acc_1 (by omega) (by omega) (by assumption) (by assumption))⟩)) | (refine hCc (k + 1) (s) (c.set l[k].lim.who.toNat true) _ _ ?_ (by omega) ?_; clear hCc; rotate_left; (exact ⟨[.old 0, .old 1, .old 2], rfl, rfl, ⟨(by first | (show (_ : D) = _; with_reducible rfl) | exact rfl), ⟨rfl, rfl, rfl⟩, (by first | (show (_ : D) = _; with_reducible rfl) | exact congrArg (D.int .i64) (by omega) | exact congrArg (D.int .i64) (by simp only [List.length_map]) | exact rfl), ⟨rfl, rfl, rfl⟩, (by first | (show (_ : D) = _; with_reducible rfl) | exact rfl), (by first | exact congrArg (D.int .i64) (by omega) | exact ⟨rfl, rfl, rfl⟩ | exact ⟨rfl, rfl, rfl, rfl, rfl⟩ | (show (_ : D) = _; with_reducible rfl)), (by first | (show (_ : D) = _; with_reducible rfl) | exact congrArg (D.int .i64) (by omega) | exact congrArg (D.int .i64) (by simp only [List.length_map]) | exact rfl), trivial⟩, ⟨⟨rfl, rfl, .inl ⟨[_], rfl, rfl⟩⟩, ⟨rfl, rfl, .inl ⟨[_], rfl, rfl⟩⟩, ⟨rfl, rfl, .inl ⟨(c.set l[k].lim.who.toNat true).map .bool, Eq.trans (congrArg (fun z => ((c.map D.bool).map AV.d).set z (.d (.bool true))) (Nat.zero_add _)) (set_row c _ true), rfl⟩⟩, trivial⟩⟩); (have hb0 : ∀ a ∈ l, 0 ≤ a.bytes ∧ a.bytes ≤ 100000 := (by have hh := hIb.2; rw [List.take_of_length_le (by omega)] at hh; exact hh); have hb1 := hb0 l[k] (List.getElem_mem (by omega)); obtain ⟨g1, g2, g3, g4, g5⟩ := hIc; exact ⟨by omega, by first | exact g2 | simp [g2], by omega, by omega, g5.trans (acc_3 (by omega) (by omega) (by assumption) (by assumption))⟩)) | (refine hCc (k + 1) (s) (c) _ _ ?_ (by omega) ?_; clear hCc; rotate_left; (exact ⟨[.old 0, .old 1, .old 2], rfl, rfl, ⟨(by first | (show (_ : D) = _; with_reducible rfl) | exact rfl), ⟨rfl, rfl, rfl⟩, (by first | (show (_ : D) = _; with_reducible rfl) | exact congrArg (D.int .i64) (by omega) | exact congrArg (D.int .i64) (by simp only [List.length_map]) | exact rfl), ⟨rfl, rfl, rfl⟩, (by first | (show (_ : D) = _; with_reducible rfl) | exact rfl), (by first | exact congrArg (D.int .i64) (by omega) | exact ⟨rfl, rfl, rfl⟩ | exact ⟨rfl, rfl, rfl, rfl, rfl⟩ | (show (_ : D) = _; with_reducible rfl)), (by first | (show (_ : D) = _; with_reducible rfl) | exact congrArg (D.int .i64) (by omega) | exact congrArg (D.int .i64) (by simp only [List.length_map]) | exact rfl), trivial⟩, ⟨⟨rfl, rfl, .inl ⟨[_], rfl, rfl⟩⟩, ⟨rfl, rfl, .inl ⟨[_], rfl, rfl⟩⟩, ⟨rfl, rfl, .inl ⟨_, rfl, rfl⟩⟩, trivial⟩⟩); (have hb0 : ∀ a ∈ l, 0 ≤ a.bytes ∧ a.bytes ≤ 100000 := (by have hh := hIb.2; rw [List.take_of_length_le (by omega)] at hh; exact hh); have hb1 := hb0 l[k] (List.getElem_mem (by omega)); obtain ⟨g1, g2, g3, g4, g5⟩ := hIc; exact ⟨by omega, by first | exact g2 | simp [g2], by omega, by omega, g5.trans (acc_x (by omega) (by omega) (by assumption) (by assumption) (by assumption) (by assumption))⟩)))
    | ((with_reducible show Cd _ _); first | (refine hCd (m + 1) (s2 - (runQ x l).1.os[m].used) _ _ ?_ (by omega) ?_; clear hCd; rotate_left; (exact ⟨[.old 0, .old 1, .old 2], rfl, rfl, ⟨⟨rfl, rfl, rfl⟩, (by first | (show (_ : D) = _; with_reducible rfl) | exact congrArg (D.int .i64) (by omega) | exact congrArg (D.int .i64) (by simp only [List.length_map]) | exact rfl), ⟨rfl, rfl, rfl⟩, (by first | exact congrArg (D.int .i64) (by omega) | exact ⟨rfl, rfl, rfl⟩ | exact ⟨rfl, rfl, rfl, rfl, rfl⟩ | (show (_ : D) = _; with_reducible rfl)), (by first | (show (_ : D) = _; with_reducible rfl) | exact congrArg (D.int .i64) (by omega) | exact congrArg (D.int .i64) (by simp only [List.length_map]) | exact rfl), trivial⟩, ⟨⟨rfl, rfl, .inl ⟨[_], rfl, rfl⟩⟩, ⟨rfl, rfl, .inl ⟨[_], rfl, rfl⟩⟩, ⟨rfl, rfl, .inl ⟨_, rfl, rfl⟩⟩, trivial⟩⟩); (exact ⟨by omega, by rw [hId.2, tot_take (by omega)]; omega⟩)))
    | (refine ⟨⟨(by first | rfl | (simp; done)), cap_ok (by simp only [List.length_map, List.length_cons, List.length_nil, List.length_append]; omega) rfl⟩, ?_⟩; conv => whnf)
    | (refine ⟨mem_one ⟨rfl, rfl⟩, ?_⟩; conv => whnf)
    | (refine ⟨(by intro y hy; obtain ⟨x, _, rfl⟩ := List.mem_map.1 hy; first | rfl | exact ⟨rfl, rfl⟩), ?_⟩; conv => whnf)
    | (refine ⟨cap_ok (by first | omega | (simp only [List.length_map]; omega)) rfl, ?_⟩; conv => whnf)
    | (refine ix_map (by omega) ?_; conv => whnf)
    | (refine ix_str (by omega) ?_; conv => whnf)
    | (refine wrap64 (by omega) ?_; conv => whnf)
    | (refine wrap64 (by omega) ?_; conv => whnf)
    | (refine wrap64 (by have hr := tot_rng hI.2; have hu := hv.own x.os[k] (List.getElem_mem (by omega)); have hu2 := hu.used; rw [List.length_take] at hr; omega) ?_; conv => whnf)
    | (refine ⟨⟨by decide, by decide, by decide, (by rw [show (E (E 73).elem).bytes = 1 from rfl]; decide)⟩, ?_⟩; conv => whnf)
    | (refine wrap64 (by have hb0 : ∀ a ∈ l, 0 ≤ a.bytes ∧ a.bytes ≤ 100000 := (by have hh := hIb.2; rw [List.take_of_length_le (by omega)] at hh; exact hh); have hb1 := hb0 l[k] (List.getElem_mem (by omega)); obtain ⟨g1, g2, g3, g4, g5⟩ := hIc; omega) ?_; conv => whnf)
    | (refine ⟨(by have hq := lim_who (x := x) (l := l) (k := k) (by omega) (by omega) (by assumption) (by assumption); omega), ?_⟩; conv => whnf)
    | (refine wrap64 (by have t1 := tot_big (l := (runQ x l).1.os) (fun o ho => (hv2.own o ho).used); have t2 := tot_big (l := (runQ x l).1.os.take m) (fun o ho => (hv2.own o (List.mem_of_mem_take ho)).used); have hyl := hv2.len; have hu := (hv2.own (runQ x l).1.os[m] (List.getElem_mem (by omega))).used; rw [List.length_take] at t2; have hd2 := hId.2; omega) ?_; conv => whnf)
    | (refine wrap64 (by have hyl := hv2.len; omega) ?_; conv => whnf)
    | (refine ⟨(by have hw0 := whoE_0 (hv2.own (runQ x l).1.os[m] (List.getElem_mem (by omega))).who; omega), ?_⟩; conv => whnf)
    | (refine nth_b (by have hw0 := whoE_0 (hv2.own (runQ x l).1.os[m] (List.getElem_mem (by omega))).who; have g2 := hIc.2.1; omega) (fun bb hbb => ?_); conv => whnf)
    | (refine nth_b (by have hq := lim_who (x := x) (l := l) (k := k) (by omega) (by omega) (by assumption) (by assumption); have g2 := hIc.2.1; omega) (fun bb hbb => ?_); conv => whnf)
    | (refine setK_of ?_; conv => whnf)
    | (refine ⟨Nat.le_refl _, ?_⟩; conv => whnf)
    | (refine ⟨⟨(by simp only [List.length_map, List.length_append]; omega), cap_ok (by skip; simp only [List.length_map, List.length_cons, List.length_nil, List.length_append]; omega) rfl⟩, ?_⟩; conv => whnf)
    | (refine ⟨cap_ok (by skip; simp only [List.length_map, List.length_cons, List.length_nil, List.length_append]; omega) rfl, ?_⟩; conv => whnf)
    | (exfalso; simp only [List.length_map, List.length_cons, List.length_nil, List.length_append] at h; omega)
    | ((with_reducible refine endx_go ?_); first | (exact endx rfl; done) | (exfalso; (try simp only [List.length_map] at h); omega; done) | (refine endx (congrArg D.bool (decide_eq_true ?_)); rw [hId.2, List.take_of_length_le (by omega)]; omega; done) | (exfalso; obtain ⟨g1, g2, g3, g4, g5⟩ := hIc; rw [accA_end (by omega)] at g5;  have hw0 := whoE_0 (hv2.own (runQ x l).1.os[m] (List.getElem_mem (by omega))).who; rw [Nat.zero_add, show bb = false by assumption] at hbb; exact no_bad hv hz g5 (m := m) (by omega) (by assumption) hbb hw0.1 (by first | (left; assumption) | (right; assumption)) (by assumption) (by assumption); done))
    | (refine ⟨rfl, ?_⟩; conv => whnf)
    | fail
    )

theorem c8 (x : Quo) (l : List Act) : Fn 8 [x.enc, .fs (l.map Act.enc)] (.bool true) := by
  by_cases hr : runE x l = 0
  · exact c8o x l hr
  · exact c8e x l hr

end Go.Proofs.Ytolfkcmdfgakkaa

/-! Lh -/
namespace Go.Proofs.Ytolfkcmdfgakkaa
open Go Dw Go.ChangeShapes Go.RowKit
theorem own8 : ownKnob Try.prog.godebug = none := by kernel_rfl
theorem laidOut8 : laidOutB Try.prog = true := by kernel_rfl

section
attribute [local irreducible] Run
theorem hrun8 : ∀ xs, shps E 5 Try.f8.params.toList xs → Run Try.prog 8 (xs.map .d) [] (.d (.bool true)) [] := by
  intro xs h
  obtain ⟨x1, r1, rfl, h1, x2, r2, rfl, h2, rfl⟩ := h
  obtain ⟨q, rfl⟩ := shpQuo h1
  obtain ⟨l, rfl⟩ := shpActs h2
  exact c8 q l
end

set_option maxRecDepth 100000 in
theorem lifted8 (os : Os) (started : os.Started) (H : Type) (enc : TypeId × Value → H) :
    ReturnsInHanded {} Try.checked os 8 .any (Rows.quotaConservedSpec.pre6 enc Try.prog Try.f8 Rows.quotaConservedRow.domain false) (Rows.quotaConservedSpec.post enc Try.prog Try.f8 false true false false) := by
  refine returnsInHanded_of_change (C := Try.checked) own8 started (by kernel_rfl) Try.func8
    (ChangeSpec.witness6 (enc := enc) (C := Try.checked) false ⟨#[], #[.agg #[.slice none 0 0, .bool false], .slice none 0 0], []⟩ 8 (by kernel_rfl) (by kernel_rfl) (by kernel_rfl) (by kernel_rfl)) ?_
  intro W base args ds gs before hval hW _ _
  refine law_lift (n := 5) (t4 := 4) eok Try.func8 (by kernel_rfl) rfl laidOut8 rfl ?_ rfl Try.underlying4 (by kernel_rfl) hrun8 W base args ds gs before hval hW
  intro H ds hds
  match ds, hds with
  | [a, b], _ => rfl

theorem over8 : Rows.quotaConservedRow.holds Try.pinned (OpenSpec.ofChange Rows.quotaConservedSpec) :=
  OpenClaim.holds_of_wide 8 Try.f8 rfl rfl rfl rfl rfl rfl rfl ⟨rfl, rfl, rfl, rfl, rfl⟩ rfl rfl rfl rfl rfl (by kernel_rfl) Try.func8 (by kernel_rfl)
    (of_decide_eq_true (by kernel_rfl)) (by unfold Func.isWrapper; first | (rw [if_pos (by decide +kernel)]; kernel_rfl) | (rw [if_neg (by decide +kernel)]; exact ⟨rfl, rfl⟩))
    (fun os started H enc _ => lifted8 os started H enc)
theorem quotaConserved_proved : Rows.QuotaConservedSaid := over8
end Go.Proofs.Ytolfkcmdfgakkaa
