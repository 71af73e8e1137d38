/-
  Own lemmas, no conditions: DwZs, DwZt, DwZu, DwZv.
-/
import Derived.Test.YtbkmjpmgiaiacaaGreatDoorGrpC
set_option linter.unusedVariables false
set_option linter.unusedSimpArgs false

/-! DwZs -/
namespace Dw
open Go Go.RowKit
set_option linter.unusedVariables false

theorem look_new {α : Type} {H H' : List α} {n m : Nat} {y : Option α} (hf : ∀ i, i < m → H'[i]? = H[i]?) (hn : n < m) (h : H[n]? = y) : H'[n]? = y := (hf n hn).trans h
theorem look_set {α : Type} {H H' : List α} {n a : Nat} {y : Option α} (hf : ∀ i, i ≠ a → H'[i]? = H[i]?) (hn : n ≠ a) (h : H[n]? = y) : H'[n]? = y := (hf n hn).trans h
theorem snoc_old {α : Type} {l : List α} {a : α} {k j : Nat} (h : l.length = k) (hj : j < k) : (l ++ [a])[j]? = l[j]? := List.getElem?_append_left (by omega)
theorem snoc_at {α : Type} {l : List α} {a : α} {k : Nat} (h : l.length = k) : (l ++ [a])[k]? = some a := by subst h; simp
theorem new_0 {o : AO} {K : Nat → Heap → Prop} (k : K 0 [o]) : newD [] o K := k
theorem new_1 {a o : AO} {K : Nat → Heap → Prop} (k : K 1 [a, o]) : newD [a] o K := k
theorem new_2 {a b o : AO} {K : Nat → Heap → Prop} (k : K 2 [a, b, o]) : newD [a, b] o K := k
theorem newG {H : Heap} {o : AO} {K : Nat → Heap → Prop} (k : ∀ (n : Nat) (H' : Heap), H.length = n → H'.length = n + 1 → (∀ i, i < n → H'[i]? = H[i]?) → H'[n]? = some o → K n H') : newD H o K := by
  rw [newD_eq]
  exact k _ _ rfl (by simp) (fun i hi => List.getElem?_append_left hi) (by simp)
theorem setG {α : Type} {l : List α} {n : Nat} {v : α} {K : List α → Prop} (hn : n < l.length) (k : ∀ l' : List α, l'.length = l.length → (∀ i, i ≠ n → l'[i]? = l[i]?) → l'[n]? = some v → K l') : setK l n v K := by
  rw [setK_eq]
  exact k _ (by simp) (fun i hi => List.getElem?_set_ne (by omega)) (by simp [hn])
theorem nthG {α : Type} {l : List α} {n : Nat} {x : α} {K : α → Prop} (h : l[n]? = some x) (k : K x) : nthK l n K := nthK_of h k
theorem nthG0 {α : Type} {l : List α} {n : Nat} {x : α} {K : α → Prop} (h : l[n]? = some x) (k : K x) : nthK l (0 + n) K := by rw [Nat.zero_add]; exact nthK_of h k
theorem setGz {α : Type} {l : List α} {n : Nat} {v : α} {K : List α → Prop} (hn : n < l.length) (k : ∀ l' : List α, l'.length = l.length → (∀ i, i ≠ n → l'[i]? = l[i]?) → l'[n]? = some v → K l') : setK l (0 + n) v K := by rw [Nat.zero_add]; exact setG hn k
theorem nthGk {α : Type} {l : List α} {n : Nat} {x : α} {K : α → Prop} (h : l[n]? = some x) (k : K x) : nthK l (0 + (n : Int).toNat) K := nthG0 h k
theorem setGk {α : Type} {l : List α} {n : Nat} {v : α} {K : List α → Prop} (hn : n < l.length) (k : ∀ l' : List α, l'.length = l.length → (∀ i, i ≠ n → l'[i]? = l[i]?) → l'[n]? = some v → K l') : setK l (0 + (n : Int).toNat) v K := setGz hn k
/-- The elements of an own row that are read. -/
theorem srcB {l : List AV} {s len : Nat} {K : List AV → Prop} (h1 : s + len ≤ l.length) (h2 : ((l.drop s).take len).all AV.known = true) (hk : K ((l.drop s).take len)) : s + len ≤ l.length ∧ dropK l s (fun r => onBool (r.length == len) (onOk (r.all AV.known) (K r)) (onOk ((r.take len).all AV.known) (takeK r len K))) := by
  refine ⟨h1, ?_⟩
  rw [dropK_eq]
  by_cases h : ((l.drop s).length == len) = true
  · refine onBool_t h (onOk_of ?_ ?_)
    · have e : (l.drop s).take len = l.drop s := List.take_of_length_le (by have := beq_iff_eq.1 h; omega)
      rwa [e] at h2
    · have e : (l.drop s).take len = l.drop s := List.take_of_length_le (by have := beq_iff_eq.1 h; omega)
      rwa [e] at hk
  · refine onBool_f (by simpa using h) (onOk_of h2 ?_)
    rw [takeK_eq]; exact hk
theorem srcB0 {l : List AV} {s len : Nat} {K : List AV → Prop} (h1 : s + len ≤ l.length) (h2 : ((l.drop s).take len).all AV.known = true) (hk : K ((l.drop s).take len)) : 0 + s + len ≤ l.length ∧ dropK l (0 + s) (fun r => onBool (r.length == len) (onOk (r.all AV.known) (K r)) (onOk ((r.take len).all AV.known) (takeK r len K))) := by
  rw [Nat.zero_add]; exact srcB h1 h2 hk
theorem over_get {l new : List AV} {s j : Nat} (h : s + new.length ≤ l.length) : (over l s new)[j]? = if j < s then l[j]? else if j < s + new.length then new[j - s]? else l[j]? := by
  unfold over
  by_cases h1 : j < s
  · rw [if_pos h1, List.append_assoc, List.getElem?_append_left (by rw [List.length_take]; omega), List.getElem?_take_of_lt h1]
  · rw [if_neg h1]
    by_cases h2 : j < s + new.length
    · rw [if_pos h2, List.append_assoc, List.getElem?_append_right (by rw [List.length_take]; omega), List.length_take, show min s l.length = s by omega, List.getElem?_append_left (by omega)]
    · rw [if_neg h2, List.getElem?_append_right (by rw [List.length_append, List.length_take]; omega), List.length_append, List.length_take, show min s l.length = s by omega, List.getElem?_drop]
      congr 1; omega
theorem over_length {l new : List AV} {s : Nat} (h : s + new.length ≤ l.length) : (over l s new).length = l.length := by
  unfold over
  simp only [List.length_append, List.length_take, List.length_drop]; omega
theorem lt_of_at {α : Type} {l : List α} {n : Nat} {x : α} (h : l[n]? = some x) : n < l.length := (List.getElem?_eq_some_iff.1 h).1
theorem loopG1 {α : Type} {n0 : Nat} {V : List Nat} {W : Env → Heap → (Ex → Env → Heap → Prop) → Prop} {K : Ex → Env → Heap → Prop} {A : Env} {h : Heap} (m : α → Heap → Nat) (I : α → Heap → Prop) (As : α → Heap → Env) (a0 : α) (H0 : Heap)
    (h0 : I a0 H0) (hw : WkG V n0 A h (As a0 H0) H0)
    (step : ∀ (a : α) (H : Heap) (C : Env → Heap → Prop), I a H → (∀ (a' : α) A' H', I a' H' → m a' H' < m a H → sameF A' (As a' H') → C A' H') →
      W (As a H) H (fun ex A' h' => match ex with
        | .normal => C A' h'
        | .exit id => K (.exit id) A' h'
        | .ret => K .ret A' h')) : ∃ n, iterF V n0 W K n A h := by
  have key : ∀ n A h s H0, m s H0 < n → I s H0 → WkG V n0 A h (As s H0) H0 → iterF V n0 W K n A h := by
    intro n
    induction n with
    | zero => intro A h s H0 hm; omega
    | succ n ih =>
      intro A h s H0 hm hI hk
      exact ⟨As s H0, H0, hk, step s H0 (iterF V n0 W K n) hI fun s' A' h' hI' hm' hk' => ih A' h' s' h' (by omega) hI' (.inl ⟨rfl, hk'⟩)⟩
  exact ⟨m a0 H0 + 1, key _ A h a0 H0 (Nat.lt_succ_self _) h0 hw⟩
theorem loopG3 {α β γ : Type} {n0 : Nat} {V : List Nat} {W : Env → Heap → (Ex → Env → Heap → Prop) → Prop} {K : Ex → Env → Heap → Prop} {A : Env} {h : Heap} (m : α → β → γ → Heap → Nat) (I : α → β → γ → Heap → Prop) (As : α → β → γ → Heap → Env) (a0 : α) (b0 : β) (c0 : γ) (H0 : Heap)
    (h0 : I a0 b0 c0 H0) (hw : WkG V n0 A h (As a0 b0 c0 H0) H0)
    (step : ∀ (a : α) (b : β) (c : γ) (H : Heap) (C : Env → Heap → Prop), I a b c H → (∀ (a' : α) (b' : β) (c' : γ) A' H', I a' b' c' H' → m a' b' c' H' < m a b c H → sameF A' (As a' b' c' H') → C A' H') →
      W (As a b c H) H (fun ex A' h' => match ex with
        | .normal => C A' h'
        | .exit id => K (.exit id) A' h'
        | .ret => K .ret A' h')) : ∃ n, iterF V n0 W K n A h :=
  loopG1 (α := α × β × γ) (fun s => m s.1 s.2.1 s.2.2) (fun s => I s.1 s.2.1 s.2.2) (fun s => As s.1 s.2.1 s.2.2) (a0, b0, c0) H0 h0 hw (fun s H C hI hC => step s.1 s.2.1 s.2.2 H C hI (fun a' b' c' A' h' h1 h2 h3 => hC (a', b', c') A' h' h1 h2 h3))

theorem loopG4 {α β γ δ : Type} {n0 : Nat} {V : List Nat} {W : Env → Heap → (Ex → Env → Heap → Prop) → Prop} {K : Ex → Env → Heap → Prop} {A : Env} {h : Heap} (m : α → β → γ → δ → Heap → Nat) (I : α → β → γ → δ → Heap → Prop) (As : α → β → γ → δ → Heap → Env) (a0 : α) (b0 : β) (c0 : γ) (d0 : δ) (H0 : Heap)
    (h0 : I a0 b0 c0 d0 H0) (hw : WkG V n0 A h (As a0 b0 c0 d0 H0) H0)
    (step : ∀ (a : α) (b : β) (c : γ) (d : δ) (H : Heap) (C : Env → Heap → Prop), I a b c d H → (∀ (a' : α) (b' : β) (c' : γ) (d' : δ) A' H', I a' b' c' d' H' → m a' b' c' d' H' < m a b c d H → sameF A' (As a' b' c' d' H') → C A' H') →
      W (As a b c d H) H (fun ex A' h' => match ex with
        | .normal => C A' h'
        | .exit id => K (.exit id) A' h'
        | .ret => K .ret A' h')) : ∃ n, iterF V n0 W K n A h :=
  loopG1 (α := α × β × γ × δ) (fun s => m s.1 s.2.1 s.2.2.1 s.2.2.2) (fun s => I s.1 s.2.1 s.2.2.1 s.2.2.2) (fun s => As s.1 s.2.1 s.2.2.1 s.2.2.2) (a0, b0, c0, d0) H0 h0 hw (fun s H C hI hC => step s.1 s.2.1 s.2.2.1 s.2.2.2 H C hI (fun a' b' c' d' A' h' h1 h2 h3 => hC (a', b', c', d') A' h' h1 h2 h3))
theorem loopG5 {α β γ δ ε : Type} {n0 : Nat} {V : List Nat} {W : Env → Heap → (Ex → Env → Heap → Prop) → Prop} {K : Ex → Env → Heap → Prop} {A : Env} {h : Heap} (m : α → β → γ → δ → ε → Heap → Nat) (I : α → β → γ → δ → ε → Heap → Prop) (As : α → β → γ → δ → ε → Heap → Env) (a0 : α) (b0 : β) (c0 : γ) (d0 : δ) (e0 : ε) (H0 : Heap)
    (h0 : I a0 b0 c0 d0 e0 H0) (hw : WkG V n0 A h (As a0 b0 c0 d0 e0 H0) H0)
    (step : ∀ (a : α) (b : β) (c : γ) (d : δ) (e : ε) (H : Heap) (C : Env → Heap → Prop), I a b c d e H → (∀ (a' : α) (b' : β) (c' : γ) (d' : δ) (e' : ε) A' H', I a' b' c' d' e' H' → m a' b' c' d' e' H' < m a b c d e H → sameF A' (As a' b' c' d' e' H') → C A' H') →
      W (As a b c d e H) H (fun ex A' h' => match ex with
        | .normal => C A' h'
        | .exit id => K (.exit id) A' h'
        | .ret => K .ret A' h')) : ∃ n, iterF V n0 W K n A h :=
  loopG1 (α := α × β × γ × δ × ε) (fun s => m s.1 s.2.1 s.2.2.1 s.2.2.2.1 s.2.2.2.2) (fun s => I s.1 s.2.1 s.2.2.1 s.2.2.2.1 s.2.2.2.2) (fun s => As s.1 s.2.1 s.2.2.1 s.2.2.2.1 s.2.2.2.2) (a0, b0, c0, d0, e0) H0 h0 hw (fun s H C hI hC => step s.1 s.2.1 s.2.2.1 s.2.2.2.1 s.2.2.2.2 H C hI (fun a' b' c' d' e' A' h' h1 h2 h3 => hC (a', b', c', d', e') A' h' h1 h2 h3))
theorem loopG6 {α β γ δ ε ζ : Type} {n0 : Nat} {V : List Nat} {W : Env → Heap → (Ex → Env → Heap → Prop) → Prop} {K : Ex → Env → Heap → Prop} {A : Env} {h : Heap} (m : α → β → γ → δ → ε → ζ → Heap → Nat) (I : α → β → γ → δ → ε → ζ → Heap → Prop) (As : α → β → γ → δ → ε → ζ → Heap → Env) (a0 : α) (b0 : β) (c0 : γ) (d0 : δ) (e0 : ε) (g0 : ζ) (H0 : Heap)
    (h0 : I a0 b0 c0 d0 e0 g0 H0) (hw : WkG V n0 A h (As a0 b0 c0 d0 e0 g0 H0) H0)
    (step : ∀ (a : α) (b : β) (c : γ) (d : δ) (e : ε) (g : ζ) (H : Heap) (C : Env → Heap → Prop), I a b c d e g H → (∀ (a' : α) (b' : β) (c' : γ) (d' : δ) (e' : ε) (g' : ζ) A' H', I a' b' c' d' e' g' H' → m a' b' c' d' e' g' H' < m a b c d e g H → sameF A' (As a' b' c' d' e' g' H') → C A' H') →
      W (As a b c d e g H) H (fun ex A' h' => match ex with
        | .normal => C A' h'
        | .exit id => K (.exit id) A' h'
        | .ret => K .ret A' h')) : ∃ n, iterF V n0 W K n A h :=
  loopG1 (α := α × β × γ × δ × ε × ζ) (fun s => m s.1 s.2.1 s.2.2.1 s.2.2.2.1 s.2.2.2.2.1 s.2.2.2.2.2) (fun s => I s.1 s.2.1 s.2.2.1 s.2.2.2.1 s.2.2.2.2.1 s.2.2.2.2.2) (fun s => As s.1 s.2.1 s.2.2.1 s.2.2.2.1 s.2.2.2.2.1 s.2.2.2.2.2) (a0, b0, c0, d0, e0, g0) H0 h0 hw (fun s H C hI hC => step s.1 s.2.1 s.2.2.1 s.2.2.2.1 s.2.2.2.2.1 s.2.2.2.2.2 H C hI (fun a' b' c' d' e' g' A' h' h1 h2 h3 => hC (a', b', c', d', e', g') A' h' h1 h2 h3))
/-- slices.Clone of plain data, whatever its elements hold. -/
theorem run_cloneD {P : Program} {f k : Nat} (hc : ClSpec P f k) {H : Heap} {l : List D} (hl : l.length < 1000000) (hk : ∀ y ∈ l, y.cells.length = k ∧ y.memOk = true) :
    Run P f [.d (.fs l)] H (.sl H.length 0 l.length k none) (H ++ [⟨l.map .d, k, 0⟩]) := by
  refine run_at (σ := []) (F := []) (H := H) (fl := false) (hc l hl hk) List.nodup_nil (fun _ _ h => by cases h) ?_ (by simp [embH]) (fun h => by cases h) ?_ ?_
  · exact embs_views H [.d (.fs l)] [.fs l] _ (by simp [reach]) (vl_data H [.fs l])
  · simp [ren, tau]
  · simp [outH, setAll, renO, freeze]
    intro a _; rfl
/-- The same, the heap behind it a variable. -/
theorem clone_stepG {P : Program} {f k : Nat} (hc : ClSpec P f k) {H : Heap} {l : List D} {K : KV} (hl : l.length < 1000000) (hk : ∀ y ∈ l, y.cells.length = k ∧ y.memOk = true)
    (kk : ∀ (n : Nat) (H' : Heap), H.length = n → H'.length = n + 1 → (∀ i, i < n → H'[i]? = H[i]?) → H'[n]? = some ⟨l.map .d, k, 0⟩ → K (.sl n 0 l.length k none) H') : ∃ r h', Run P f [.d (.fs l)] H r h' ∧ K r h' :=
  ⟨_, _, run_cloneD hc hl hk, kk _ _ rfl (by simp) (fun i hi => List.getElem?_append_left hi) (by simp)⟩
theorem clone_mapG {P : Program} {f k : Nat} (hc : ClSpec P f k) {α : Type} {g : α → D} {H : Heap} {l : List α} {K : KV} (hl : l.length < 1000000) (hk : ∀ x ∈ l, (g x).cells.length = k ∧ (g x).memOk = true)
    (kk : ∀ (n : Nat) (H' : Heap), H.length = n → H'.length = n + 1 → (∀ i, i < n → H'[i]? = H[i]?) → H'[n]? = some ⟨(l.map g).map .d, k, 0⟩ → K (.sl n 0 l.length k none) H') : ∃ r h', Run P f [.d (.fs (l.map g))] H r h' ∧ K r h' := by
  refine clone_stepG hc (l := l.map g) (by rw [List.length_map]; exact hl) (fun y hy => ?_) fun n H' h1 h2 h3 h4 => by rw [List.length_map]; exact kk n H' h1 h2 h3 h4
  obtain ⟨x, hx, rfl⟩ := List.mem_map.1 hy
  exact hk x hx
end Dw

/-! DwZt -/
namespace Dw
open Go Go.RowKit
set_option linter.unusedVariables false

theorem out_dstK (d : Option Nat) (v : AV) (T : List AV) : Out (dstK d v T) := by
  show Out (fun K => dstK d v T K)
  unfold dstK
  split
  · simp only [setK_eq]; exact out_ret
  · exact out_ret
abbrev KT := List AV × Heap → Prop
theorem out_guardD {α : Type} (all : List Oper) (T : List AV) (g : Option (Nat × Bool)) {A B : List AV → (α → Prop) → Prop} (hA : ∀ T, Out (A T)) (hB : ∀ T, Out (B T)) : Out (fun K => guardD all T g (fun T => A T K) (fun T => B T K)) := by
  unfold guardD
  split
  · exact hA T
  · split
    · simp only [getK_eq]
      split
      · simp only [setK_eq]
        exact out_bool (out_bool (hA _) (hB _)) (out_bool (hB _) (hA _))
      · exact hB T
      · exact out_false
    · exact out_false
theorem out_op {α : Type} {E : TE} {R : Rel} {T : List AV} {h : Heap} {o : Op} {G : AV → Heap → (α → Prop) → Prop} (g : ∀ v h', Out (G v h')) : Out (fun K => opD E R T h o (fun v h' => G v h' K)) := fun K hk => by
  obtain ⟨v, h', h1, h2⟩ := opD_out hk
  obtain ⟨a, h3, h4⟩ := g v h' K h1
  exact ⟨a, h3, fun K' h5 => h2 _ (h4 K' h5)⟩
theorem out_regD (E : TE) (R : Rel) (all : List Oper) : ∀ (l : List Oper) (T : List AV) (h : Heap), Out (fun K : KT => regD E R all l T h (fun T h => K (T, h)))
  | [], T, h => by simp only [regD]; exact out_ret
  | o :: l, T, h => by
    simp only [regD]
    refine out_guardD (α := List AV × Heap) all T o.guard (A := fun T K => opD E R T h o.op (fun v h' => dstK o.dst v T (fun T' => regD E R all l T' h' (fun T h => K (T, h))))) (B := fun T K => dstK o.dst .und T (fun T' => regD E R all l T' h (fun T h => K (T, h)))) (fun T => ?_) (fun T => ?_)
    · exact out_op (G := fun v h' K => dstK o.dst v T (fun T' => regD E R all l T' h' (fun T h => K (T, h)))) fun v h' => out_bind (out_dstK o.dst v T) fun T' => out_regD E R all l T' h'
    · exact out_bind (out_dstK o.dst .und T) fun T' => out_regD E R all l T' h
theorem out_readsK {α : Type} (T : List AV) (o : Op) {G : Option Nat → (α → Prop) → Prop} (g : ∀ r, Out (G r)) : Out (fun K => readsK T o (fun r => G r K)) := by
  unfold readsK
  split <;> (try exact g none) <;> (rw [show (opndK T _ : (AV → Prop) → Prop) = _ from rfl]; simp only [opndK_eq]; split <;> exact g _)
theorem out_evD {α : Type} (ps : List (Nat × Nat)) (e : Ev) : ∀ (l : List Ev) {F : (α → Prop) → Prop}, Out F → Out (fun K => evD ps e l (F K))
  | [], F, hF => by cases e <;> (simp only [evD]; exact hF)
  | x :: l, F, hF => by
    have ih := out_evD ps e l hF
    cases e <;> cases x <;> simp only [evD] <;> first | exact ih | exact out_bool (out_and ih) ih
theorem out_drawR (E : TE) (R : Rel) (all : List Oper) (ps : List (Nat × Nat)) : ∀ (l : List (Nat × Oper)) (L : List Ev) (T : List AV) (h : Heap), Out (fun K : KT => drawR E R all ps l L T h (fun T h => K (T, h)))
  | [], L, T, h => by simp only [drawR]; exact out_ret
  | (i, o) :: l, L, T, h => by
    simp only [drawR]
    refine out_guardD (α := List AV × Heap) all T o.guard (A := fun T K => opD E R T h o.op (fun v h' => dstK o.dst v T (fun T' =>
        match cls E o.op with
        | 0 => drawR E R all ps l L T' h' (fun T h => K (T, h))
        | 1 => readsK T o.op (fun r => match r with
          | some id => evD ps (.read i id) L (drawR E R all ps l (.read i id :: L) T' h' (fun T h => K (T, h)))
          | none => drawR E R all ps l L T' h' (fun T h => K (T, h)))
        | 2 => match v with
          | .ptr id _ _ => drawR E R all ps l (.made i id :: L) T' h' (fun T h => K (T, h))
          | _ => False
        | _ => evD ps (.heap i h h') L (drawR E R all ps l (.heap i h h' :: L) T' h' (fun T h => K (T, h)))))) (B := fun T K => dstK o.dst .und T (fun T' => drawR E R all ps l L T' h (fun T h => K (T, h)))) (fun T => ?_) (fun T => ?_)
    · refine out_op (G := fun v h' K => dstK o.dst v T (fun T' => _)) fun v h' => out_bind (out_dstK o.dst v T) (G := fun T' K => match cls E o.op with
        | 0 => drawR E R all ps l L T' h' (fun T h => K (T, h))
        | 1 => readsK T o.op (fun r => match r with
          | some id => evD ps (.read i id) L (drawR E R all ps l (.read i id :: L) T' h' (fun T h => K (T, h)))
          | none => drawR E R all ps l L T' h' (fun T h => K (T, h)))
        | 2 => match v with
          | .ptr id _ _ => drawR E R all ps l (.made i id :: L) T' h' (fun T h => K (T, h))
          | _ => False
        | _ => evD ps (.heap i h h') L (drawR E R all ps l (.heap i h h' :: L) T' h' (fun T h => K (T, h)))) fun T' => ?_
      split
      · exact out_drawR E R all ps l L T' h'
      · refine out_readsK T o.op (G := fun r K => match r with
          | some id => evD ps (.read i id) L (drawR E R all ps l (.read i id :: L) T' h' (fun T h => K (T, h)))
          | none => drawR E R all ps l L T' h' (fun T h => K (T, h))) fun r => ?_
        cases r with
        | none => exact out_drawR E R all ps l L T' h'
        | some id => exact out_evD ps _ L (out_drawR E R all ps l _ T' h')
      · split
        · exact out_drawR E R all ps l _ T' h'
        · exact out_false
      · exact out_evD ps _ L (out_drawR E R all ps l _ T' h')
    · exact out_bind (out_dstK o.dst .und T) fun T' => out_drawR E R all ps l L T' h
abbrev KX := Ex × List AV × Heap → Prop
theorem out_cutD {C V : List Nat} {n0 id : Nat} {T : List AV} {h : Heap} {F : List AV → Heap → (KX) → Prop} (hF : ∀ T h, Out (F T h)) : Out (fun K : KX => cutD C V n0 id T h (fun T h => F T h K)) := by
  unfold cutD
  split
  · exact out_ex fun T1 => out_ex fun h1 => out_and (hF T1 h1)
  · exact hF T h
theorem out_iterD {V : List Nat} {n0 : Nat} {W : List AV → Heap → (Ex → List AV → Heap → Prop) → Prop} (hW : ∀ T h, Out (fun K : KX => W T h (fun ex T h => K (ex, T, h)))) : ∀ (n : Nat) (T : List AV) (h : Heap), Out (fun K : KX => iterD V n0 W (fun ex T h => K (ex, T, h)) n T h)
  | 0, T, h => out_false
  | n + 1, T, h => by
    simp only [iterD]
    refine out_ex fun T1 => out_ex fun h1 => out_and ?_
    refine out_bind (F := fun K : KX => W T1 h1 (fun ex T h => K (ex, T, h))) (G := fun (x : Ex × List AV × Heap) (K : KX) => match x.1 with
      | .normal => iterD V n0 W (fun ex T h => K (ex, T, h)) n x.2.1 x.2.2
      | .exit id => K (.exit id, x.2.1, x.2.2)
      | .ret => K (.ret, x.2.1, x.2.2)) (hW T1 h1) fun x => ?_
    obtain ⟨ex, T', h'⟩ := x
    cases ex with
    | normal => exact out_iterD hW n T' h'
    | exit id => exact out_ret
    | ret => exact out_ret
theorem out_codeD (E : TE) (R : Rel) (C V : List Nat) (n0 : Nat) : ∀ (c : Code) (T : List AV) (h : Heap), Out (fun K : KX => codeD E R C V n0 c T h (fun ex T h => K (ex, T, h)))
  | .skip, T, h => by simp only [codeD]; exact out_ret
  | .region id ops false, T, h => by
    simp only [codeD]
    exact out_cutD (F := fun T h K => regD E R ops.toList ops.toList T h (fun T h => K (.normal, T, h))) fun T h K hk => by
      obtain ⟨⟨T', h'⟩, h1, h2⟩ := out_regD E R ops.toList ops.toList T h (fun p => K (.normal, p.1, p.2)) hk
      exact ⟨(.normal, T', h'), h1, fun K' h3 => h2 (fun p => K' (.normal, p.1, p.2)) h3⟩
  | .region id ops true, T, h => by
    simp only [codeD]
    exact out_cutD (F := fun T h K => drawD E R ops.toList T h (fun T h => K (.normal, T, h))) fun T h K hk => by
      obtain ⟨fl, ps, hd, hk⟩ := hk
      obtain ⟨⟨T', h'⟩, h1, h2⟩ := out_drawR (flagE E fl) R ops.toList ps _ [] T h (fun p => K (.normal, p.1, p.2)) hk
      exact ⟨(.normal, T', h'), h1, fun K' h3 => ⟨fl, ps, hd, h2 (fun p => K' (.normal, p.1, p.2)) h3⟩⟩
  | .seq x y, T, h => by
    simp only [codeD]
    refine out_bind (F := fun K : KX => codeD E R C V n0 x T h (fun ex T h => K (ex, T, h))) (G := fun (p : Ex × List AV × Heap) (K : KX) => match p.1 with
      | .normal => codeD E R C V n0 y p.2.1 p.2.2 (fun ex T h => K (ex, T, h))
      | .exit id => K (.exit id, p.2.1, p.2.2)
      | .ret => K (.ret, p.2.1, p.2.2)) (out_codeD E R C V n0 x T h) fun p => ?_
    obtain ⟨ex, T', h'⟩ := p
    cases ex with
    | normal => exact out_codeD E R C V n0 y T' h'
    | exit id => exact out_ret
    | ret => exact out_ret
  | .cond c x y, T, h => by
    simp only [codeD]
    unfold condK
    split
    · simp only [getK_eq]
      split
      · simp only [setK_eq]
        exact out_bool (out_codeD E R C V n0 x _ h) (out_codeD E R C V n0 y _ h)
      · exact out_false
    · exact out_bool (out_codeD E R C V n0 x _ h) (out_codeD E R C V n0 y _ h)
    · exact out_false
  | .block id c, T, h => by
    simp only [codeD]
    refine out_bind (F := fun K : KX => codeD E R C V n0 c T h (fun ex T h => K (ex, T, h))) (G := fun (p : Ex × List AV × Heap) (K : KX) => match p.1 with
      | .normal => K (.normal, p.2.1, p.2.2)
      | .exit i => onBool (Nat.beq i id) (K (.normal, p.2.1, p.2.2)) (K (.exit i, p.2.1, p.2.2))
      | .ret => K (.ret, p.2.1, p.2.2)) (out_codeD E R C V n0 c T h) fun p => ?_
    obtain ⟨ex, T', h'⟩ := p
    cases ex with
    | normal => exact out_ret
    | exit id => exact out_bool out_ret out_ret
    | ret => exact out_ret
  | .loop c, T, h => by
    simp only [codeD]
    exact out_ex fun n => out_iterD (fun T h => out_codeD E R C V n0 c T h) n T h
  | .exit id, T, h => by simp only [codeD]; exact out_ret
  | .ret, T, h => by simp only [codeD]; exact out_ret
  | .rangeFunc .., T, h => by simp only [codeD]; exact out_false
  | .scope .., T, h => by simp only [codeD]; exact out_false
  | .label .., T, h => by simp only [codeD]; exact out_false
  | .goto .., T, h => by simp only [codeD]; exact out_false
  | .refuse .., T, h => by simp only [codeD]; exact out_false
theorem out_resD (E : TE) (h : Heap) (T : List AV) : ∀ (rs : List ResultVar), Out (resD E h T rs)
  | [] => by show Out (fun K => resD E h T [] K); simp only [resD]; exact out_ret
  | .tmp t :: l => by
    show Out (fun K => resD E h T (.tmp t :: l) K)
    simp only [resD, getK_eq]
    exact out_bind (out_resD E h T l) fun _ => out_ret
  | .cell a t :: l => by
    show Out (fun K => resD E h T (.cell a t :: l) K)
    simp only [resD, getK_eq]
    exact out_bind (out_loadD _ _ _) fun v => out_bind (out_resD E h T l) fun _ => out_ret

/-- What the end of a function has to show. -/
structure EndQ (Q : AV → Heap → Prop) (a : AV) (h : Heap) : Prop where
  stop : Stop
  out : Q a h
noncomputable def endFQ (E : TE) (rs : List ResultVar) (Q : AV → Heap → Prop) : Ex → Env → Heap → Prop
  | .exit _, _, _ => False
  | .normal, A, h => resF E h A rs (fun l => EndQ Q (tupD l) h)
  | .ret, A, h => resF E h A rs (fun l => EndQ Q (tupD l) h)
noncomputable def BodyQ (E : TE) (R : Rel) (fn : Func) (args : List AV) (h : Heap) (Q : AV → Heap → Prop) : Prop :=
  match fn.body with
  | some c => codeF E R [] [] h.length c (startF 0 args) h (endFQ E fn.results.toList Q)
  | none => False
theorem endq {Q : AV → Heap → Prop} {a : AV} {h : Heap} (q : Q a h) : EndQ Q a h := ⟨.mk, q⟩
theorem endq_go {Q : AV → Heap → Prop} {a : AV} {h : Heap} (q : EndQ Q a h) : EndQ Q a h := q

/-- The temporaries at a function's start are those that are written out. -/
theorem start_rep {fn : Func} {c : Code} (args : List AV) (hbd : bdC fn.ntmps c = true) : ∃ N, Rep N (args ++ List.replicate (fn.ntmps - args.length) .junk) (startF 0 args) ∧ bdC N c = true := by
  by_cases hN : args.length ≤ fn.ntmps
  · refine ⟨fn.ntmps, ⟨by simp; omega, fun n => ?_⟩, hbd⟩
    rw [look_startF, if_pos (Nat.zero_le _), Nat.sub_zero, nth_get, nth_get]
    by_cases hi : n < args.length
    · rw [List.getElem?_append_left hi]
    · rw [List.getElem?_append_right (by omega), List.getElem?_eq_none (by omega), List.getElem?_replicate]
      split <;> rfl
  · refine ⟨args.length, ?_, ?_⟩
    · have h0 : fn.ntmps - args.length = 0 := by omega
      rw [h0]
      refine ⟨by simp, fun n => ?_⟩
      rw [look_startF, if_pos (Nat.zero_le _), Nat.sub_zero]
      simp
    · have hm : ∀ (o : Oper), bdO fn.ntmps o = true → bdO args.length o = true := by
        intro o ho
        cases hd : o.dst with
        | none => simp [bdO, hd]
        | some t =>
          simp only [bdO, hd, Nat.blt_eq] at ho ⊢
          omega
      have hc : ∀ (c : Code), bdC fn.ntmps c = true → bdC args.length c = true := by
        intro c
        induction c using bdC.induct with
        | case1 _ ops _ => intro h; simp only [bdC, List.all_eq_true] at h ⊢; exact fun o ho => hm o (h o ho)
        | case2 a b iha ihb => intro h; simp only [bdC, Bool.and_eq_true] at h ⊢; exact ⟨iha h.1, ihb h.2⟩
        | case3 _ a b iha ihb => intro h; simp only [bdC, Bool.and_eq_true] at h ⊢; exact ⟨iha h.1, ihb h.2⟩
        | case4 _ c ih => intro h; simp only [bdC] at h ⊢; exact ih h
        | case5 c ih => intro h; simp only [bdC] at h ⊢; exact ih h
        | case6 => intro h; simp_all [bdC]
      exact hc c hbd

section
variable {P : Program} {E : TE} (hE : EOK P E)
include hE

theorem run_ofD {f : Nat} {fn : Func} {c : Code} (hf : P.funcs[f]? = some fn) (hn : (fn.name == "runtime.NumGoroutine") = false) (hc : fn.body = some c) {args : List AV} {h h1 : Heap} {r : AV}
    (hk : codeD E (Run P) [] [] h.length c (args ++ List.replicate (fn.ntmps - args.length) .junk) h (endD E [] h.length fn.results.toList r h1)) : Run P f args h r h1 := by
  intro B W w st vs hw ha
  have hb : fn.body.isNone = false := by simp [hc]
  have hcall : (callFunc f vs.toArray).run P w = .ok (.enter f vs.toArray) w := by
    simp only [callFunc, Sem.run_bind, run_program, Result.andThen_ok, hf, hn, hb, Bool.false_eq_true, if_false, Sem.run_pure]
  rw [hcall]
  show Calls P f vs.toArray w _
  refine calls_of_wp hf hc ?_
  have hl := ((aVs_iff _ _).1 ha).1
  have hg0 : ∀ i, st.G i → i < st.n := hw.gho
  have hlen := hw.len
  have hT : aT w st (args ++ List.replicate (fn.ntmps - args.length) .junk) (vs.toArray ++ Array.replicate (fn.ntmps - vs.toArray.size) undef) := by
    refine ⟨by simp [hl], fun i => ?_⟩
    rw [nth_get]
    by_cases hi : i < args.length
    · have h1 : (args ++ List.replicate (fn.ntmps - args.length) AV.junk)[i]? = some args[i] := by rw [List.getElem?_append_left hi]; exact List.getElem?_eq_getElem hi
      have h2 : (vs.toArray ++ Array.replicate (fn.ntmps - vs.toArray.size) undef).getD i undef = vs[i] := by
        simp [Array.getElem?_append, hl, hi]
      rw [h1, h2]
      exact ((aVs_iff _ _).1 ha).2 i _ _ (List.getElem?_eq_getElem hi) (List.getElem?_eq_getElem (by omega))
    · have h1 : ((args ++ List.replicate (fn.ntmps - args.length) AV.junk)[i]?).getD .junk = .junk := by
        rw [List.getElem?_append_right (by omega), List.getElem?_replicate]
        split <;> rfl
      rw [h1]
      exact aV_junk _ _ _
  refine codeD_sound hE (drawSound hE) (Run.sub (P := P) (B := B) (W := W)) (w0 := w) (st0 := st) (n0 := h.length) (C := []) (V := []) hg0 (by omega) (fun _ h => by cases h) c _ h _ w _ _ ?_ ⟨rfl, st, hw, hT, Ext.refl _ _, rfl⟩ hk
  intro ex T h' a w' hk hI
  cases ex with
  | exit id => exact hk.elim
  | normal =>
    simp only [endD] at hk
    rw [← hlen] at hk
    obtain ⟨hd, v, h1, h2⟩ := endD_sound hE hI hg0 (fun _ h => by cases h) hk
    exact ⟨hd, v, h1, v, rfl, h2⟩
  | ret =>
    simp only [endD] at hk
    rw [← hlen] at hk
    obtain ⟨hd, v, h1, h2⟩ := endD_sound hE hI hg0 (fun _ h => by cases h) hk
    exact ⟨hd, v, h1, v, rfl, h2⟩

/-- A contract whose result and heap are not written out, from a walk. -/
theorem run_walkQ {f : Nat} {fn : Func} (hf : P.funcs[f]? = some fn) (hn : (fn.name == "runtime.NumGoroutine") = false) (hbd : bdF fn = true) {args : List AV} {h : Heap} {Q : AV → Heap → Prop} (hk : BodyQ E (Run P) fn args h Q) : ∃ r h1, Run P f args h r h1 ∧ Q r h1 := by
  unfold BodyQ at hk
  unfold bdF at hbd
  split at hk
  · rename_i c hc
    simp only [hc] at hbd
    obtain ⟨N, hr, hb⟩ := start_rep (fn := fn) args hbd
    have hd := codeF_sound (N := N) c _ _ h (fun ex T h => match ex with
      | .exit _ => False
      | _ => resD E h T fn.results.toList (fun l => Q (tupD l) h)) _ hb hr (fun ex T' A' h' hr' hk' => by
      have key : resF E h' A' fn.results.toList (fun l => EndQ Q (tupD l) h') → resD E h' T' fn.results.toList (fun l => Q (tupD l) h') := fun hk => by
        obtain ⟨l, k1, k2⟩ := out_resD E h' T' _ _ (resF_sound hr' _ _ hk)
        exact k2 _ k1.out
      cases ex with
      | normal => exact key hk'
      | exit id => exact hk'.elim
      | ret => exact key hk') hk
    obtain ⟨⟨ex, T', h'⟩, q1, q2⟩ := out_codeD E (Run P) [] [] h.length c _ h (fun p => match p.1 with
      | .exit _ => False
      | _ => resD E p.2.2 p.2.1 fn.results.toList (fun l => Q (tupD l) p.2.2)) hd
    have key : resD E h' T' fn.results.toList (fun l => Q (tupD l) h') → ex ≠ .exit 0 ∧ (∀ id, ex ≠ .exit id) → ∃ r h1, Run P f args h r h1 ∧ Q r h1 := fun hq hne => by
      obtain ⟨l, k1, k2⟩ := out_resD E h' T' _ _ hq
      refine ⟨tupD l, h', run_ofD hE hf hn hc (q2 (fun p => endD E [] h.length fn.results.toList (tupD l) h' p.1 p.2.1 p.2.2) ?_), k1⟩
      cases ex with
      | normal => exact k2 _ (.inr ⟨rfl, rfl⟩)
      | exit id => exact absurd rfl (hne.2 id)
      | ret => exact k2 _ (.inr ⟨rfl, rfl⟩)
    cases ex with
    | normal => exact key q1 ⟨by simp, by simp⟩
    | exit id => exact q1.elim
    | ret => exact key q1 ⟨by simp, by simp⟩
  · exact hk.elim
end
/-- A call with such a contract. -/
theorem call_stepQ {P : Program} {f : Nat} {args : List AV} {H : Heap} {K : KV} {Q : AV → Heap → Prop} (hR : ∃ r h1, Run P f args H r h1 ∧ Q r h1) (k : ∀ r h', Q r h' → K r h') : ∃ r h', Run P f args H r h' ∧ K r h' := by
  obtain ⟨r, h1, h2, h3⟩ := hR
  exact ⟨r, h1, h2, k r h1 h3⟩
/-- A function's result is all given away as data. -/
theorem run_give {P : Program} {f : Nat} {args : List AV} {r : AV} {H1 : Heap} {x : D} (hr : Run P f args [] r H1) (hv : view 8 H1 r = some x) : Run P f args [] (.d x) [] := by
  intro B W w st vs hw ha
  refine (hr B W w st vs hw ha).mono fun v w' hp => ?_
  obtain ⟨st', i1, i2, i3, i4⟩ := hp
  have h0 : st.n = 0 := hw.len
  obtain ⟨s1, w1, e1, g1, r1, n1, f1⟩ := i1.freeze (reach 8 H1 r)
  obtain ⟨us, u1, u2⟩ := i2
  have hc := view_cC i1 (S := s1.S) (fun b hb => n1 b hb) 8 r x us (fun id hid rr hr hm => by
    obtain ⟨o, ho, _⟩ := i1.dom id rr hr
    exact f1 id rr o hid hr hm ho) hv u2
  have k6 : Wk [] st.n [.d x] (freeze H1 (reach 8 H1 r)) [.d x] [] := ⟨[], by rw [h0]; rfl, rfl, ⟨rfl, trivial⟩, trivial⟩
  obtain ⟨st1, s2, s3, s4, s5⟩ := k6.sound w1 (i3.trans e1) (g1.trans i4) (Nat.le_refl _) hw.gho (fun _ h => by cases h)
  have hxx : (AV.d x).isAgg = r.isAgg := by rw [← view_isAgg hv]; cases x <;> rfl
  have := s5 [_] (by simp only [aVs]; exact ⟨_, [], us, rfl, by rw [hxx]; exact u1, by simpa [aC] using hc, rfl⟩)
  simp only [aVs] at this
  obtain ⟨v, t, us', f1, f2, f3, f4⟩ := this
  cases f1
  exact ⟨st1, s2, ⟨us', f2, f3⟩, s3, s4⟩
end Dw

/-! DwZu -/
namespace Dw
open Go Go.RowKit
set_option linter.unusedVariables false

theorem run_giveH {P : Program} {f : Nat} {args : List AV} {h : Heap} {r : AV} {H1 : Heap} {x : D} (hr : Run P f args h r H1) (hv : view 8 H1 r = some x) : Run P f args h (.d x) (freeze H1 (reach 8 H1 r)) := by
  intro B W w st vs hw ha
  refine (hr B W w st vs hw ha).mono fun v w' hp => ?_
  obtain ⟨st', i1, i2, i3, i4⟩ := hp
  obtain ⟨s1, w1, e1, g1, r1, n1, f1⟩ := i1.freeze (reach 8 H1 r)
  obtain ⟨us, u1, u2⟩ := i2
  have hc := view_cC i1 (S := s1.S) (fun b hb => n1 b hb) 8 r x us (fun id hid rr hr hm => by
    obtain ⟨o, ho, _⟩ := i1.dom id rr hr
    exact f1 id rr o hid hr hm ho) hv u2
  have hxx : (AV.d x).isAgg = r.isAgg := by rw [← view_isAgg hv]; cases x <;> rfl
  exact ⟨s1, w1, ⟨us, by rw [hxx]; exact u1, by simpa [aC] using hc⟩, i3.trans e1, g1.trans i4⟩

theorem aCs_d {w : World} {st : St} : ∀ (xs : List D) (vs : List Value), aCs w st (xs.map .d) vs → cCs w st.S xs vs
  | [], vs, h => by simpa [aCs, cCs] using h
  | x :: xs, vs, h => by
    simp only [List.map_cons, aCs, cCs] at h ⊢
    obtain ⟨v, r, h1, h2, h3, h4⟩ := h
    refine ⟨v, r, h1, ?_, by simpa [aC] using h3, aCs_d xs r h4⟩
    cases x <;> first | (simp [AV.cellOk, AV.one, D.one]; done) | (simp [AV.cellOk, AV.one, D.one] at h2; done) | (simp [AV.cellOk, AV.one, D.one] at h2 ⊢; exact h2)
theorem aV_aggd {w : World} {st : St} {xs : List D} {v : Value} (h : aV w st (.agg (xs.map .d)) v) : aV w st (.d (.agg xs)) v := by
  obtain ⟨us, h1, h2⟩ := h
  exact ⟨us, h1, by simp only [aC, cC] at h2 ⊢; exact aCs_d _ _ h2⟩
theorem run_agg2 {P : Program} {f : Nat} {a : AV} {xs : List D} {h : Heap} {r : AV} {H1 : Heap} (hr : Run P f [a, .d (.agg xs)] h r H1) : Run P f [a, .agg (xs.map .d)] h r H1 := by
  intro B W w st vs hw ha
  refine hr B W w st vs hw ?_
  simp only [aVs] at ha ⊢
  obtain ⟨v, t, us, h1, h2, h3, v2, t2, us2, g1, g2, g3, g4⟩ := ha
  have hq : aV w st (.agg (xs.map .d)) v2 := ⟨us2, g2, g3⟩
  obtain ⟨us3, q1, q2⟩ := aV_aggd hq
  exact ⟨v, t, us, h1, h2, h3, v2, t2, us3, g1, q1, q2, g4⟩

theorem freeze_at {F : List Nat} {H : Heap} {id : Nat} (h : id ∉ F) : (freeze H F)[id]? = H[id]? := by
  rw [freeze_get]
  cases H[id]? with
  | none => rfl
  | some o => simp [h]
end Dw

/-! DwZv -/
namespace Dw
open Go Go.RowKit
set_option linter.unusedVariables false

theorem look_app {H H' : Heap} {id n m : Nat} {y : Option AO} (hf : ∀ i, i ≠ id → i < m → H'[i]? = H[i]?) (hn : n ≠ id) (hm : n < m) (h : H[n]? = y) : H'[n]? = y := (hf n hn hm).trans h
theorem look_appX {H H' : Heap} {X : List Nat} {n m : Nat} {y : Option AO} (hf : ∀ i, i ∉ X → i < m → H'[i]? = H[i]?) (hn : n ∉ X) (hm : n < m) (h : H[n]? = y) : H'[n]? = y := (hf n hn hm).trans h
theorem over1_len {l : List AV} {s : Nat} {a : AV} (h : s + 1 ≤ l.length) : (over l (0 + s) [a]).length = l.length := by
  unfold over
  simp only [List.length_append, List.length_take, List.length_drop, List.length_cons, List.length_nil]; omega
theorem over1_old {l : List AV} {s j : Nat} {a : AV} (h : s + 1 ≤ l.length) (hj : j < s) : (over l (0 + s) [a])[j]? = l[j]? := by
  unfold over
  rw [List.append_assoc, List.getElem?_append_left (by rw [List.length_take]; omega), List.getElem?_take_of_lt (by omega)]
theorem over1_at {l : List AV} {s : Nat} {a : AV} (h : s + 1 ≤ l.length) : (over l (0 + s) [a])[s]? = some a := by
  unfold over
  rw [List.append_assoc, List.getElem?_append_right (by rw [List.length_take]; omega), List.length_take, show s - min (0 + s) l.length = 0 by omega]
  rfl
theorem appD_go {ti : TI} {b : AV} {n : List AV} {H : Heap} {K : KV} (h : appD ti b n H K) : appD ti b n H K := h
theorem nthK_go {α : Type} {l : List α} {n : Nat} {K : α → Prop} (h : nthK l n K) : nthK l n K := h
theorem wrapK_go {k : IntKind} {n : Int} {K : Int → Prop} (h : wrapK k n K) : wrapK k n K := h
theorem setK_go {α : Type} {l : List α} {n : Nat} {v : α} {K : List α → Prop} (h : setK l n v K) : setK l n v K := h
theorem newD_go {h : Heap} {o : AO} {K : Nat → Heap → Prop} (q : newD h o K) : newD h o K := q
theorem app1 {ti : TI} {H : Heap} {id n k : Nat} {A : List AV} {a : AV} {K : KV} (hid : H[id]? = some ⟨A, k, 0⟩) (hn : n ≤ A.length) (hk : k = ti.size) (h1 : (ti.kind != 0 && Nat.blt 0 ti.bytes) = true) (h3 : (n + 1) * ti.bytes ≤ 140737488355328)
    (kk : ∀ (id' : Nat) (A' : List AV) (H' : Heap), H'[id']? = some ⟨A', k, 0⟩ → n + 1 ≤ A'.length → (n = A.length → A' = A ++ [a] ∧ id' = H.length) → (∀ j, j < n → A'[j]? = A[j]?) → A'[n]? = some a → (id' = id ∨ id' = H.length) → H.length ≤ H'.length → id' < H'.length → (∀ i, i ≠ id → i < H.length → H'[i]? = H[i]?) → K (.sl id' 0 (n + 1) k none) H') : appD ti (.sl id 0 n k none) [a] H K := by
  have hlt := lt_of_at hid
  unfold appD mutK
  refine onOk_of h1 (nthG hid (onOk_of rfl (onOk_of (by rw [hk]; exact beq_self_eq_true _) ?_)))
  by_cases h : n + 1 ≤ A.length
  · refine onBool_t (decide_eq_true (by simp only [List.length_cons, List.length_nil]; omega)) ?_
    refine setG hlt fun H' hl hf ho => ?_
    exact kk id _ H' ho (by rw [over1_len h]; exact h) (fun e => by exfalso; omega) (fun j hj => over1_old h hj) (over1_at h) (.inl rfl) (by omega) (by omega) (fun i hi _ => hf i hi)
  · refine onBool_f (decide_eq_false (by simp only [List.length_cons, List.length_nil]; omega)) ⟨⟨(show 0 + n = A.length by omega), h3⟩, ?_⟩
    refine setG hlt fun H1 hl hf ho => ?_
    rw [dropK_eq, List.drop_zero]
    refine newG fun t H' hn' hl' hf' ho' => ?_
    have ht : t = H.length := (hn'.symm.trans hl)
    refine kk t (A ++ [a]) H' ho' (by rw [List.length_append, List.length_singleton]; omega) (fun e => ⟨rfl, ht⟩) (fun j hj => List.getElem?_append_left (by omega)) ?_ (.inr ht) (by omega) (by omega) (fun i hi hil => by rw [hf' i (by omega), hf i hi])
    have : n = A.length := by omega
    subst this; simp
theorem app1n {ti : TI} {H : Heap} {a : AV} {K : KV} (h1 : (ti.kind != 0 && Nat.blt 0 ti.bytes) = true) (h3 : 1 * ti.bytes ≤ 140737488355328)
    (kk : ∀ (t : Nat) (H' : Heap), H.length = t → H'.length = t + 1 → (∀ i, i < t → H'[i]? = H[i]?) → H'[t]? = some ⟨[a], ti.size, 0⟩ → K (.sl t 0 1 ti.size none) H') : appD ti .nilS [a] H K := by
  unfold appD
  exact onOk_of h1 ⟨h3, newG kk⟩
end Dw
