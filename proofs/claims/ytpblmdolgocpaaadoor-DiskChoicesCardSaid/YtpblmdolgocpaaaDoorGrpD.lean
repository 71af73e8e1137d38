/-
  Own lemmas, no conditions: Pa, Pb, Pc, Pd, Pe, Da, Wa, Wb, Wc, Pf, Wd, Pg, We, Wf, Wg, Ph.
-/
import Derived.Test.YtpblmdolgocpaaaDoorGrpC
set_option linter.unusedVariables false
set_option linter.unusedSimpArgs false

/-! Pa -/
namespace Go.Proofs.YtpblmdolgocpaaaDoor
abbrev Bs := List UInt8
def sec (s : Bs) (k : Nat) : Bs := (s.drop (k * 64)).take 64
def stK (s : Bs) (k : Nat) : List Bs := (List.range k).map (sec s)
def stOf (s : Bs) : List Bs := stK s (s.length / 64)
def put (st : List Bs) (a : Nat) (xs : List Bs) : List Bs := st.take a ++ xs ++ st.drop (a + xs.length)
def patch (s : Bs) (a : Nat) (b : Bs) : Bs := s.take a ++ b ++ s.drop (a + b.length)
def All64 (st : List Bs) : Prop := ∀ x ∈ st, x.length = 64

theorem stK_len (s : Bs) (k : Nat) : (stK s k).length = k := by simp [stK]
theorem stK_succ (s : Bs) (k : Nat) : stK s (k + 1) = stK s k ++ [sec s k] := by simp [stK, List.range_succ]
theorem sec_len {s : Bs} {k : Nat} (h : (k + 1) * 64 ≤ s.length) : (sec s k).length = 64 := by
  simp only [sec, List.length_take, List.length_drop]; omega
theorem stK_get {s : Bs} {k j : Nat} (h : j < k) : (stK s k)[j]? = some (sec s j) := by
  simp [stK, h]
theorem stK_all {s : Bs} {k : Nat} (h : k * 64 ≤ s.length) : All64 (stK s k) := by
  intro x hx
  simp only [stK, List.mem_map, List.mem_range] at hx
  obtain ⟨j, hj, rfl⟩ := hx
  exact sec_len (by omega)
theorem stOf_len (s : Bs) : (stOf s).length = s.length / 64 := stK_len _ _
theorem stOf_all (s : Bs) : All64 (stOf s) := stK_all (by omega)
theorem stK_flat {s : Bs} : ∀ {k : Nat}, k * 64 ≤ s.length → (stK s k).flatten = s.take (64 * k)
  | 0, _ => by simp [stK]
  | k + 1, h => by
    rw [stK_succ, List.flatten_append, stK_flat (by omega), show 64 * (k + 1) = 64 * k + 64 by omega, List.take_add]
    simp [sec, Nat.mul_comm]
theorem stOf_flat {s : Bs} (h : s.length % 64 = 0) : (stOf s).flatten = s := by
  rw [stOf, stK_flat (by omega), List.take_of_length_le (by omega)]

theorem All64.tail {x : Bs} {st : List Bs} (h : All64 (x :: st)) : All64 st := fun y hy => h y (List.mem_cons_of_mem _ hy)
theorem flat_len : ∀ {st : List Bs}, All64 st → st.flatten.length = 64 * st.length
  | [], _ => rfl
  | x :: st, h => by
    rw [List.flatten_cons, List.length_append, flat_len h.tail, h x (List.mem_cons_self ..), List.length_cons]; omega
theorem flat_take : ∀ {st : List Bs} (k : Nat), All64 st → (st.take k).flatten = st.flatten.take (64 * k)
  | [], k, _ => by simp
  | x :: st, 0, _ => by simp
  | x :: st, k + 1, h => by
    have hx := h x (List.mem_cons_self ..)
    rw [List.take_succ_cons, List.flatten_cons, List.flatten_cons, flat_take k h.tail, List.take_append, List.take_of_length_le (l := x) (by omega), hx, show 64 * (k + 1) - 64 = 64 * k by omega]
theorem flat_drop : ∀ {st : List Bs} (k : Nat), All64 st → (st.drop k).flatten = st.flatten.drop (64 * k)
  | [], k, _ => by simp
  | x :: st, 0, _ => by simp
  | x :: st, k + 1, h => by
    have hx := h x (List.mem_cons_self ..)
    rw [List.drop_succ_cons, List.flatten_cons, flat_drop k h.tail, List.drop_append, List.drop_of_length_le (l := x) (by omega), hx, show 64 * (k + 1) - 64 = 64 * k by omega, List.nil_append]
theorem flat_put {st xs : List Bs} {a : Nat} (h : All64 st) (hx : All64 xs) : (put st a xs).flatten = patch st.flatten (64 * a) xs.flatten := by
  simp only [put, patch, List.flatten_append]
  rw [flat_take _ h, flat_drop _ h, flat_len hx, Nat.mul_add]
theorem put_all {st xs : List Bs} {a : Nat} (h : All64 st) (hx : All64 xs) : All64 (put st a xs) := by
  intro y hy
  simp only [put, List.mem_append] at hy
  rcases hy with (hy | hy) | hy
  · exact h y (List.mem_of_mem_take hy)
  · exact hx y hy
  · exact h y (List.mem_of_mem_drop hy)
theorem put_len {st xs : List Bs} {a : Nat} (h : a + xs.length ≤ st.length) : (put st a xs).length = st.length := by
  simp only [put, List.length_append, List.length_take, List.length_drop]; omega
theorem put_nil (st : List Bs) (a : Nat) : put st a [] = st := by simp [put]
theorem put_snoc {st xs : List Bs} {a : Nat} {y : Bs} (h : a + xs.length < st.length) : (put st a xs).set (a + xs.length) y = put st a (xs ++ [y]) := by
  simp only [put]
  have h1 : (st.take a ++ xs).length = a + xs.length := by rw [List.length_append, List.length_take]; omega
  rw [List.set_append_right _ _ (by omega), h1, Nat.sub_self, List.drop_eq_getElem_cons h, List.set_cons_zero, List.length_append, List.append_assoc (st.take a), List.append_assoc (st.take a), List.append_assoc xs]
  rfl
theorem put_set {st : List Bs} {b : Bs} {a k : Nat} (h : a + k < st.length) : (put st a (stK b k)).set (a + k) (sec b k) = put st a (stK b (k + 1)) := by
  have := put_snoc (st := st) (xs := stK b k) (a := a) (y := sec b k) (by rw [stK_len]; exact h)
  rwa [stK_len, ← stK_succ] at this
theorem put_one {st : List Bs} {a : Nat} {y : Bs} (h : a < st.length) : st.set a y = put st a [y] := by
  have := put_snoc (st := st) (xs := []) (a := a) (y := y) (by simpa using h)
  simpa [put_nil] using this

/-- What a state of sectors is after an event. -/
structure Wr where
  at_ : Int
  bytes : Bs
  deriving DecidableEq
def wr (st : List Bs) (x : Wr) : List Bs := put st x.at_.toNat (stOf x.bytes)
def pat (s : Bs) (x : Wr) : Bs := patch s (64 * x.at_.toNat) x.bytes
/-- An event that lies in n sectors. -/
def Wr.In (n : Nat) (x : Wr) : Prop := 0 ≤ x.at_ ∧ x.bytes.length % 64 = 0 ∧ x.at_.toNat + x.bytes.length / 64 ≤ n
theorem wr_all {st : List Bs} {x : Wr} (h : All64 st) : All64 (wr st x) := put_all h (stOf_all _)
theorem wr_len {st : List Bs} {x : Wr} (hx : x.In st.length) : (wr st x).length = st.length := put_len (by rw [stOf_len]; exact hx.2.2)
theorem wr_flat {st : List Bs} {x : Wr} (h : All64 st) (hx : x.In st.length) : (wr st x).flatten = pat st.flatten x := by
  rw [wr, flat_put h (stOf_all _), stOf_flat hx.2.1, pat]
theorem wrs_flat : ∀ {l : List Wr} {st : List Bs}, All64 st → (∀ x ∈ l, x.In st.length) → (l.foldl wr st).flatten = l.foldl pat st.flatten ∧ All64 (l.foldl wr st) ∧ (l.foldl wr st).length = st.length
  | [], st, h, _ => ⟨rfl, h, rfl⟩
  | x :: l, st, h, hx => by
    have h0 := hx x (List.mem_cons_self ..)
    have hl := wr_len h0
    have := wrs_flat (l := l) (wr_all h) (fun y hy => by rw [hl]; exact hx y (List.mem_cons_of_mem _ hy))
    rw [List.foldl_cons, List.foldl_cons, ← wr_flat h h0]
    exact ⟨this.1, this.2.1, this.2.2.trans hl⟩
end Go.Proofs.YtpblmdolgocpaaaDoor

/-! Pb -/
namespace Go.Proofs.YtpblmdolgocpaaaDoor
def unl (a b : Bs) (k : Nat) : List Nat := (List.range k).filter fun j => decide (sec a j ≠ sec b j)
def Wr.stop (x : Wr) : Int := x.at_ + (x.bytes.length / 64 : Nat)
def wfStep (b : Bs) (out : List Wr) (k : Nat) : List Wr :=
  match out.getLast? with
  | some x => if x.stop = k then out.dropLast ++ [⟨x.at_, x.bytes ++ sec b k⟩] else out ++ [⟨k, sec b k⟩]
  | none => [⟨k, sec b k⟩]
def wf (a b : Bs) (k : Nat) : List Wr := (unl a b k).foldl (wfStep b) []

theorem unl_succ (a b : Bs) (k : Nat) : unl a b (k + 1) = if sec a k = sec b k then unl a b k else unl a b k ++ [k] := by
  simp only [unl, List.range_succ, List.filter_append]
  by_cases h : sec a k = sec b k <;> simp [h]
theorem wf_succ (a b : Bs) (k : Nat) : wf a b (k + 1) = if sec a k = sec b k then wf a b k else wfStep b (wf a b k) k := by
  simp only [wf, unl_succ]
  split
  · rfl
  · rw [List.foldl_append]; rfl
theorem unl_lt {a b : Bs} {k : Nat} : ∀ x ∈ unl a b k, x < k := by
  intro x hx
  simp only [unl, List.mem_filter, List.mem_range] at hx
  exact hx.1
theorem unl_le (a b : Bs) (k : Nat) : (unl a b k).length ≤ k := by
  have := List.length_filter_le (fun j => decide (sec a j ≠ sec b j)) (List.range k)
  simpa [unl] using this

theorem wfStep_nil (b : Bs) (k : Nat) : wfStep b [] k = [⟨k, sec b k⟩] := rfl
theorem wfStep_snoc (b : Bs) (out : List Wr) (x : Wr) (k : Nat) : wfStep b (out ++ [x]) k = if x.stop = k then out ++ [⟨x.at_, x.bytes ++ sec b k⟩] else out ++ [x] ++ [⟨k, sec b k⟩] := by
  simp only [wfStep, List.getLast?_append, List.getLast?_singleton, Option.some_or, List.dropLast_concat]

/-- What the writes of the first k sectors are. -/
structure WfI (a b : Bs) (k : Nat) (out : List Wr) : Prop where
  len : out.length ≤ k
  inn : ∀ x ∈ out, x.In (a.length / 64) ∧ x.stop ≤ k ∧ x.bytes ≠ []
  made : out.foldl wr (stOf a) = (stOf b).take k ++ (stOf a).drop k

theorem sec_add {b : Bs} {m k : Nat} {x : Bs} (hx : x.length = 64 * m) : stOf (x ++ sec b k) = if (sec b k).length = 64 then stOf x ++ [sec b k] else stOf (x ++ sec b k) := by
  split
  · rename_i h
    have h1 : (x ++ sec b k).length / 64 = m + 1 := by rw [List.length_append, hx, h]; omega
    have h2 : x.length / 64 = m := by omega
    rw [stOf, stOf, h1, h2, stK_succ]
    congr 1
    · simp only [stK]
      refine List.map_congr_left fun j hj => ?_
      rw [List.mem_range] at hj
      simp only [sec]
      rw [List.drop_append, List.take_append, List.length_drop, hx, show 64 - (64 * m - j * 64) = 0 by omega]
      simp
    · simp only [sec] at h ⊢
      rw [List.drop_append, hx, show m * 64 - 64 * m = 0 by omega, List.drop_of_length_le (by omega), List.nil_append, List.drop_zero, List.take_of_length_le (by omega)]
  · rfl

theorem take_drop_set {α : Type} {l r : List α} {k : Nat} (hl : k < l.length) (hr : k < r.length) : (l.take k ++ r.drop k).set k (l[k]'hl) = l.take (k + 1) ++ r.drop (k + 1) := by
  have h1 : (l.take k).length = k := by rw [List.length_take]; omega
  rw [List.set_append_right _ _ (by omega), h1, Nat.sub_self, List.drop_eq_getElem_cons hr, List.set_cons_zero, List.take_succ_eq_append_getElem hl, List.append_assoc]
  rfl

theorem wf_inv {a b : Bs} (hab : a.length = b.length) : ∀ {k : Nat}, k ≤ a.length / 64 → WfI a b k (wf a b k)
  | 0, _ => ⟨Nat.le_refl _, fun _ h => by simp [wf, unl] at h, by simp [wf, unl]⟩
  | k + 1, hk => by
    have ih := wf_inv hab (k := k) (by omega)
    have ka : k < (stOf a).length := by rw [stOf_len]; omega
    have kb : k < (stOf b).length := by rw [stOf_len, ← hab]; omega
    have ea : (stOf a)[k] = sec a k := by have := stK_get (s := a) (k := a.length / 64) (j := k) (by omega); rw [← stOf, List.getElem?_eq_getElem ka] at this; exact Option.some.inj this
    have eb : (stOf b)[k] = sec b k := by have := stK_get (s := b) (k := b.length / 64) (j := k) (by omega); rw [← stOf, List.getElem?_eq_getElem kb] at this; exact Option.some.inj this
    have sb : (sec b k).length = 64 := sec_len (by omega)
    have key : ((stOf b).take k ++ (stOf a).drop k).set k (sec b k) = (stOf b).take (k + 1) ++ (stOf a).drop (k + 1) := by rw [← eb]; exact take_drop_set kb ka
    rw [wf_succ]
    split
    · rename_i he
      refine ⟨Nat.le_succ_of_le ih.len, fun x hx => ⟨(ih.inn x hx).1, by have := (ih.inn x hx).2.1; omega, (ih.inn x hx).2.2⟩, ?_⟩
      rw [ih.made, ← key, ← he, ← ea, List.set_append_right _ _ (by rw [List.length_take]; omega), List.length_take, Nat.min_eq_left (by omega), Nat.sub_self, List.drop_eq_getElem_cons ka, List.set_cons_zero]
    · have hlen : ((stOf b).take k ++ (stOf a).drop k).length = (stOf a).length := by
        rw [List.length_append, List.length_take, List.length_drop, stOf_len, stOf_len, ← hab]; omega
      have new : ∀ out : List Wr, out.length ≤ k → (∀ x ∈ out, x.In (a.length / 64) ∧ x.stop ≤ k ∧ x.bytes ≠ []) → out.foldl wr (stOf a) = (stOf b).take k ++ (stOf a).drop k → WfI a b (k + 1) (out ++ [⟨k, sec b k⟩]) := by
        intro out h1 h2 h3
        refine ⟨by rw [List.length_append]; simp; omega, fun x hx => ?_, ?_⟩
        · rcases List.mem_append.1 hx with hx | hx
          · exact ⟨(h2 x hx).1, by have := (h2 x hx).2.1; omega, (h2 x hx).2.2⟩
          · rw [List.mem_singleton] at hx; subst hx
            exact ⟨⟨by simp, by simp [sb], by simp [sb]; omega⟩, by simp [Wr.stop, sb], fun h => by rw [show sec b k = [] from h] at sb; cases sb⟩
        · rw [List.foldl_append, h3, List.foldl_cons, List.foldl_nil, ← key]
          have : stOf (sec b k) = [sec b k] := by
            have := sec_add (b := b) (m := 0) (k := k) (x := []) rfl
            rw [if_pos sb, List.nil_append] at this
            rw [this]; rfl
          simp only [wr, Int.toNat_natCast, this]
          rw [put_one (by rw [hlen]; exact ka)]
      rcases List.eq_nil_or_concat (wf a b k) with h0 | ⟨out, x, h0⟩
      · have := new [] (by simp) (by simp) (by have := ih.made; rw [h0] at this; exact this)
        rw [h0, wfStep_nil]; exact this
      · rw [List.concat_eq_append] at h0
        rw [h0, wfStep_snoc]
        rw [h0] at ih
        split
        · rename_i hs
          obtain ⟨⟨x1, x2, x3⟩, x4, x5⟩ := ih.inn x (by simp)
          refine ⟨by have := ih.len; simp at this ⊢; omega, fun y hy => ?_, ?_⟩
          · rcases List.mem_append.1 hy with hy | hy
            · have := ih.inn y (by simp [hy]); exact ⟨this.1, by have := this.2.1; omega, this.2.2⟩
            · rw [List.mem_singleton] at hy; subst hy
              refine ⟨⟨x1, by rw [List.length_append, sb]; omega, by show x.at_.toNat + (x.bytes ++ sec b k).length / 64 ≤ _; rw [List.length_append, sb]; simp only [Wr.stop] at hs; omega⟩, by show x.at_ + (((x.bytes ++ sec b k).length / 64 : Nat) : Int) ≤ _; simp only [Wr.stop] at hs; rw [List.length_append, sb]; omega, fun h => by simp at h; exact x5 h.1⟩
          · have hm := ih.made
            rw [List.foldl_append, List.foldl_cons, List.foldl_nil] at hm ⊢
            have hlen2 : (out.foldl wr (stOf a)).length = (stOf a).length := by
              have := (wrs_flat (l := out) (stOf_all a) (fun y hy => by rw [stOf_len]; exact (ih.inn y (by simp [hy])).1)).2.2
              exact this
            rw [← key, ← hm]
            have e := sec_add (b := b) (m := x.bytes.length / 64) (k := k) (x := x.bytes) (by omega)
            rw [if_pos sb] at e
            have hk2 : x.at_.toNat + (stOf x.bytes).length = k := by rw [stOf_len]; simp only [Wr.stop] at hs; omega
            simp only [wr, e]
            rw [← put_snoc (by rw [hlen2, hk2]; exact ka), hk2]
        · exact new _ ih.len ih.inn ih.made

/-- The writes between two disks make the second one of the first one. -/
theorem wf_makes {a b : Bs} (hab : a.length = b.length) (h : a.length % 64 = 0) : (wf a b (a.length / 64)).foldl pat a = b ∧ (∀ x ∈ wf a b (a.length / 64), x.In (a.length / 64) ∧ x.bytes ≠ []) ∧ (wf a b (a.length / 64)).length ≤ a.length / 64 := by
  have hI := wf_inv hab (Nat.le_refl (a.length / 64))
  refine ⟨?_, fun x hx => ⟨(hI.inn x hx).1, (hI.inn x hx).2.2⟩, hI.len⟩
  have := (wrs_flat (l := wf a b (a.length / 64)) (stOf_all a) (fun y hy => by rw [stOf_len]; exact (hI.inn y hy).1)).1
  rw [hI.made, stOf_flat h] at this
  rw [← this, List.take_of_length_le (by rw [stOf_len, hab]; omega), List.drop_of_length_le (by rw [stOf_len]; omega), List.append_nil, stOf_flat (by omega)]
end Go.Proofs.YtpblmdolgocpaaaDoor

/-! Pc -/
namespace Go.Proofs.YtpblmdolgocpaaaDoor
def at2 (s : Bs) (a : Nat) : Bs := (s.drop a).take 2

theorem patch_len {s b : Bs} {a : Nat} (h : a + b.length ≤ s.length) : (patch s a b).length = s.length := by
  simp only [patch, List.length_append, List.length_take, List.length_drop]; omega
theorem patch_get {s b : Bs} {a : Nat} (h : a + b.length ≤ s.length) (j : Nat) : (patch s a b)[j]? = if a ≤ j ∧ j < a + b.length then b[j - a]? else s[j]? := by
  have h1 : (s.take a).length = a := by rw [List.length_take]; omega
  simp only [patch]
  by_cases c1 : j < a
  · rw [List.append_assoc, List.getElem?_append_left (by omega), List.getElem?_take, if_pos c1, if_neg (by omega)]
  · by_cases c2 : j < a + b.length
    · rw [if_pos ⟨by omega, c2⟩, List.getElem?_append_left (by rw [List.length_append]; omega), List.getElem?_append_right (by omega), h1]
    · rw [if_neg (by omega), List.getElem?_append_right (by rw [List.length_append]; omega), List.getElem?_drop, List.length_append, h1, show a + b.length + (j - (a + b.length)) = j by omega]
theorem patch_comm {s b c : Bs} {i j : Nat} (hi : i + b.length ≤ j) (hj : j + c.length ≤ s.length) : patch (patch s i b) j c = patch (patch s j c) i b := by
  refine List.ext_getElem? fun k => ?_
  rw [patch_get (by rw [patch_len (by omega)]; exact hj), patch_get (by omega), patch_get (by rw [patch_len (by omega)]; omega), patch_get hj]
  by_cases c1 : i ≤ k ∧ k < i + b.length
  · rw [if_neg (by omega), if_pos c1, if_pos c1]
  · rw [if_neg c1, if_neg c1]
theorem patch_adj {s b c : Bs} {i : Nat} (h : i + b.length + c.length ≤ s.length) : patch (patch s i b) (i + b.length) c = patch s i (b ++ c) := by
  refine List.ext_getElem? fun k => ?_
  rw [patch_get (by rw [patch_len (by omega)]; exact h), patch_get (by omega), patch_get (by rw [List.length_append]; omega), List.length_append]
  by_cases c1 : i ≤ k ∧ k < i + b.length
  · rw [if_neg (by omega), if_pos c1, if_pos (by omega), List.getElem?_append_left (by omega)]
  · by_cases c2 : i + b.length ≤ k ∧ k < i + b.length + c.length
    · rw [if_pos c2, if_pos (by omega), List.getElem?_append_right (by omega), show k - i - b.length = k - (i + b.length) by omega]
    · rw [if_neg c2, if_neg c1, if_neg (by omega)]
theorem patch_same {s b c : Bs} {i : Nat} (h : i + b.length ≤ s.length) (e : b.length = c.length) : patch (patch s i b) i c = patch s i c := by
  refine List.ext_getElem? fun k => ?_
  rw [patch_get (by rw [patch_len h]; omega), patch_get h, patch_get (by omega), e]
  by_cases c1 : i ≤ k ∧ k < i + c.length
  · rw [if_pos c1, if_pos c1]
  · rw [if_neg c1, if_neg c1, if_neg c1]
theorem at2_get (s : Bs) (a j : Nat) : (at2 s a)[j]? = if j < 2 then s[a + j]? else none := by
  simp only [at2, List.getElem?_take, List.getElem?_drop]
theorem at2_far {s b : Bs} {a i : Nat} (h : a + b.length ≤ s.length) (hi : i + 2 ≤ a ∨ a + b.length ≤ i) : at2 (patch s a b) i = at2 s i := by
  refine List.ext_getElem? fun k => ?_
  rw [at2_get, at2_get]
  split
  · rw [patch_get h, if_neg (by omega)]
  · rfl
theorem at2_same {s b : Bs} {a : Nat} (h : a + b.length ≤ s.length) (hb : b.length = 2) : at2 (patch s a b) a = b := by
  refine List.ext_getElem? fun k => ?_
  rw [at2_get]
  split
  · rw [patch_get h, if_pos (by omega), show a + k - a = k by omega]
  · rw [List.getElem?_eq_none (by omega)]
theorem at2_len {s : Bs} {a : Nat} (h : a + 2 ≤ s.length) : (at2 s a).length = 2 := by
  simp only [at2, List.length_take, List.length_drop]; omega
theorem patch_at2 {s : Bs} {a : Nat} (h : a + 2 ≤ s.length) : patch s a (at2 s a) = s := by
  refine List.ext_getElem? fun k => ?_
  rw [patch_get (by rw [at2_len h]; exact h), at2_len h]
  split
  · rw [at2_get, if_pos (by omega), show a + (k - a) = k by omega]
  · rfl

/-- The number of two bytes, and two bytes of a number. -/
def num2 (s : Bs) : Nat := match s with | [a, b] => a.toNat + 256 * b.toNat | _ => 0
def le2 (n : Nat) : Bs := [UInt8.ofNat (n % 256), UInt8.ofNat (n / 256 % 256)]
theorem num2_le2 {n : Nat} (h : n < 65536) : num2 (le2 n) = n := by
  simp only [num2, le2, UInt8.toNat_ofNat']; omega
theorem num2_inj {s t : Bs} (hs : s.length = 2) (ht : t.length = 2) (h : num2 s = num2 t) : s = t := by
  match s, t, hs, ht with
  | [a, b], [c, d], _, _ =>
    simp only [num2] at h
    have ha := a.toNat_lt; have hb := b.toNat_lt; have hc := c.toNat_lt; have hd := d.toNat_lt
    have e1 : a = c := UInt8.toNat_inj.1 (by omega)
    have e2 : b = d := UInt8.toNat_inj.1 (by omega)
    rw [e1, e2]

def tl (i : Nat) : Nat := (i + 1) * 64 - 2
/-- A block protected: as the program does it, as the document says it. -/
def prG (n : Nat) (s : Bs) : Nat → Bs
  | 0 => patch s 40 (le2 n)
  | i + 1 => patch (patch (prG n s i) (42 + 2 * i) (at2 (prG n s i) (tl i))) (tl i) (le2 n)
def pbB (n : Nat) (s : Bs) : Nat → Bs
  | 0 => s
  | i + 1 => patch (pbB n s i) (tl i) (le2 n)
def pbL (n : Nat) (s : Bs) : Nat → Bs
  | 0 => le2 n
  | i + 1 => pbL n s i ++ at2 (pbB n s i) (tl i)
theorem pbB_len (n : Nat) {s : Bs} (hs : s.length = 512) : ∀ {i : Nat}, i ≤ 8 → (pbB n s i).length = 512
  | 0, _ => hs
  | i + 1, h => by
    have := pbB_len n hs (i := i) (by omega)
    rw [pbB, patch_len (by simp only [tl, le2, List.length_cons, List.length_nil]; omega)]; exact this
theorem pbL_len (n : Nat) {s : Bs} (hs : s.length = 512) : ∀ {i : Nat}, i ≤ 8 → (pbL n s i).length = 2 + 2 * i
  | 0, _ => rfl
  | i + 1, h => by
    have := pbL_len n hs (i := i) (by omega)
    rw [pbL, List.length_append, this, at2_len (by rw [pbB_len n hs (by omega)]; simp only [tl]; omega)]; omega
theorem prG_eq (n : Nat) {s : Bs} (hs : s.length = 512) : ∀ {i : Nat}, i ≤ 8 → prG n s i = patch (pbB n s i) 40 (pbL n s i)
  | 0, _ => rfl
  | i + 1, h => by
    have h1 := prG_eq n hs (i := i) (by omega)
    have hB := pbB_len n hs (i := i) (by omega)
    have hL := pbL_len n hs (i := i) (by omega)
    have ha : (at2 (pbB n s i) (tl i)).length = 2 := at2_len (by rw [hB]; simp only [tl]; omega)
    have hle : (le2 n).length = 2 := rfl
    have htl : tl i = (i + 1) * 64 - 2 := rfl
    rw [prG, h1, at2_far (by omega) (.inr (by omega)), show 42 + 2 * i = 40 + (pbL n s i).length by omega, patch_adj (by omega), patch_comm (by rw [List.length_append]; omega) (by omega)]
    rfl
end Go.Proofs.YtpblmdolgocpaaaDoor

/-! Pd -/
namespace Go.Proofs.YtpblmdolgocpaaaDoor
def zs (n : Nat) : Bs := List.replicate n 0
theorem zs_len (n : Nat) : (zs n).length = n := List.length_replicate ..
/-- Opened as the program does it (the end of it clears the place of the numbers), and as the document says it. -/
def opG (s : Bs) : Nat → Bs
  | 0 => s
  | i + 1 => patch (opG s i) (tl i) (at2 (opG s i) (42 + 2 * i))
def opR (s : Bs) : Nat → Bs
  | 0 => patch s 40 (zs 18)
  | i + 1 => patch (opR s i) (tl i) (at2 s (42 + 2 * i))
theorem opG_len {s : Bs} (hs : s.length = 512) : ∀ {i : Nat}, i ≤ 8 → (opG s i).length = 512
  | 0, _ => hs
  | i + 1, h => by
    have := opG_len hs (i := i) (by omega)
    rw [opG, patch_len (by rw [at2_len (by omega)]; simp only [tl]; omega)]; exact this
theorem opG_at {s : Bs} (hs : s.length = 512) : ∀ {i : Nat}, i ≤ 8 → ∀ {j : Nat}, j + 2 ≤ 58 → at2 (opG s i) j = at2 s j
  | 0, _, j, _ => rfl
  | i + 1, h, j, hj => by
    have := opG_len hs (i := i) (by omega)
    rw [opG, at2_far (by rw [at2_len (by omega)]; simp only [tl]; omega) (.inl (by simp only [tl]; omega))]
    exact opG_at hs (by omega) hj
theorem opR_eq {s : Bs} (hs : s.length = 512) : ∀ {i : Nat}, i ≤ 8 → opR s i = patch (opG s i) 40 (zs 18)
  | 0, _ => rfl
  | i + 1, h => by
    have hl := opG_len hs (i := i) (by omega)
    have ha : (at2 s (42 + 2 * i)).length = 2 := at2_len (by omega)
    rw [opR, opR_eq hs (by omega), opG, opG_at hs (by omega) (by omega), patch_comm (by rw [zs_len]; simp only [tl]; omega) (by simp only [tl]; omega)]
/-- Torn sectors. -/
def torn (s : Bs) : List Nat := (List.range 8).filter fun i => decide (num2 (at2 s 40) = 0) || decide (at2 s (tl i) ≠ at2 s 40)
def Whole (s : Bs) : Prop := num2 (at2 s 40) ≠ 0 ∧ ∀ i, i < 8 → at2 s (tl i) = at2 s 40
theorem torn_nil {s : Bs} : torn s = [] ↔ Whole s := by
  simp only [torn, List.filter_eq_nil_iff, List.mem_range, Bool.or_eq_true, decide_eq_true_eq, not_or, Decidable.not_not, Whole]
  constructor
  · intro h
    exact ⟨(h 0 (by omega)).1, fun i hi => (h i hi).2⟩
  · intro h i hi
    exact ⟨h.1, h.2 i hi⟩

/-- A protected block, byte pairs of it. -/
theorem pbB_at {n : Nat} {s : Bs} (hs : s.length = 512) : ∀ {i : Nat}, i ≤ 8 → ∀ {j : Nat}, j + 2 ≤ 62 ∨ (∃ k, j = tl k ∧ i ≤ k) → at2 (pbB n s i) j = at2 s j
  | 0, _, j, _ => rfl
  | i + 1, h, j, hj => by
    have := pbB_len n hs (i := i) (by omega)
    have hle : (le2 n).length = 2 := rfl
    rw [pbB, at2_far (by simp only [tl]; omega) (by rcases hj with hj | ⟨k, rfl, hk⟩ <;> simp only [tl] <;> omega)]
    refine pbB_at hs (by omega) ?_
    rcases hj with hj | ⟨k, rfl, hk⟩
    · exact .inl hj
    · exact .inr ⟨k, rfl, by omega⟩
theorem pbB_tl {n : Nat} {s : Bs} (hs : s.length = 512) : ∀ {i : Nat}, i ≤ 8 → ∀ {k : Nat}, k < i → at2 (pbB n s i) (tl k) = le2 n
  | 0, _, k, hk => by omega
  | i + 1, h, k, hk => by
    have hl := pbB_len n hs (i := i) (by omega)
    have hle : (le2 n).length = 2 := rfl
    rw [pbB]
    by_cases e : k = i
    · subst e
      exact at2_same (by simp only [tl]; omega) hle
    · rw [at2_far (by simp only [tl]; omega) (by simp only [tl]; omega)]
      exact pbB_tl hs (by omega) (by omega)
/-- What the document's protected block is. -/
def pr (n : Nat) (s : Bs) : Bs := patch (pbB n s 8) 40 (pbL n s 8)
theorem pr_len {n : Nat} {s : Bs} (hs : s.length = 512) : (pr n s).length = 512 := by
  have h1 := pbB_len n hs (i := 8) (by omega)
  have h2 := pbL_len n hs (i := 8) (by omega)
  rw [pr, patch_len (by omega), h1]
theorem pbL_at {n : Nat} {s : Bs} (hs : s.length = 512) : ∀ {i : Nat}, i ≤ 8 → ((pbL n s i).take 2 = le2 n) ∧ ∀ k, k < i → ((pbL n s i).drop (2 + 2 * k)).take 2 = at2 s (tl k)
  | 0, _ => ⟨rfl, fun k hk => by omega⟩
  | i + 1, h => by
    have ih := pbL_at (n := n) hs (i := i) (by omega)
    have hl := pbL_len n hs (i := i) (by omega)
    have hB := pbB_len n hs (i := i) (by omega)
    have ha : at2 (pbB n s i) (tl i) = at2 s (tl i) := pbB_at hs (by omega) (.inr ⟨i, rfl, Nat.le_refl _⟩)
    have ha2 : (at2 s (tl i)).length = 2 := at2_len (by simp only [tl]; omega)
    rw [pbL, ha]
    refine ⟨by rw [List.take_append_of_le_length (by omega)]; exact ih.1, fun k hk => ?_⟩
    by_cases e : k = i
    · subst e
      rw [List.drop_append, List.drop_of_length_le (by omega), List.nil_append, hl, Nat.sub_self, List.drop_zero, List.take_of_length_le (by omega)]
    · rw [List.drop_append_of_le_length (by omega), List.take_append_of_le_length (by rw [List.length_drop]; omega)]
      exact ih.2 k (by omega)
theorem at2_in {s b : Bs} {a j : Nat} (h : a + b.length ≤ s.length) (hj : j + 2 ≤ b.length) : at2 (patch s a b) (a + j) = (b.drop j).take 2 := by
  refine List.ext_getElem? fun k => ?_
  rw [at2_get, List.getElem?_take, List.getElem?_drop]
  split
  · rw [patch_get h, if_pos (by omega), show a + j + k - a = j + k by omega]
  · rfl
theorem pr_at {n : Nat} {s : Bs} (hs : s.length = 512) : at2 (pr n s) 40 = le2 n ∧ (∀ k, k < 8 → at2 (pr n s) (42 + 2 * k) = at2 s (tl k)) ∧ ∀ k, k < 8 → at2 (pr n s) (tl k) = le2 n := by
  have h1 := pbB_len n hs (i := 8) (by omega)
  have h2 := pbL_len n hs (i := 8) (by omega)
  have h3 := pbL_at (n := n) hs (i := 8) (by omega)
  refine ⟨?_, fun k hk => ?_, fun k hk => ?_⟩
  · have := at2_in (s := pbB n s 8) (b := pbL n s 8) (a := 40) (j := 0) (by omega) (by omega)
    rw [pr]; rw [Nat.add_zero, List.drop_zero, h3.1] at this; exact this
  · have := at2_in (s := pbB n s 8) (b := pbL n s 8) (a := 40) (j := 2 + 2 * k) (by omega) (by omega)
    rw [pr, show 42 + 2 * k = 40 + (2 + 2 * k) by omega, this]; exact h3.2 k hk
  · rw [pr, at2_far (by omega) (.inr (by simp only [tl]; omega))]
    exact pbB_tl hs (by omega) hk
theorem pr_whole {n : Nat} {s : Bs} (hs : s.length = 512) (hn : 1 ≤ n ∧ n < 65536) : Whole (pr n s) ∧ num2 (at2 (pr n s) 40) = n := by
  obtain ⟨h1, _, h3⟩ := pr_at (n := n) hs
  rw [Whole, h1, num2_le2 hn.2]
  exact ⟨⟨by omega, fun i hi => h3 i hi⟩, rfl⟩
theorem opG_out {s : Bs} (hs : s.length = 512) : ∀ {i : Nat}, i ≤ 8 → ∀ {j : Nat}, (∀ k, k < i → ¬ (tl k ≤ j ∧ j < tl k + 2)) → (opG s i)[j]? = s[j]?
  | 0, _, j, _ => rfl
  | i + 1, h, j, hj => by
    have hl := opG_len hs (i := i) (by omega)
    have ha : (at2 (opG s i) (42 + 2 * i)).length = 2 := at2_len (by omega)
    have h0 := hj i (by omega)
    rw [opG, patch_get (by simp only [tl]; omega), if_neg (by omega)]
    exact opG_out hs (by omega) fun k hk => hj k (by omega)
theorem opG_in {s : Bs} (hs : s.length = 512) : ∀ {i : Nat}, i ≤ 8 → ∀ {k : Nat}, k < i → ∀ {j : Nat}, tl k ≤ j → j < tl k + 2 → (opG s i)[j]? = (at2 s (42 + 2 * k))[j - tl k]?
  | 0, _, k, hk, j, _, _ => by omega
  | i + 1, h, k, hk, j, h1, h2 => by
    have hl := opG_len hs (i := i) (by omega)
    have ha : (at2 (opG s i) (42 + 2 * i)).length = 2 := at2_len (by omega)
    rw [opG, patch_get (by simp only [tl]; omega)]
    by_cases e : k = i
    · subst e
      rw [if_pos (by omega), opG_at hs (by omega) (by omega)]
    · rw [if_neg (by simp only [tl] at *; omega)]
      exact opG_in hs (by omega) (by omega) h1 h2
theorem pbB_out {n : Nat} {s : Bs} (hs : s.length = 512) : ∀ {i : Nat}, i ≤ 8 → ∀ {j : Nat}, (∀ k, k < i → ¬ (tl k ≤ j ∧ j < tl k + 2)) → (pbB n s i)[j]? = s[j]?
  | 0, _, j, _ => rfl
  | i + 1, h, j, hj => by
    have hl := pbB_len n hs (i := i) (by omega)
    have hle : (le2 n).length = 2 := rfl
    have h0 := hj i (by omega)
    rw [pbB, patch_get (by simp only [tl]; omega), if_neg (by omega)]
    exact pbB_out hs (by omega) fun k hk => hj k (by omega)
/-- A protected block is opened again. -/
theorem back {n : Nat} {s : Bs} (hs : s.length = 512) (hz : ∀ j, 40 ≤ j → j < 58 → s[j]? = some 0) : opR (pr n s) 8 = s := by
  have hp := pr_len (n := n) hs
  have hG := opG_len hp (i := 8) (by omega)
  have hB := pbB_len n hs (i := 8) (by omega)
  have hL := pbL_len n hs (i := 8) (by omega)
  rw [opR_eq hp (by omega)]
  refine List.ext_getElem? fun j => ?_
  rw [patch_get (by rw [zs_len]; omega), zs_len]
  split
  · rename_i hj
    rw [hz j hj.1 hj.2, zs, List.getElem?_replicate, if_pos (by omega)]
  · rename_i hj
    by_cases hk : ∃ k, k < 8 ∧ tl k ≤ j ∧ j < tl k + 2
    · obtain ⟨k, k1, k2, k3⟩ := hk
      rw [opG_in hp (by omega) k1 k2 k3, (pr_at hs).2.1 k k1, at2_get, if_pos (by omega), show tl k + (j - tl k) = j by omega]
    · have hk' : ∀ k, k < 8 → ¬ (tl k ≤ j ∧ j < tl k + 2) := fun k h1 h2 => hk ⟨k, h1, h2⟩
      rw [opG_out hp (by omega) hk', pr, patch_get (by omega), if_neg (by omega), pbB_out hs (by omega) hk']
end Go.Proofs.YtpblmdolgocpaaaDoor

/-! Pe -/
namespace Go.Proofs.YtpblmdolgocpaaaDoor
def mixP (b : Bs) (s : Bs) (l : List Nat) : Bs := l.foldl (fun s i => patch s (64 * i) (sec b i)) s
def mixS (b : Bs) (st : List Bs) (l : List Nat) : List Bs := l.foldl (fun st i => put st i [sec b i]) st
theorem mix_flat {b : Bs} (hb : b.length = 512) : ∀ {l : List Nat} {st : List Bs}, All64 st → st.length = 8 → (∀ i ∈ l, i < 8) → (mixS b st l).flatten = mixP b st.flatten l ∧ (mixS b st l).length = 8
  | [], st, _, h, _ => ⟨rfl, h⟩
  | i :: l, st, h1, h2, h3 => by
    have hi := h3 i (List.mem_cons_self ..)
    have hs : All64 [sec b i] := fun x hx => by rw [List.mem_singleton] at hx; subst hx; exact sec_len (by omega)
    have h := mix_flat hb (l := l) (st := put st i [sec b i]) (put_all h1 hs) (by rw [put_len (by simp; omega)]; exact h2) (fun j hj => h3 j (List.mem_cons_of_mem _ hj))
    rw [mixS, List.foldl_cons, mixP, List.foldl_cons]
    rw [flat_put h1 hs] at h
    simpa [mixS, mixP] using h
theorem mixP_get {b : Bs} (hb : b.length = 512) (j : Nat) : ∀ {l : List Nat} {s : Bs}, s.length = 512 → (∀ i ∈ l, i < 8) → (mixP b s l)[j]? = if j / 64 ∈ l then b[j]? else s[j]?
  | [], s, _, _ => by simp [mixP]
  | i :: l, s, h, h3 => by
    have hi := h3 i (List.mem_cons_self ..)
    have hs : (sec b i).length = 64 := sec_len (by omega)
    have h := mixP_get hb j (l := l) (s := patch s (64 * i) (sec b i)) (by rw [patch_len (by omega)]; exact h) (fun j hj => h3 j (List.mem_cons_of_mem _ hj))
    rw [mixP, List.foldl_cons, ← mixP, h, patch_get (by omega), hs]
    by_cases c1 : j / 64 ∈ l
    · rw [if_pos c1, if_pos (List.mem_cons_of_mem _ c1)]
    · rw [if_neg c1]
      by_cases c2 : j / 64 = i
      · rw [if_pos (by omega), if_pos (by rw [c2]; exact List.mem_cons_self ..), sec, List.getElem?_take, if_pos (by omega), List.getElem?_drop]
        congr 1; omega
      · rw [if_neg (by omega), if_neg (by simp [c1, c2])]
theorem mixP_at2 {a b : Bs} (ha : a.length = 512) (hb : b.length = 512) {l : List Nat} (hl : ∀ i ∈ l, i < 8) {j : Nat} (hj : (j + 1) / 64 = j / 64) : at2 (mixP b a l) j = if j / 64 ∈ l then at2 b j else at2 a j := by
  refine List.ext_getElem? fun k => ?_
  split <;> rename_i h
  · rw [at2_get, at2_get]
    split
    · rw [mixP_get hb _ ha hl, if_pos (by rw [show (j + k) / 64 = j / 64 by omega]; exact h)]
    · rfl
  · rw [at2_get, at2_get]
    split
    · rw [mixP_get hb _ ha hl, if_neg (by rw [show (j + k) / 64 = j / 64 by omega]; exact h)]
    · rfl
theorem asc_len {hi : Nat} : ∀ {l : List Nat} {lo : Nat}, l.Pairwise (· < ·) → (∀ x ∈ l, lo ≤ x ∧ x < hi) → lo ≤ hi → l.length ≤ hi - lo ∧ (l.length = hi - lo ↔ ∀ k, lo ≤ k → k < hi → k ∈ l)
  | [], lo, _, _, hlo => ⟨Nat.zero_le _, ⟨fun h k h1 h2 => by simp at h; omega, fun h => by
      rcases Nat.lt_or_ge lo hi with c | c
      · exact absurd (h lo (Nat.le_refl _) c) (by simp)
      · simp; omega⟩⟩
  | x :: l, lo, hp, hx, hlo => by
    rw [List.pairwise_cons] at hp
    have h0 := hx x (List.mem_cons_self ..)
    have ih := asc_len (hi := hi) (l := l) (lo := x + 1) hp.2 (fun y hy => ⟨hp.1 y hy, (hx y (List.mem_cons_of_mem _ hy)).2⟩) (by omega)
    rw [List.length_cons]
    refine ⟨by omega, fun h k h1 h2 => ?_, fun h => ?_⟩
    · have e : x = lo := by omega
      subst e
      by_cases c : k = x
      · rw [c]; exact List.mem_cons_self ..
      · exact List.mem_cons_of_mem _ (ih.2.1 (by omega) k (by omega) h2)
    · have e : x = lo := by
        rcases List.mem_cons.1 (h lo (Nat.le_refl _) (by omega)) with c | c
        · exact c.symm
        · have := hp.1 lo c; omega
      subst e
      have := ih.2.2 fun k h1 h2 => by
        rcases List.mem_cons.1 (h k (by omega) h2) with c | c
        · omega
        · exact c
      omega
/-- A mix of two blocks with unlike numbers is opened exactly if all sectors come from the same one. -/
theorem mix_shows {a b : Bs} (ha : a.length = 512) (hb : b.length = 512) {l : List Nat} (hp : l.Pairwise (· < ·)) (hl : ∀ i ∈ l, i < 8) (wa : Whole a) (wb : Whole b) (hne : num2 (at2 a 40) ≠ num2 (at2 b 40)) : Whole (mixP b a l) ↔ (l.length = 0 ∨ l.length = 8) := by
  have e40 := mixP_at2 ha hb hl (j := 40) (by omega)
  have etl : ∀ k, k < 8 → at2 (mixP b a l) (tl k) = if k ∈ l then at2 b 40 else at2 a 40 := by
    intro k hk
    have := mixP_at2 ha hb hl (j := tl k) (by simp only [tl]; omega)
    rw [show tl k / 64 = k by simp only [tl]; omega] at this
    rw [this, wa.2 k hk, wb.2 k hk]
  have hlen := asc_len (hi := 8) (lo := 0) hp (fun x hx => ⟨Nat.zero_le _, hl x hx⟩) (by omega)
  have hne' : at2 a 40 ≠ at2 b 40 := fun h => hne (by rw [h])
  constructor
  · rintro ⟨h1, h2⟩
    by_cases c : (0 : Nat) ∈ l
    · rw [if_pos c] at e40
      refine .inr (hlen.2.2 fun k _ hk => ?_)
      have := h2 k hk
      rw [etl k hk, e40] at this
      by_cases ck : k ∈ l
      · exact ck
      · rw [if_neg ck] at this; exact absurd this hne'
    · rw [if_neg c] at e40
      left
      match l, h2, etl, hl, e40 with
      | [], _, _, _, _ => rfl
      | x :: r, h2, etl, hl, e40 =>
        have hx := hl x (List.mem_cons_self ..)
        have := h2 x hx
        rw [etl x hx, if_pos (List.mem_cons_self ..), e40] at this
        exact absurd this.symm hne'
  · rintro (h | h)
    · rw [List.length_eq_zero_iff] at h
      subst h; exact wa
    · have hall := hlen.2.1 h
      rw [if_pos (hall 0 (by omega) (by omega))] at e40
      refine ⟨by rw [e40]; exact wb.1, fun k hk => ?_⟩
      rw [etl k hk, if_pos (hall k (by omega) hk), e40]
end Go.Proofs.YtpblmdolgocpaaaDoor

/-! Da -/
namespace Go.Proofs.YtpblmdolgocpaaaDoor
open Go Dw

abbrev i (n : Int) : D := .int .i64 n
/-- A function of data. -/
def Fn (f : Nat) (xs : List D) (r : D) : Prop := Run Tryd.prog f (xs.map .d) [] (.d r) []

def Wr.enc (x : Wr) : D := .agg [i x.at_, .str x.bytes]
structure Lo where
  ev : Int
  sec : Int
  deriving DecidableEq
def Lo.enc (x : Lo) : D := .agg [i x.ev, i x.sec]
structure Fl where
  reached : Int
  kept : List Int
def Fl.enc (x : Fl) : D := .agg [i x.reached, .fs (x.kept.map i)]

def within (n lo hi : Int) : Bool := decide (lo ≤ n) && decide (n ≤ hi)
def first : List Int → Int
  | [] => 0
  | e :: l => if e = 0 then first l else e
theorem first_nil : first [] = 0 := rfl
theorem first_cons (e : Int) (l : List Int) : first (e :: l) = if e = 0 then first l else e := rfl
theorem first_drop (l : List Int) (k : Nat) (h : k < l.length) : first (l.drop k) = if l[k] = 0 then first (l.drop (k + 1)) else l[k] := by
  rw [List.drop_eq_getElem_cons h]; rfl

/-- How many sectors bytes have. -/
abbrev sc (s : Bs) : Int := ((s.length / 64 : Nat) : Int)
def diskErr (s : Bs) : Int := if s = [] ∨ s.length % 64 ≠ 0 then 10 else if 131072 < s.length then 8 else 0
def readErr (s : Bs) (a c : Int) : Int := if diskErr s ≠ 0 then diskErr s else if a < 0 ∨ c < 0 then 2 else if sc s < a ∨ sc s - a < c then 37 else 0
def evErr (s : Bs) (x : Wr) : Int :=
  if x.at_ < 0 ∨ (x.bytes = [] ∧ x.at_ ≠ 0) then 2 else if x.bytes.length % 64 ≠ 0 then 10 else if sc s < x.at_ ∨ sc s - x.at_ < sc x.bytes then 37 else 0
def eachE (s : Bs) : List Wr → Nat → Int × Int
  | [], _ => (0, 0)
  | x :: l, k => if evErr s x = 0 then eachE s l (k + 1) else ((k : Int), evErr s x)
def evsErr (s : Bs) (l : List Wr) : Int × Int := if diskErr s ≠ 0 then (0, diskErr s) else if 2000 < l.length then (0, 8) else eachE s l 0
theorem eachE_drop {s : Bs} {l : List Wr} {k : Nat} (h : k < l.length) : eachE s (l.drop k) k = if evErr s l[k] = 0 then eachE s (l.drop (k + 1)) (k + 1) else ((k : Int), evErr s l[k]) := by
  rw [List.drop_eq_getElem_cons h]; rfl
theorem eachE_end {s : Bs} {l : List Wr} {k : Nat} (h : l.length ≤ k) : eachE s (l.drop k) k = (0, 0) := by
  rw [List.drop_eq_nil_of_le h]; rfl
theorem eachE_ok {s : Bs} : ∀ {l : List Wr} {k : Nat}, (eachE s l k).2 = 0 → ∀ x ∈ l, evErr s x = 0
  | [], _, _, x, hx => by cases hx
  | y :: l, k, h, x, hx => by
    simp only [eachE] at h
    by_cases hy : evErr s y = 0
    · rw [if_pos hy] at h
      rcases List.mem_cons.1 hx with rfl | hx
      · exact hy
      · exact eachE_ok h x hx
    · rw [if_neg hy] at h; exact absurd h hy
theorem diskErr_ok {s : Bs} (h : diskErr s = 0) : s ≠ [] ∧ s.length % 64 = 0 ∧ s.length ≤ 131072 := by
  unfold diskErr at h
  split at h
  · omega
  · rename_i h1
    split at h
    · omega
    · exact ⟨fun e => h1 (.inl e), Classical.byContradiction fun e => h1 (.inr e), by omega⟩
theorem evErr_ok {s : Bs} {x : Wr} (h : evErr s x = 0) : x.In (s.length / 64) ∧ (x.bytes = [] → x.at_ = 0) := by
  unfold evErr at h
  split at h
  · omega
  · rename_i h1
    split at h
    · omega
    · split at h
      · omega
      · rename_i h2 h3
        refine ⟨⟨by omega, Classical.byContradiction h2, by simp only [sc] at h3; omega⟩, fun e => Classical.byContradiction fun c => h1 (.inr ⟨e, c⟩)⟩
theorem evsErr_ok {s : Bs} {l : List Wr} (h : (evsErr s l).2 = 0) : diskErr s = 0 ∧ l.length ≤ 2000 ∧ (∀ x ∈ l, x.In (s.length / 64)) ∧ (evsErr s l).1 = 0 := by
  unfold evsErr at *
  by_cases h1 : diskErr s = 0
  · rw [if_neg (fun c => c h1)] at *
    by_cases h2 : 2000 < l.length
    · rw [if_pos h2] at h; exact absurd h (by decide)
    · rw [if_neg h2] at *
      refine ⟨h1, by omega, fun x hx => (evErr_ok (eachE_ok h x hx)).1, ?_⟩
      have key : ∀ (l : List Wr) (k : Nat), (eachE s l k).2 = 0 → (eachE s l k).1 = 0 := by
        intro l
        induction l with
        | nil => intro k _; rfl
        | cons x l ih =>
          intro k h
          simp only [eachE] at *
          split at h
          · rename_i c; rw [if_pos c]; exact ih _ h
          · rename_i c; exact absurd h c
      exact key _ _ h
  · rw [if_pos h1] at h; exact absurd h h1

theorem evsErr_d {s : Bs} {l : List Wr} (h : ¬ diskErr s = 0) : evsErr s l = (0, diskErr s) := by unfold evsErr; rw [if_pos h]
theorem evsErr_8 {s : Bs} {l : List Wr} (h : diskErr s = 0) (h2 : (2000 : Int) < l.length) : evsErr s l = (0, 8) := by
  unfold evsErr; rw [if_neg (fun c => c h), if_pos (by omega)]
theorem evsErr_0 {s : Bs} {l : List Wr} (h : diskErr s = 0) (h2 : ¬ (2000 : Int) < l.length) : evsErr s l = eachE s l 0 := by
  unfold evsErr; rw [if_neg (fun c => c h), if_neg (by omega)]
/-- The disk after events. -/
def wrote (s : Bs) (l : List Wr) : Bs := l.foldl pat s
def written (s : Bs) (l : List Wr) : Bs × Int := if (evsErr s l).2 ≠ 0 then ([], (evsErr s l).2) else (wrote s l, 0)

/-- How many of the first events are not behind the last barrier among them. -/
def settled (l : List Wr) : Nat → Nat
  | 0 => 0
  | k + 1 => if (l[k]?.map fun x => decide (x.bytes = [])) = some true then k + 1 else settled l k
theorem settled_le (l : List Wr) : ∀ k, settled l k ≤ k
  | 0 => Nat.le_refl _
  | k + 1 => by simp only [settled]; split <;> have := settled_le l k <;> omega
theorem settled_at {l : List Wr} {k : Nat} (h : k < l.length) : settled l (k + 1) = if l[k].bytes = [] then k + 1 else settled l k := by
  simp only [settled, List.getElem?_eq_getElem h, Option.map_some, Option.some.injEq, decide_eq_true_eq]

/-- The loose sectors of one event; of those from a to b. -/
def lo1 (k : Nat) (x : Wr) (n : Nat) : List Lo := (List.range n).map fun j => ⟨k, x.at_ + (j : Nat)⟩
def loK (l : List Wr) (a b : Nat) : List Lo := (List.range' a (b - a)).flatMap fun k => match l[k]? with | some x => lo1 k x (x.bytes.length / 64) | none => []
def loose (l : List Wr) (r : Nat) : List Lo := loK l (settled l r) r

def reachErr (s : Bs) (l : List Wr) (r : Int) : Int := if (evsErr s l).2 ≠ 0 then (evsErr s l).2 else if within r 0 l.length then 0 else 2

def pairErr (a b : Bs) : Int := if diskErr a ≠ 0 then diskErr a else if diskErr b ≠ 0 then diskErr b else if a.length = b.length then 0 else 10
def blockErr (s : Bs) : Int := if s.length = 512 then 0 else 10

theorem div_64 {n : Nat} {K : Int → Prop} (h : n < 9223372036854775808) (hk : K ((n / 64 : Nat) : Int)) : divK .i64 (n : Int) 64 K :=
  div64 (by omega) (by rw [Int.natCast_ediv] at hk; exact hk)
theorem rem_64 {n : Nat} {K : Int → Prop} (hk : K ((n % 64 : Nat) : Int)) : remK (n : Int) 64 K :=
  rem_nn (by omega) (by rw [Int.natCast_emod] at hk; exact hk)
theorem stK_nil (s : Bs) : stK s 0 = [] := rfl
theorem cut64 (s : Bs) {k : Nat} : (((s.take s.length).drop (k * 64)).take 64).drop 0 = sec s k := by
  rw [List.take_length]; rfl
theorem cut64r (s : Bs) {k : Nat} : (s.take (k * 64 + 64)).drop (k * 64) = sec s k := by
  rw [List.drop_take, show k * 64 + 64 - k * 64 = 64 by omega]; rfl
theorem sc_bd {s : Bs} (h : s.length < 1000000) : 0 ≤ sc s ∧ sc s < 1000000 := by
  show 0 ≤ ((s.length / 64 : Nat) : Int) ∧ ((s.length / 64 : Nat) : Int) < 1000000
  omega
theorem patch_def (s b : Bs) (a : Nat) : (s.take a).drop 0 ++ b ++ (s.take s.length).drop (a + b.length) = patch s a b := by
  rw [List.take_length]; rfl
theorem wrote_zero (s : Bs) (l : List Wr) : wrote s (l.take 0) = s := rfl
theorem wrote_snoc {s : Bs} {l : List Wr} {k : Nat} (h : k < l.length) : wrote s (l.take (k + 1)) = patch (wrote s (l.take k)) (64 * (l[k]).at_.toNat) (l[k]).bytes := by
  unfold wrote
  rw [List.take_succ_eq_append_getElem h, List.foldl_append]; rfl
theorem In_le {s : Bs} {x : Wr} (h : x.In (s.length / 64)) : 64 * x.at_.toNat + x.bytes.length ≤ s.length := by
  obtain ⟨_, h1, h2⟩ := h; omega
theorem wrote_len {s : Bs} : ∀ {l : List Wr}, (∀ x ∈ l, x.In (s.length / 64)) → (wrote s l).length = s.length := by
  intro l
  have key : ∀ (l : List Wr) (t : Bs), t.length = s.length → (∀ x ∈ l, x.In (s.length / 64)) → (l.foldl pat t).length = s.length := by
    intro l
    induction l with
    | nil => intro t ht _; exact ht
    | cons x l ih =>
      intro t ht h
      refine ih _ ?_ fun y hy => h y (List.mem_cons_of_mem _ hy)
      have := In_le (h x (List.mem_cons_self ..))
      rw [pat, patch_len (by omega)]; exact ht
  exact key l s rfl
theorem wr_cells (x y : Wr) : cellsEq [i x.at_, .str x.bytes] [i y.at_, .str y.bytes] = decide (x = y) := by
  rcases x with ⟨a, b⟩; rcases y with ⟨a', b'⟩
  rw [Bool.eq_iff_iff]
  simp [cellsEq, cellEq]
theorem on_wr {a b : Wr} {A B : Prop} (ht : a = b → A) (hf : a ≠ b → B) : onBool (cellsEq [i a.at_, .str a.bytes] [i b.at_, .str b.bytes]) A B := by
  rw [wr_cells]; exact on_dec ht hf
theorem on_wrn {a b : Wr} {A B : Prop} (ht : a ≠ b → A) (hf : a = b → B) : onBool (!cellsEq [i a.at_, .str a.bytes] [i b.at_, .str b.bytes]) A B := by
  rw [wr_cells]; exact on_ndec ht hf
theorem lo_cells (x y : Lo) : cellsEq [i x.ev, i x.sec] [i y.ev, i y.sec] = decide (x = y) := by
  rcases x with ⟨a, b⟩; rcases y with ⟨a', b'⟩
  rw [Bool.eq_iff_iff]
  simp [cellsEq, cellEq]
theorem on_lon {a b : Lo} {A B : Prop} (ht : a ≠ b → A) (hf : a = b → B) : onBool (!cellsEq [i a.ev, i a.sec] [i b.ev, i b.sec]) A B := by
  rw [lo_cells]; exact on_ndec ht hf
abbrev natD (j : Nat) : D := i j
/-- A row of strings. -/
def rw1 (st : List Bs) : AO := ⟨(st.map D.str).map .d, 1, 0⟩
def readB (s : Bs) (a c : Int) : Bs := (s.drop (a.toNat * 64)).take (c.toNat * 64)
def readR (s : Bs) (a c : Int) : Bs := if readErr s a c = 0 then readB s a c else []
theorem readErr_ok {s : Bs} {a c : Int} (h : readErr s a c = 0) : diskErr s = 0 ∧ 0 ≤ a ∧ 0 ≤ c ∧ a ≤ sc s ∧ c ≤ sc s - a := by
  unfold readErr at h
  split at h
  · omega
  · split at h
    · omega
    · split at h
      · omega
      · exact ⟨by omega, by omega, by omega, by omega, by omega⟩
/-- The sectors after the first k events. -/
def wrS (s : Bs) (l : List Wr) (k : Nat) : List Bs := (l.take k).foldl wr (stOf s)
theorem wrS_zero (s : Bs) (l : List Wr) : wrS s l 0 = stOf s := rfl
theorem wrS_succ {s : Bs} {l : List Wr} {k : Nat} (h : k < l.length) : wrS s l (k + 1) = wr (wrS s l k) l[k] := by
  unfold wrS
  rw [List.take_succ_eq_append_getElem h, List.foldl_append]; rfl
theorem wrS_ok {s : Bs} {l : List Wr} (hl : ∀ x ∈ l, x.In (s.length / 64)) (k : Nat) : (wrS s l k).flatten = wrote (stOf s).flatten (l.take k) ∧ All64 (wrS s l k) ∧ (wrS s l k).length = s.length / 64 := by
  have := wrs_flat (l := l.take k) (stOf_all s) (fun x hx => by rw [stOf_len]; exact hl x (List.mem_of_mem_take hx))
  rw [stOf_len] at this
  exact this
theorem wrS_len {s : Bs} {l : List Wr} (hl : ∀ x ∈ l, x.In (s.length / 64)) (k : Nat) : (wrS s l k).length = s.length / 64 := (wrS_ok hl k).2.2
end Go.Proofs.YtpblmdolgocpaaaDoor

/-! Wa -/
namespace Go.Proofs.YtpblmdolgocpaaaDoor
open Go Dw
set_option maxRecDepth 10000
set_option linter.unusedVariables false
set_option linter.unusedSimpArgs false
attribute [local irreducible] Run
set_option maxHeartbeats 2000000

attribute [local irreducible] sec stK put patch wrote pat

theorem c85 (n lo hi : Int) : Fn 85 [i n, i lo, i hi] (.bool (within n lo hi)) := by
  refine run_walkF eok Tryd.func85 rfl (by kernel_rfl) ?_
  conv => whnf
  repeat' (first
    | ((with_reducible refine on_dec_f ?_ ?_); (focus ((try simp only [List.length_map, List.length_cons, List.length_nil, List.length_append]); omega)); conv => whnf)
    | ((with_reducible refine on_dec_t ?_ ?_); (focus ((try simp only [List.length_map, List.length_cons, List.length_nil, List.length_append]); omega)); conv => whnf)
    | ((with_reducible refine on_dec (fun h => ?_) (fun h => ?_)) <;> (try simp only [List.length_map] at h) <;> conv => whnf)
    | ((with_reducible refine on_ndec (fun h => ?_) (fun h => ?_)) <;> (try simp only [List.length_map] at h) <;> conv => whnf)
    | ((with_reducible refine on_not (fun h => ?_) (fun h => ?_)) <;> conv => whnf)
    | ((with_reducible refine onBool_split (fun h => ?_) (fun h => ?_)) <;> conv => whnf)
    | (refine ⟨⟨(by first | rfl | (simp; done)), cap_ok (by simp only [List.length_map, List.length_cons, List.length_nil, List.length_append]; omega) rfl⟩, ?_⟩; conv => whnf)
    | (refine ⟨mem_one ⟨rfl, rfl⟩, ?_⟩; conv => whnf)
    | (refine ⟨(by intro y hy; obtain ⟨x, _, rfl⟩ := List.mem_map.1 hy; first | rfl | exact ⟨rfl, rfl⟩), ?_⟩; conv => whnf)
    | (refine ⟨cap_ok (by first | omega | (simp only [List.length_map]; omega)) rfl, ?_⟩; conv => whnf)
    | (refine ix_map (by omega) ?_; conv => whnf)
    | (refine ix_str (by omega) ?_; conv => whnf)
    | (refine wrap64 (by omega) ?_; conv => whnf)
    | (exfalso; simp only [List.length_map, List.length_cons, List.length_nil, List.length_append] at h; omega)
    | ((with_reducible refine endx_go ?_); first | (exact endx (congrArg D.bool (by simp [within, *])); done))
    | (refine ⟨rfl, ?_⟩; conv => whnf)
    | fail
    )

theorem c46 (n lo hi : Int) : Fn 46 [i n, i lo, i hi] (.bool (within n lo hi)) := by
  refine run_walkF eok Tryd.func46 rfl (by kernel_rfl) ?_
  conv => whnf
  repeat' (first
    | ((with_reducible refine on_dec_f ?_ ?_); (focus ((try simp only [List.length_map, List.length_cons, List.length_nil, List.length_append]); omega)); conv => whnf)
    | ((with_reducible refine on_dec_t ?_ ?_); (focus ((try simp only [List.length_map, List.length_cons, List.length_nil, List.length_append]); omega)); conv => whnf)
    | ((with_reducible refine on_dec (fun h => ?_) (fun h => ?_)) <;> (try simp only [List.length_map] at h) <;> conv => whnf)
    | ((with_reducible refine on_ndec (fun h => ?_) (fun h => ?_)) <;> (try simp only [List.length_map] at h) <;> conv => whnf)
    | ((with_reducible refine on_not (fun h => ?_) (fun h => ?_)) <;> conv => whnf)
    | ((with_reducible refine onBool_split (fun h => ?_) (fun h => ?_)) <;> conv => whnf)
    | (refine ⟨⟨(by first | rfl | (simp; done)), cap_ok (by simp only [List.length_map, List.length_cons, List.length_nil, List.length_append]; omega) rfl⟩, ?_⟩; conv => whnf)
    | (refine ⟨mem_one ⟨rfl, rfl⟩, ?_⟩; conv => whnf)
    | (refine ⟨(by intro y hy; obtain ⟨x, _, rfl⟩ := List.mem_map.1 hy; first | rfl | exact ⟨rfl, rfl⟩), ?_⟩; conv => whnf)
    | (refine ⟨cap_ok (by first | omega | (simp only [List.length_map]; omega)) rfl, ?_⟩; conv => whnf)
    | (refine ix_map (by omega) ?_; conv => whnf)
    | (refine ix_str (by omega) ?_; conv => whnf)
    | (refine wrap64 (by omega) ?_; conv => whnf)
    | (exfalso; simp only [List.length_map, List.length_cons, List.length_nil, List.length_append] at h; omega)
    | ((with_reducible refine endx_go ?_); first | (exact endx (congrArg D.bool (by simp [within, *])); done))
    | (refine ⟨rfl, ?_⟩; conv => whnf)
    | fail
    )

theorem c59 (a : Bool) (e : Int) : Fn 59 [.bool a, i e] (i (if a then 0 else e)) := by
  refine run_walkF eok Tryd.func59 rfl (by kernel_rfl) ?_
  conv => whnf
  repeat' (first
    | ((with_reducible refine on_dec_f ?_ ?_); (focus ((try simp only [List.length_map, List.length_cons, List.length_nil, List.length_append]); omega)); conv => whnf)
    | ((with_reducible refine on_dec_t ?_ ?_); (focus ((try simp only [List.length_map, List.length_cons, List.length_nil, List.length_append]); omega)); conv => whnf)
    | ((with_reducible refine on_dec (fun h => ?_) (fun h => ?_)) <;> (try simp only [List.length_map] at h) <;> conv => whnf)
    | ((with_reducible refine on_ndec (fun h => ?_) (fun h => ?_)) <;> (try simp only [List.length_map] at h) <;> conv => whnf)
    | ((with_reducible refine on_not (fun h => ?_) (fun h => ?_)) <;> conv => whnf)
    | ((with_reducible refine onBool_split (fun h => ?_) (fun h => ?_)) <;> conv => whnf)
    | (refine ⟨⟨(by first | rfl | (simp; done)), cap_ok (by simp only [List.length_map, List.length_cons, List.length_nil, List.length_append]; omega) rfl⟩, ?_⟩; conv => whnf)
    | (refine ⟨mem_one ⟨rfl, rfl⟩, ?_⟩; conv => whnf)
    | (refine ⟨(by intro y hy; obtain ⟨x, _, rfl⟩ := List.mem_map.1 hy; first | rfl | exact ⟨rfl, rfl⟩), ?_⟩; conv => whnf)
    | (refine ⟨cap_ok (by first | omega | (simp only [List.length_map]; omega)) rfl, ?_⟩; conv => whnf)
    | (refine ix_map (by omega) ?_; conv => whnf)
    | (refine ix_str (by omega) ?_; conv => whnf)
    | (refine wrap64 (by omega) ?_; conv => whnf)
    | (exfalso; simp only [List.length_map, List.length_cons, List.length_nil, List.length_append] at h; omega)
    | ((with_reducible refine endx_go ?_); first | (exact endx (congrArg i (by simp [h])); done))
    | (refine ⟨rfl, ?_⟩; conv => whnf)
    | fail
    )

theorem c58 (l : List Int) (hl : l.length < 1000000) : Fn 58 [.fs (l.map i)] (i (first l)) := by
  refine run_walkF eok Tryd.func58 rfl (by kernel_rfl) ?_
  conv => whnf
  repeat' (first
    | ((with_reducible refine on_dec_f ?_ ?_); (focus ((try simp only [List.length_map, List.length_cons, List.length_nil, List.length_append]); omega)); conv => whnf)
    | ((with_reducible refine on_dec_t ?_ ?_); (focus ((try simp only [List.length_map, List.length_cons, List.length_nil, List.length_append]); omega)); conv => whnf)
    | ((with_reducible refine on_dec (fun h => ?_) (fun h => ?_)) <;> (try simp only [List.length_map] at h) <;> conv => whnf)
    | ((with_reducible refine on_ndec (fun h => ?_) (fun h => ?_)) <;> (try simp only [List.length_map] at h) <;> conv => whnf)
    | ((with_reducible refine on_not (fun h => ?_) (fun h => ?_)) <;> conv => whnf)
    | ((with_reducible refine onBool_split (fun h => ?_) (fun h => ?_)) <;> conv => whnf)
    | ((with_reducible refine loop_go ?_); first | (refine loop1 (fun (k : Nat) => l.length - k) (fun (k : Nat) => k ≤ l.length ∧ first l = first (l.drop k)) (fun (k : Nat) => [(5, .d (.fs (l.map i))), (6, .d (i l.length)), (7, .d (i k))]) (fun (k : Nat) => []) (0) (by first | (simp; done) | (constructor <;> simp; done) | omega) ?_ (fun k C hI hC => ?_); (exact ⟨[], rfl, rfl, ⟨(by first | (show (_ : D) = _; with_reducible rfl) | exact rfl), (by first | (show (_ : D) = _; with_reducible rfl) | exact congrArg (D.int .i64) (by omega) | exact congrArg (D.int .i64) (by simp only [List.length_map]) | exact rfl), (by first | (show (_ : D) = _; with_reducible rfl) | exact congrArg (D.int .i64) (by omega) | exact congrArg (D.int .i64) (by simp only [List.length_map]) | exact rfl), trivial⟩, trivial⟩); all_goals (conv => whnf)))
    | ((with_reducible show C _ _); first | (refine hC (k + 1) _ _ ?_ (by omega) ?_; clear hC; rotate_left; (exact ⟨[], rfl, rfl, ⟨(by first | (show (_ : D) = _; with_reducible rfl) | exact rfl), (by first | (show (_ : D) = _; with_reducible rfl) | exact congrArg (D.int .i64) (by omega) | exact congrArg (D.int .i64) (by simp only [List.length_map]) | exact rfl), (by first | (show (_ : D) = _; with_reducible rfl) | exact congrArg (D.int .i64) (by omega) | exact congrArg (D.int .i64) (by simp only [List.length_map]) | exact rfl), trivial⟩, trivial⟩); (exact ⟨by omega, by rw [hI.2, first_drop _ _ (by omega), if_pos h]⟩)))
    | (refine ⟨⟨(by first | rfl | (simp; done)), cap_ok (by simp only [List.length_map, List.length_cons, List.length_nil, List.length_append]; omega) rfl⟩, ?_⟩; conv => whnf)
    | (refine ⟨mem_one ⟨rfl, rfl⟩, ?_⟩; conv => whnf)
    | (refine ⟨(by intro y hy; obtain ⟨x, _, rfl⟩ := List.mem_map.1 hy; first | rfl | exact ⟨rfl, rfl⟩), ?_⟩; conv => whnf)
    | (refine ⟨cap_ok (by first | omega | (simp only [List.length_map]; omega)) rfl, ?_⟩; conv => whnf)
    | (refine ix_map (by omega) ?_; conv => whnf)
    | (refine ix_str (by omega) ?_; conv => whnf)
    | (refine wrap64 (by omega) ?_; conv => whnf)
    | (refine wrap64 (by omega) ?_; conv => whnf)
    | (exfalso; simp only [List.length_map, List.length_cons, List.length_nil, List.length_append] at h; omega)
    | ((with_reducible refine endx_go ?_); first | (exact endx (congrArg i (by rw [hI.2, first_drop _ _ (by omega), if_neg h])); done) | (exact endx (congrArg i (by rw [hI.2, List.drop_eq_nil_of_le (by omega), first_nil])); done))
    | (refine ⟨rfl, ?_⟩; conv => whnf)
    | fail
    )

theorem c63 (s : Bs) (hs : s.length < 1000000) : Fn 63 [.str s] (i (sc s)) := by
  refine run_walkF eok Tryd.func63 rfl (by kernel_rfl) ?_
  conv => whnf
  repeat' (first
    | ((with_reducible refine on_dec_f ?_ ?_); (focus ((try simp only [List.length_map, List.length_cons, List.length_nil, List.length_append]); omega)); conv => whnf)
    | ((with_reducible refine on_dec_t ?_ ?_); (focus ((try simp only [List.length_map, List.length_cons, List.length_nil, List.length_append]); omega)); conv => whnf)
    | ((with_reducible refine on_dec (fun h => ?_) (fun h => ?_)) <;> (try simp only [List.length_map] at h) <;> conv => whnf)
    | ((with_reducible refine on_ndec (fun h => ?_) (fun h => ?_)) <;> (try simp only [List.length_map] at h) <;> conv => whnf)
    | ((with_reducible refine on_not (fun h => ?_) (fun h => ?_)) <;> conv => whnf)
    | ((with_reducible refine onBool_split (fun h => ?_) (fun h => ?_)) <;> conv => whnf)
    | (refine ⟨⟨(by first | rfl | (simp; done)), cap_ok (by simp only [List.length_map, List.length_cons, List.length_nil, List.length_append]; omega) rfl⟩, ?_⟩; conv => whnf)
    | (refine ⟨mem_one ⟨rfl, rfl⟩, ?_⟩; conv => whnf)
    | (refine ⟨(by intro y hy; obtain ⟨x, _, rfl⟩ := List.mem_map.1 hy; first | rfl | exact ⟨rfl, rfl⟩), ?_⟩; conv => whnf)
    | (refine ⟨cap_ok (by first | omega | (simp only [List.length_map]; omega)) rfl, ?_⟩; conv => whnf)
    | (refine ix_map (by omega) ?_; conv => whnf)
    | (refine ix_str (by omega) ?_; conv => whnf)
    | (refine wrap64 (by omega) ?_; conv => whnf)
    | (refine div_64 (by omega) ?_; conv => whnf)
    | (refine rem_64 ?_; conv => whnf)
    | (refine wrap64 (by omega) ?_; conv => whnf)
    | (exfalso; simp only [List.length_map, List.length_cons, List.length_nil, List.length_append] at h; omega)
    | ((with_reducible refine endx_go ?_); first | (exact endx rfl; done))
    | (refine ⟨rfl, ?_⟩; conv => whnf)
    | fail
    )

theorem c67 (s : Bs) (hs : s.length < 1000000) : Fn 67 [.str s] (i (sc s)) := by
  refine run_walkF eok Tryd.func67 rfl (by kernel_rfl) ?_
  conv => whnf
  repeat' (first
    | ((with_reducible refine on_dec_f ?_ ?_); (focus ((try simp only [List.length_map, List.length_cons, List.length_nil, List.length_append]); omega)); conv => whnf)
    | ((with_reducible refine on_dec_t ?_ ?_); (focus ((try simp only [List.length_map, List.length_cons, List.length_nil, List.length_append]); omega)); conv => whnf)
    | ((with_reducible refine on_dec (fun h => ?_) (fun h => ?_)) <;> (try simp only [List.length_map] at h) <;> conv => whnf)
    | ((with_reducible refine on_ndec (fun h => ?_) (fun h => ?_)) <;> (try simp only [List.length_map] at h) <;> conv => whnf)
    | ((with_reducible refine on_not (fun h => ?_) (fun h => ?_)) <;> conv => whnf)
    | ((with_reducible refine onBool_split (fun h => ?_) (fun h => ?_)) <;> conv => whnf)
    | (refine ⟨⟨(by first | rfl | (simp; done)), cap_ok (by simp only [List.length_map, List.length_cons, List.length_nil, List.length_append]; omega) rfl⟩, ?_⟩; conv => whnf)
    | (refine ⟨mem_one ⟨rfl, rfl⟩, ?_⟩; conv => whnf)
    | (refine ⟨(by intro y hy; obtain ⟨x, _, rfl⟩ := List.mem_map.1 hy; first | rfl | exact ⟨rfl, rfl⟩), ?_⟩; conv => whnf)
    | (refine ⟨cap_ok (by first | omega | (simp only [List.length_map]; omega)) rfl, ?_⟩; conv => whnf)
    | (refine ix_map (by omega) ?_; conv => whnf)
    | (refine ix_str (by omega) ?_; conv => whnf)
    | (refine wrap64 (by omega) ?_; conv => whnf)
    | (refine div_64 (by omega) ?_; conv => whnf)
    | (refine rem_64 ?_; conv => whnf)
    | (refine wrap64 (by omega) ?_; conv => whnf)
    | (exfalso; simp only [List.length_map, List.length_cons, List.length_nil, List.length_append] at h; omega)
    | ((with_reducible refine endx_go ?_); first | (exact endx rfl; done))
    | (refine ⟨rfl, ?_⟩; conv => whnf)
    | fail
    )

theorem c77 (s : Bs) (k : Nat) (h : (k + 1) * 64 ≤ s.length) (hs : s.length < 1000000) : Fn 77 [.str s, i k] (.str (sec s k)) := by
  refine run_walkF eok Tryd.func77 rfl (by kernel_rfl) ?_
  conv => whnf
  repeat' (first
    | ((with_reducible refine on_dec_f ?_ ?_); (focus ((try simp only [List.length_map, List.length_cons, List.length_nil, List.length_append]); omega)); conv => whnf)
    | ((with_reducible refine on_dec_t ?_ ?_); (focus ((try simp only [List.length_map, List.length_cons, List.length_nil, List.length_append]); omega)); conv => whnf)
    | ((with_reducible refine on_dec (fun h => ?_) (fun h => ?_)) <;> (try simp only [List.length_map] at h) <;> conv => whnf)
    | ((with_reducible refine on_ndec (fun h => ?_) (fun h => ?_)) <;> (try simp only [List.length_map] at h) <;> conv => whnf)
    | ((with_reducible refine on_not (fun h => ?_) (fun h => ?_)) <;> conv => whnf)
    | ((with_reducible refine onBool_split (fun h => ?_) (fun h => ?_)) <;> conv => whnf)
    | (refine ⟨⟨(by first | rfl | (simp; done)), cap_ok (by simp only [List.length_map, List.length_cons, List.length_nil, List.length_append]; omega) rfl⟩, ?_⟩; conv => whnf)
    | (refine ⟨mem_one ⟨rfl, rfl⟩, ?_⟩; conv => whnf)
    | (refine ⟨(by intro y hy; obtain ⟨x, _, rfl⟩ := List.mem_map.1 hy; first | rfl | exact ⟨rfl, rfl⟩), ?_⟩; conv => whnf)
    | (refine ⟨cap_ok (by first | omega | (simp only [List.length_map]; omega)) rfl, ?_⟩; conv => whnf)
    | (refine ix_map (by omega) ?_; conv => whnf)
    | (refine ix_str (by omega) ?_; conv => whnf)
    | (refine wrap64 (by omega) ?_; conv => whnf)
    | (refine sl_str (k * 64) s.length (by omega) (by omega) (by omega) ?_; conv => whnf)
    | (refine sl_str 0 64 (by omega) (by omega) (by simp only [List.length_drop, List.length_take]; omega) ?_; conv => whnf)
    | (refine wrap64 (by omega) ?_; conv => whnf)
    | (exfalso; simp only [List.length_map, List.length_cons, List.length_nil, List.length_append] at h; omega)
    | ((with_reducible refine endx_go ?_); first | (exact endx (congrArg D.str (cut64 s)); done))
    | (refine ⟨rfl, ?_⟩; conv => whnf)
    | fail
    )

theorem c73 (s : Bs) (k : Nat) (h : (k + 1) * 64 ≤ s.length) (hs : s.length < 1000000) : Fn 73 [.str s, i k] (.str (sec s k)) := by
  refine run_walkF eok Tryd.func73 rfl (by kernel_rfl) ?_
  conv => whnf
  repeat' (first
    | ((with_reducible refine on_dec_f ?_ ?_); (focus ((try simp only [List.length_map, List.length_cons, List.length_nil, List.length_append]); omega)); conv => whnf)
    | ((with_reducible refine on_dec_t ?_ ?_); (focus ((try simp only [List.length_map, List.length_cons, List.length_nil, List.length_append]); omega)); conv => whnf)
    | ((with_reducible refine on_dec (fun h => ?_) (fun h => ?_)) <;> (try simp only [List.length_map] at h) <;> conv => whnf)
    | ((with_reducible refine on_ndec (fun h => ?_) (fun h => ?_)) <;> (try simp only [List.length_map] at h) <;> conv => whnf)
    | ((with_reducible refine on_not (fun h => ?_) (fun h => ?_)) <;> conv => whnf)
    | ((with_reducible refine onBool_split (fun h => ?_) (fun h => ?_)) <;> conv => whnf)
    | (refine ⟨⟨(by first | rfl | (simp; done)), cap_ok (by simp only [List.length_map, List.length_cons, List.length_nil, List.length_append]; omega) rfl⟩, ?_⟩; conv => whnf)
    | (refine ⟨mem_one ⟨rfl, rfl⟩, ?_⟩; conv => whnf)
    | (refine ⟨(by intro y hy; obtain ⟨x, _, rfl⟩ := List.mem_map.1 hy; first | rfl | exact ⟨rfl, rfl⟩), ?_⟩; conv => whnf)
    | (refine ⟨cap_ok (by first | omega | (simp only [List.length_map]; omega)) rfl, ?_⟩; conv => whnf)
    | (refine ix_map (by omega) ?_; conv => whnf)
    | (refine ix_str (by omega) ?_; conv => whnf)
    | (refine wrap64 (by omega) ?_; conv => whnf)
    | (refine sl_str (k * 64) (k * 64 + 64) (by omega) (by omega) (by omega) ?_; conv => whnf)
    | (refine wrap64 (by omega) ?_; conv => whnf)
    | (exfalso; simp only [List.length_map, List.length_cons, List.length_nil, List.length_append] at h; omega)
    | ((with_reducible refine endx_go ?_); first | (exact endx (congrArg D.str (cut64r s)); done))
    | (refine ⟨rfl, ?_⟩; conv => whnf)
    | fail
    )

theorem c36 (s : Bs) (hs : s.length < 1000000) : Fn 36 [.str s] (i (diskErr s)) := by
  refine run_walkF eok Tryd.func36 rfl (by kernel_rfl) ?_
  conv => whnf
  repeat' (first
    | ((with_reducible refine on_dec_f ?_ ?_); (focus ((try simp only [List.length_map, List.length_cons, List.length_nil, List.length_append]); omega)); conv => whnf)
    | ((with_reducible refine on_dec_t ?_ ?_); (focus ((try simp only [List.length_map, List.length_cons, List.length_nil, List.length_append]); omega)); conv => whnf)
    | ((with_reducible refine on_dec (fun h => ?_) (fun h => ?_)) <;> (try simp only [List.length_map] at h) <;> conv => whnf)
    | ((with_reducible refine on_ndec (fun h => ?_) (fun h => ?_)) <;> (try simp only [List.length_map] at h) <;> conv => whnf)
    | ((with_reducible refine on_not (fun h => ?_) (fun h => ?_)) <;> conv => whnf)
    | ((with_reducible refine onBool_split (fun h => ?_) (fun h => ?_)) <;> conv => whnf)
    | ((with_reducible refine call_go ?_); (first | refine call_step (run_view (c59 _ _) rfl rfl) ?_ | refine call_step (run_view (c58 [_, _] (by simp)) rfl rfl) ?_ | refine call_step (run_view (c58 [_, _, _] (by simp)) rfl rfl) ?_ | refine call_step (run_view (c58 [_, _, _, _] (by simp)) rfl rfl) ?_); conv => whnf)
    | (refine ⟨⟨(by first | rfl | (simp; done)), cap_ok (by simp only [List.length_map, List.length_cons, List.length_nil, List.length_append]; omega) rfl⟩, ?_⟩; conv => whnf)
    | (refine ⟨mem_one ⟨rfl, rfl⟩, ?_⟩; conv => whnf)
    | (refine ⟨(by intro y hy; obtain ⟨x, _, rfl⟩ := List.mem_map.1 hy; first | rfl | exact ⟨rfl, rfl⟩), ?_⟩; conv => whnf)
    | (refine ⟨cap_ok (by first | omega | (simp only [List.length_map]; omega)) rfl, ?_⟩; conv => whnf)
    | (refine ix_map (by omega) ?_; conv => whnf)
    | (refine ix_str (by omega) ?_; conv => whnf)
    | (refine wrap64 (by omega) ?_; conv => whnf)
    | (refine div_64 (by omega) ?_; conv => whnf)
    | (refine rem_64 ?_; conv => whnf)
    | (refine wrap64 (by omega) ?_; conv => whnf)
    | (exfalso; simp only [List.length_map, List.length_cons, List.length_nil, List.length_append] at h; omega)
    | ((with_reducible refine endx_go ?_); first | (refine endx (congrArg i ?_); simp only [diskErr]; grind [first_cons, first_nil]; done))
    | (refine ⟨rfl, ?_⟩; conv => whnf)
    | fail
    )

theorem c20 (s : Bs) (hs : s.length < 1000000) : Fn 20 [.str s] (i (diskErr s)) := by
  refine run_walkF eok Tryd.func20 rfl (by kernel_rfl) ?_
  conv => whnf
  repeat' (first
    | ((with_reducible refine on_dec_f ?_ ?_); (focus ((try simp only [List.length_map, List.length_cons, List.length_nil, List.length_append]); omega)); conv => whnf)
    | ((with_reducible refine on_dec_t ?_ ?_); (focus ((try simp only [List.length_map, List.length_cons, List.length_nil, List.length_append]); omega)); conv => whnf)
    | ((with_reducible refine on_dec (fun h => ?_) (fun h => ?_)) <;> (try simp only [List.length_map] at h) <;> conv => whnf)
    | ((with_reducible refine on_ndec (fun h => ?_) (fun h => ?_)) <;> (try simp only [List.length_map] at h) <;> conv => whnf)
    | ((with_reducible refine on_not (fun h => ?_) (fun h => ?_)) <;> conv => whnf)
    | ((with_reducible refine onBool_split (fun h => ?_) (fun h => ?_)) <;> conv => whnf)
    | ((with_reducible refine call_go ?_); (first | refine call_step (run_view (c67 _ (by omega)) rfl rfl) ?_); conv => whnf)
    | (refine ⟨⟨(by first | rfl | (simp; done)), cap_ok (by simp only [List.length_map, List.length_cons, List.length_nil, List.length_append]; omega) rfl⟩, ?_⟩; conv => whnf)
    | (refine ⟨mem_one ⟨rfl, rfl⟩, ?_⟩; conv => whnf)
    | (refine ⟨(by intro y hy; obtain ⟨x, _, rfl⟩ := List.mem_map.1 hy; first | rfl | exact ⟨rfl, rfl⟩), ?_⟩; conv => whnf)
    | (refine ⟨cap_ok (by first | omega | (simp only [List.length_map]; omega)) rfl, ?_⟩; conv => whnf)
    | (refine ix_map (by omega) ?_; conv => whnf)
    | (refine ix_str (by omega) ?_; conv => whnf)
    | (refine wrap64 (by omega) ?_; conv => whnf)
    | (refine div_64 (by omega) ?_; conv => whnf)
    | (refine rem_64 ?_; conv => whnf)
    | (refine wrap64 (by omega) ?_; conv => whnf)
    | (exfalso; simp only [List.length_map, List.length_cons, List.length_nil, List.length_append] at h; omega)
    | ((with_reducible refine endx_go ?_); first | (refine endx (congrArg i ?_); simp only [diskErr]; grind; done))
    | (refine ⟨rfl, ?_⟩; conv => whnf)
    | fail
    )

theorem c38 (s : Bs) (a c : Int) (hs : s.length < 1000000) : Fn 38 [.str s, i a, i c] (i (readErr s a c)) := by
  have hsc := sc_bd hs
  refine run_walkF eok Tryd.func38 rfl (by kernel_rfl) ?_
  conv => whnf
  repeat' (first
    | ((with_reducible refine on_dec_f ?_ ?_); (focus ((try simp only [List.length_map, List.length_cons, List.length_nil, List.length_append]); omega)); conv => whnf)
    | ((with_reducible refine on_dec_t ?_ ?_); (focus ((try simp only [List.length_map, List.length_cons, List.length_nil, List.length_append]); omega)); conv => whnf)
    | ((with_reducible refine on_dec (fun h => ?_) (fun h => ?_)) <;> (try simp only [List.length_map] at h) <;> conv => whnf)
    | ((with_reducible refine on_ndec (fun h => ?_) (fun h => ?_)) <;> (try simp only [List.length_map] at h) <;> conv => whnf)
    | ((with_reducible refine on_not (fun h => ?_) (fun h => ?_)) <;> conv => whnf)
    | ((with_reducible refine onBool_split (fun h => ?_) (fun h => ?_)) <;> conv => whnf)
    | ((with_reducible refine call_go ?_); (first | refine call_step (run_view (c20 _ (by omega)) rfl rfl) ?_ | refine call_step (run_view (c67 _ (by omega)) rfl rfl) ?_); conv => whnf)
    | (refine ⟨⟨(by first | rfl | (simp; done)), cap_ok (by simp only [List.length_map, List.length_cons, List.length_nil, List.length_append]; omega) rfl⟩, ?_⟩; conv => whnf)
    | (refine ⟨mem_one ⟨rfl, rfl⟩, ?_⟩; conv => whnf)
    | (refine ⟨(by intro y hy; obtain ⟨x, _, rfl⟩ := List.mem_map.1 hy; first | rfl | exact ⟨rfl, rfl⟩), ?_⟩; conv => whnf)
    | (refine ⟨cap_ok (by first | omega | (simp only [List.length_map]; omega)) rfl, ?_⟩; conv => whnf)
    | (refine ix_map (by omega) ?_; conv => whnf)
    | (refine ix_str (by omega) ?_; conv => whnf)
    | (refine wrap64 (by omega) ?_; conv => whnf)
    | (refine div_64 (by omega) ?_; conv => whnf)
    | (refine rem_64 ?_; conv => whnf)
    | (refine wrap64 (by omega) ?_; conv => whnf)
    | (exfalso; simp only [List.length_map, List.length_cons, List.length_nil, List.length_append] at h; omega)
    | ((with_reducible refine endx_go ?_); first | (refine endx (congrArg i ?_); simp only [readErr]; grind; done))
    | (refine ⟨rfl, ?_⟩; conv => whnf)
    | fail
    )

theorem c62 (x : Wr) : Fn 62 [x.enc] (.bool (decide (x.bytes = []))) := by
  refine run_walkF eok Tryd.func62 rfl (by kernel_rfl) ?_
  conv => whnf
  repeat' (first
    | ((with_reducible refine on_dec_f ?_ ?_); (focus ((try simp only [List.length_map, List.length_cons, List.length_nil, List.length_append]); omega)); conv => whnf)
    | ((with_reducible refine on_dec_t ?_ ?_); (focus ((try simp only [List.length_map, List.length_cons, List.length_nil, List.length_append]); omega)); conv => whnf)
    | ((with_reducible refine on_dec (fun h => ?_) (fun h => ?_)) <;> (try simp only [List.length_map] at h) <;> conv => whnf)
    | ((with_reducible refine on_ndec (fun h => ?_) (fun h => ?_)) <;> (try simp only [List.length_map] at h) <;> conv => whnf)
    | ((with_reducible refine on_not (fun h => ?_) (fun h => ?_)) <;> conv => whnf)
    | ((with_reducible refine onBool_split (fun h => ?_) (fun h => ?_)) <;> conv => whnf)
    | (refine ⟨⟨(by first | rfl | (simp; done)), cap_ok (by simp only [List.length_map, List.length_cons, List.length_nil, List.length_append]; omega) rfl⟩, ?_⟩; conv => whnf)
    | (refine ⟨mem_one ⟨rfl, rfl⟩, ?_⟩; conv => whnf)
    | (refine ⟨(by intro y hy; obtain ⟨x, _, rfl⟩ := List.mem_map.1 hy; first | rfl | exact ⟨rfl, rfl⟩), ?_⟩; conv => whnf)
    | (refine ⟨cap_ok (by first | omega | (simp only [List.length_map]; omega)) rfl, ?_⟩; conv => whnf)
    | (refine ix_map (by omega) ?_; conv => whnf)
    | (refine ix_str (by omega) ?_; conv => whnf)
    | (refine wrap64 (by omega) ?_; conv => whnf)
    | (exfalso; simp only [List.length_map, List.length_cons, List.length_nil, List.length_append] at h; omega)
    | ((with_reducible refine endx_go ?_); first | (exact endx rfl; done))
    | (refine ⟨rfl, ?_⟩; conv => whnf)
    | fail
    )

theorem c61 (k : Nat) (x : Wr) (s : Bs) (hs : s.length < 1000000) (hx : x.bytes.length < 1000000) : Fn 61 [i k, x.enc, .fp (.str s) 0] (i (evErr s x)) := by
  have hsc := sc_bd hs
  refine run_walkF eok Tryd.func61 rfl (by kernel_rfl) ?_
  conv => whnf
  repeat' (first
    | ((with_reducible refine on_dec_f ?_ ?_); (focus ((try simp only [List.length_map, List.length_cons, List.length_nil, List.length_append]); omega)); conv => whnf)
    | ((with_reducible refine on_dec_t ?_ ?_); (focus ((try simp only [List.length_map, List.length_cons, List.length_nil, List.length_append]); omega)); conv => whnf)
    | ((with_reducible refine on_dec (fun h => ?_) (fun h => ?_)) <;> (try simp only [List.length_map] at h) <;> conv => whnf)
    | ((with_reducible refine on_ndec (fun h => ?_) (fun h => ?_)) <;> (try simp only [List.length_map] at h) <;> conv => whnf)
    | ((with_reducible refine on_not (fun h => ?_) (fun h => ?_)) <;> conv => whnf)
    | ((with_reducible refine onBool_split (fun h => ?_) (fun h => ?_)) <;> conv => whnf)
    | ((with_reducible refine call_go ?_); (first | refine call_step (run_view (c62 _) rfl rfl) ?_ | refine call_step (run_view (c59 _ _) rfl rfl) ?_ | refine call_step (run_view (c63 _ (by omega)) rfl rfl) ?_ | refine call_step (run_view (c58 [_, _] (by simp)) rfl rfl) ?_ | refine call_step (run_view (c58 [_, _, _] (by simp)) rfl rfl) ?_ | refine call_step (run_view (c58 [_, _, _, _] (by simp)) rfl rfl) ?_); conv => whnf)
    | (refine ⟨[], [(15, 5), (21, 5), (22, 5), (15, 13), (21, 13), (22, 13), (21, 19), (22, 19), (21, 23), (29, 28), (32, 28), (32, 30)], (by decide +kernel), ?_⟩; conv => whnf)
    | (refine ⟨⟨(by first | rfl | (simp; done)), cap_ok (by simp only [List.length_map, List.length_cons, List.length_nil, List.length_append]; omega) rfl⟩, ?_⟩; conv => whnf)
    | (refine ⟨mem_one ⟨rfl, rfl⟩, ?_⟩; conv => whnf)
    | (refine ⟨(by intro y hy; obtain ⟨x, _, rfl⟩ := List.mem_map.1 hy; first | rfl | exact ⟨rfl, rfl⟩), ?_⟩; conv => whnf)
    | (refine ⟨cap_ok (by first | omega | (simp only [List.length_map]; omega)) rfl, ?_⟩; conv => whnf)
    | (refine ix_map (by omega) ?_; conv => whnf)
    | (refine ix_str (by omega) ?_; conv => whnf)
    | (refine wrap64 (by omega) ?_; conv => whnf)
    | (refine div_64 (by omega) ?_; conv => whnf)
    | (refine rem_64 ?_; conv => whnf)
    | (refine wrap64 (by omega) ?_; conv => whnf)
    | (refine wrap_raw ?_; conv => whnf)
    | (exfalso; simp only [List.length_map, List.length_cons, List.length_nil, List.length_append] at h; omega)
    | ((with_reducible refine endx_go ?_); first | (refine endx (congrArg i ?_); simp only [evErr]; grind [first_cons, first_nil]; done))
    | (refine ⟨rfl, ?_⟩; conv => whnf)
    | fail
    )

end Go.Proofs.YtpblmdolgocpaaaDoor

/-! Wb -/
namespace Go.Proofs.YtpblmdolgocpaaaDoor
open Go Dw
set_option maxRecDepth 10000
set_option linter.unusedVariables false
set_option linter.unusedSimpArgs false
attribute [local irreducible] Run
set_option maxHeartbeats 4000000

attribute [local irreducible] sec stK put patch wrote pat wr

def smallB (s : Bs) (l : List Wr) : Bool := decide (s.length ≤ 2560) && decide (l.length ≤ 20) && l.all (fun x => decide (x.bytes.length ≤ 768))
theorem smallB_ok {s : Bs} {l : List Wr} (h : smallB s l = true) : s.length ≤ 2560 ∧ l.length ≤ 20 ∧ ∀ x ∈ l, x.bytes.length ≤ 768 := by
  simp only [smallB, Bool.and_eq_true, decide_eq_true_eq, List.all_eq_true] at h
  exact ⟨h.1.1, h.1.2, h.2⟩

theorem c12 (s : Bs) (l : List Wr) : Fn 12 [.str s, .fs (l.map Wr.enc)] (.bool (smallB s l)) := by
  refine run_walkF eok Tryd.func12 rfl (by kernel_rfl) ?_
  conv => whnf
  repeat' (first
    | ((with_reducible refine on_dec_f ?_ ?_); (focus ((try simp only [List.length_map, List.length_cons, List.length_nil, List.length_append]); omega)); conv => whnf)
    | ((with_reducible refine on_dec_t ?_ ?_); (focus ((try simp only [List.length_map, List.length_cons, List.length_nil, List.length_append]); omega)); conv => whnf)
    | ((with_reducible refine on_dec (fun h => ?_) (fun h => ?_)) <;> (try simp only [List.length_map] at h) <;> conv => whnf)
    | ((with_reducible refine on_ndec (fun h => ?_) (fun h => ?_)) <;> (try simp only [List.length_map] at h) <;> conv => whnf)
    | ((with_reducible refine on_not (fun h => ?_) (fun h => ?_)) <;> conv => whnf)
    | ((with_reducible refine onBool_split (fun h => ?_) (fun h => ?_)) <;> conv => whnf)
    | ((with_reducible refine loop_go ?_); first | (refine loop1 (fun (k : Nat) => l.length - k) (fun (k : Nat) => k ≤ l.length ∧ (l.take k).all (fun x => decide (x.bytes.length ≤ 768)) = true) (fun (k : Nat) => [(1, .d (.fs (l.map Wr.enc))), (5, .d (i k))]) (fun (k : Nat) => []) (0) (by first | (simp; done) | (constructor <;> simp; done) | omega) ?_ (fun k C hI hC => ?_); (exact ⟨[], rfl, rfl, ⟨(by first | (show (_ : D) = _; with_reducible rfl) | exact rfl), (by first | (show (_ : D) = _; with_reducible rfl) | exact congrArg (D.int .i64) (by omega) | exact congrArg (D.int .i64) (by simp only [List.length_map]) | exact rfl), trivial⟩, trivial⟩); all_goals (conv => whnf)))
    | ((with_reducible show C _ _); first | (refine hC (k + 1) _ _ ?_ (by omega) ?_; clear hC; rotate_left; (exact ⟨[], rfl, rfl, ⟨(by first | (show (_ : D) = _; with_reducible rfl) | exact rfl), (by first | (show (_ : D) = _; with_reducible rfl) | exact congrArg (D.int .i64) (by omega) | exact congrArg (D.int .i64) (by simp only [List.length_map]) | exact rfl), trivial⟩, trivial⟩); (exact ⟨by omega, by rw [List.take_succ_eq_append_getElem (by omega), List.all_append, hI.2]; simp; omega⟩)))
    | (refine ⟨⟨(by first | rfl | (simp; done)), cap_ok (by simp only [List.length_map, List.length_cons, List.length_nil, List.length_append]; omega) rfl⟩, ?_⟩; conv => whnf)
    | (refine ⟨mem_one ⟨rfl, rfl⟩, ?_⟩; conv => whnf)
    | (refine ⟨(by intro y hy; obtain ⟨x, _, rfl⟩ := List.mem_map.1 hy; first | rfl | exact ⟨rfl, rfl⟩), ?_⟩; conv => whnf)
    | (refine ⟨cap_ok (by first | omega | (simp only [List.length_map]; omega)) rfl, ?_⟩; conv => whnf)
    | (refine ix_map (by omega) ?_; conv => whnf)
    | (refine ix_str (by omega) ?_; conv => whnf)
    | (refine wrap64 (by omega) ?_; conv => whnf)
    | (refine wrap64 (by omega) ?_; conv => whnf)
    | (exfalso; simp only [List.length_map, List.length_cons, List.length_nil, List.length_append] at h; omega)
    | ((with_reducible refine endx_go ?_); first | (exact endx (congrArg D.bool (by simp only [smallB]; grind)); done) | (exact endx (congrArg D.bool (by have := hI.2; rw [List.take_of_length_le (by omega)] at this; simp only [smallB, this]; simp; omega)); done) | (exact endx (congrArg D.bool (by symm; simp only [smallB, Bool.and_eq_false_iff]; right; rw [List.all_eq_false]; exact ⟨l[k], List.getElem_mem _, by simp; omega⟩)); done))
    | (refine ⟨rfl, ?_⟩; conv => whnf)
    | fail
    )

theorem c14 (l : List Wr) (hl : l.length < 1000000) : Fn 14 [.fs (l.map Wr.enc)] (.fs (l.map Wr.enc)) := by
  refine run_walkF eok Tryd.func14 rfl (by kernel_rfl) ?_
  conv => whnf
  repeat' (first
    | ((with_reducible refine on_dec_f ?_ ?_); (focus ((try simp only [List.length_map, List.length_cons, List.length_nil, List.length_append]); omega)); conv => whnf)
    | ((with_reducible refine on_dec_t ?_ ?_); (focus ((try simp only [List.length_map, List.length_cons, List.length_nil, List.length_append]); omega)); conv => whnf)
    | ((with_reducible refine on_dec (fun h => ?_) (fun h => ?_)) <;> (try simp only [List.length_map] at h) <;> conv => whnf)
    | ((with_reducible refine on_ndec (fun h => ?_) (fun h => ?_)) <;> (try simp only [List.length_map] at h) <;> conv => whnf)
    | ((with_reducible refine on_not (fun h => ?_) (fun h => ?_)) <;> conv => whnf)
    | ((with_reducible refine onBool_split (fun h => ?_) (fun h => ?_)) <;> conv => whnf)
    | (refine ⟨⟨(by first | rfl | (simp; done)), cap_ok (by simp only [List.length_map, List.length_cons, List.length_nil, List.length_append]; omega) rfl⟩, ?_⟩; conv => whnf)
    | (refine ⟨mem_one ⟨rfl, rfl⟩, ?_⟩; conv => whnf)
    | (refine ⟨(by intro y hy; obtain ⟨x, _, rfl⟩ := List.mem_map.1 hy; first | rfl | exact ⟨rfl, rfl⟩), ?_⟩; conv => whnf)
    | (refine ⟨cap_ok (by first | omega | (simp only [List.length_map]; omega)) rfl, ?_⟩; conv => whnf)
    | (refine ix_map (by omega) ?_; conv => whnf)
    | (refine ix_str (by omega) ?_; conv => whnf)
    | (refine wrap64 (by omega) ?_; conv => whnf)
    | (exfalso; simp only [List.length_map, List.length_cons, List.length_nil, List.length_append] at h; omega)
    | ((with_reducible refine endx_go ?_); first | (exact endxv (view_new rfl (by decide)) rfl; done))
    | (refine ⟨rfl, ?_⟩; conv => whnf)
    | fail
    )

theorem c31 (l : List Int) (hl : l.length < 1000000) : Fn 31 [.fs (l.map i)] (.fs (l.map i)) := by
  refine run_walkF eok Tryd.func31 rfl (by kernel_rfl) ?_
  conv => whnf
  repeat' (first
    | ((with_reducible refine on_dec_f ?_ ?_); (focus ((try simp only [List.length_map, List.length_cons, List.length_nil, List.length_append]); omega)); conv => whnf)
    | ((with_reducible refine on_dec_t ?_ ?_); (focus ((try simp only [List.length_map, List.length_cons, List.length_nil, List.length_append]); omega)); conv => whnf)
    | ((with_reducible refine on_dec (fun h => ?_) (fun h => ?_)) <;> (try simp only [List.length_map] at h) <;> conv => whnf)
    | ((with_reducible refine on_ndec (fun h => ?_) (fun h => ?_)) <;> (try simp only [List.length_map] at h) <;> conv => whnf)
    | ((with_reducible refine on_not (fun h => ?_) (fun h => ?_)) <;> conv => whnf)
    | ((with_reducible refine onBool_split (fun h => ?_) (fun h => ?_)) <;> conv => whnf)
    | (refine ⟨⟨(by first | rfl | (simp; done)), cap_ok (by simp only [List.length_map, List.length_cons, List.length_nil, List.length_append]; omega) rfl⟩, ?_⟩; conv => whnf)
    | (refine ⟨mem_one ⟨rfl, rfl⟩, ?_⟩; conv => whnf)
    | (refine ⟨(by intro y hy; obtain ⟨x, _, rfl⟩ := List.mem_map.1 hy; first | rfl | exact ⟨rfl, rfl⟩), ?_⟩; conv => whnf)
    | (refine ⟨cap_ok (by first | omega | (simp only [List.length_map]; omega)) rfl, ?_⟩; conv => whnf)
    | (refine ix_map (by omega) ?_; conv => whnf)
    | (refine ix_str (by omega) ?_; conv => whnf)
    | (refine wrap64 (by omega) ?_; conv => whnf)
    | (exfalso; simp only [List.length_map, List.length_cons, List.length_nil, List.length_append] at h; omega)
    | ((with_reducible refine endx_go ?_); first | (exact endxv (view_new rfl (by decide)) rfl; done))
    | (refine ⟨rfl, ?_⟩; conv => whnf)
    | fail
    )

theorem c37 (s : Bs) (a c : Int) (hs : s.length < 1000000) : Fn 37 [.str s, i a, i c] (.tup [.str (readR s a c), i (readErr s a c)]) := by
  have hsc := sc_bd hs; have hsd : sc s = ((s.length / 64 : Nat) : Int) := rfl
  refine run_walkF eok Tryd.func37 rfl (by kernel_rfl) ?_
  conv => whnf
  repeat' (first
    | ((with_reducible refine on_dec_f ?_ ?_); (focus ((try simp only [List.length_map, List.length_cons, List.length_nil, List.length_append]); omega)); conv => whnf)
    | ((with_reducible refine on_dec_t ?_ ?_); (focus ((try simp only [List.length_map, List.length_cons, List.length_nil, List.length_append]); omega)); conv => whnf)
    | ((with_reducible refine on_dec (fun h => ?_) (fun h => ?_)) <;> (try simp only [List.length_map] at h) <;> conv => whnf)
    | ((with_reducible refine on_ndec (fun h => ?_) (fun h => ?_)) <;> (try simp only [List.length_map] at h) <;> conv => whnf)
    | ((with_reducible refine on_not (fun h => ?_) (fun h => ?_)) <;> conv => whnf)
    | ((with_reducible refine onBool_split (fun h => ?_) (fun h => ?_)) <;> conv => whnf)
    | ((with_reducible refine call_go ?_); (first | refine call_step (run_view (c36 _ (by omega)) rfl rfl) ?_ | refine call_step (run_view (c59 _ _) rfl rfl) ?_ | refine call_step (run_view (c58 [_, _] (by simp)) rfl rfl) ?_ | refine call_step (run_view (c58 [_, _, _] (by simp)) rfl rfl) ?_ | refine call_step (run_view (c58 [_, _, _, _] (by simp)) rfl rfl) ?_ | refine call_step (run_view (c63 _ (by omega)) rfl rfl) ?_); conv => whnf)
    | (refine ⟨⟨(by first | rfl | (simp; done)), cap_ok (by simp only [List.length_map, List.length_cons, List.length_nil, List.length_append]; omega) rfl⟩, ?_⟩; conv => whnf)
    | (refine ⟨mem_one ⟨rfl, rfl⟩, ?_⟩; conv => whnf)
    | (refine ⟨(by intro y hy; obtain ⟨x, _, rfl⟩ := List.mem_map.1 hy; first | rfl | exact ⟨rfl, rfl⟩), ?_⟩; conv => whnf)
    | (refine ⟨cap_ok (by first | omega | (simp only [List.length_map]; omega)) rfl, ?_⟩; conv => whnf)
    | (refine ix_map (by omega) ?_; conv => whnf)
    | (refine ix_str (by omega) ?_; conv => whnf)
    | (refine wrap64 (by omega) ?_; conv => whnf)
    | (refine sl_str (a.toNat * 64) s.length (by omega) (by omega) (by omega) ?_; conv => whnf)
    | (refine sl_str 0 (c.toNat * 64) (by omega) (by (have h0c : 0 ≤ c := by grind [first_cons, first_nil]); omega) (by (have h0c : 0 ≤ c := by grind [first_cons, first_nil]); simp only [List.length_drop, List.length_take]; omega) ?_; conv => whnf)
    | (refine div_64 (by omega) ?_; conv => whnf)
    | (refine rem_64 ?_; conv => whnf)
    | (refine wrap64 (by omega) ?_; conv => whnf)
    | (refine wrap64 (by (have h0c : 0 ≤ c := by grind [first_cons, first_nil]); omega) ?_; conv => whnf)
    | (exfalso; grind [first_cons, first_nil])
    | (exfalso; simp only [List.length_map, List.length_cons, List.length_nil, List.length_append] at h; omega)
    | ((with_reducible refine endx_go ?_); first | (refine endx2 ?_; (simp only [readR]; simp only [readErr]; simp_all [first_cons, first_nil]; done); done) | (refine endx2 ?_; (have e0 : readErr s a c ≠ 0 := (by simp only [readErr]; grind [first_cons, first_nil])); rw [readR, if_neg e0]; simp only [readErr]; grind [first_cons, first_nil]; done) | ((have e0 : readErr s a c = 0 := (by simp only [readErr]; grind [first_cons, first_nil])); refine endx2 ?_; rw [readR, if_pos e0, e0, List.take_length]; rfl; done))
    | (refine ⟨rfl, ?_⟩; conv => whnf)
    | fail
    )

theorem c60 (s : Bs) (l : List Wr) (hs : s.length < 1000000) (hl : l.length < 1000000) (hb : ∀ x ∈ l, x.bytes.length < 1000000) : Fn 60 [.fs (l.map Wr.enc), .fn 61 [] [.fp (.str s) 0]] (.tup [i (eachE s l 0).1, i (eachE s l 0).2]) := by
  refine run_walkF eok Tryd.func60 rfl (by kernel_rfl) ?_
  conv => whnf
  repeat' (first
    | ((with_reducible refine on_dec_f ?_ ?_); (focus ((try simp only [List.length_map, List.length_cons, List.length_nil, List.length_append]); omega)); conv => whnf)
    | ((with_reducible refine on_dec_t ?_ ?_); (focus ((try simp only [List.length_map, List.length_cons, List.length_nil, List.length_append]); omega)); conv => whnf)
    | ((with_reducible refine on_dec (fun h => ?_) (fun h => ?_)) <;> (try simp only [List.length_map] at h) <;> conv => whnf)
    | ((with_reducible refine on_ndec (fun h => ?_) (fun h => ?_)) <;> (try simp only [List.length_map] at h) <;> conv => whnf)
    | ((with_reducible refine on_not (fun h => ?_) (fun h => ?_)) <;> conv => whnf)
    | ((with_reducible refine onBool_split (fun h => ?_) (fun h => ?_)) <;> conv => whnf)
    | ((with_reducible refine call_go ?_); (first | refine call_step (run_view (c61 _ _ s hs (hb _ (List.getElem_mem _))) rfl rfl) ?_); conv => whnf)
    | ((with_reducible refine loop_go ?_); first | (refine loop1 (fun (k : Nat) => l.length - k) (fun (k : Nat) => k ≤ l.length ∧ eachE s l 0 = eachE s (l.drop k) k) (fun (k : Nat) => [(1, .d (.fn 61 [] [.fp (.str s) 0])), (9, .d (.fs (l.map Wr.enc))), (10, .d (i l.length)), (11, .d (i k))]) (fun (k : Nat) => []) (0) (by first | (simp; done) | (constructor <;> simp; done) | omega) ?_ (fun k C hI hC => ?_); (exact ⟨[], rfl, rfl, ⟨(by first | (show (_ : D) = _; with_reducible rfl) | exact rfl), (by first | (show (_ : D) = _; with_reducible rfl) | exact rfl), (by first | (show (_ : D) = _; with_reducible rfl) | exact congrArg (D.int .i64) (by omega) | exact congrArg (D.int .i64) (by simp only [List.length_map]) | exact rfl), (by first | (show (_ : D) = _; with_reducible rfl) | exact congrArg (D.int .i64) (by omega) | exact congrArg (D.int .i64) (by simp only [List.length_map]) | exact rfl), trivial⟩, trivial⟩); all_goals (conv => whnf)))
    | ((with_reducible show C _ _); first | (refine hC (k + 1) _ _ ?_ (by omega) ?_; clear hC; rotate_left; (exact ⟨[], rfl, rfl, ⟨(by first | (show (_ : D) = _; with_reducible rfl) | exact rfl), (by first | (show (_ : D) = _; with_reducible rfl) | exact rfl), (by first | (show (_ : D) = _; with_reducible rfl) | exact congrArg (D.int .i64) (by omega) | exact congrArg (D.int .i64) (by simp only [List.length_map]) | exact rfl), (by first | (show (_ : D) = _; with_reducible rfl) | exact congrArg (D.int .i64) (by omega) | exact congrArg (D.int .i64) (by simp only [List.length_map]) | exact rfl), trivial⟩, trivial⟩); (exact ⟨by omega, by rw [hI.2, eachE_drop (by omega), if_pos h]⟩)))
    | (refine ⟨⟨(by first | rfl | (simp; done)), cap_ok (by simp only [List.length_map, List.length_cons, List.length_nil, List.length_append]; omega) rfl⟩, ?_⟩; conv => whnf)
    | (refine ⟨mem_one ⟨rfl, rfl⟩, ?_⟩; conv => whnf)
    | (refine ⟨(by intro y hy; obtain ⟨x, _, rfl⟩ := List.mem_map.1 hy; first | rfl | exact ⟨rfl, rfl⟩), ?_⟩; conv => whnf)
    | (refine ⟨cap_ok (by first | omega | (simp only [List.length_map]; omega)) rfl, ?_⟩; conv => whnf)
    | (refine ix_map (by omega) ?_; conv => whnf)
    | (refine ix_str (by omega) ?_; conv => whnf)
    | (refine wrap64 (by omega) ?_; conv => whnf)
    | (refine wrap64 (by omega) ?_; conv => whnf)
    | (exfalso; simp only [List.length_map, List.length_cons, List.length_nil, List.length_append] at h; omega)
    | ((with_reducible refine endx_go ?_); first | (refine endx2 ?_; (rw [hI.2, eachE_drop (by omega), if_neg h]) <;> rfl; done) | (refine endx2 ?_; (rw [hI.2, eachE_end (by omega)]) <;> rfl; done))
    | (refine ⟨rfl, ?_⟩; conv => whnf)
    | fail
    )

theorem c13 (s : Bs) (l : List Wr) (hs : s.length < 1000000) (hl : l.length < 1000000) (hb : ∀ x ∈ l, x.bytes.length < 1000000) : Fn 13 [.str s, .fs (l.map Wr.enc)] (.tup [i (evsErr s l).1, i (evsErr s l).2]) := by
  refine run_walkF eok Tryd.func13 rfl (by kernel_rfl) ?_
  conv => whnf
  repeat' (first
    | ((with_reducible refine on_dec_f ?_ ?_); (focus ((try simp only [List.length_map, List.length_cons, List.length_nil, List.length_append]); omega)); conv => whnf)
    | ((with_reducible refine on_dec_t ?_ ?_); (focus ((try simp only [List.length_map, List.length_cons, List.length_nil, List.length_append]); omega)); conv => whnf)
    | ((with_reducible refine on_dec (fun h => ?_) (fun h => ?_)) <;> (try simp only [List.length_map] at h) <;> conv => whnf)
    | ((with_reducible refine on_ndec (fun h => ?_) (fun h => ?_)) <;> (try simp only [List.length_map] at h) <;> conv => whnf)
    | ((with_reducible refine on_not (fun h => ?_) (fun h => ?_)) <;> conv => whnf)
    | ((with_reducible refine onBool_split (fun h => ?_) (fun h => ?_)) <;> conv => whnf)
    | ((with_reducible refine call_go ?_); (first | refine call_step (run_view (c36 _ (by omega)) rfl rfl) ?_ | refine call_step (run_view (c59 _ _) rfl rfl) ?_ | refine call_step (run_view (c58 [_, _] (by simp)) rfl rfl) ?_ | refine call_step (run_view (c58 [_, _, _] (by simp)) rfl rfl) ?_ | refine call_step (run_view (c58 [_, _, _, _] (by simp)) rfl rfl) ?_ | refine call_step (run_view (c60 s l hs hl hb) rfl rfl) ?_); conv => whnf)
    | (refine ⟨⟨(by first | rfl | (simp; done)), cap_ok (by simp only [List.length_map, List.length_cons, List.length_nil, List.length_append]; omega) rfl⟩, ?_⟩; conv => whnf)
    | (refine ⟨mem_one ⟨rfl, rfl⟩, ?_⟩; conv => whnf)
    | (refine ⟨(by intro y hy; obtain ⟨x, _, rfl⟩ := List.mem_map.1 hy; first | rfl | exact ⟨rfl, rfl⟩), ?_⟩; conv => whnf)
    | (refine ⟨cap_ok (by first | omega | (simp only [List.length_map]; omega)) rfl, ?_⟩; conv => whnf)
    | (refine ix_map (by omega) ?_; conv => whnf)
    | (refine ix_str (by omega) ?_; conv => whnf)
    | (refine wrap64 (by omega) ?_; conv => whnf)
    | (refine wrap64 (by omega) ?_; conv => whnf)
    | (exfalso; simp only [List.length_map, List.length_cons, List.length_nil, List.length_append] at h; omega)
    | ((with_reducible refine endx_go ?_); first | (refine endx2 ?_; (simp only [evsErr]; grind [first_cons, first_nil]); done))
    | (refine ⟨rfl, ?_⟩; conv => whnf)
    | fail
    )

theorem c16 (s : Bs) (l : List Wr) (hs : s.length < 1000000) (hl : l.length < 1000000) (hb : ∀ x ∈ l, x.bytes.length < 1000000) : Fn 16 [.str s, .fs (l.map Wr.enc)] (.tup [i (evsErr s l).1, i (evsErr s l).2]) := by
  have hsc := sc_bd hs
  refine run_walkF eok Tryd.func16 rfl (by kernel_rfl) ?_
  conv => whnf
  repeat' (first
    | ((with_reducible refine on_dec_f ?_ ?_); (focus ((try simp only [List.length_map, List.length_cons, List.length_nil, List.length_append]); omega)); conv => whnf)
    | ((with_reducible refine on_dec_t ?_ ?_); (focus ((try simp only [List.length_map, List.length_cons, List.length_nil, List.length_append]); omega)); conv => whnf)
    | ((with_reducible refine on_dec (fun h => ?_) (fun h => ?_)) <;> (try simp only [List.length_map] at h) <;> conv => whnf)
    | ((with_reducible refine on_ndec (fun h => ?_) (fun h => ?_)) <;> (try simp only [List.length_map] at h) <;> conv => whnf)
    | ((with_reducible refine on_not (fun h => ?_) (fun h => ?_)) <;> conv => whnf)
    | ((with_reducible refine onBool_split (fun h => ?_) (fun h => ?_)) <;> conv => whnf)
    | ((with_reducible refine call_go ?_); (first | refine call_step (run_view (c20 _ (by omega)) rfl rfl) ?_ | refine call_step (run_view (c67 s hs) rfl rfl) ?_ | refine call_step (run_view (c67 _ (hb _ (List.getElem_mem _))) rfl rfl) ?_); conv => whnf)
    | (refine ⟨[], [(1, 3), (12, 8), (12, 10)], (by decide +kernel), ?_⟩; conv => whnf)
    | ((with_reducible refine loop_go ?_); first | (refine loop1 (fun (k : Nat) => l.length - k) (fun (k : Nat) => k ≤ l.length ∧ eachE s l 0 = eachE s (l.drop k) k) (fun (k : Nat) => [(0, .d (.str s)), (1, .d (.fs (l.map Wr.enc))), (7, .d (i k))]) (fun (k : Nat) => []) (0) (by first | (simp; done) | (constructor <;> simp; done) | omega) ?_ (fun k C hI hC => ?_); (exact ⟨[], rfl, rfl, ⟨(by first | (show (_ : D) = _; with_reducible rfl) | exact rfl), (by first | (show (_ : D) = _; with_reducible rfl) | exact rfl), (by first | (show (_ : D) = _; with_reducible rfl) | exact congrArg (D.int .i64) (by omega) | exact congrArg (D.int .i64) (by simp only [List.length_map]) | exact rfl), trivial⟩, trivial⟩); all_goals (conv => whnf)))
    | ((with_reducible show C _ _); first | (refine hC (k + 1) _ _ ?_ (by omega) ?_; clear hC; rotate_left; (exact ⟨[], rfl, rfl, ⟨(by first | (show (_ : D) = _; with_reducible rfl) | exact rfl), (by first | (show (_ : D) = _; with_reducible rfl) | exact rfl), (by first | (show (_ : D) = _; with_reducible rfl) | exact congrArg (D.int .i64) (by omega) | exact congrArg (D.int .i64) (by simp only [List.length_map]) | exact rfl), trivial⟩, trivial⟩); (exact ⟨by omega, by rw [hI.2, eachE_drop (by omega), if_pos (by simp only [evErr]; grind)]⟩)))
    | (refine ⟨⟨(by first | rfl | (simp; done)), cap_ok (by simp only [List.length_map, List.length_cons, List.length_nil, List.length_append]; omega) rfl⟩, ?_⟩; conv => whnf)
    | (refine ⟨mem_one ⟨rfl, rfl⟩, ?_⟩; conv => whnf)
    | (refine ⟨(by intro y hy; obtain ⟨x, _, rfl⟩ := List.mem_map.1 hy; first | rfl | exact ⟨rfl, rfl⟩), ?_⟩; conv => whnf)
    | (refine ⟨cap_ok (by first | omega | (simp only [List.length_map]; omega)) rfl, ?_⟩; conv => whnf)
    | (refine ix_map (by omega) ?_; conv => whnf)
    | (refine ix_str (by omega) ?_; conv => whnf)
    | (refine wrap64 (by omega) ?_; conv => whnf)
    | (refine div_64 (by omega) ?_; conv => whnf)
    | (refine rem_64 ?_; conv => whnf)
    | (refine wrap64 (by omega) ?_; conv => whnf)
    | (refine wrap_raw ?_; conv => whnf)
    | (exfalso; simp only [List.length_map, List.length_cons, List.length_nil, List.length_append] at h; omega)
    | ((with_reducible refine endx_go ?_); first | (refine endx2 ?_; (rw [evsErr_d (by assumption)]) <;> rfl; done) | (refine endx2 ?_; (rw [evsErr_8 (by assumption) (by assumption)]) <;> rfl; done) | (refine endx2 ?_; (rw [evsErr_0 (by assumption) (by assumption), hI.2, eachE_end (by omega)]) <;> rfl; done) | (refine endx2 ?_; (have he : evErr s (l[k]'(by omega)) ≠ 0 := (by simp only [evErr]; grind)); rw [evsErr_0 (by assumption) (by assumption), hI.2, eachE_drop (by omega), if_neg he]; simp only [evErr]; grind; done))
    | (refine ⟨rfl, ?_⟩; conv => whnf)
    | fail
    )

theorem c72 (s : Bs) (l : List Wr) (hs : s.length < 1000000) (hl : l.length < 1000000) (hb : ∀ x ∈ l, x.bytes.length < 1000000) : Fn 72 [.str s, .fs (l.map Wr.enc)] (i (evsErr s l).2) := by
  refine run_walkF eok Tryd.func72 rfl (by kernel_rfl) ?_
  conv => whnf
  repeat' (first
    | ((with_reducible refine on_dec_f ?_ ?_); (focus ((try simp only [List.length_map, List.length_cons, List.length_nil, List.length_append]); omega)); conv => whnf)
    | ((with_reducible refine on_dec_t ?_ ?_); (focus ((try simp only [List.length_map, List.length_cons, List.length_nil, List.length_append]); omega)); conv => whnf)
    | ((with_reducible refine on_dec (fun h => ?_) (fun h => ?_)) <;> (try simp only [List.length_map] at h) <;> conv => whnf)
    | ((with_reducible refine on_ndec (fun h => ?_) (fun h => ?_)) <;> (try simp only [List.length_map] at h) <;> conv => whnf)
    | ((with_reducible refine on_not (fun h => ?_) (fun h => ?_)) <;> conv => whnf)
    | ((with_reducible refine onBool_split (fun h => ?_) (fun h => ?_)) <;> conv => whnf)
    | ((with_reducible refine call_go ?_); (first | refine call_step (run_view (c16 s l hs hl hb) rfl rfl) ?_); conv => whnf)
    | (refine ⟨⟨(by first | rfl | (simp; done)), cap_ok (by simp only [List.length_map, List.length_cons, List.length_nil, List.length_append]; omega) rfl⟩, ?_⟩; conv => whnf)
    | (refine ⟨mem_one ⟨rfl, rfl⟩, ?_⟩; conv => whnf)
    | (refine ⟨(by intro y hy; obtain ⟨x, _, rfl⟩ := List.mem_map.1 hy; first | rfl | exact ⟨rfl, rfl⟩), ?_⟩; conv => whnf)
    | (refine ⟨cap_ok (by first | omega | (simp only [List.length_map]; omega)) rfl, ?_⟩; conv => whnf)
    | (refine ix_map (by omega) ?_; conv => whnf)
    | (refine ix_str (by omega) ?_; conv => whnf)
    | (refine wrap64 (by omega) ?_; conv => whnf)
    | (exfalso; simp only [List.length_map, List.length_cons, List.length_nil, List.length_append] at h; omega)
    | ((with_reducible refine endx_go ?_); first | (exact endx rfl; done))
    | (refine ⟨rfl, ?_⟩; conv => whnf)
    | fail
    )

end Go.Proofs.YtpblmdolgocpaaaDoor

/-! Wc -/
namespace Go.Proofs.YtpblmdolgocpaaaDoor
open Go Dw
set_option maxRecDepth 10000
set_option linter.unusedVariables false
set_option linter.unusedSimpArgs false
attribute [local irreducible] Run
set_option maxHeartbeats 4000000

attribute [local irreducible] sec stK put patch wrote pat wr

theorem c68 (s b : Bs) (a : Int) (n : Nat) (ha : a = n) (h : n + b.length ≤ s.length) (hs : s.length < 1000000) : Fn 68 [.str s, i a, .str b] (.str (patch s n b)) := by
  refine run_walkF eok Tryd.func68 rfl (by kernel_rfl) ?_
  conv => whnf
  repeat' (first
    | ((with_reducible refine on_dec_f ?_ ?_); (focus ((try simp only [List.length_map, List.length_cons, List.length_nil, List.length_append]); omega)); conv => whnf)
    | ((with_reducible refine on_dec_t ?_ ?_); (focus ((try simp only [List.length_map, List.length_cons, List.length_nil, List.length_append]); omega)); conv => whnf)
    | ((with_reducible refine on_dec (fun h => ?_) (fun h => ?_)) <;> (try simp only [List.length_map] at h) <;> conv => whnf)
    | ((with_reducible refine on_ndec (fun h => ?_) (fun h => ?_)) <;> (try simp only [List.length_map] at h) <;> conv => whnf)
    | ((with_reducible refine on_not (fun h => ?_) (fun h => ?_)) <;> conv => whnf)
    | ((with_reducible refine onBool_split (fun h => ?_) (fun h => ?_)) <;> conv => whnf)
    | (refine ⟨[], [], (by decide +kernel), ?_⟩; conv => whnf)
    | (refine ⟨⟨(by first | rfl | (simp; done)), cap_ok (by simp only [List.length_map, List.length_cons, List.length_nil, List.length_append]; omega) rfl⟩, ?_⟩; conv => whnf)
    | (refine ⟨mem_one ⟨rfl, rfl⟩, ?_⟩; conv => whnf)
    | (refine ⟨(by intro y hy; obtain ⟨x, _, rfl⟩ := List.mem_map.1 hy; first | rfl | exact ⟨rfl, rfl⟩), ?_⟩; conv => whnf)
    | (refine ⟨cap_ok (by first | omega | (simp only [List.length_map]; omega)) rfl, ?_⟩; conv => whnf)
    | (refine ix_map (by omega) ?_; conv => whnf)
    | (refine ix_str (by omega) ?_; conv => whnf)
    | (refine wrap64 (by omega) ?_; conv => whnf)
    | (refine sl_str 0 n (by omega) (by omega) (by omega) ?_; conv => whnf)
    | (refine sl_str (n + b.length) s.length (by omega) (by omega) (by omega) ?_; conv => whnf)
    | (refine str_add (by constructor <;> (first | omega | (simp only [List.length_append, List.length_take, List.length_drop]; omega))) ?_; conv => whnf)
    | (refine wrap64 (by omega) ?_; conv => whnf)
    | (exfalso; simp only [List.length_map, List.length_cons, List.length_nil, List.length_append] at h; omega)
    | ((with_reducible refine endx_go ?_); first | (exact endx (congrArg D.str (patch_def s b n)); done))
    | (refine ⟨rfl, ?_⟩; conv => whnf)
    | fail
    )

theorem c17 (s : Bs) (l : List Wr) (hs : s.length < 1000000) (hl : l.length < 1000000) (hi : ∀ x ∈ l, x.In (s.length / 64)) : Fn 17 [.str s, .fs (l.map Wr.enc)] (.str (wrote s l)) := by
  have hk := fun k => (fun x (hx : x ∈ l.take k) => hi x (List.mem_of_mem_take hx))
  refine run_walkF eok Tryd.func17 rfl (by kernel_rfl) ?_
  conv => whnf
  repeat' (first
    | ((with_reducible refine on_dec_f ?_ ?_); (focus ((try simp only [List.length_map, List.length_cons, List.length_nil, List.length_append]); omega)); conv => whnf)
    | ((with_reducible refine on_dec_t ?_ ?_); (focus ((try simp only [List.length_map, List.length_cons, List.length_nil, List.length_append]); omega)); conv => whnf)
    | ((with_reducible refine on_dec (fun h => ?_) (fun h => ?_)) <;> (try simp only [List.length_map] at h) <;> conv => whnf)
    | ((with_reducible refine on_ndec (fun h => ?_) (fun h => ?_)) <;> (try simp only [List.length_map] at h) <;> conv => whnf)
    | ((with_reducible refine on_not (fun h => ?_) (fun h => ?_)) <;> conv => whnf)
    | ((with_reducible refine onBool_split (fun h => ?_) (fun h => ?_)) <;> conv => whnf)
    | ((with_reducible refine call_go ?_); (first | refine call_step (run_view (c68 _ _ _ (64 * (l[k]'(by omega)).at_.toNat) (by have := (hi _ (List.getElem_mem (l := l) (n := k) (by omega))).1; omega) (by rw [wrote_len (hk k)]; exact In_le (hi _ (List.getElem_mem (l := l) (n := k) (by omega)))) (by rw [wrote_len (hk k)]; exact hs)) rfl rfl) ?_); conv => whnf)
    | (refine ⟨[], [], (by decide +kernel), ?_⟩; conv => whnf)
    | ((with_reducible refine loop_go ?_); first | (refine loop1 (fun (k : Nat) => l.length - k) (fun (k : Nat) => k ≤ l.length) (fun (k : Nat) => [(0, .d (.str (wrote s (l.take k)))), (1, .d (.fs (l.map Wr.enc))), (5, .d (i k))]) (fun (k : Nat) => []) (0) (by exact Nat.zero_le _) ?_ (fun k C hI hC => ?_); (exact ⟨[], rfl, rfl, ⟨(congrArg D.str (wrote_zero s l).symm), rfl, rfl, trivial⟩, trivial⟩); all_goals (conv => whnf)))
    | ((with_reducible show C _ _); first | (refine hC (k + 1) _ _ ?_ (by omega) ?_; clear hC; rotate_left; (exact ⟨[], rfl, rfl, ⟨(congrArg D.str (wrote_snoc (by omega)).symm), (by first | (show (_ : D) = _; with_reducible rfl) | exact rfl), (by first | (show (_ : D) = _; with_reducible rfl) | exact congrArg (D.int .i64) (by omega) | exact congrArg (D.int .i64) (by simp only [List.length_map]) | exact rfl), trivial⟩, trivial⟩); (exact (by omega : k + 1 ≤ l.length))))
    | (refine ⟨⟨(by first | rfl | (simp; done)), cap_ok (by simp only [List.length_map, List.length_cons, List.length_nil, List.length_append]; omega) rfl⟩, ?_⟩; conv => whnf)
    | (refine ⟨mem_one ⟨rfl, rfl⟩, ?_⟩; conv => whnf)
    | (refine ⟨(by intro y hy; obtain ⟨x, _, rfl⟩ := List.mem_map.1 hy; first | rfl | exact ⟨rfl, rfl⟩), ?_⟩; conv => whnf)
    | (refine ⟨cap_ok (by first | omega | (simp only [List.length_map]; omega)) rfl, ?_⟩; conv => whnf)
    | (refine ix_map (by omega) ?_; conv => whnf)
    | (refine ix_str (by omega) ?_; conv => whnf)
    | (refine wrap64 (by omega) ?_; conv => whnf)
    | (refine wrap64 (by have := hi _ (List.getElem_mem (l := l) (n := k) (by omega)); obtain ⟨_, _, _⟩ := this; omega) ?_; conv => whnf)
    | (refine wrap64 (by omega) ?_; conv => whnf)
    | (exfalso; simp only [List.length_map, List.length_cons, List.length_nil, List.length_append] at h; omega)
    | ((with_reducible refine endx_go ?_); first | (exact endx (congrArg D.str (by rw [List.take_of_length_le (by omega)])); done))
    | (refine ⟨rfl, ?_⟩; conv => whnf)
    | fail
    )

theorem c35 (l : List Wr) (r : Nat) (hl : l.length < 1000000) (hr : r ≤ l.length) : Fn 35 [.fs (l.map Wr.enc), i r] (i (settled l r : Nat)) := by
  refine run_walkF eok Tryd.func35 rfl (by kernel_rfl) ?_
  conv => whnf
  repeat' (first
    | ((with_reducible refine on_dec_f ?_ ?_); (focus ((try simp only [List.length_map, List.length_cons, List.length_nil, List.length_append]); omega)); conv => whnf)
    | ((with_reducible refine on_dec_t ?_ ?_); (focus ((try simp only [List.length_map, List.length_cons, List.length_nil, List.length_append]); omega)); conv => whnf)
    | ((with_reducible refine on_dec (fun h => ?_) (fun h => ?_)) <;> (try simp only [List.length_map] at h) <;> conv => whnf)
    | ((with_reducible refine on_ndec (fun h => ?_) (fun h => ?_)) <;> (try simp only [List.length_map] at h) <;> conv => whnf)
    | ((with_reducible refine on_not (fun h => ?_) (fun h => ?_)) <;> conv => whnf)
    | ((with_reducible refine onBool_split (fun h => ?_) (fun h => ?_)) <;> conv => whnf)
    | ((with_reducible refine loop_go ?_); first | (refine loop1 (fun (k : Nat) => r - k) (fun (k : Nat) => k ≤ r) (fun (k : Nat) => [(0, .d (.fs (l.map Wr.enc))), (1, .d (i r)), (5, .d (i (settled l k : Nat))), (6, .d (i k))]) (fun (k : Nat) => []) (0) (by exact Nat.zero_le _) ?_ (fun k C hI hC => ?_); (exact ⟨[], rfl, rfl, ⟨(by first | (show (_ : D) = _; with_reducible rfl) | exact rfl), (by first | (show (_ : D) = _; with_reducible rfl) | exact congrArg (D.int .i64) (by omega) | exact congrArg (D.int .i64) (by simp only [List.length_map]) | exact rfl), (by first | (show (_ : D) = _; with_reducible rfl) | exact congrArg (D.int .i64) (by omega) | exact congrArg (D.int .i64) (by simp only [List.length_map]) | exact rfl), (by first | (show (_ : D) = _; with_reducible rfl) | exact congrArg (D.int .i64) (by omega) | exact congrArg (D.int .i64) (by simp only [List.length_map]) | exact rfl), trivial⟩, trivial⟩); all_goals (conv => whnf)))
    | ((with_reducible show C _ _); first | (refine hC (k + 1) _ _ ?_ (by omega) ?_; clear hC; rotate_left; (exact ⟨[], rfl, rfl, ⟨(by first | (show (_ : D) = _; with_reducible rfl) | exact rfl), (by first | (show (_ : D) = _; with_reducible rfl) | exact congrArg (D.int .i64) (by omega) | exact congrArg (D.int .i64) (by simp only [List.length_map]) | exact rfl), (congrArg (D.int .i64) (by rw [settled_at (by omega)]; first | (rw [if_pos (by simpa using h)]; omega) | (rw [if_neg (by simpa using h)]))), (by first | (show (_ : D) = _; with_reducible rfl) | exact congrArg (D.int .i64) (by omega) | exact congrArg (D.int .i64) (by simp only [List.length_map]) | exact rfl), trivial⟩, trivial⟩); (exact (by omega : k + 1 ≤ r))))
    | (refine ⟨⟨(by first | rfl | (simp; done)), cap_ok (by simp only [List.length_map, List.length_cons, List.length_nil, List.length_append]; omega) rfl⟩, ?_⟩; conv => whnf)
    | (refine ⟨mem_one ⟨rfl, rfl⟩, ?_⟩; conv => whnf)
    | (refine ⟨(by intro y hy; obtain ⟨x, _, rfl⟩ := List.mem_map.1 hy; first | rfl | exact ⟨rfl, rfl⟩), ?_⟩; conv => whnf)
    | (refine ⟨cap_ok (by first | omega | (simp only [List.length_map]; omega)) rfl, ?_⟩; conv => whnf)
    | (refine ix_map (by omega) ?_; conv => whnf)
    | (refine ix_str (by omega) ?_; conv => whnf)
    | (refine wrap64 (by omega) ?_; conv => whnf)
    | (refine wrap64 (by omega) ?_; conv => whnf)
    | (exfalso; simp only [List.length_map, List.length_cons, List.length_nil, List.length_append] at h; omega)
    | ((with_reducible refine endx_go ?_); first | (exact endx (congrArg i (by rw [show k = r by omega])); done))
    | (refine ⟨rfl, ?_⟩; conv => whnf)
    | fail
    )

theorem c19 (s : Bs) (l : List Wr) (hs : s.length < 1000000) (hl : l.length < 1000000) (hb : ∀ x ∈ l, x.bytes.length < 1000000) (r : Int) : Fn 19 [.str s, .fs (l.map Wr.enc), i r] (i (reachErr s l r)) := by
  refine run_walkF eok Tryd.func19 rfl (by kernel_rfl) ?_
  conv => whnf
  repeat' (first
    | ((with_reducible refine on_dec_f ?_ ?_); (focus ((try simp only [List.length_map, List.length_cons, List.length_nil, List.length_append]); omega)); conv => whnf)
    | ((with_reducible refine on_dec_t ?_ ?_); (focus ((try simp only [List.length_map, List.length_cons, List.length_nil, List.length_append]); omega)); conv => whnf)
    | ((with_reducible refine on_dec (fun h => ?_) (fun h => ?_)) <;> (try simp only [List.length_map] at h) <;> conv => whnf)
    | ((with_reducible refine on_ndec (fun h => ?_) (fun h => ?_)) <;> (try simp only [List.length_map] at h) <;> conv => whnf)
    | ((with_reducible refine on_not (fun h => ?_) (fun h => ?_)) <;> conv => whnf)
    | ((with_reducible refine onBool_split (fun h => ?_) (fun h => ?_)) <;> conv => whnf)
    | ((with_reducible refine call_go ?_); (first | refine call_step (run_view (c72 s l hs hl hb) rfl rfl) ?_ | refine call_step (run_view (c46 _ _ _) rfl rfl) ?_); conv => whnf)
    | (refine ⟨⟨(by first | rfl | (simp; done)), cap_ok (by simp only [List.length_map, List.length_cons, List.length_nil, List.length_append]; omega) rfl⟩, ?_⟩; conv => whnf)
    | (refine ⟨mem_one ⟨rfl, rfl⟩, ?_⟩; conv => whnf)
    | (refine ⟨(by intro y hy; obtain ⟨x, _, rfl⟩ := List.mem_map.1 hy; first | rfl | exact ⟨rfl, rfl⟩), ?_⟩; conv => whnf)
    | (refine ⟨cap_ok (by first | omega | (simp only [List.length_map]; omega)) rfl, ?_⟩; conv => whnf)
    | (refine ix_map (by omega) ?_; conv => whnf)
    | (refine ix_str (by omega) ?_; conv => whnf)
    | (refine wrap64 (by omega) ?_; conv => whnf)
    | (refine wrap64 (by omega) ?_; conv => whnf)
    | (exfalso; simp only [List.length_map, List.length_cons, List.length_nil, List.length_append] at h; omega)
    | ((with_reducible refine endx_go ?_); first | (exact endx (congrArg i (by simp only [reachErr]; simp_all)); done))
    | (refine ⟨rfl, ?_⟩; conv => whnf)
    | fail
    )

theorem c76 (a b : Bs) (ha : a.length < 1000000) (hab : a.length = b.length) : Fn 76 [.str a, .str b] (.fs ((unl a b (a.length / 64)).map natD)) := by
  have hu := unl_le a b; have hsa : sc a = ((a.length / 64 : Nat) : Int) := rfl
  refine run_walkF eok Tryd.func76 rfl (by kernel_rfl) ?_
  conv => whnf
  repeat' (first
    | ((with_reducible refine on_dec_f ?_ ?_); (focus ((try simp only [List.length_map, List.length_cons, List.length_nil, List.length_append]); omega)); conv => whnf)
    | ((with_reducible refine on_dec_t ?_ ?_); (focus ((try simp only [List.length_map, List.length_cons, List.length_nil, List.length_append]); omega)); conv => whnf)
    | ((with_reducible refine on_dec (fun h => ?_) (fun h => ?_)) <;> (try simp only [List.length_map] at h) <;> conv => whnf)
    | ((with_reducible refine on_ndec (fun h => ?_) (fun h => ?_)) <;> (try simp only [List.length_map] at h) <;> conv => whnf)
    | ((with_reducible refine on_not (fun h => ?_) (fun h => ?_)) <;> conv => whnf)
    | ((with_reducible refine onBool_split (fun h => ?_) (fun h => ?_)) <;> conv => whnf)
    | ((with_reducible refine call_go ?_); (first | refine call_step (run_view (c63 _ (by omega)) rfl rfl) ?_ | refine call_step (run_view (c77 a k (by omega) ha) rfl rfl) ?_ | refine call_step (run_view (c77 b k (by omega) (by omega)) rfl rfl) ?_); conv => whnf)
    | ((with_reducible refine loop_go ?_); first | (refine loop1 (fun (k : Nat) => a.length / 64 - k) (fun (k : Nat) => k ≤ a.length / 64) (fun (k : Nat) => [(0, .d (.str a)), (1, .d (.str b)), (5, .sl 0 0 (unl a b k).length 1 none), (8, .d (i (sc a))), (9, .d (i k))]) (fun (k : Nat) => [⟨((unl a b k).map natD).map .d, 1, 0⟩]) (0) (by exact Nat.zero_le _) ?_ (fun k C hI hC => ?_); (exact ⟨[.void 1], rfl, rfl, ⟨rfl, rfl, ⟨rfl, rfl, rfl, rfl⟩, rfl, rfl, trivial⟩, ⟨⟨rfl, rfl, by decide, rfl⟩, trivial⟩⟩); all_goals (conv => whnf)))
    | ((with_reducible show C _ _); first | (refine hC (k + 1) _ _ ?_ (by omega) ?_; clear hC; rotate_left; (exact ⟨[.old 2], rfl, rfl, ⟨(by first | (show (_ : D) = _; with_reducible rfl) | exact rfl), (by first | (show (_ : D) = _; with_reducible rfl) | exact rfl), ⟨rfl, rfl, (by rw [unl_succ, if_neg h, List.length_append]; rfl), rfl, rfl⟩, (by first | (show (_ : D) = _; with_reducible rfl) | exact congrArg (D.int .i64) (by omega) | exact congrArg (D.int .i64) (by simp only [List.length_map]) | exact rfl), (by first | (show (_ : D) = _; with_reducible rfl) | exact congrArg (D.int .i64) (by omega) | exact congrArg (D.int .i64) (by simp only [List.length_map]) | exact rfl), trivial⟩, ⟨⟨rfl, rfl, .inr (by rw [unl_succ, if_neg h]; exact wks_add (wksd _ _) rfl)⟩, trivial⟩⟩); (exact (by omega : k + 1 ≤ a.length / 64))) | (refine hC (k + 1) _ _ ?_ (by omega) ?_; clear hC; rotate_left; (exact ⟨[.old 0], rfl, rfl, ⟨(by first | (show (_ : D) = _; with_reducible rfl) | exact rfl), (by first | (show (_ : D) = _; with_reducible rfl) | exact rfl), ⟨rfl, rfl, (by rw [unl_succ, if_pos h]), rfl, rfl⟩, (by first | (show (_ : D) = _; with_reducible rfl) | exact congrArg (D.int .i64) (by omega) | exact congrArg (D.int .i64) (by simp only [List.length_map]) | exact rfl), (by first | (show (_ : D) = _; with_reducible rfl) | exact congrArg (D.int .i64) (by omega) | exact congrArg (D.int .i64) (by simp only [List.length_map]) | exact rfl), trivial⟩, ⟨⟨rfl, rfl, .inr (by rw [unl_succ, if_pos h]; exact wksd _ _)⟩, trivial⟩⟩); (exact (by omega : k + 1 ≤ a.length / 64))))
    | (refine ⟨⟨(by first | rfl | (simp; done)), cap_ok (by simp only [List.length_map, List.length_cons, List.length_nil, List.length_append]; omega) rfl⟩, ?_⟩; conv => whnf)
    | (refine ⟨mem_one ⟨rfl, rfl⟩, ?_⟩; conv => whnf)
    | (refine ⟨(by intro y hy; obtain ⟨x, _, rfl⟩ := List.mem_map.1 hy; first | rfl | exact ⟨rfl, rfl⟩), ?_⟩; conv => whnf)
    | (refine ⟨cap_ok (by first | omega | (simp only [List.length_map]; omega)) rfl, ?_⟩; conv => whnf)
    | (refine ix_map (by omega) ?_; conv => whnf)
    | (refine ix_str (by omega) ?_; conv => whnf)
    | (refine wrap64 (by omega) ?_; conv => whnf)
    | (refine ⟨Nat.le_refl _, ?_⟩; conv => whnf)
    | (refine ⟨⟨(by simp only [List.length_map, List.length_append]; omega), cap_ok (by have := hu k; simp only [List.length_map, List.length_cons, List.length_nil, List.length_append]; omega) rfl⟩, ?_⟩; conv => whnf)
    | (refine ⟨cap_ok (by have := hu k; simp only [List.length_map, List.length_cons, List.length_nil, List.length_append]; omega) rfl, ?_⟩; conv => whnf)
    | (refine wrap64 (by omega) ?_; conv => whnf)
    | (exfalso; simp only [List.length_map, List.length_cons, List.length_nil, List.length_append] at h; omega)
    | ((with_reducible refine endx_go ?_); first | (refine endxv (view_map rfl Nat.two_pos) (congrArg (fun n => D.fs ((unl a b n).map natD)) (by omega)); done))
    | (refine ⟨rfl, ?_⟩; conv => whnf)
    | fail
    )

theorem c26 (a b : Bs) (ha : a.length < 1000000) (hab : a.length = b.length) : Fn 26 [.str a, .str b] (.fs ((unl a b (a.length / 64)).map natD)) := by
  have hu := unl_le a b; have hsa : sc a = ((a.length / 64 : Nat) : Int) := rfl
  refine run_walkF eok Tryd.func26 rfl (by kernel_rfl) ?_
  conv => whnf
  repeat' (first
    | ((with_reducible refine on_dec_f ?_ ?_); (focus ((try simp only [List.length_map, List.length_cons, List.length_nil, List.length_append]); omega)); conv => whnf)
    | ((with_reducible refine on_dec_t ?_ ?_); (focus ((try simp only [List.length_map, List.length_cons, List.length_nil, List.length_append]); omega)); conv => whnf)
    | ((with_reducible refine on_dec (fun h => ?_) (fun h => ?_)) <;> (try simp only [List.length_map] at h) <;> conv => whnf)
    | ((with_reducible refine on_ndec (fun h => ?_) (fun h => ?_)) <;> (try simp only [List.length_map] at h) <;> conv => whnf)
    | ((with_reducible refine on_not (fun h => ?_) (fun h => ?_)) <;> conv => whnf)
    | ((with_reducible refine onBool_split (fun h => ?_) (fun h => ?_)) <;> conv => whnf)
    | ((with_reducible refine call_go ?_); (first | refine call_step (run_view (c67 _ (by omega)) rfl rfl) ?_ | refine call_step (run_view (c73 a k (by omega) ha) rfl rfl) ?_ | refine call_step (run_view (c73 b k (by omega) (by omega)) rfl rfl) ?_); conv => whnf)
    | ((with_reducible refine loop_go ?_); first | (refine loop1 (fun (k : Nat) => a.length / 64 - k) (fun (k : Nat) => k ≤ a.length / 64) (fun (k : Nat) => [(0, .d (.str a)), (1, .d (.str b)), (5, .sl 0 0 (unl a b k).length 1 none), (6, .d (i k))]) (fun (k : Nat) => [⟨((unl a b k).map natD).map .d, 1, 0⟩]) (0) (by exact Nat.zero_le _) ?_ (fun k C hI hC => ?_); (exact ⟨[.void 1], rfl, rfl, ⟨rfl, rfl, ⟨rfl, rfl, rfl, rfl⟩, rfl, trivial⟩, ⟨⟨rfl, rfl, by decide, rfl⟩, trivial⟩⟩); all_goals (conv => whnf)))
    | ((with_reducible show C _ _); first | (refine hC (k + 1) _ _ ?_ (by omega) ?_; clear hC; rotate_left; (exact ⟨[.old 2], rfl, rfl, ⟨(by first | (show (_ : D) = _; with_reducible rfl) | exact rfl), (by first | (show (_ : D) = _; with_reducible rfl) | exact rfl), ⟨rfl, rfl, (by rw [unl_succ, if_neg h, List.length_append]; rfl), rfl, rfl⟩, (by first | (show (_ : D) = _; with_reducible rfl) | exact congrArg (D.int .i64) (by omega) | exact congrArg (D.int .i64) (by simp only [List.length_map]) | exact rfl), trivial⟩, ⟨⟨rfl, rfl, .inr (by rw [unl_succ, if_neg h]; exact wks_add (wksd _ _) rfl)⟩, trivial⟩⟩); (exact (by omega : k + 1 ≤ a.length / 64))) | (refine hC (k + 1) _ _ ?_ (by omega) ?_; clear hC; rotate_left; (exact ⟨[.old 0], rfl, rfl, ⟨(by first | (show (_ : D) = _; with_reducible rfl) | exact rfl), (by first | (show (_ : D) = _; with_reducible rfl) | exact rfl), ⟨rfl, rfl, (by rw [unl_succ, if_pos h]), rfl, rfl⟩, (by first | (show (_ : D) = _; with_reducible rfl) | exact congrArg (D.int .i64) (by omega) | exact congrArg (D.int .i64) (by simp only [List.length_map]) | exact rfl), trivial⟩, ⟨⟨rfl, rfl, .inr (by rw [unl_succ, if_pos h]; exact wksd _ _)⟩, trivial⟩⟩); (exact (by omega : k + 1 ≤ a.length / 64))))
    | (refine ⟨⟨(by first | rfl | (simp; done)), cap_ok (by simp only [List.length_map, List.length_cons, List.length_nil, List.length_append]; omega) rfl⟩, ?_⟩; conv => whnf)
    | (refine ⟨mem_one ⟨rfl, rfl⟩, ?_⟩; conv => whnf)
    | (refine ⟨(by intro y hy; obtain ⟨x, _, rfl⟩ := List.mem_map.1 hy; first | rfl | exact ⟨rfl, rfl⟩), ?_⟩; conv => whnf)
    | (refine ⟨cap_ok (by first | omega | (simp only [List.length_map]; omega)) rfl, ?_⟩; conv => whnf)
    | (refine ix_map (by omega) ?_; conv => whnf)
    | (refine ix_str (by omega) ?_; conv => whnf)
    | (refine wrap64 (by omega) ?_; conv => whnf)
    | (refine ⟨Nat.le_refl _, ?_⟩; conv => whnf)
    | (refine ⟨⟨(by simp only [List.length_map, List.length_append]; omega), cap_ok (by have := hu k; simp only [List.length_map, List.length_cons, List.length_nil, List.length_append]; omega) rfl⟩, ?_⟩; conv => whnf)
    | (refine ⟨cap_ok (by have := hu k; simp only [List.length_map, List.length_cons, List.length_nil, List.length_append]; omega) rfl, ?_⟩; conv => whnf)
    | (refine wrap64 (by omega) ?_; conv => whnf)
    | (exfalso; simp only [List.length_map, List.length_cons, List.length_nil, List.length_append] at h; omega)
    | ((with_reducible refine endx_go ?_); first | (refine endxv (view_map rfl Nat.two_pos) (congrArg (fun n => D.fs ((unl a b n).map natD)) (by omega)); done))
    | (refine ⟨rfl, ?_⟩; conv => whnf)
    | fail
    )

theorem c24 (a b : Bs) (ha : a.length < 1000000) (hb : b.length < 1000000) : Fn 24 [.str a, .str b] (i (pairErr a b)) := by
  refine run_walkF eok Tryd.func24 rfl (by kernel_rfl) ?_
  conv => whnf
  repeat' (first
    | ((with_reducible refine on_dec_f ?_ ?_); (focus ((try simp only [List.length_map, List.length_cons, List.length_nil, List.length_append]); omega)); conv => whnf)
    | ((with_reducible refine on_dec_t ?_ ?_); (focus ((try simp only [List.length_map, List.length_cons, List.length_nil, List.length_append]); omega)); conv => whnf)
    | ((with_reducible refine on_dec (fun h => ?_) (fun h => ?_)) <;> (try simp only [List.length_map] at h) <;> conv => whnf)
    | ((with_reducible refine on_ndec (fun h => ?_) (fun h => ?_)) <;> (try simp only [List.length_map] at h) <;> conv => whnf)
    | ((with_reducible refine on_not (fun h => ?_) (fun h => ?_)) <;> conv => whnf)
    | ((with_reducible refine onBool_split (fun h => ?_) (fun h => ?_)) <;> conv => whnf)
    | ((with_reducible refine call_go ?_); (first | refine call_step (run_view (c20 _ (by omega)) rfl rfl) ?_); conv => whnf)
    | (refine ⟨⟨(by first | rfl | (simp; done)), cap_ok (by simp only [List.length_map, List.length_cons, List.length_nil, List.length_append]; omega) rfl⟩, ?_⟩; conv => whnf)
    | (refine ⟨mem_one ⟨rfl, rfl⟩, ?_⟩; conv => whnf)
    | (refine ⟨(by intro y hy; obtain ⟨x, _, rfl⟩ := List.mem_map.1 hy; first | rfl | exact ⟨rfl, rfl⟩), ?_⟩; conv => whnf)
    | (refine ⟨cap_ok (by first | omega | (simp only [List.length_map]; omega)) rfl, ?_⟩; conv => whnf)
    | (refine ix_map (by omega) ?_; conv => whnf)
    | (refine ix_str (by omega) ?_; conv => whnf)
    | (refine wrap64 (by omega) ?_; conv => whnf)
    | (exfalso; simp only [List.length_map, List.length_cons, List.length_nil, List.length_append] at h; omega)
    | ((with_reducible refine endx_go ?_); first | (refine endx (congrArg i ?_); simp only [pairErr]; grind; done))
    | (refine ⟨rfl, ?_⟩; conv => whnf)
    | fail
    )

theorem c75 (a b : Bs) (ha : a.length < 1000000) (hb : b.length < 1000000) : Fn 75 [.str a, .str b] (i (pairErr a b)) := by
  refine run_walkF eok Tryd.func75 rfl (by kernel_rfl) ?_
  conv => whnf
  repeat' (first
    | ((with_reducible refine on_dec_f ?_ ?_); (focus ((try simp only [List.length_map, List.length_cons, List.length_nil, List.length_append]); omega)); conv => whnf)
    | ((with_reducible refine on_dec_t ?_ ?_); (focus ((try simp only [List.length_map, List.length_cons, List.length_nil, List.length_append]); omega)); conv => whnf)
    | ((with_reducible refine on_dec (fun h => ?_) (fun h => ?_)) <;> (try simp only [List.length_map] at h) <;> conv => whnf)
    | ((with_reducible refine on_ndec (fun h => ?_) (fun h => ?_)) <;> (try simp only [List.length_map] at h) <;> conv => whnf)
    | ((with_reducible refine on_not (fun h => ?_) (fun h => ?_)) <;> conv => whnf)
    | ((with_reducible refine onBool_split (fun h => ?_) (fun h => ?_)) <;> conv => whnf)
    | ((with_reducible refine call_go ?_); (first | refine call_step (run_view (c36 _ (by omega)) rfl rfl) ?_ | refine call_step (run_view (c59 _ _) rfl rfl) ?_ | refine call_step (run_view (c58 [_, _] (by simp)) rfl rfl) ?_ | refine call_step (run_view (c58 [_, _, _] (by simp)) rfl rfl) ?_ | refine call_step (run_view (c58 [_, _, _, _] (by simp)) rfl rfl) ?_); conv => whnf)
    | (refine ⟨⟨(by first | rfl | (simp; done)), cap_ok (by simp only [List.length_map, List.length_cons, List.length_nil, List.length_append]; omega) rfl⟩, ?_⟩; conv => whnf)
    | (refine ⟨mem_one ⟨rfl, rfl⟩, ?_⟩; conv => whnf)
    | (refine ⟨(by intro y hy; obtain ⟨x, _, rfl⟩ := List.mem_map.1 hy; first | rfl | exact ⟨rfl, rfl⟩), ?_⟩; conv => whnf)
    | (refine ⟨cap_ok (by first | omega | (simp only [List.length_map]; omega)) rfl, ?_⟩; conv => whnf)
    | (refine ix_map (by omega) ?_; conv => whnf)
    | (refine ix_str (by omega) ?_; conv => whnf)
    | (refine wrap64 (by omega) ?_; conv => whnf)
    | (exfalso; simp only [List.length_map, List.length_cons, List.length_nil, List.length_append] at h; omega)
    | ((with_reducible refine endx_go ?_); first | (refine endx (congrArg i ?_); simp only [pairErr]; grind [first_cons, first_nil]; done))
    | (refine ⟨rfl, ?_⟩; conv => whnf)
    | fail
    )

theorem pairErr_ok {a b : Bs} (h : pairErr a b = 0) : diskErr a = 0 ∧ diskErr b = 0 ∧ a.length = b.length := by
  unfold pairErr at h
  split at h
  · omega
  · split at h
    · omega
    · split at h
      · exact ⟨by omega, by omega, by assumption⟩
      · omega
def diffR (a b : Bs) : List Nat := if pairErr a b = 0 then unl a b (a.length / 64) else []

theorem c22 (a b : Bs) (ha : a.length < 1000000) (hb : b.length < 1000000) : Fn 22 [.str a, .str b] (.tup [.fs ((diffR a b).map natD), i (pairErr a b)]) := by
  refine run_walkF eok Tryd.func22 rfl (by kernel_rfl) ?_
  conv => whnf
  repeat' (first
    | ((with_reducible refine on_dec_f ?_ ?_); (focus ((try simp only [List.length_map, List.length_cons, List.length_nil, List.length_append]); omega)); conv => whnf)
    | ((with_reducible refine on_dec_t ?_ ?_); (focus ((try simp only [List.length_map, List.length_cons, List.length_nil, List.length_append]); omega)); conv => whnf)
    | ((with_reducible refine on_dec (fun h => ?_) (fun h => ?_)) <;> (try simp only [List.length_map] at h) <;> conv => whnf)
    | ((with_reducible refine on_ndec (fun h => ?_) (fun h => ?_)) <;> (try simp only [List.length_map] at h) <;> conv => whnf)
    | ((with_reducible refine on_not (fun h => ?_) (fun h => ?_)) <;> conv => whnf)
    | ((with_reducible refine onBool_split (fun h => ?_) (fun h => ?_)) <;> conv => whnf)
    | ((with_reducible refine call_go ?_); (first | refine call_step (run_view (c75 a b ha hb) rfl rfl) ?_ | refine call_step (run_viewF (c76 a b ha (pairErr_ok (by assumption)).2.2) rfl) ?_); conv => whnf)
    | (refine ⟨⟨(by first | rfl | (simp; done)), cap_ok (by simp only [List.length_map, List.length_cons, List.length_nil, List.length_append]; omega) rfl⟩, ?_⟩; conv => whnf)
    | (refine ⟨mem_one ⟨rfl, rfl⟩, ?_⟩; conv => whnf)
    | (refine ⟨(by intro y hy; obtain ⟨x, _, rfl⟩ := List.mem_map.1 hy; first | rfl | exact ⟨rfl, rfl⟩), ?_⟩; conv => whnf)
    | (refine ⟨cap_ok (by first | omega | (simp only [List.length_map]; omega)) rfl, ?_⟩; conv => whnf)
    | (refine ix_map (by omega) ?_; conv => whnf)
    | (refine ix_str (by omega) ?_; conv => whnf)
    | (refine wrap64 (by omega) ?_; conv => whnf)
    | (exfalso; simp only [List.length_map, List.length_cons, List.length_nil, List.length_append] at h; omega)
    | ((with_reducible refine endx_go ?_); first | (refine endx2 ?_; rw [diffR, if_pos (by assumption), show pairErr a b = 0 by assumption]; done) | (refine endxv (view_tup (vlc rfl (vlc rfl vln))) ?_; (rw [diffR, if_neg (by assumption)]) <;> rfl; done))
    | (refine ⟨rfl, ?_⟩; conv => whnf)
    | fail
    )

end Go.Proofs.YtpblmdolgocpaaaDoor

/-! Pf -/
namespace Go.Proofs.YtpblmdolgocpaaaDoor

def gotS (l : List Wr) (x : Lo) : Bs := match l[x.ev.toNat]? with
  | some e => sec e.bytes (x.sec - e.at_).toNat
  | none => []
def keepS (l : List Wr) (st : List Bs) (x : Lo) : List Bs := put st x.sec.toNat [gotS l x]
def keepP (l : List Wr) (s : Bs) (x : Lo) : Bs := patch s (64 * x.sec.toNat) (gotS l x)
def stepS (l : List Wr) (lo : List Lo) (st : List Bs) (k : Int) : List Bs := match lo[k.toNat]? with
  | some x => keepS l st x
  | none => st
def stepP (l : List Wr) (lo : List Lo) (s : Bs) (k : Int) : Bs := match lo[k.toNat]? with
  | some x => keepP l s x
  | none => s
def failS (l : List Wr) (lo : List Lo) (kept : List Int) (st : List Bs) : List Bs := kept.foldl (stepS l lo) st
def failP (l : List Wr) (lo : List Lo) (kept : List Int) (s : Bs) : Bs := kept.foldl (stepP l lo) s

/-- A loose sector that is in a disk of n sectors. -/
structure LoOk (l : List Wr) (n : Nat) (x : Lo) : Prop where
  got : (gotS l x).length = 64
  sec0 : 0 ≤ x.sec
  secn : x.sec.toNat < n
  ev0 : 0 ≤ x.ev
  evn : x.ev.toNat < l.length
  at0 : ∀ e, l[x.ev.toNat]? = some e → 0 ≤ x.sec - e.at_ ∧ (x.sec - e.at_).toNat < e.bytes.length / 64

theorem mem_lo1 {k : Nat} {e : Wr} {n : Nat} {x : Lo} : x ∈ lo1 k e n ↔ ∃ j, j < n ∧ x = ⟨k, e.at_ + (j : Nat)⟩ := by
  simp only [lo1, List.mem_map, List.mem_range]
  constructor <;> rintro ⟨j, h1, h2⟩ <;> exact ⟨j, h1, h2.symm⟩
theorem mem_loK {l : List Wr} {a b : Nat} {x : Lo} : x ∈ loK l a b ↔ ∃ k e, a ≤ k ∧ k < b ∧ l[k]? = some e ∧ x ∈ lo1 k e (e.bytes.length / 64) := by
  simp only [loK, List.mem_flatMap, List.mem_range'_1]
  constructor
  · rintro ⟨k, hk, hx⟩
    cases h : l[k]? with
    | none => rw [h] at hx; cases hx
    | some e => rw [h] at hx; exact ⟨k, e, by omega, by omega, h, hx⟩
  · rintro ⟨k, e, h1, h2, h3, h4⟩
    exact ⟨k, by omega, by rw [h3]; exact h4⟩
theorem lo_ok {l : List Wr} {n a b : Nat} (hl : ∀ x ∈ l, x.In n) : ∀ x ∈ loK l a b, LoOk l n x := by
  intro x hx
  obtain ⟨k, e, h1, h2, h3, h4⟩ := mem_loK.1 hx
  obtain ⟨j, hj, rfl⟩ := mem_lo1.1 h4
  have he := hl e (List.mem_of_getElem? h3)
  obtain ⟨e1, e2, e3⟩ := he
  have hk := (List.getElem?_eq_some_iff.1 h3).1
  have hs : (e.at_ + (j : Int) - e.at_).toNat = j := by omega
  refine ⟨?_, by show 0 ≤ e.at_ + (j : Int); omega, by show (e.at_ + (j : Int)).toNat < n; omega, by show (0 : Int) ≤ (k : Int); omega, by show ((k : Int)).toNat < _; omega, fun e' he' => ?_⟩
  · simp only [gotS, Int.toNat_natCast, h3, hs]
    exact sec_len (by omega)
  · simp only [Int.toNat_natCast] at he'
    rw [h3] at he'; cases he'
    show 0 ≤ e.at_ + (j : Int) - e.at_ ∧ (e.at_ + (j : Int) - e.at_).toNat < _
    omega

theorem keep_ok {l : List Wr} {st : List Bs} {x : Lo} (h : All64 st) (hx : LoOk l st.length x) : (keepS l st x).flatten = keepP l st.flatten x ∧ All64 (keepS l st x) ∧ (keepS l st x).length = st.length := by
  have hs : All64 [gotS l x] := fun y hy => by rw [List.mem_singleton] at hy; subst hy; exact hx.got
  refine ⟨?_, put_all h hs, put_len (by simp; have := hx.secn; omega)⟩
  rw [keepS, flat_put h hs, keepP]
  simp
theorem step_ok {l : List Wr} {lo : List Lo} {st : List Bs} {k : Int} (h : All64 st) (hx : ∀ x ∈ lo, LoOk l st.length x) : (stepS l lo st k).flatten = stepP l lo st.flatten k ∧ All64 (stepS l lo st k) ∧ (stepS l lo st k).length = st.length := by
  unfold stepS stepP
  cases hk : lo[k.toNat]? with
  | none => exact ⟨rfl, h, rfl⟩
  | some x => exact keep_ok h (hx x (List.mem_of_getElem? hk))
theorem fail_ok {l : List Wr} {lo : List Lo} : ∀ {kept : List Int} {st : List Bs}, All64 st → (∀ x ∈ lo, LoOk l st.length x) → (failS l lo kept st).flatten = failP l lo kept st.flatten ∧ All64 (failS l lo kept st) ∧ (failS l lo kept st).length = st.length
  | [], st, h, _ => ⟨rfl, h, rfl⟩
  | k :: kept, st, h, hx => by
    obtain ⟨h1, h2, h3⟩ := step_ok (k := k) h hx
    have := fail_ok (kept := kept) h2 (by rw [h3]; exact hx)
    simp only [failS, failP, List.foldl_cons] at *
    rw [← h1]
    exact ⟨this.1, this.2.1, this.2.2.trans h3⟩

theorem keep_get {l : List Wr} {st : List Bs} {x : Lo} (hx : x.sec.toNat < st.length) (j : Nat) : (keepS l st x)[j]? = if j = x.sec.toNat then some (gotS l x) else st[j]? := by
  rw [keepS, ← put_one hx, List.getElem?_set]
  by_cases c : j = x.sec.toNat
  · subst c; simp [hx]
  · simp [c, Ne.symm c]
/-- After a failure each sector is the settled one, or one that was loose. -/
theorem fail_in {l : List Wr} {lo : List Lo} : ∀ {kept : List Int} {st : List Bs}, All64 st → (∀ x ∈ lo, LoOk l st.length x) → ∀ j, (failS l lo kept st)[j]? = st[j]? ∨ ∃ x ∈ lo, x.sec.toNat = j ∧ (failS l lo kept st)[j]? = some (gotS l x)
  | [], st, _, _, j => .inl rfl
  | k :: kept, st, h, hx, j => by
    obtain ⟨h1, h2, h3⟩ := step_ok (k := k) h hx
    have ih := fail_in (kept := kept) h2 (by rw [h3]; exact hx) j
    have e : failS l lo (k :: kept) st = failS l lo kept (stepS l lo st k) := rfl
    rw [e]
    rcases ih with ih | ih
    · rw [ih]
      unfold stepS
      cases hk : lo[k.toNat]? with
      | none => exact .inl rfl
      | some x =>
        have hm := List.mem_of_getElem? hk
        simp only [keep_get (hx x hm).secn]
        by_cases c : j = x.sec.toNat
        · right; exact ⟨x, hm, c.symm, by rw [if_pos c]⟩
        · left; rw [if_neg c]
    · exact .inr ih

theorem lo1_succ (k : Nat) (e : Wr) (n : Nat) : lo1 k e (n + 1) = lo1 k e n ++ [⟨k, e.at_ + (n : Nat)⟩] := by simp [lo1, List.range_succ]
theorem lo1_len (k : Nat) (e : Wr) (n : Nat) : (lo1 k e n).length = n := by simp [lo1]
theorem loK_succ {l : List Wr} {a b : Nat} (h : a ≤ b) {e : Wr} (he : l[b]? = some e) : loK l a (b + 1) = loK l a b ++ lo1 b e (e.bytes.length / 64) := by
  unfold loK
  rw [show b + 1 - a = (b - a) + 1 by omega, List.range'_concat, List.flatMap_append, show a + 1 * (b - a) = b by omega]
  simp [he]
theorem lo1_zero (k : Nat) (e : Wr) : lo1 k e 0 = [] := rfl
theorem loK_self (l : List Wr) (a : Nat) : loK l a a = [] := by simp [loK]

theorem loK_end {l : List Wr} {a k j : Nat} (h : a ≤ k) (hk : k < l.length) (hj : j = l[k].bytes.length / 64) : loK l a k ++ lo1 k l[k] j = loK l a (k + 1) := by
  rw [loK_succ h (List.getElem?_eq_getElem hk), hj]
theorem lo1_put {l : List Wr} {k : Nat} {e : Wr} (he : l[k]? = some e) (h0 : 0 ≤ e.at_) {st : List Bs} : ∀ {n : Nat}, e.at_.toNat + n ≤ st.length → (lo1 k e n).foldl (keepS l) st = put st e.at_.toNat (stK e.bytes n)
  | 0, _ => by simp [lo1, stK, put_nil]
  | n + 1, h => by
    have ih := lo1_put he h0 (st := st) (n := n) (by omega)
    rw [lo1_succ, List.foldl_append, ih, List.foldl_cons, List.foldl_nil, ← put_set (by omega)]
    have e1 : (e.at_ + (n : Int)).toNat = e.at_.toNat + n := by omega
    have e2 : (e.at_ + (n : Int) - e.at_).toNat = n := by omega
    have hl : (put st e.at_.toNat (stK e.bytes n)).length = st.length := put_len (by rw [stK_len]; omega)
    rw [keepS, ← put_one (by rw [hl]; simp only [e1]; omega)]
    simp only [gotS, Int.toNat_natCast, he, e1, e2]
/-- All loose sectors kept: the events are written. -/
theorem loK_wr {l : List Wr} {a : Nat} {n : Nat} (hl : ∀ x ∈ l, x.In n) {st : List Bs} (hst : All64 st) (hn : st.length = n) : ∀ {b : Nat}, a ≤ b → b ≤ l.length → (loK l a b).foldl (keepS l) st = ((l.drop a).take (b - a)).foldl wr st
  | 0, h, _ => by
    have : a = 0 := by omega
    subst this; simp [loK]
  | b + 1, h, hb => by
    by_cases c : a = b + 1
    · subst c; simp [loK_self]
    · have ih := loK_wr hl hst hn (a := a) (b := b) (by omega) (by omega)
      have hbl : b < l.length := by omega
      have hg : l[b]? = some l[b] := List.getElem?_eq_getElem hbl
      rw [loK_succ (by omega) hg, List.foldl_append, ih, show b + 1 - a = (b - a) + 1 by omega]
      have hd : (l.drop a)[b - a]? = some l[b] := by rw [List.getElem?_drop, show a + (b - a) = b by omega]; exact hg
      rw [List.take_add_one, hd, Option.toList_some, List.foldl_append, List.foldl_cons, List.foldl_nil]
      have hin := hl l[b] (List.getElem_mem hbl)
      have hlen := (wrs_flat (l := (l.drop a).take (b - a)) hst (fun x hx => by rw [hn]; exact hl x (List.mem_of_mem_drop (List.mem_of_mem_take hx)))).2.2
      rw [lo1_put hg hin.1 (by rw [hlen, hn]; exact hin.2.2)]
      rfl
theorem fail_all {l : List Wr} (lo : List Lo) : ∀ (m : Nat) (st : List Bs), m ≤ lo.length → failS l lo ((List.range m).map fun (k : Nat) => (k : Int)) st = (lo.take m).foldl (keepS l) st
  | 0, st, _ => by simp [failS]
  | m + 1, st, h => by
    have ih := fail_all lo (l := l) m st (by omega)
    have hg : lo[m]? = some lo[m] := List.getElem?_eq_getElem (by omega)
    unfold failS at *
    rw [List.range_succ, List.map_append, List.foldl_append, ih, List.take_add_one, hg, Option.toList_some, List.foldl_append]
    simp only [List.map_cons, List.map_nil, List.foldl_cons, List.foldl_nil, stepS, Int.toNat_natCast, hg]

theorem sec_flat {st : List Bs} (h : All64 st) {j : Nat} (hj : j < st.length) : sec st.flatten j = st[j] := by
  have h1 := flat_drop j h
  have h2 : All64 (st.drop j) := fun x hx => h x (List.mem_of_mem_drop hx)
  have h3 := flat_take 1 h2
  rw [List.drop_eq_getElem_cons hj] at h3 h1
  simp only [List.take_succ_cons, List.take_zero, List.flatten_cons, List.flatten_nil, List.append_nil] at h3 h1
  rw [sec, Nat.mul_comm, ← h1, ← Nat.mul_one 64, ← h3]

/-- How many of the first sectors differ from the settled disk; none: one may not be. -/
def mayAt (l : List Wr) (lo : List Lo) (s : Bs) (j : Nat) : Bool := lo.any fun x => decide (x.sec = (j : Int)) && decide (gotS l x = s)
def mayR (l : List Wr) (lo : List Lo) (set after : Bs) : Nat → Option Nat
  | 0 => some 0
  | k + 1 => match mayR l lo set after k with
    | none => none
    | some n => if sec after k = sec set k then some n else if mayAt l lo (sec after k) k then some (n + 1) else none
theorem mayR_none {l : List Wr} {lo : List Lo} {set after : Bs} {k : Nat} (h : mayR l lo set after k = none) : ∀ {m : Nat}, k ≤ m → mayR l lo set after m = none
  | 0, hm => by have : k = 0 := by omega
                subst this; exact h
  | m + 1, hm => by
    by_cases c : k = m + 1
    · subst c; exact h
    · simp only [mayR, mayR_none h (m := m) (by omega)]
theorem mayR_le {l : List Wr} {lo : List Lo} {set after : Bs} : ∀ {k n : Nat}, mayR l lo set after k = some n → n ≤ k
  | 0, n, h => by simp only [mayR, Option.some.injEq] at h; omega
  | k + 1, n, h => by
    simp only [mayR] at h
    split at h
    · cases h
    · rename_i m hm
      have := mayR_le hm
      split at h
      · cases h; omega
      · split at h
        · cases h; omega
        · cases h
theorem mayR_some {l : List Wr} {lo : List Lo} {set after : Bs} {m : Nat} (h : ∀ j, j < m → sec after j = sec set j ∨ mayAt l lo (sec after j) j = true) : ∃ n, mayR l lo set after m = some n := by
  induction m with
  | zero => exact ⟨0, rfl⟩
  | succ m ih =>
    obtain ⟨n, hn⟩ := ih fun j hj => h j (by omega)
    simp only [mayR, hn]
    by_cases c : sec after m = sec set m
    · exact ⟨n, by rw [if_pos c]⟩
    · rcases h m (by omega) with h1 | h1
      · exact absurd h1 c
      · exact ⟨n + 1, by rw [if_neg c, if_pos h1]⟩
/-- The disk after a failure may be. -/
theorem fail_may {l : List Wr} {lo : List Lo} {kept : List Int} {st : List Bs} (h : All64 st) (hx : ∀ x ∈ lo, LoOk l st.length x) : ∃ n, mayR l lo st.flatten (failP l lo kept st.flatten) st.length = some n := by
  obtain ⟨h1, h2, h3⟩ := fail_ok (kept := kept) h hx
  refine mayR_some fun j hj => ?_
  rw [← h1, sec_flat h2 (by omega), sec_flat h hj]
  rcases fail_in (kept := kept) h hx j with e | ⟨x, hm, e1, e2⟩
  · left
    rw [List.getElem?_eq_getElem (by omega), List.getElem?_eq_getElem hj] at e
    exact Option.some.inj e
  · right
    rw [List.getElem?_eq_getElem (by omega)] at e2
    have e3 := Option.some.inj e2
    rw [mayAt, List.any_eq_true]
    refine ⟨x, hm, ?_⟩
    rw [Bool.and_eq_true, decide_eq_true_eq, decide_eq_true_eq]
    exact ⟨by have := (hx x hm).sec0; omega, e3.symm⟩
end Go.Proofs.YtpblmdolgocpaaaDoor

/-! Wd -/
namespace Go.Proofs.YtpblmdolgocpaaaDoor
open Go Dw
set_option maxRecDepth 10000
set_option linter.unusedVariables false
set_option linter.unusedSimpArgs false
attribute [local irreducible] Run
set_option maxHeartbeats 4000000

attribute [local irreducible] sec stK put patch wrote pat wr

theorem c64 (s : Bs) (hs : s.length < 1000000) : Run Tryd.prog 64 [.d (.str s)] [] (.sl 0 0 (stOf s).length 1 none) [⟨((stOf s).map D.str).map .d, 1, 0⟩] := by
  have hsa : sc s = ((s.length / 64 : Nat) : Int) := rfl; have hlk := stK_len s
  refine run_walkV eok Tryd.func64 rfl (by kernel_rfl) [] (by rfl) [] ?_
  conv => whnf
  repeat' (first
    | ((with_reducible refine on_dec_f ?_ ?_); (focus ((try simp only [List.length_map, List.length_cons, List.length_nil, List.length_append]); omega)); conv => whnf)
    | ((with_reducible refine on_dec_t ?_ ?_); (focus ((try simp only [List.length_map, List.length_cons, List.length_nil, List.length_append]); omega)); conv => whnf)
    | ((with_reducible refine on_dec (fun h => ?_) (fun h => ?_)) <;> (try simp only [List.length_map] at h) <;> conv => whnf)
    | ((with_reducible refine on_ndec (fun h => ?_) (fun h => ?_)) <;> (try simp only [List.length_map] at h) <;> conv => whnf)
    | ((with_reducible refine on_not (fun h => ?_) (fun h => ?_)) <;> conv => whnf)
    | ((with_reducible refine onBool_split (fun h => ?_) (fun h => ?_)) <;> conv => whnf)
    | ((with_reducible refine call_go ?_); (first | refine call_step (run_view (c63 _ (by omega)) rfl rfl) ?_ | refine call_step (run_view (c77 s k (by omega) hs) rfl rfl) ?_); conv => whnf)
    | ((with_reducible refine loop_go ?_); first | (refine loop1 (fun (k : Nat) => s.length / 64 - k) (fun (k : Nat) => k ≤ s.length / 64) (fun (k : Nat) => [(0, .d (.str s)), (3, .sl 0 0 (stK s k).length 1 none), (6, .d (i (sc s))), (7, .d (i k))]) (fun (k : Nat) => [⟨((stK s k).map D.str).map .d, 1, 0⟩]) (0) (by exact Nat.zero_le _) ?_ (fun k C hI hC => ?_); (exact ⟨[.void 1], rfl, rfl, ⟨rfl, ⟨rfl, rfl, (by rw [stK_len]), rfl⟩, rfl, rfl, trivial⟩, ⟨⟨(by rw [stK_nil]; rfl), rfl, (by decide), rfl⟩, trivial⟩⟩); all_goals (conv => whnf)))
    | ((with_reducible show C _ _); first | (refine hC (k + 1) _ _ ?_ (by omega) ?_; clear hC; rotate_left; (exact ⟨[.old 2], rfl, rfl, ⟨(by first | (show (_ : D) = _; with_reducible rfl) | exact rfl), ⟨rfl, rfl, (by rw [stK_len, stK_len]; rfl), rfl, rfl⟩, (by first | (show (_ : D) = _; with_reducible rfl) | exact congrArg (D.int .i64) (by omega) | exact congrArg (D.int .i64) (by simp only [List.length_map]) | exact rfl), (by first | (show (_ : D) = _; with_reducible rfl) | exact congrArg (D.int .i64) (by omega) | exact congrArg (D.int .i64) (by simp only [List.length_map]) | exact rfl), trivial⟩, ⟨⟨rfl, rfl, .inr (by rw [stK_succ]; exact wks_add (wksd _ _) rfl)⟩, trivial⟩⟩); (exact (by omega : k + 1 ≤ s.length / 64))))
    | (refine ⟨⟨(by first | rfl | (simp; done)), cap_ok (by simp only [List.length_map, List.length_cons, List.length_nil, List.length_append]; omega) rfl⟩, ?_⟩; conv => whnf)
    | (refine ⟨mem_one ⟨rfl, rfl⟩, ?_⟩; conv => whnf)
    | (refine ⟨(by intro y hy; obtain ⟨x, _, rfl⟩ := List.mem_map.1 hy; first | rfl | exact ⟨rfl, rfl⟩), ?_⟩; conv => whnf)
    | (refine ⟨cap_ok (by first | omega | (simp only [List.length_map]; omega)) rfl, ?_⟩; conv => whnf)
    | (refine ix_map (by omega) ?_; conv => whnf)
    | (refine ix_str (by omega) ?_; conv => whnf)
    | (refine wrap64 (by omega) ?_; conv => whnf)
    | (refine ⟨Nat.le_refl _, ?_⟩; conv => whnf)
    | (refine ⟨⟨(by simp only [List.length_map, List.length_append]; omega), cap_ok (by have := hlk k; simp only [List.length_map, List.length_cons, List.length_nil, List.length_append]; omega) rfl⟩, ?_⟩; conv => whnf)
    | (refine ⟨cap_ok (by have := hlk k; simp only [List.length_map, List.length_cons, List.length_nil, List.length_append]; omega) rfl, ?_⟩; conv => whnf)
    | (refine wrap64 (by omega) ?_; conv => whnf)
    | (exfalso; simp only [List.length_map, List.length_cons, List.length_nil, List.length_append] at h; omega)
    | ((with_reducible refine endx_go ?_); first | (have e : stK s k = stOf s := (by rw [stOf]; congr 1; omega); refine endX_of (.inl ⟨[.old 0], rfl, rfl, ⟨⟨rfl, rfl, (by rw [e]), rfl, rfl⟩, trivial⟩, ⟨⟨rfl, rfl, .inl ⟨_, (by rw [e]), rfl⟩⟩, trivial⟩⟩); done))
    | (refine ⟨rfl, ?_⟩; conv => whnf)
    | fail
    )

theorem c65 (st : List Bs) (x : Wr) (hx : x.In st.length) (hb : x.bytes.length < 1000000) (hl : st.length < 1000000) : Run Tryd.prog 65 [.sl 0 0 st.length 1 none, .d x.enc] [⟨(st.map D.str).map .d, 1, 0⟩] (.tup []) [⟨((wr st x).map D.str).map .d, 1, 0⟩] := by
  obtain ⟨hx0, hx1, hx2⟩ := hx; have hsa : sc x.bytes = ((x.bytes.length / 64 : Nat) : Int) := rfl
  refine run_walkV eok Tryd.func65 rfl (by kernel_rfl) [] (by rfl) [] ?_
  conv => whnf
  repeat' (first
    | ((with_reducible refine on_dec_f ?_ ?_); (focus ((try simp only [List.length_map, List.length_cons, List.length_nil, List.length_append]); omega)); conv => whnf)
    | ((with_reducible refine on_dec_t ?_ ?_); (focus ((try simp only [List.length_map, List.length_cons, List.length_nil, List.length_append]); omega)); conv => whnf)
    | ((with_reducible refine on_dec (fun h => ?_) (fun h => ?_)) <;> (try simp only [List.length_map] at h) <;> conv => whnf)
    | ((with_reducible refine on_ndec (fun h => ?_) (fun h => ?_)) <;> (try simp only [List.length_map] at h) <;> conv => whnf)
    | ((with_reducible refine on_not (fun h => ?_) (fun h => ?_)) <;> conv => whnf)
    | ((with_reducible refine onBool_split (fun h => ?_) (fun h => ?_)) <;> conv => whnf)
    | ((with_reducible refine call_go ?_); (first | refine call_step (run_view (c63 _ (by omega)) rfl rfl) ?_ | refine call_step (run_view (c77 x.bytes k (by omega) hb) rfl rfl) ?_); conv => whnf)
    | (refine ⟨[], [(2, 8)], (by decide +kernel), ?_⟩; conv => whnf)
    | ((with_reducible refine loop_go ?_); first | (refine loop1 (fun (k : Nat) => x.bytes.length / 64 - k) (fun (k : Nat) => k ≤ x.bytes.length / 64) (fun (k : Nat) => [(0, .sl 0 0 st.length 1 none), (3, .ptr 1 0 0), (7, .d (i (sc x.bytes))), (8, .d (i k))]) (fun (k : Nat) => [⟨((put st x.at_.toNat (stK x.bytes k)).map D.str).map .d, 1, 0⟩, ⟨[.d x.enc], 2, 0⟩]) (0) (by exact Nat.zero_le _) ?_ (fun k C hI hC => ?_); (exact ⟨[.old 0, .old 1], rfl, rfl, ⟨⟨rfl, rfl, rfl, rfl, rfl⟩, ⟨rfl, rfl, rfl⟩, rfl, rfl, trivial⟩, ⟨⟨rfl, rfl, .inl ⟨_, rfl, (by rw [stK_nil, put_nil])⟩⟩, ⟨rfl, rfl, .inl ⟨[_], rfl, rfl⟩⟩, trivial⟩⟩); have hix : 0 + (x.at_ + (k : Int)).toNat = x.at_.toNat + k := (by omega); have hlk : (put st x.at_.toNat (stK x.bytes k)).length = st.length := put_len (by rw [stK_len]; omega); all_goals (conv => whnf)))
    | ((with_reducible show C _ _); first | (refine hC (k + 1) _ _ ?_ (by omega) ?_; clear hC; rotate_left; (exact ⟨[.old 0, .old 1], rfl, rfl, ⟨(by first | exact congrArg (D.int .i64) (by omega) | exact ⟨rfl, rfl, rfl⟩ | exact ⟨rfl, rfl, rfl, rfl, rfl⟩ | (show (_ : D) = _; with_reducible rfl)), ⟨rfl, rfl, rfl⟩, (by first | (show (_ : D) = _; with_reducible rfl) | exact congrArg (D.int .i64) (by omega) | exact congrArg (D.int .i64) (by simp only [List.length_map]) | exact rfl), (by first | (show (_ : D) = _; with_reducible rfl) | exact congrArg (D.int .i64) (by omega) | exact congrArg (D.int .i64) (by simp only [List.length_map]) | exact rfl), trivial⟩, ⟨⟨rfl, rfl, .inl ⟨_, (by rw [hix, set_row, put_set (by omega)]), rfl⟩⟩, ⟨rfl, rfl, .inl ⟨[_], rfl, rfl⟩⟩, trivial⟩⟩); (exact (by omega : k + 1 ≤ x.bytes.length / 64))))
    | (refine ⟨⟨(by first | rfl | (simp; done)), cap_ok (by simp only [List.length_map, List.length_cons, List.length_nil, List.length_append]; omega) rfl⟩, ?_⟩; conv => whnf)
    | (refine ⟨mem_one ⟨rfl, rfl⟩, ?_⟩; conv => whnf)
    | (refine ⟨(by intro y hy; obtain ⟨x, _, rfl⟩ := List.mem_map.1 hy; first | rfl | exact ⟨rfl, rfl⟩), ?_⟩; conv => whnf)
    | (refine ⟨cap_ok (by first | omega | (simp only [List.length_map]; omega)) rfl, ?_⟩; conv => whnf)
    | (refine ix_map (by omega) ?_; conv => whnf)
    | (refine ix_str (by omega) ?_; conv => whnf)
    | (refine wrap64 (by omega) ?_; conv => whnf)
    | (refine ⟨⟨by omega, by omega⟩, ?_⟩; conv => whnf)
    | (refine nthK_row (by rw [hlk]; omega) ?_; conv => whnf)
    | (refine setK_of ?_; conv => whnf)
    | (refine wrap64 (by omega) ?_; conv => whnf)
    | (exfalso; simp only [List.length_map, List.length_cons, List.length_nil, List.length_append] at h; omega)
    | ((with_reducible refine endx_go ?_); first | (have e : put st x.at_.toNat (stK x.bytes k) = wr st x := (by rw [wr, stOf]; congr 2; omega); refine endX_of (.inl ⟨[.old 0], rfl, rfl, ⟨trivial, trivial⟩, ⟨⟨rfl, rfl, .inl ⟨_, (by rw [e]), rfl⟩⟩, trivial⟩⟩); done))
    | (refine ⟨rfl, ?_⟩; conv => whnf)
    | fail
    )

theorem c32 (l : List Wr) (r : Nat) (hl : l.length < 1000000) (hr : r ≤ l.length) (hb : ∀ x ∈ l, x.bytes.length < 1000000) (ha : ∀ x ∈ l, 0 ≤ x.at_ ∧ x.at_ < 1000000) (hlen : ∀ k, k ≤ r → (loK l (settled l r) k).length ≤ 50000) : Fn 32 [.fs (l.map Wr.enc), i r] (.fs ((loose l r).map Lo.enc)) := by
  have hse := settled_le l r
  refine run_walkF eok Tryd.func32 rfl (by kernel_rfl) ?_
  conv => whnf
  repeat' (first
    | ((with_reducible refine on_dec_f ?_ ?_); (focus ((try simp only [List.length_map, List.length_cons, List.length_nil, List.length_append]); omega)); conv => whnf)
    | ((with_reducible refine on_dec_t ?_ ?_); (focus ((try simp only [List.length_map, List.length_cons, List.length_nil, List.length_append]); omega)); conv => whnf)
    | ((with_reducible refine on_dec (fun h => ?_) (fun h => ?_)) <;> (try simp only [List.length_map] at h) <;> conv => whnf)
    | ((with_reducible refine on_ndec (fun h => ?_) (fun h => ?_)) <;> (try simp only [List.length_map] at h) <;> conv => whnf)
    | ((with_reducible refine on_not (fun h => ?_) (fun h => ?_)) <;> conv => whnf)
    | ((with_reducible refine onBool_split (fun h => ?_) (fun h => ?_)) <;> conv => whnf)
    | ((with_reducible refine call_go ?_); (first | refine call_step (run_view (c35 l r hl hr) rfl rfl) ?_ | refine call_step (run_view (c67 _ (hb _ (List.getElem_mem _))) rfl rfl) ?_); conv => whnf)
    | ((with_reducible refine loop_go ?_); first | (refine loop1 (fun (k : Nat) => r - k) (fun (k : Nat) => settled l r ≤ k ∧ k ≤ r) (fun (k : Nat) => [(0, .d (.fs (l.map Wr.enc))), (1, .d (i r)), (5, .sl 0 0 (loK l (settled l r) k).length 2 none), (6, .d (i k))]) (fun (k : Nat) => [⟨((loK l (settled l r) k).map Lo.enc).map .d, 2, 0⟩]) (settled l r) (by exact ⟨Nat.le_refl _, hse⟩) ?_ (fun k C hI hC => ?_); (exact ⟨[.void 2], rfl, rfl, ⟨rfl, rfl, ⟨rfl, rfl, (by rw [loK_self]; rfl), rfl⟩, rfl, trivial⟩, ⟨⟨(by rw [loK_self]; rfl), rfl, (by decide), rfl⟩, trivial⟩⟩); all_goals (conv => whnf)) | (refine loop1 (fun (j : Nat) => (l[k]'(by omega)).bytes.length / 64 - j) (fun (j : Nat) => j ≤ (l[k]'(by omega)).bytes.length / 64) (fun (j : Nat) => [(0, .d (.fs (l.map Wr.enc))), (1, .d (i r)), (5, .sl 0 0 ((loK l (settled l r) k) ++ lo1 k (l[k]'(by omega)) j).length 2 none), (6, .d (i k)), (7, .d (i j))]) (fun (j : Nat) => [⟨(((loK l (settled l r) k) ++ lo1 k (l[k]'(by omega)) j).map Lo.enc).map .d, 2, 0⟩]) (0) (by exact Nat.zero_le _) ?_ (fun j C2 hI2 hC2 => ?_); (exact ⟨[.old 0], rfl, rfl, ⟨rfl, rfl, ⟨rfl, rfl, (by rw [lo1_zero, List.append_nil]), rfl, rfl⟩, rfl, rfl, trivial⟩, ⟨⟨rfl, rfl, .inr (by rw [lo1_zero, List.append_nil]; exact wksd _ _)⟩, trivial⟩⟩); have hbk := hb _ (List.getElem_mem (l := l) (n := k) (by omega)); have hak := ha _ (List.getElem_mem (l := l) (n := k) (by omega)); have hsk : sc (l[k]'(by omega)).bytes = (((l[k]'(by omega)).bytes.length / 64 : Nat) : Int) := rfl; have hln : ((loK l (settled l r) k) ++ lo1 k (l[k]'(by omega)) j).length ≤ 100000 := (by rw [List.length_append, lo1_len]; have := hlen k; omega); rw [List.length_append] at hln; all_goals (conv => whnf)))
    | ((with_reducible show C _ _); first | (refine hC (k + 1) _ _ ?_ (by omega) ?_; clear hC; rotate_left; (exact ⟨[.old 0], rfl, rfl, ⟨(by first | (show (_ : D) = _; with_reducible rfl) | exact rfl), (by first | (show (_ : D) = _; with_reducible rfl) | exact congrArg (D.int .i64) (by omega) | exact congrArg (D.int .i64) (by simp only [List.length_map]) | exact rfl), ⟨rfl, rfl, (by rw [loK_end (by omega) (by omega) (by omega)]), rfl, rfl⟩, (by first | (show (_ : D) = _; with_reducible rfl) | exact congrArg (D.int .i64) (by omega) | exact congrArg (D.int .i64) (by simp only [List.length_map]) | exact rfl), trivial⟩, ⟨⟨rfl, rfl, .inr (by rw [loK_end (by omega) (by omega) (by omega)]; exact wksd _ _)⟩, trivial⟩⟩); (exact ⟨by omega, by omega⟩)))
    | ((with_reducible show C2 _ _); first | (refine hC2 (j + 1) _ _ ?_ (by omega) ?_; clear hC2; rotate_left; (exact ⟨[.old 2], rfl, rfl, ⟨(by first | (show (_ : D) = _; with_reducible rfl) | exact rfl), (by first | (show (_ : D) = _; with_reducible rfl) | exact congrArg (D.int .i64) (by omega) | exact congrArg (D.int .i64) (by simp only [List.length_map]) | exact rfl), ⟨rfl, rfl, (by simp only [List.length_append, lo1_len, List.length_cons, List.length_nil]; omega), rfl, rfl⟩, (by first | (show (_ : D) = _; with_reducible rfl) | exact congrArg (D.int .i64) (by omega) | exact congrArg (D.int .i64) (by simp only [List.length_map]) | exact rfl), (by first | (show (_ : D) = _; with_reducible rfl) | exact congrArg (D.int .i64) (by omega) | exact congrArg (D.int .i64) (by simp only [List.length_map]) | exact rfl), trivial⟩, ⟨⟨rfl, rfl, .inr (by rw [lo1_succ, ← List.append_assoc]; exact wks_add (wksd _ _) ⟨rfl, rfl, rfl, trivial⟩)⟩, trivial⟩⟩); (exact (by omega : j + 1 ≤ (l[k]'(by omega)).bytes.length / 64))))
    | (refine ⟨⟨(by first | rfl | (simp; done)), cap_ok (by simp only [List.length_map, List.length_cons, List.length_nil, List.length_append]; omega) rfl⟩, ?_⟩; conv => whnf)
    | (refine ⟨mem_one ⟨rfl, rfl⟩, ?_⟩; conv => whnf)
    | (refine ⟨(by intro y hy; obtain ⟨x, _, rfl⟩ := List.mem_map.1 hy; first | rfl | exact ⟨rfl, rfl⟩), ?_⟩; conv => whnf)
    | (refine ⟨cap_ok (by first | omega | (simp only [List.length_map]; omega)) rfl, ?_⟩; conv => whnf)
    | (refine ix_map (by omega) ?_; conv => whnf)
    | (refine ix_str (by omega) ?_; conv => whnf)
    | (refine wrap64 (by omega) ?_; conv => whnf)
    | (refine ⟨Nat.le_refl _, ?_⟩; conv => whnf)
    | (refine ⟨⟨(by simp only [List.length_map, List.length_append]; omega), cap_ok (by skip; simp only [List.length_map, List.length_cons, List.length_nil, List.length_append]; omega) rfl⟩, ?_⟩; conv => whnf)
    | (refine ⟨cap_ok (by skip; simp only [List.length_map, List.length_cons, List.length_nil, List.length_append]; omega) rfl, ?_⟩; conv => whnf)
    | (refine wrap64 (by omega) ?_; conv => whnf)
    | (exfalso; simp only [List.length_map, List.length_cons, List.length_nil, List.length_append] at h; omega)
    | ((with_reducible refine endx_go ?_); first | (refine endxv (view_map rfl Nat.two_pos) ?_; rw [loose, show k = r by omega]; done))
    | (refine ⟨rfl, ?_⟩; conv => whnf)
    | fail
    )

theorem c25 (a b : List Int) (ha : a.length < 1000000) (hb : b.length < 1000000) : Fn 25 [.fs (a.map i), .fs (b.map i)] (.bool (decide (a = b))) := by
  refine run_walkF eok Tryd.func25 rfl (by kernel_rfl) ?_
  conv => whnf
  repeat' (first
    | ((with_reducible refine on_dec_f ?_ ?_); (focus ((try simp only [List.length_map, List.length_cons, List.length_nil, List.length_append]); omega)); conv => whnf)
    | ((with_reducible refine on_dec_t ?_ ?_); (focus ((try simp only [List.length_map, List.length_cons, List.length_nil, List.length_append]); omega)); conv => whnf)
    | ((with_reducible refine on_dec (fun h => ?_) (fun h => ?_)) <;> (try simp only [List.length_map] at h) <;> conv => whnf)
    | ((with_reducible refine on_ndec (fun h => ?_) (fun h => ?_)) <;> (try simp only [List.length_map] at h) <;> conv => whnf)
    | ((with_reducible refine on_not (fun h => ?_) (fun h => ?_)) <;> conv => whnf)
    | ((with_reducible refine onBool_split (fun h => ?_) (fun h => ?_)) <;> conv => whnf)
    | (refine ⟨[], [], (by decide +kernel), ?_⟩; conv => whnf)
    | ((with_reducible refine loop_go ?_); first | (refine loop1 (fun (k : Nat) => a.length - k) (fun (k : Nat) => a.length = b.length ∧ k ≤ a.length ∧ a.take k = b.take k) (fun (k : Nat) => [(0, .d (.fs (a.map i))), (1, .d (.fs (b.map i))), (5, .d (i k))]) (fun (k : Nat) => []) (0) (by exact ⟨by omega, by omega, rfl⟩) ?_ (fun k C hI hC => ?_); (exact ⟨[], rfl, rfl, ⟨(by first | (show (_ : D) = _; with_reducible rfl) | exact rfl), (by first | (show (_ : D) = _; with_reducible rfl) | exact rfl), (by first | (show (_ : D) = _; with_reducible rfl) | exact congrArg (D.int .i64) (by omega) | exact congrArg (D.int .i64) (by simp only [List.length_map]) | exact rfl), trivial⟩, trivial⟩); all_goals (conv => whnf)))
    | ((with_reducible show C _ _); first | (refine hC (k + 1) _ _ ?_ (by omega) ?_; clear hC; rotate_left; (exact ⟨[], rfl, rfl, ⟨(by first | (show (_ : D) = _; with_reducible rfl) | exact rfl), (by first | (show (_ : D) = _; with_reducible rfl) | exact rfl), (by first | (show (_ : D) = _; with_reducible rfl) | exact congrArg (D.int .i64) (by omega) | exact congrArg (D.int .i64) (by simp only [List.length_map]) | exact rfl), trivial⟩, trivial⟩); (exact ⟨hI.1, by omega, take_eq_succ (by omega) (by omega) hI.2.2 h⟩)))
    | (refine ⟨⟨(by first | rfl | (simp; done)), cap_ok (by simp only [List.length_map, List.length_cons, List.length_nil, List.length_append]; omega) rfl⟩, ?_⟩; conv => whnf)
    | (refine ⟨mem_one ⟨rfl, rfl⟩, ?_⟩; conv => whnf)
    | (refine ⟨(by intro y hy; obtain ⟨x, _, rfl⟩ := List.mem_map.1 hy; first | rfl | exact ⟨rfl, rfl⟩), ?_⟩; conv => whnf)
    | (refine ⟨cap_ok (by first | omega | (simp only [List.length_map]; omega)) rfl, ?_⟩; conv => whnf)
    | (refine ix_map (by omega) ?_; conv => whnf)
    | (refine ix_str (by omega) ?_; conv => whnf)
    | (refine wrap64 (by omega) ?_; conv => whnf)
    | (refine wrap64 (by omega) ?_; conv => whnf)
    | (exfalso; simp only [List.length_map, List.length_cons, List.length_nil, List.length_append] at h; omega)
    | ((with_reducible refine endx_go ?_); first | (exact endx (congrArg D.bool (decide_eq_true (eq_of_take hI.1 (by omega) hI.2.2)).symm); done) | (exact endx (congrArg D.bool (decide_eq_false (fun e => by subst e; first | exact h rfl | exact absurd rfl h | omega)).symm); done))
    | (refine ⟨rfl, ?_⟩; conv => whnf)
    | fail
    )

theorem c27 (a b : List Wr) (ha : a.length < 1000000) (hb : b.length < 1000000) : Fn 27 [.fs (a.map Wr.enc), .fs (b.map Wr.enc)] (.bool (decide (a = b))) := by
  refine run_walkF eok Tryd.func27 rfl (by kernel_rfl) ?_
  conv => whnf
  repeat' (first
    | (refine on_wrn (fun h => ?_) (fun h => ?_) <;> conv => whnf)
    | ((with_reducible refine on_dec_f ?_ ?_); (focus ((try simp only [List.length_map, List.length_cons, List.length_nil, List.length_append]); omega)); conv => whnf)
    | ((with_reducible refine on_dec_t ?_ ?_); (focus ((try simp only [List.length_map, List.length_cons, List.length_nil, List.length_append]); omega)); conv => whnf)
    | ((with_reducible refine on_dec (fun h => ?_) (fun h => ?_)) <;> (try simp only [List.length_map] at h) <;> conv => whnf)
    | ((with_reducible refine on_ndec (fun h => ?_) (fun h => ?_)) <;> (try simp only [List.length_map] at h) <;> conv => whnf)
    | ((with_reducible refine on_not (fun h => ?_) (fun h => ?_)) <;> conv => whnf)
    | ((with_reducible refine onBool_split (fun h => ?_) (fun h => ?_)) <;> conv => whnf)
    | (refine ⟨[], [], (by decide +kernel), ?_⟩; conv => whnf)
    | ((with_reducible refine loop_go ?_); first | (refine loop1 (fun (k : Nat) => a.length - k) (fun (k : Nat) => a.length = b.length ∧ k ≤ a.length ∧ a.take k = b.take k) (fun (k : Nat) => [(0, .d (.fs (a.map Wr.enc))), (1, .d (.fs (b.map Wr.enc))), (5, .d (i k))]) (fun (k : Nat) => []) (0) (by exact ⟨by omega, by omega, rfl⟩) ?_ (fun k C hI hC => ?_); (exact ⟨[], rfl, rfl, ⟨(by first | (show (_ : D) = _; with_reducible rfl) | exact rfl), (by first | (show (_ : D) = _; with_reducible rfl) | exact rfl), (by first | (show (_ : D) = _; with_reducible rfl) | exact congrArg (D.int .i64) (by omega) | exact congrArg (D.int .i64) (by simp only [List.length_map]) | exact rfl), trivial⟩, trivial⟩); all_goals (conv => whnf)))
    | ((with_reducible show C _ _); first | (refine hC (k + 1) _ _ ?_ (by omega) ?_; clear hC; rotate_left; (exact ⟨[], rfl, rfl, ⟨(by first | (show (_ : D) = _; with_reducible rfl) | exact rfl), (by first | (show (_ : D) = _; with_reducible rfl) | exact rfl), (by first | (show (_ : D) = _; with_reducible rfl) | exact congrArg (D.int .i64) (by omega) | exact congrArg (D.int .i64) (by simp only [List.length_map]) | exact rfl), trivial⟩, trivial⟩); (exact ⟨hI.1, by omega, take_eq_succ (by omega) (by omega) hI.2.2 h⟩)))
    | (refine ⟨⟨(by first | rfl | (simp; done)), cap_ok (by simp only [List.length_map, List.length_cons, List.length_nil, List.length_append]; omega) rfl⟩, ?_⟩; conv => whnf)
    | (refine ⟨mem_one ⟨rfl, rfl⟩, ?_⟩; conv => whnf)
    | (refine ⟨(by intro y hy; obtain ⟨x, _, rfl⟩ := List.mem_map.1 hy; first | rfl | exact ⟨rfl, rfl⟩), ?_⟩; conv => whnf)
    | (refine ⟨cap_ok (by first | omega | (simp only [List.length_map]; omega)) rfl, ?_⟩; conv => whnf)
    | (refine ix_map (by omega) ?_; conv => whnf)
    | (refine ix_str (by omega) ?_; conv => whnf)
    | (refine wrap64 (by omega) ?_; conv => whnf)
    | (refine wrap64 (by omega) ?_; conv => whnf)
    | (exfalso; simp only [List.length_map, List.length_cons, List.length_nil, List.length_append] at h; omega)
    | ((with_reducible refine endx_go ?_); first | (exact endx (congrArg D.bool (decide_eq_true (eq_of_take hI.1 (by omega) hI.2.2)).symm); done) | (exact endx (congrArg D.bool (decide_eq_false (fun e => by subst e; first | exact h rfl | exact absurd rfl h | omega)).symm); done))
    | (refine ⟨rfl, ?_⟩; conv => whnf)
    | fail
    )

end Go.Proofs.YtpblmdolgocpaaaDoor

/-! Pg -/
namespace Go.Proofs.YtpblmdolgocpaaaDoor
open Go Dw
theorem wfStep_last {b : Bs} {out : List Wr} {k : Nat} (h : 0 < out.length) : wfStep b out k = if (out[out.length - 1]'(by omega)).stop = k then out.set (out.length - 1) ⟨(out[out.length - 1]'(by omega)).at_, (out[out.length - 1]'(by omega)).bytes ++ sec b k⟩ else out ++ [⟨k, sec b k⟩] := by
  rcases List.eq_nil_or_concat out with rfl | ⟨l, x, rfl⟩
  · exact absurd h (by simp)
  · simp only [List.concat_eq_append, wfStep_snoc]
    have e : (l ++ [x]).length - 1 = l.length := by simp
    have g : (l ++ [x])[(l ++ [x]).length - 1]'(by simp) = x := by
      simp
    rw [g]
    split
    · rw [e, List.set_append_right _ _ (Nat.le_refl _)]; simp
    · rfl
theorem wfStep_stop {b : Bs} {out : List Wr} {k : Nat} (hs : (sec b k).length = 64) (ho : ∀ x ∈ out, x.bytes.length % 64 = 0) : ∃ h : 0 < (wfStep b out k).length, ((wfStep b out k)[(wfStep b out k).length - 1]'(by omega)).stop = k + 1 := by
  have key : ∀ (l : List Wr) (x : Wr), wfStep b out k = l ++ [x] → x.stop = k + 1 → ∃ h : 0 < (wfStep b out k).length, ((wfStep b out k)[(wfStep b out k).length - 1]'(by omega)).stop = k + 1 := by
    intro l x e hx
    have hl : 0 < (wfStep b out k).length := by rw [e]; simp
    refine ⟨hl, ?_⟩
    have : (wfStep b out k)[(wfStep b out k).length - 1]? = some x := by rw [e]; simp
    rw [List.getElem?_eq_getElem (by omega)] at this
    rw [Option.some.inj this]; exact hx
  have new : (⟨k, sec b k⟩ : Wr).stop = k + 1 := by simp [Wr.stop, hs]
  rcases List.eq_nil_or_concat out with h0 | ⟨l, x, h0⟩
  · subst h0; exact key [] _ rfl new
  · rw [List.concat_eq_append] at h0
    subst h0
    by_cases c : x.stop = k
    · refine key l ⟨x.at_, x.bytes ++ sec b k⟩ (by rw [wfStep_snoc, if_pos c]) ?_
      have := ho x (by simp)
      simp only [Wr.stop] at c ⊢
      rw [List.length_append, hs]; omega
    · exact key _ _ (by rw [wfStep_snoc, if_neg c]) new
theorem unl_take {a b : Bs} : ∀ {N m : Nat}, m ≤ (unl a b N).length → ∃ k, k ≤ N ∧ (unl a b N).take m = unl a b k
  | 0, m, h => ⟨0, Nat.le_refl _, by simp [unl]⟩
  | N + 1, m, h => by
    rw [unl_succ] at h ⊢
    split at h <;> rename_i c
    · rw [if_pos c]
      obtain ⟨k, h1, h2⟩ := unl_take h
      exact ⟨k, by omega, h2⟩
    · rw [if_neg c]
      by_cases hm : m ≤ (unl a b N).length
      · obtain ⟨k, h1, h2⟩ := unl_take hm
        exact ⟨k, by omega, by rw [List.take_append_of_le_length hm]; exact h2⟩
      · refine ⟨N + 1, Nat.le_refl _, ?_⟩
        rw [unl_succ, if_neg c, List.take_of_length_le]
        rw [List.length_append] at h ⊢; simp at h ⊢; omega
def uN (a b : Bs) : List Nat := unl a b (a.length / 64)
def wfM (a b : Bs) (m : Nat) : List Wr := ((uN a b).take m).foldl (wfStep b) []
theorem wfM_zero (a b : Bs) : wfM a b 0 = [] := rfl
theorem wfM_succ {a b : Bs} {m : Nat} (h : m < (uN a b).length) : wfM a b (m + 1) = wfStep b (wfM a b m) (uN a b)[m] := by
  unfold wfM
  rw [List.take_succ_eq_append_getElem h, List.foldl_append]; rfl
theorem wfM_end {a b : Bs} {m : Nat} (h : (uN a b).length ≤ m) : wfM a b m = wf a b (a.length / 64) := by
  unfold wfM wf; rw [List.take_of_length_le h]; rfl
theorem uN_lt {a b : Bs} {m : Nat} (h : m < (uN a b).length) : (uN a b)[m] < a.length / 64 := unl_lt _ (List.getElem_mem h)
theorem uN_le (a b : Bs) : (uN a b).length ≤ a.length / 64 := unl_le a b _
structure WfB (a : Bs) (out : List Wr) : Prop where
  len : out.length ≤ a.length / 64
  at0 : ∀ x ∈ out, 0 ≤ x.at_ ∧ x.at_ + ((x.bytes.length / 64 : Nat) : Int) ≤ ((a.length / 64 : Nat) : Int) ∧ x.bytes.length % 64 = 0 ∧ x.bytes.length ≤ a.length
theorem wfM_inv {a b : Bs} (hab : a.length = b.length) {m : Nat} (hm : m ≤ (uN a b).length) : WfB a (wfM a b m) := by
  obtain ⟨k, h1, h2⟩ := unl_take hm
  have e : wfM a b m = wf a b k := by unfold wfM wf uN; rw [h2]
  have hI := wf_inv hab h1
  rw [e]
  refine ⟨Nat.le_trans hI.len h1, fun x hx => ?_⟩
  obtain ⟨⟨x1, x2, x3⟩, _⟩ := hI.inn x hx
  exact ⟨x1, by omega, x2, by omega⟩
theorem wfM_last {a b : Bs} (hab : a.length = b.length) {m : Nat} (hm : m < (uN a b).length) : ∃ h : 0 < (wfM a b (m + 1)).length, ((wfM a b (m + 1))[(wfM a b (m + 1)).length - 1]'(by omega)).stop = (uN a b)[m] + 1 := by
  have := wfStep_stop (b := b) (out := wfM a b m) (k := (uN a b)[m]) (sec_len (by have := uN_lt hm; omega)) (fun x hx => ((wfM_inv hab (by omega)).at0 x hx).2.2.1)
  have key : ∀ (r : List Wr), r = wfM a b (m + 1) → (∃ h : 0 < r.length, (r[r.length - 1]'(by omega)).stop = (uN a b)[m] + 1) → ∃ h : 0 < (wfM a b (m + 1)).length, ((wfM a b (m + 1))[(wfM a b (m + 1)).length - 1]'(by omega)).stop = (uN a b)[m] + 1 := by
    rintro r rfl h; exact h
  exact key _ (wfM_succ hm).symm this
theorem wks_set {α : Type} {f : α → D} {μ : List Mu} {a : AV} {x : α} (ha : wk μ a (.d (f x))) : ∀ (r : List α) (n : Nat), wks μ (((r.map f).map AV.d).set n a) (((r.set n x).map f).map AV.d)
  | [], n => by simp [wks]
  | y :: r, 0 => by
    simp only [List.map_cons, List.set_cons_zero]
    exact ⟨ha, wksd _ _⟩
  | y :: r, n + 1 => by
    simp only [List.map_cons, List.set_cons_succ]
    exact ⟨rfl, wks_set ha r n⟩

/-- Numbers that ascend below a limit. -/
def ascE (lim : Int) (l : List Int) (k : Nat) (x : Int) : Int := if within x 0 (lim - 1) then (if k = 0 then 0 else if l.getD (k - 1) 0 < x then 0 else 9) else 6
def eachI (e : Nat → Int → Int) : List Int → Nat → Int × Int
  | [], _ => (0, 0)
  | x :: l, k => if e k x = 0 then eachI e l (k + 1) else ((k : Int), e k x)
theorem eachI_drop {e : Nat → Int → Int} {l : List Int} {k : Nat} (h : k < l.length) : eachI e (l.drop k) k = if e k l[k] = 0 then eachI e (l.drop (k + 1)) (k + 1) else ((k : Int), e k l[k]) := by
  rw [List.drop_eq_getElem_cons h]; rfl
theorem eachI_end {e : Nat → Int → Int} {l : List Int} {k : Nat} (h : l.length ≤ k) : eachI e (l.drop k) k = (0, 0) := by
  rw [List.drop_eq_nil_of_le h]; rfl
def asc (lim : Int) (l : List Int) : Int := (eachI (ascE lim l) l 0).2
theorem eachI_ok {e : Nat → Int → Int} : ∀ {l : List Int} {k : Nat}, (eachI e l k).2 = 0 → ∀ j (h : j < l.length), e (k + j) l[j] = 0
  | [], k, _, j, h => absurd h (by simp)
  | x :: l, k, hh, j, h => by
    simp only [eachI] at hh
    by_cases c : e k x = 0
    · rw [if_pos c] at hh
      cases j with
      | zero => exact c
      | succ j =>
        have := eachI_ok hh j (by simpa using h)
        rw [show k + 1 + j = k + (j + 1) by omega] at this
        exact this
    · rw [if_neg c] at hh; exact absurd hh c
theorem ascE_ok {lim : Int} {l : List Int} {k : Nat} {x : Int} (h : ascE lim l k x = 0) : (0 ≤ x ∧ x < lim) ∧ (k ≠ 0 → l.getD (k - 1) 0 < x) := by
  unfold ascE at h
  split at h
  · rename_i hw
    simp only [within, Bool.and_eq_true, decide_eq_true_eq] at hw
    refine ⟨by omega, fun hk => ?_⟩
    rw [if_neg hk] at h
    split at h
    · assumption
    · omega
  · omega
theorem asc_ok {lim : Int} {l : List Int} (h : asc lim l = 0) : (∀ x ∈ l, 0 ≤ x ∧ x < lim) ∧ l.Pairwise (· < ·) := by
  have key := eachI_ok h
  refine ⟨fun x hx => ?_, ?_⟩
  · obtain ⟨j, hj, rfl⟩ := List.getElem_of_mem hx
    exact (ascE_ok (key j hj)).1
  · rw [List.pairwise_iff_getElem]
    intro i j hi hj hij
    have step : ∀ m, i + 1 + m < l.length → ∀ (h2 : i + 1 + m < l.length), l[i] < l[i + 1 + m] := by
      intro m
      induction m with
      | zero =>
        intro _ h2
        have := (ascE_ok (key (i + 1) h2)).2 (by omega)
        simp only [Nat.zero_add, Nat.add_sub_cancel, List.getD_eq_getElem?_getD, List.getElem?_eq_getElem hi, Option.getD_some] at this
        exact this
      | succ m ih =>
        intro _ h2
        have h3 := ih (by omega) (by omega)
        have := (ascE_ok (key (i + 1 + (m + 1)) h2)).2 (by omega)
        simp only [Nat.zero_add, show i + 1 + (m + 1) - 1 = i + 1 + m by omega, List.getD_eq_getElem?_getD, List.getElem?_eq_getElem (show i + 1 + m < l.length by omega), Option.getD_some] at this
        exact Int.lt_trans h3 this
    have := step (j - (i + 1)) (by omega) (by omega)
    simpa [show i + 1 + (j - (i + 1)) = j by omega] using this
end Go.Proofs.YtpblmdolgocpaaaDoor

/-! We -/
namespace Go.Proofs.YtpblmdolgocpaaaDoor
open Go Dw
set_option maxRecDepth 10000
set_option linter.unusedVariables false
set_option linter.unusedSimpArgs false
attribute [local irreducible] Run
set_option maxHeartbeats 4000000

attribute [local irreducible] sec stK put patch wrote pat wr

theorem c73q (s : Bs) (a : Int) (k : Nat) (ha : a = k) (h : (k + 1) * 64 ≤ s.length) (hs : s.length < 1000000) : Fn 73 [.str s, i a] (.str (sec s k)) := by
  subst ha; exact c73 s k h hs
theorem c77q (s : Bs) (a : Int) (k : Nat) (ha : a = k) (h : (k + 1) * 64 ≤ s.length) (hs : s.length < 1000000) : Fn 77 [.str s, i a] (.str (sec s k)) := by
  subst ha; exact c77 s k h hs

theorem c93 (k : Nat) (x lim : Int) (l : List Int) (hk : k < l.length) (hl : l.length < 1000000) (hlim : -1000000 < lim ∧ lim < 1000000) : Fn 93 [i k, i x, .fp (i lim) 0, .fp (.fs (l.map i)) 0] (i (ascE lim l k x)) := by
  have hg : goMax (k : Int) 1 = ((max k 1 : Nat) : Int) := (by unfold goMax; split <;> omega); have hgd : l.getD (k - 1) 0 = l[k - 1] := (by rw [List.getD_eq_getElem?_getD, List.getElem?_eq_getElem (by omega)]; rfl)
  refine run_walkF eok Tryd.func93 rfl (by kernel_rfl) ?_
  conv => whnf
  repeat' (first
    | ((with_reducible refine on_dec_f ?_ ?_); (focus ((try simp only [List.length_map, List.length_cons, List.length_nil, List.length_append]); omega)); conv => whnf)
    | ((with_reducible refine on_dec_t ?_ ?_); (focus ((try simp only [List.length_map, List.length_cons, List.length_nil, List.length_append]); omega)); conv => whnf)
    | ((with_reducible refine on_dec (fun h => ?_) (fun h => ?_)) <;> (try simp only [List.length_map] at h) <;> conv => whnf)
    | ((with_reducible refine on_ndec (fun h => ?_) (fun h => ?_)) <;> (try simp only [List.length_map] at h) <;> conv => whnf)
    | ((with_reducible refine on_not (fun h => ?_) (fun h => ?_)) <;> conv => whnf)
    | ((with_reducible refine onBool_split (fun h => ?_) (fun h => ?_)) <;> conv => whnf)
    | ((with_reducible refine call_go ?_); (first | refine call_step (run_view (c85 _ _ _) rfl rfl) ?_ | refine call_step (run_view (c59 _ _) rfl rfl) ?_ | refine call_step (run_view (c58 [_, _] (by simp)) rfl rfl) ?_ | refine call_step (run_view (c58 [_, _, _] (by simp)) rfl rfl) ?_ | refine call_step (run_view (c58 [_, _, _, _] (by simp)) rfl rfl) ?_); conv => whnf)
    | (refine ⟨⟨(by first | rfl | (simp; done)), cap_ok (by simp only [List.length_map, List.length_cons, List.length_nil, List.length_append]; omega) rfl⟩, ?_⟩; conv => whnf)
    | (refine ⟨mem_one ⟨rfl, rfl⟩, ?_⟩; conv => whnf)
    | (refine ⟨(by intro y hy; obtain ⟨x, _, rfl⟩ := List.mem_map.1 hy; first | rfl | exact ⟨rfl, rfl⟩), ?_⟩; conv => whnf)
    | (refine ⟨cap_ok (by first | omega | (simp only [List.length_map]; omega)) rfl, ?_⟩; conv => whnf)
    | (refine ix_map (by omega) ?_; conv => whnf)
    | (refine ix_str (by omega) ?_; conv => whnf)
    | (refine wrap64 (by omega) ?_; conv => whnf)
    | (refine wrap64 (by rw [hg]; omega) ?_; conv => whnf)
    | (refine ix_at (k - 1) (by have hk0 : k ≠ 0 := (by omega); rw [hg]; omega) (by omega) ?_; conv => whnf)
    | (refine wrap64 (by omega) ?_; conv => whnf)
    | (exfalso; simp only [List.length_map, List.length_cons, List.length_nil, List.length_append] at h; omega)
    | ((with_reducible refine endx_go ?_); first | (refine endx (congrArg i ?_); simp only [ascE, hgd]; grind [first_cons, first_nil]; done))
    | (refine ⟨rfl, ?_⟩; conv => whnf)
    | fail
    )

theorem c92 (lim : Int) (l : List Int) (hl : l.length < 1000000) (hlim : -1000000 < lim ∧ lim < 1000000) : Fn 92 [.fs (l.map i), .fn 93 [] [.fp (i lim) 0, .fp (.fs (l.map i)) 0]] (.tup [i (eachI (ascE lim l) l 0).1, i (eachI (ascE lim l) l 0).2]) := by
  refine run_walkF eok Tryd.func92 rfl (by kernel_rfl) ?_
  conv => whnf
  repeat' (first
    | ((with_reducible refine on_dec_f ?_ ?_); (focus ((try simp only [List.length_map, List.length_cons, List.length_nil, List.length_append]); omega)); conv => whnf)
    | ((with_reducible refine on_dec_t ?_ ?_); (focus ((try simp only [List.length_map, List.length_cons, List.length_nil, List.length_append]); omega)); conv => whnf)
    | ((with_reducible refine on_dec (fun h => ?_) (fun h => ?_)) <;> (try simp only [List.length_map] at h) <;> conv => whnf)
    | ((with_reducible refine on_ndec (fun h => ?_) (fun h => ?_)) <;> (try simp only [List.length_map] at h) <;> conv => whnf)
    | ((with_reducible refine on_not (fun h => ?_) (fun h => ?_)) <;> conv => whnf)
    | ((with_reducible refine onBool_split (fun h => ?_) (fun h => ?_)) <;> conv => whnf)
    | ((with_reducible refine call_go ?_); (first | refine call_step (run_view (c93 k _ lim l (by omega) hl hlim) rfl rfl) ?_); conv => whnf)
    | ((with_reducible refine loop_go ?_); first | (refine loop1 (fun (k : Nat) => l.length - k) (fun (k : Nat) => k ≤ l.length ∧ eachI (ascE lim l) l 0 = eachI (ascE lim l) (l.drop k) k) (fun (k : Nat) => [(1, .d (.fn 93 [] [.fp (i lim) 0, .fp (.fs (l.map i)) 0])), (9, .d (.fs (l.map i))), (10, .d (i l.length)), (11, .d (i k))]) (fun (k : Nat) => []) (0) (by first | (simp; done) | (constructor <;> simp; done) | omega) ?_ (fun k C hI hC => ?_); (exact ⟨[], rfl, rfl, ⟨(by first | (show (_ : D) = _; with_reducible rfl) | exact rfl), (by first | (show (_ : D) = _; with_reducible rfl) | exact rfl), (by first | (show (_ : D) = _; with_reducible rfl) | exact congrArg (D.int .i64) (by omega) | exact congrArg (D.int .i64) (by simp only [List.length_map]) | exact rfl), (by first | (show (_ : D) = _; with_reducible rfl) | exact congrArg (D.int .i64) (by omega) | exact congrArg (D.int .i64) (by simp only [List.length_map]) | exact rfl), trivial⟩, trivial⟩); all_goals (conv => whnf)))
    | ((with_reducible show C _ _); first | (refine hC (k + 1) _ _ ?_ (by omega) ?_; clear hC; rotate_left; (exact ⟨[], rfl, rfl, ⟨(by first | (show (_ : D) = _; with_reducible rfl) | exact rfl), (by first | (show (_ : D) = _; with_reducible rfl) | exact rfl), (by first | (show (_ : D) = _; with_reducible rfl) | exact congrArg (D.int .i64) (by omega) | exact congrArg (D.int .i64) (by simp only [List.length_map]) | exact rfl), (by first | (show (_ : D) = _; with_reducible rfl) | exact congrArg (D.int .i64) (by omega) | exact congrArg (D.int .i64) (by simp only [List.length_map]) | exact rfl), trivial⟩, trivial⟩); (exact ⟨by omega, by rw [hI.2, eachI_drop (by omega), if_pos h]⟩)))
    | (refine ⟨⟨(by first | rfl | (simp; done)), cap_ok (by simp only [List.length_map, List.length_cons, List.length_nil, List.length_append]; omega) rfl⟩, ?_⟩; conv => whnf)
    | (refine ⟨mem_one ⟨rfl, rfl⟩, ?_⟩; conv => whnf)
    | (refine ⟨(by intro y hy; obtain ⟨x, _, rfl⟩ := List.mem_map.1 hy; first | rfl | exact ⟨rfl, rfl⟩), ?_⟩; conv => whnf)
    | (refine ⟨cap_ok (by first | omega | (simp only [List.length_map]; omega)) rfl, ?_⟩; conv => whnf)
    | (refine ix_map (by omega) ?_; conv => whnf)
    | (refine ix_str (by omega) ?_; conv => whnf)
    | (refine wrap64 (by omega) ?_; conv => whnf)
    | (refine wrap64 (by omega) ?_; conv => whnf)
    | (exfalso; simp only [List.length_map, List.length_cons, List.length_nil, List.length_append] at h; omega)
    | ((with_reducible refine endx_go ?_); first | (refine endx2 ?_; (rw [hI.2, eachI_drop (by omega), if_neg h]) <;> rfl; done) | (refine endx2 ?_; (rw [hI.2, eachI_end (by omega)]) <;> rfl; done))
    | (refine ⟨rfl, ?_⟩; conv => whnf)
    | fail
    )

theorem c78 (lim : Int) (l : List Int) (hl : l.length < 1000000) (hlim : -1000000 < lim ∧ lim < 1000000) : Fn 78 [.fs (l.map i), i lim] (i (asc lim l)) := by
  refine run_walkF eok Tryd.func78 rfl (by kernel_rfl) ?_
  conv => whnf
  repeat' (first
    | ((with_reducible refine on_dec_f ?_ ?_); (focus ((try simp only [List.length_map, List.length_cons, List.length_nil, List.length_append]); omega)); conv => whnf)
    | ((with_reducible refine on_dec_t ?_ ?_); (focus ((try simp only [List.length_map, List.length_cons, List.length_nil, List.length_append]); omega)); conv => whnf)
    | ((with_reducible refine on_dec (fun h => ?_) (fun h => ?_)) <;> (try simp only [List.length_map] at h) <;> conv => whnf)
    | ((with_reducible refine on_ndec (fun h => ?_) (fun h => ?_)) <;> (try simp only [List.length_map] at h) <;> conv => whnf)
    | ((with_reducible refine on_not (fun h => ?_) (fun h => ?_)) <;> conv => whnf)
    | ((with_reducible refine onBool_split (fun h => ?_) (fun h => ?_)) <;> conv => whnf)
    | ((with_reducible refine call_go ?_); (first | refine call_step (run_view (c92 lim l hl hlim) rfl rfl) ?_); conv => whnf)
    | (refine ⟨⟨(by first | rfl | (simp; done)), cap_ok (by simp only [List.length_map, List.length_cons, List.length_nil, List.length_append]; omega) rfl⟩, ?_⟩; conv => whnf)
    | (refine ⟨mem_one ⟨rfl, rfl⟩, ?_⟩; conv => whnf)
    | (refine ⟨(by intro y hy; obtain ⟨x, _, rfl⟩ := List.mem_map.1 hy; first | rfl | exact ⟨rfl, rfl⟩), ?_⟩; conv => whnf)
    | (refine ⟨cap_ok (by first | omega | (simp only [List.length_map]; omega)) rfl, ?_⟩; conv => whnf)
    | (refine ix_map (by omega) ?_; conv => whnf)
    | (refine ix_str (by omega) ?_; conv => whnf)
    | (refine wrap64 (by omega) ?_; conv => whnf)
    | (exfalso; simp only [List.length_map, List.length_cons, List.length_nil, List.length_append] at h; omega)
    | ((with_reducible refine endx_go ?_); first | (exact endx rfl; done))
    | (refine ⟨rfl, ?_⟩; conv => whnf)
    | fail
    )

theorem c48 (s : Bs) : Fn 48 [.str s] (i (blockErr s)) := by
  refine run_walkF eok Tryd.func48 rfl (by kernel_rfl) ?_
  conv => whnf
  repeat' (first
    | ((with_reducible refine on_dec_f ?_ ?_); (focus ((try simp only [List.length_map, List.length_cons, List.length_nil, List.length_append]); omega)); conv => whnf)
    | ((with_reducible refine on_dec_t ?_ ?_); (focus ((try simp only [List.length_map, List.length_cons, List.length_nil, List.length_append]); omega)); conv => whnf)
    | ((with_reducible refine on_dec (fun h => ?_) (fun h => ?_)) <;> (try simp only [List.length_map] at h) <;> conv => whnf)
    | ((with_reducible refine on_ndec (fun h => ?_) (fun h => ?_)) <;> (try simp only [List.length_map] at h) <;> conv => whnf)
    | ((with_reducible refine on_not (fun h => ?_) (fun h => ?_)) <;> conv => whnf)
    | ((with_reducible refine onBool_split (fun h => ?_) (fun h => ?_)) <;> conv => whnf)
    | ((with_reducible refine call_go ?_); (first | refine call_step (run_view (c59 _ _) rfl rfl) ?_); conv => whnf)
    | (refine ⟨⟨(by first | rfl | (simp; done)), cap_ok (by simp only [List.length_map, List.length_cons, List.length_nil, List.length_append]; omega) rfl⟩, ?_⟩; conv => whnf)
    | (refine ⟨mem_one ⟨rfl, rfl⟩, ?_⟩; conv => whnf)
    | (refine ⟨(by intro y hy; obtain ⟨x, _, rfl⟩ := List.mem_map.1 hy; first | rfl | exact ⟨rfl, rfl⟩), ?_⟩; conv => whnf)
    | (refine ⟨cap_ok (by first | omega | (simp only [List.length_map]; omega)) rfl, ?_⟩; conv => whnf)
    | (refine ix_map (by omega) ?_; conv => whnf)
    | (refine ix_str (by omega) ?_; conv => whnf)
    | (refine wrap64 (by omega) ?_; conv => whnf)
    | (exfalso; simp only [List.length_map, List.length_cons, List.length_nil, List.length_append] at h; omega)
    | ((with_reducible refine endx_go ?_); first | (refine endx (congrArg i ?_); simp only [blockErr]; grind; done))
    | (refine ⟨rfl, ?_⟩; conv => whnf)
    | fail
    )

theorem c49 (s : Bs) : Fn 49 [.str s] (i (blockErr s)) := by
  refine run_walkF eok Tryd.func49 rfl (by kernel_rfl) ?_
  conv => whnf
  repeat' (first
    | ((with_reducible refine on_dec_f ?_ ?_); (focus ((try simp only [List.length_map, List.length_cons, List.length_nil, List.length_append]); omega)); conv => whnf)
    | ((with_reducible refine on_dec_t ?_ ?_); (focus ((try simp only [List.length_map, List.length_cons, List.length_nil, List.length_append]); omega)); conv => whnf)
    | ((with_reducible refine on_dec (fun h => ?_) (fun h => ?_)) <;> (try simp only [List.length_map] at h) <;> conv => whnf)
    | ((with_reducible refine on_ndec (fun h => ?_) (fun h => ?_)) <;> (try simp only [List.length_map] at h) <;> conv => whnf)
    | ((with_reducible refine on_not (fun h => ?_) (fun h => ?_)) <;> conv => whnf)
    | ((with_reducible refine onBool_split (fun h => ?_) (fun h => ?_)) <;> conv => whnf)
    | (refine ⟨⟨(by first | rfl | (simp; done)), cap_ok (by simp only [List.length_map, List.length_cons, List.length_nil, List.length_append]; omega) rfl⟩, ?_⟩; conv => whnf)
    | (refine ⟨mem_one ⟨rfl, rfl⟩, ?_⟩; conv => whnf)
    | (refine ⟨(by intro y hy; obtain ⟨x, _, rfl⟩ := List.mem_map.1 hy; first | rfl | exact ⟨rfl, rfl⟩), ?_⟩; conv => whnf)
    | (refine ⟨cap_ok (by first | omega | (simp only [List.length_map]; omega)) rfl, ?_⟩; conv => whnf)
    | (refine ix_map (by omega) ?_; conv => whnf)
    | (refine ix_str (by omega) ?_; conv => whnf)
    | (refine wrap64 (by omega) ?_; conv => whnf)
    | (exfalso; simp only [List.length_map, List.length_cons, List.length_nil, List.length_append] at h; omega)
    | ((with_reducible refine endx_go ?_); first | (refine endx (congrArg i ?_); simp only [blockErr]; grind; done))
    | (refine ⟨rfl, ?_⟩; conv => whnf)
    | fail
    )

def mixErr (a b : Bs) (l : List Int) : Int := first [blockErr a, blockErr b, asc 8 l]
theorem blockErr_ok {s : Bs} (h : blockErr s = 0) : s.length = 512 := by
  unfold blockErr at h
  split at h
  · assumption
  · omega
theorem mixErr_ok {a b : Bs} {l : List Int} (h : mixErr a b l = 0) : a.length = 512 ∧ b.length = 512 ∧ asc 8 l = 0 := by
  unfold mixErr at h
  simp only [first_cons, first_nil] at h
  by_cases h1 : blockErr a = 0 <;> by_cases h2 : blockErr b = 0 <;> by_cases h3 : asc 8 l = 0 <;> simp [h1, h2, h3] at h
  exact ⟨blockErr_ok h1, blockErr_ok h2, h3⟩
theorem asc_at {lim : Int} {l : List Int} {k : Nat} (hk : k < l.length) (h : eachI (ascE lim l) l 0 = eachI (ascE lim l) (l.drop k) k) (hn : ascE lim l k l[k] ≠ 0) : asc lim l = ascE lim l k l[k] := by
  rw [asc, h, eachI_drop hk, if_neg hn]
theorem asc_end {lim : Int} {l : List Int} {k : Nat} (hk : l.length ≤ k) (h : eachI (ascE lim l) l 0 = eachI (ascE lim l) (l.drop k) k) : asc lim l = 0 := by
  rw [asc, h, eachI_end hk]
theorem getD_prev {l : List Int} {k : Nat} (h : k < l.length) : l.getD (k - 1) 0 = l[k - 1] := by
  rw [List.getD_eq_getElem?_getD, List.getElem?_eq_getElem (by omega)]; rfl

theorem c40 (a b : Bs) (l : List Int) (hl : l.length < 1000000) : Fn 40 [.str a, .str b, .fs (l.map i)] (i (mixErr a b l)) := by
  refine run_walkF eok Tryd.func40 rfl (by kernel_rfl) ?_
  conv => whnf
  repeat' (first
    | ((with_reducible refine on_dec_f ?_ ?_); (focus ((try simp only [List.length_map, List.length_cons, List.length_nil, List.length_append]); omega)); conv => whnf)
    | ((with_reducible refine on_dec_t ?_ ?_); (focus ((try simp only [List.length_map, List.length_cons, List.length_nil, List.length_append]); omega)); conv => whnf)
    | ((with_reducible refine on_dec (fun h => ?_) (fun h => ?_)) <;> (try simp only [List.length_map] at h) <;> conv => whnf)
    | ((with_reducible refine on_ndec (fun h => ?_) (fun h => ?_)) <;> (try simp only [List.length_map] at h) <;> conv => whnf)
    | ((with_reducible refine on_not (fun h => ?_) (fun h => ?_)) <;> conv => whnf)
    | ((with_reducible refine onBool_split (fun h => ?_) (fun h => ?_)) <;> conv => whnf)
    | ((with_reducible refine call_go ?_); (first | refine call_step (run_view (c49 _) rfl rfl) ?_ | refine call_step (run_view (c46 _ _ _) rfl rfl) ?_); conv => whnf)
    | (refine ⟨[], [], (by decide +kernel), ?_⟩; conv => whnf)
    | ((with_reducible refine loop_go ?_); first | (refine loop1 (fun (k : Nat) => l.length - k) (fun (k : Nat) => k ≤ l.length ∧ eachI (ascE 8 l) l 0 = eachI (ascE 8 l) (l.drop k) k) (fun (k : Nat) => [(2, .d (.fs (l.map i))), (9, .d (i k))]) (fun (k : Nat) => []) (0) (by first | (simp; done) | (constructor <;> simp; done) | omega) ?_ (fun k C hI hC => ?_); (exact ⟨[], rfl, rfl, ⟨(by first | (show (_ : D) = _; with_reducible rfl) | exact rfl), (by first | (show (_ : D) = _; with_reducible rfl) | exact congrArg (D.int .i64) (by omega) | exact congrArg (D.int .i64) (by simp only [List.length_map]) | exact rfl), trivial⟩, trivial⟩); all_goals (conv => whnf)))
    | ((with_reducible show C _ _); first | (refine hC (k + 1) _ _ ?_ (by omega) ?_; clear hC; rotate_left; (exact ⟨[], rfl, rfl, ⟨(by first | (show (_ : D) = _; with_reducible rfl) | exact rfl), (by first | (show (_ : D) = _; with_reducible rfl) | exact congrArg (D.int .i64) (by omega) | exact congrArg (D.int .i64) (by simp only [List.length_map]) | exact rfl), trivial⟩, trivial⟩); (exact ⟨by omega, by rw [hI.2, eachI_drop (by omega), if_pos (by have hgd := getD_prev (l := l) (k := k) (by omega); simp only [ascE, hgd]; grind)]⟩)))
    | (refine ⟨⟨(by first | rfl | (simp; done)), cap_ok (by simp only [List.length_map, List.length_cons, List.length_nil, List.length_append]; omega) rfl⟩, ?_⟩; conv => whnf)
    | (refine ⟨mem_one ⟨rfl, rfl⟩, ?_⟩; conv => whnf)
    | (refine ⟨(by intro y hy; obtain ⟨x, _, rfl⟩ := List.mem_map.1 hy; first | rfl | exact ⟨rfl, rfl⟩), ?_⟩; conv => whnf)
    | (refine ⟨cap_ok (by first | omega | (simp only [List.length_map]; omega)) rfl, ?_⟩; conv => whnf)
    | (refine ix_map (by omega) ?_; conv => whnf)
    | (refine ix_str (by omega) ?_; conv => whnf)
    | (refine wrap64 (by omega) ?_; conv => whnf)
    | (refine ix_at (k - 1) (by omega) (by omega) ?_; conv => whnf)
    | (refine wrap64 (by omega) ?_; conv => whnf)
    | (exfalso; simp only [List.length_map, List.length_cons, List.length_nil, List.length_append] at h; omega)
    | ((with_reducible refine endx_go ?_); first | (refine endx (congrArg i ?_); (simp only [mixErr, first_cons]; simp_all; done); done) | (refine endx (congrArg i ?_); rw [mixErr, first_cons, first_cons, first_cons, if_pos (by assumption), if_pos (by assumption), asc_end (by omega) hI.2]; rfl; done) | (refine endx (congrArg i ?_); have hgd := getD_prev (l := l) (k := k) (by omega); have he : ascE 8 l k (l[k]'(by omega)) = 6 ∨ ascE 8 l k (l[k]'(by omega)) = 9 := (by simp only [ascE, hgd]; grind); rw [mixErr, first_cons, first_cons, first_cons, if_pos (by assumption), if_pos (by assumption), asc_at (by omega) hI.2 (by omega)]; simp only [ascE, hgd]; grind; done))
    | (refine ⟨rfl, ?_⟩; conv => whnf)
    | fail
    )

def mixI (b s : Bs) (l : List Int) : Bs := mixP b s (l.map Int.toNat)
theorem mixI_zero (b s : Bs) (l : List Int) : mixI b s (l.take 0) = s := rfl
theorem mixI_snoc {b s : Bs} {l : List Int} {k : Nat} (h : k < l.length) : mixI b s (l.take (k + 1)) = patch (mixI b s (l.take k)) (64 * l[k].toNat) (sec b l[k].toNat) := by
  unfold mixI mixP
  rw [List.take_succ_eq_append_getElem h, List.map_append, List.foldl_append]; rfl
theorem mixI_len {b s : Bs} (hs : s.length = 512) (hb : b.length = 512) {l : List Int} (hl : ∀ x ∈ l, 0 ≤ x ∧ x < 8) : (mixI b s l).length = 512 := by
  have hst := stOf_all s
  have h8 : (stOf s).length = 8 := by rw [stOf_len]; omega
  have hi : ∀ x ∈ l.map Int.toNat, x < 8 := fun x hx => by obtain ⟨y, hy, rfl⟩ := List.mem_map.1 hx; have := hl y hy; omega
  have := mix_flat hb (l := l.map Int.toNat) hst h8 hi
  have ha : All64 (mixS b (stOf s) (l.map Int.toNat)) := by
    have key : ∀ (l : List Nat) (st : List Bs), All64 st → (∀ x ∈ l, x < 8) → All64 (mixS b st l) := by
      intro l
      induction l with
      | nil => intro st h _; exact h
      | cons x l ih =>
        intro st h hx
        refine ih _ (put_all h fun y hy => ?_) fun y hy => hx y (List.mem_cons_of_mem _ hy)
        rw [List.mem_singleton] at hy; subst hy
        exact sec_len (by have := hx x (List.mem_cons_self ..); omega)
    exact key _ _ hst hi
  rw [stOf_flat (by omega)] at this
  unfold mixI
  rw [← this.1, flat_len ha, this.2]
attribute [local irreducible] mixI

theorem c41 (a b : Bs) (l : List Int) (ha : a.length = 512) (hb : b.length = 512) (hl : l.length < 1000000) (hb8 : ∀ x ∈ l, 0 ≤ x ∧ x < 8) : Fn 41 [.str a, .str b, .fs (l.map i)] (.str (mixI b a l)) := by
  have hml := fun k => mixI_len ha hb (l := l.take k) (fun x hx => hb8 x (List.mem_of_mem_take hx))
  refine run_walkF eok Tryd.func41 rfl (by kernel_rfl) ?_
  conv => whnf
  repeat' (first
    | ((with_reducible refine on_dec_f ?_ ?_); (focus ((try simp only [List.length_map, List.length_cons, List.length_nil, List.length_append]); omega)); conv => whnf)
    | ((with_reducible refine on_dec_t ?_ ?_); (focus ((try simp only [List.length_map, List.length_cons, List.length_nil, List.length_append]); omega)); conv => whnf)
    | ((with_reducible refine on_dec (fun h => ?_) (fun h => ?_)) <;> (try simp only [List.length_map] at h) <;> conv => whnf)
    | ((with_reducible refine on_ndec (fun h => ?_) (fun h => ?_)) <;> (try simp only [List.length_map] at h) <;> conv => whnf)
    | ((with_reducible refine on_not (fun h => ?_) (fun h => ?_)) <;> conv => whnf)
    | ((with_reducible refine onBool_split (fun h => ?_) (fun h => ?_)) <;> conv => whnf)
    | ((with_reducible refine call_go ?_); (first | refine call_step (run_view (c73q b _ (l[k]'(by omega)).toNat (by have := hlk (by omega); omega) (by have := hlk (by omega); omega) (by omega)) rfl rfl) ?_ | refine call_step (run_view (c68 _ _ _ (64 * (l[k]'(by omega)).toNat) (by have := hlk (by omega); omega) (by have := hlk (by omega); rw [hml k, sec_len (by omega)]; omega) (by rw [hml k]; decide)) rfl rfl) ?_); conv => whnf)
    | (refine ⟨[], [(4, 11)], (by decide +kernel), ?_⟩; conv => whnf)
    | ((with_reducible refine loop_go ?_); first | (refine loop1 (fun (k : Nat) => l.length - k) (fun (k : Nat) => k ≤ l.length) (fun (k : Nat) => [(0, .d (.str (mixI b a (l.take k)))), (1, .d (.str b)), (2, .d (.fs (l.map i))), (7, .d (i k))]) (fun (k : Nat) => []) (0) (by exact Nat.zero_le _) ?_ (fun k C hI hC => ?_); (exact ⟨[], rfl, rfl, ⟨(congrArg D.str (mixI_zero b a l).symm), rfl, rfl, rfl, trivial⟩, trivial⟩); have hlk := fun (h : k < l.length) => hb8 _ (List.getElem_mem h); all_goals (conv => whnf)))
    | ((with_reducible show C _ _); first | (refine hC (k + 1) _ _ ?_ (by omega) ?_; clear hC; rotate_left; (exact ⟨[], rfl, rfl, ⟨(congrArg D.str (mixI_snoc (by omega)).symm), (by first | (show (_ : D) = _; with_reducible rfl) | exact rfl), (by first | (show (_ : D) = _; with_reducible rfl) | exact rfl), (by first | (show (_ : D) = _; with_reducible rfl) | exact congrArg (D.int .i64) (by omega) | exact congrArg (D.int .i64) (by simp only [List.length_map]) | exact rfl), trivial⟩, trivial⟩); (exact (by omega : k + 1 ≤ l.length))))
    | (refine ⟨⟨(by first | rfl | (simp; done)), cap_ok (by simp only [List.length_map, List.length_cons, List.length_nil, List.length_append]; omega) rfl⟩, ?_⟩; conv => whnf)
    | (refine ⟨mem_one ⟨rfl, rfl⟩, ?_⟩; conv => whnf)
    | (refine ⟨(by intro y hy; obtain ⟨x, _, rfl⟩ := List.mem_map.1 hy; first | rfl | exact ⟨rfl, rfl⟩), ?_⟩; conv => whnf)
    | (refine ⟨cap_ok (by first | omega | (simp only [List.length_map]; omega)) rfl, ?_⟩; conv => whnf)
    | (refine ix_map (by omega) ?_; conv => whnf)
    | (refine ix_str (by omega) ?_; conv => whnf)
    | (refine wrap64 (by omega) ?_; conv => whnf)
    | (refine wrap64 (by have := hlk (by omega); omega) ?_; conv => whnf)
    | (refine wrap64 (by omega) ?_; conv => whnf)
    | (exfalso; simp only [List.length_map, List.length_cons, List.length_nil, List.length_append] at h; omega)
    | ((with_reducible refine endx_go ?_); first | (exact endx (congrArg D.str (by rw [List.take_of_length_le (by omega)])); done))
    | (refine ⟨rfl, ?_⟩; conv => whnf)
    | fail
    )

theorem c74 (l : List Wr) (x : Lo) (n : Nat) (hx : LoOk l n x) (hb : ∀ x ∈ l, x.bytes.length < 1000000) (ha : (l[x.ev.toNat]'hx.evn).at_ ≥ 0) (hn : x.sec < 1000000) : Fn 74 [.fs (l.map Wr.enc), x.enc] (.str (gotS l x)) := by
  have h0 := hx.at0 _ (List.getElem?_eq_getElem hx.evn); have hs0 := hx.sec0; have hev := hx.ev0; have hevn := hx.evn
  refine run_walkF eok Tryd.func74 rfl (by kernel_rfl) ?_
  conv => whnf
  repeat' (first
    | ((with_reducible refine on_dec_f ?_ ?_); (focus ((try simp only [List.length_map, List.length_cons, List.length_nil, List.length_append]); omega)); conv => whnf)
    | ((with_reducible refine on_dec_t ?_ ?_); (focus ((try simp only [List.length_map, List.length_cons, List.length_nil, List.length_append]); omega)); conv => whnf)
    | ((with_reducible refine on_dec (fun h => ?_) (fun h => ?_)) <;> (try simp only [List.length_map] at h) <;> conv => whnf)
    | ((with_reducible refine on_ndec (fun h => ?_) (fun h => ?_)) <;> (try simp only [List.length_map] at h) <;> conv => whnf)
    | ((with_reducible refine on_not (fun h => ?_) (fun h => ?_)) <;> conv => whnf)
    | ((with_reducible refine onBool_split (fun h => ?_) (fun h => ?_)) <;> conv => whnf)
    | ((with_reducible refine call_go ?_); (first | refine call_step (run_view (c73q (l[x.ev.toNat]'hx.evn).bytes _ (x.sec - (l[x.ev.toNat]'hx.evn).at_).toNat (by omega) (by omega) (hb _ (List.getElem_mem _))) rfl rfl) ?_); conv => whnf)
    | (refine ⟨[], [], (by decide +kernel), ?_⟩; conv => whnf)
    | (refine ⟨⟨(by first | rfl | (simp; done)), cap_ok (by simp only [List.length_map, List.length_cons, List.length_nil, List.length_append]; omega) rfl⟩, ?_⟩; conv => whnf)
    | (refine ⟨mem_one ⟨rfl, rfl⟩, ?_⟩; conv => whnf)
    | (refine ⟨(by intro y hy; obtain ⟨x, _, rfl⟩ := List.mem_map.1 hy; first | rfl | exact ⟨rfl, rfl⟩), ?_⟩; conv => whnf)
    | (refine ⟨cap_ok (by first | omega | (simp only [List.length_map]; omega)) rfl, ?_⟩; conv => whnf)
    | (refine ix_map (by omega) ?_; conv => whnf)
    | (refine ix_str (by omega) ?_; conv => whnf)
    | (refine wrap64 (by omega) ?_; conv => whnf)
    | (refine ix_at x.ev.toNat (by omega) hx.evn ?_; conv => whnf)
    | (refine wrap64 (by omega) ?_; conv => whnf)
    | (exfalso; simp only [List.length_map, List.length_cons, List.length_nil, List.length_append] at h; omega)
    | ((with_reducible refine endx_go ?_); first | (exact endx (congrArg D.str (by simp only [gotS, List.getElem?_eq_getElem hx.evn])); done))
    | (refine ⟨rfl, ?_⟩; conv => whnf)
    | fail
    )

end Go.Proofs.YtpblmdolgocpaaaDoor

/-! Wf -/
namespace Go.Proofs.YtpblmdolgocpaaaDoor
open Go Dw
set_option maxRecDepth 10000
set_option linter.unusedVariables false
set_option linter.unusedSimpArgs false
attribute [local irreducible] Run
set_option maxHeartbeats 4000000

attribute [local irreducible] sec stK put patch wrote pat wr

theorem loK_bd {l : List Wr} (hb : ∀ x ∈ l, x.bytes.length ≤ 768) {a : Nat} : ∀ b, b ≤ l.length → (loK l a b).length ≤ 12 * b
  | 0, _ => by simp [loK]
  | b + 1, h => by
    by_cases c : a ≤ b
    · rw [loK_succ c (List.getElem?_eq_getElem (by omega)), List.length_append, lo1_len]
      have := loK_bd hb (a := a) b (by omega)
      have := hb _ (List.getElem_mem (l := l) (n := b) (by omega))
      omega
    · have : b + 1 - a = 0 := by omega
      simp [loK, this]
theorem loose_bd {l : List Wr} (h : ∀ x ∈ l, x.bytes.length ≤ 768) (hl : l.length ≤ 20) {r : Nat} (hr : r ≤ l.length) : (loose l r).length ≤ 240 := by
  have := loK_bd h (a := settled l r) r hr
  unfold loose; omega
/-- What is known of small events that are valid. -/
structure Ev (s : Bs) (l : List Wr) : Prop where
  hs : s.length ≤ 2560
  hl : l.length ≤ 20
  hb : ∀ x ∈ l, x.bytes.length ≤ 768
  hi : ∀ x ∈ l, x.In (s.length / 64)
theorem Ev.at_ {s : Bs} {l : List Wr} (h : Ev s l) : ∀ x ∈ l, 0 ≤ x.at_ ∧ x.at_ ≤ 40 := fun x hx => by
  have h1 := h.hs
  obtain ⟨a, b, c⟩ := h.hi x hx
  omega
theorem c35q {s : Bs} {l : List Wr} (h : Ev s l) (ri : Int) (r : Nat) (hri : ri = r) (hr : r ≤ l.length) : Fn 35 [.fs (l.map Wr.enc), i ri] (i (settled l r : Nat)) := by
  subst hri; exact c35 l r (by have := h.hl; omega) hr
theorem c32q {s : Bs} {l : List Wr} (h : Ev s l) (ri : Int) (r : Nat) (hri : ri = r) (hr : r ≤ l.length) : Fn 32 [.fs (l.map Wr.enc), i ri] (.fs ((loose l r).map Lo.enc)) := by
  subst hri
  exact c32 l r (by have := h.hl; omega) hr (fun x hx => by have := h.hb x hx; omega) (fun x hx => by have := h.at_ x hx; omega) (fun k hk => by have := loK_bd h.hb (a := settled l r) k (by omega); have := h.hl; omega)
theorem c17q {s : Bs} {l : List Wr} (h : Ev s l) (n : Nat) : Fn 17 [.str s, .fs ((l.take n).map Wr.enc)] (.str (wrote s (l.take n))) :=
  c17 s (l.take n) (by have := h.hs; omega) (by have := h.hl; rw [List.length_take]; omega) (fun x hx => h.hi x (List.mem_of_mem_take hx))
theorem c74q {s : Bs} {l : List Wr} (h : Ev s l) (x : Lo) (hx : LoOk l (s.length / 64) x) : Fn 74 [.fs (l.map Wr.enc), x.enc] (.str (gotS l x)) :=
  c74 l x _ hx (fun x hx => by have := h.hb x hx; omega) (h.at_ _ (List.getElem_mem hx.evn)).1 (by have := hx.secn; have := h.hs; omega)
theorem lo_okE {s : Bs} {l : List Wr} (h : Ev s l) {r : Nat} : ∀ x ∈ loose l r, LoOk l (s.length / 64) x := lo_ok h.hi
def failErr (s : Bs) (l : List Wr) (x : Fl) : Int := if reachErr s l x.reached ≠ 0 then reachErr s l x.reached else asc (loose l x.reached.toNat).length x.kept
theorem reachErr_ok {s : Bs} {l : List Wr} {r : Int} (h : reachErr s l r = 0) : (evsErr s l).2 = 0 ∧ 0 ≤ r ∧ r ≤ l.length := by
  unfold reachErr at h
  split at h
  · omega
  · split at h
    · rename_i h1 h2
      simp only [within, Bool.and_eq_true, decide_eq_true_eq] at h2
      exact ⟨by omega, h2.1, h2.2⟩
    · omega
theorem ev_of {s : Bs} {l : List Wr} (hs : smallB s l = true) (h : (evsErr s l).2 = 0) : Ev s l := by
  obtain ⟨h1, h2, h3⟩ := smallB_ok hs
  exact ⟨h1, h2, h3, (evsErr_ok h).2.2.1⟩
theorem c19q {s : Bs} {l : List Wr} (h : smallB s l = true) (r : Int) : Fn 19 [.str s, .fs (l.map Wr.enc), i r] (i (reachErr s l r)) := by
  obtain ⟨h1, h2, h3⟩ := smallB_ok h
  exact c19 s l (by omega) (by omega) (fun x hx => by have := h3 x hx; omega) r
attribute [local irreducible] loose settled reachErr gotS asc

theorem c33m (s : Bs) (l : List Wr) (x : Fl) (hsm : smallB s l = true) (hr : reachErr s l x.reached = 0) (hk : x.kept.length < 1000000) : Fn 33 [.str s, .fs (l.map Wr.enc), x.enc] (i (failErr s l x)) := by
  have hro := reachErr_ok hr; have hE := ev_of hsm hro.1; have hlb := loose_bd hE.hb hE.hl (r := x.reached.toNat) (by omega)
  refine run_walkF eok Tryd.func33 rfl (by kernel_rfl) ?_
  conv => whnf
  repeat' (first
    | ((with_reducible refine on_dec_f ?_ ?_); (focus ((try simp only [List.length_map, List.length_cons, List.length_nil, List.length_append]); omega)); conv => whnf)
    | ((with_reducible refine on_dec_t ?_ ?_); (focus ((try simp only [List.length_map, List.length_cons, List.length_nil, List.length_append]); omega)); conv => whnf)
    | ((with_reducible refine on_dec (fun h => ?_) (fun h => ?_)) <;> (try simp only [List.length_map] at h) <;> conv => whnf)
    | ((with_reducible refine on_ndec (fun h => ?_) (fun h => ?_)) <;> (try simp only [List.length_map] at h) <;> conv => whnf)
    | ((with_reducible refine on_not (fun h => ?_) (fun h => ?_)) <;> conv => whnf)
    | ((with_reducible refine onBool_split (fun h => ?_) (fun h => ?_)) <;> conv => whnf)
    | ((with_reducible refine call_go ?_); (first | refine call_step (run_view (c19q hsm x.reached) rfl rfl) ?_ | refine call_step (run_viewF (c32q hE x.reached x.reached.toNat (by omega) (by omega)) rfl) ?_ | refine call_step (run_view (c46 _ _ _) rfl rfl) ?_); conv => whnf)
    | (refine ⟨[], [], (by decide +kernel), ?_⟩; conv => whnf)
    | ((with_reducible refine loop_go ?_); first | (refine loop1 (fun (k : Nat) => x.kept.length - k) (fun (k : Nat) => k ≤ x.kept.length ∧ eachI (ascE ((loose l x.reached.toNat).length : Int) x.kept) x.kept 0 = eachI (ascE ((loose l x.reached.toNat).length : Int) x.kept) (x.kept.drop k) k) (fun (k : Nat) => [(5, .ptr 0 0 0), (8, .d (i (loose l x.reached.toNat).length)), (9, .d (i k))]) (fun (k : Nat) => [⟨[.d x.enc], 2, 0⟩]) (0) (by first | (simp; done) | (constructor <;> simp; done) | omega) ?_ (fun k C hI hC => ?_); (exact ⟨[.old 0], rfl, rfl, ⟨⟨rfl, rfl, rfl⟩, (congrArg (D.int .i64) (by (rw [List.length_map]) <;> rfl)), rfl, trivial⟩, ⟨⟨rfl, rfl, .inl ⟨[_], rfl, rfl⟩⟩, trivial⟩⟩); all_goals (conv => whnf)))
    | ((with_reducible show C _ _); first | (refine hC (k + 1) _ _ ?_ (by omega) ?_; clear hC; rotate_left; (exact ⟨[.old 0], rfl, rfl, ⟨⟨rfl, rfl, rfl⟩, (by first | (show (_ : D) = _; with_reducible rfl) | exact congrArg (D.int .i64) (by omega) | exact congrArg (D.int .i64) (by simp only [List.length_map]) | exact rfl), (by first | (show (_ : D) = _; with_reducible rfl) | exact congrArg (D.int .i64) (by omega) | exact congrArg (D.int .i64) (by simp only [List.length_map]) | exact rfl), trivial⟩, ⟨⟨rfl, rfl, .inl ⟨[_], rfl, rfl⟩⟩, trivial⟩⟩); (exact ⟨by omega, by rw [hI.2, eachI_drop (by omega), if_pos (by have hgd := getD_prev (l := x.kept) (k := k) (by omega); simp only [ascE, hgd]; grind)]⟩)))
    | (refine ⟨⟨(by first | rfl | (simp; done)), cap_ok (by simp only [List.length_map, List.length_cons, List.length_nil, List.length_append]; omega) rfl⟩, ?_⟩; conv => whnf)
    | (refine ⟨mem_one ⟨rfl, rfl⟩, ?_⟩; conv => whnf)
    | (refine ⟨(by intro y hy; obtain ⟨x, _, rfl⟩ := List.mem_map.1 hy; first | rfl | exact ⟨rfl, rfl⟩), ?_⟩; conv => whnf)
    | (refine ⟨cap_ok (by first | omega | (simp only [List.length_map]; omega)) rfl, ?_⟩; conv => whnf)
    | (refine ix_map (by omega) ?_; conv => whnf)
    | (refine ix_str (by omega) ?_; conv => whnf)
    | (refine wrap64 (by omega) ?_; conv => whnf)
    | (refine ix_at (k - 1) (by omega) (by omega) ?_; conv => whnf)
    | (refine wrap64 (by rw [List.length_map]; omega) ?_; conv => whnf)
    | (refine wrap64 (by omega) ?_; conv => whnf)
    | (exfalso; simp only [List.length_map, List.length_cons, List.length_nil, List.length_append] at h; omega)
    | ((with_reducible refine endx_go ?_); first | (refine endx (congrArg i ?_); (simp only [failErr]; simp_all; done); done) | (refine endx (congrArg i ?_); rw [failErr, if_neg (fun c => c hr), asc_end (by omega) hI.2]; done) | (refine endx (congrArg i ?_); have hgd := getD_prev (l := x.kept) (k := k) (by omega); have he : ascE (loose l x.reached.toNat).length x.kept k (x.kept[k]'(by omega)) = 6 ∨ ascE (loose l x.reached.toNat).length x.kept k (x.kept[k]'(by omega)) = 9 := (by simp only [ascE, hgd]; grind); rw [failErr, if_neg (fun c => c hr), asc_at (by omega) hI.2 (by omega)]; simp only [ascE, hgd]; grind; done))
    | (refine ⟨rfl, ?_⟩; conv => whnf)
    | fail
    )

theorem c33e (s : Bs) (l : List Wr) (x : Fl) (hsm : smallB s l = true) (hr : ¬ reachErr s l x.reached = 0) : Fn 33 [.str s, .fs (l.map Wr.enc), x.enc] (i (failErr s l x)) := by
  refine run_walkF eok Tryd.func33 rfl (by kernel_rfl) ?_
  conv => whnf
  repeat' (first
    | ((with_reducible refine on_ndec_t (by assumption) ?_); conv => whnf)
    | ((with_reducible refine on_dec_f ?_ ?_); (focus ((try simp only [List.length_map, List.length_cons, List.length_nil, List.length_append]); omega)); conv => whnf)
    | ((with_reducible refine on_dec_t ?_ ?_); (focus ((try simp only [List.length_map, List.length_cons, List.length_nil, List.length_append]); omega)); conv => whnf)
    | ((with_reducible refine on_dec (fun h => ?_) (fun h => ?_)) <;> (try simp only [List.length_map] at h) <;> conv => whnf)
    | ((with_reducible refine on_ndec (fun h => ?_) (fun h => ?_)) <;> (try simp only [List.length_map] at h) <;> conv => whnf)
    | ((with_reducible refine on_not (fun h => ?_) (fun h => ?_)) <;> conv => whnf)
    | ((with_reducible refine onBool_split (fun h => ?_) (fun h => ?_)) <;> conv => whnf)
    | ((with_reducible refine call_go ?_); (first | refine call_step (run_view (c19q hsm x.reached) rfl rfl) ?_ | refine call_step (run_viewF (c32q hE x.reached x.reached.toNat (by omega) (by omega)) rfl) ?_ | refine call_step (run_view (c46 _ _ _) rfl rfl) ?_); conv => whnf)
    | (refine ⟨[], [], (by decide +kernel), ?_⟩; conv => whnf)
    | (refine ⟨⟨(by first | rfl | (simp; done)), cap_ok (by simp only [List.length_map, List.length_cons, List.length_nil, List.length_append]; omega) rfl⟩, ?_⟩; conv => whnf)
    | (refine ⟨mem_one ⟨rfl, rfl⟩, ?_⟩; conv => whnf)
    | (refine ⟨(by intro y hy; obtain ⟨x, _, rfl⟩ := List.mem_map.1 hy; first | rfl | exact ⟨rfl, rfl⟩), ?_⟩; conv => whnf)
    | (refine ⟨cap_ok (by first | omega | (simp only [List.length_map]; omega)) rfl, ?_⟩; conv => whnf)
    | (refine ix_map (by omega) ?_; conv => whnf)
    | (refine ix_str (by omega) ?_; conv => whnf)
    | (refine wrap64 (by omega) ?_; conv => whnf)
    | (exact absurd (by assumption) hr)
    | (exfalso; simp only [List.length_map, List.length_cons, List.length_nil, List.length_append] at h; omega)
    | ((with_reducible refine endx_go ?_); first | (refine endx (congrArg i ?_); rw [failErr, if_pos hr]; done))
    | (refine ⟨rfl, ?_⟩; conv => whnf)
    | fail
    )

theorem c33 (s : Bs) (l : List Wr) (x : Fl) (hsm : smallB s l = true) (hk : x.kept.length < 1000000) : Fn 33 [.str s, .fs (l.map Wr.enc), x.enc] (i (failErr s l x)) := by
  by_cases hr : reachErr s l x.reached = 0
  · exact c33m s l x hsm hr hk
  · exact c33e s l x hsm hr
theorem failP_zero (l : List Wr) (lo : List Lo) (kept : List Int) (s : Bs) : failP l lo (kept.take 0) s = s := rfl
theorem failP_snoc {l : List Wr} {lo : List Lo} {kept : List Int} {s : Bs} {k : Nat} (h : k < kept.length) (h2 : kept[k].toNat < lo.length) : failP l lo (kept.take (k + 1)) s = patch (failP l lo (kept.take k) s) (64 * (lo[kept[k].toNat]).sec.toNat) (gotS l lo[kept[k].toNat]) := by
  unfold failP
  rw [List.take_succ_eq_append_getElem h, List.foldl_append, List.foldl_cons, List.foldl_nil, stepP, List.getElem?_eq_getElem h2]; rfl
theorem failP_len {s : Bs} {l : List Wr} {lo : List Lo} (h64 : s.length % 64 = 0) (hx : ∀ x ∈ lo, LoOk l (s.length / 64) x) (kept : List Int) : (failP l lo kept s).length = s.length := by
  have h := fail_ok (kept := kept) (stOf_all s) (l := l) (lo := lo) (by rw [stOf_len]; exact hx)
  rw [stOf_flat h64] at h
  rw [← h.1, flat_len h.2.1, h.2.2, stOf_len]; omega
attribute [local irreducible] failP

theorem c34 (s : Bs) (l : List Wr) (x : Fl) (hE : Ev s l) (h64 : s.length % 64 = 0) (hr : 0 ≤ x.reached ∧ x.reached ≤ l.length) (hkk : ∀ y ∈ x.kept, 0 ≤ y ∧ y < (loose l x.reached.toNat).length) (hk : x.kept.length < 1000000) : Fn 34 [.str s, .fs (l.map Wr.enc), x.enc] (.str (failP l (loose l x.reached.toNat) x.kept (wrote s (l.take (settled l x.reached.toNat))))) := by
  have hlb := loose_bd hE.hb hE.hl (r := x.reached.toNat) (by omega); have hlo := lo_okE hE (r := x.reached.toNat); have hws := wrote_len (s := s) (l := l.take (settled l x.reached.toNat)) (fun y hy => hE.hi y (List.mem_of_mem_take hy)); have hss := hE.hs; have hfl := fun kk => (failP_len (l := l) (s := (wrote s (l.take (settled l x.reached.toNat)))) (by rw [hws]; exact h64) (by rw [hws]; exact hlo) kk).trans hws; have hset := settled_le l x.reached.toNat; have hll := hE.hl
  refine run_walkF eok Tryd.func34 rfl (by kernel_rfl) ?_
  conv => whnf
  repeat' (first
    | ((with_reducible refine on_dec_f ?_ ?_); (focus ((try simp only [List.length_map, List.length_cons, List.length_nil, List.length_append]); omega)); conv => whnf)
    | ((with_reducible refine on_dec_t ?_ ?_); (focus ((try simp only [List.length_map, List.length_cons, List.length_nil, List.length_append]); omega)); conv => whnf)
    | ((with_reducible refine on_dec (fun h => ?_) (fun h => ?_)) <;> (try simp only [List.length_map] at h) <;> conv => whnf)
    | ((with_reducible refine on_ndec (fun h => ?_) (fun h => ?_)) <;> (try simp only [List.length_map] at h) <;> conv => whnf)
    | ((with_reducible refine on_not (fun h => ?_) (fun h => ?_)) <;> conv => whnf)
    | ((with_reducible refine onBool_split (fun h => ?_) (fun h => ?_)) <;> conv => whnf)
    | ((with_reducible refine call_go ?_); (first | refine call_step (run_view (c35q hE x.reached x.reached.toNat (by omega) (by omega)) rfl rfl) ?_ | refine call_step (run_view (c17q hE (settled l x.reached.toNat)) rfl rfl) ?_ | refine call_step (run_viewF (c32q hE x.reached x.reached.toNat (by omega) (by omega)) rfl) ?_ | refine call_step (run_view (c74q hE ((loose l x.reached.toNat)[(x.kept[k]'(by omega)).toNat]'(by have := hka (by omega); omega)) (lo_okE hE _ (List.getElem_mem _))) rfl rfl) ?_ | refine call_step (run_view (c68 _ _ _ (64 * ((loose l x.reached.toNat)[(x.kept[k]'(by omega)).toNat]'(by have := hka (by omega); omega)).sec.toNat) (by have := (hlo _ (List.getElem_mem (l := (loose l x.reached.toNat)) (n := (x.kept[k]'(by omega)).toNat) (by have := hka (by omega); omega))).sec0; omega) (by have h9 := hlo _ (List.getElem_mem (l := (loose l x.reached.toNat)) (n := (x.kept[k]'(by omega)).toNat) (by have := hka (by omega); omega)); have h8 := h9.secn; rw [hfl, h9.got]; omega) (by rw [hfl]; omega)) rfl rfl) ?_); conv => whnf)
    | (refine ⟨[], [(2, 6)], (by decide +kernel), ?_⟩; conv => whnf)
    | ((with_reducible refine loop_go ?_); first | (refine loop1 (fun (k : Nat) => x.kept.length - k) (fun (k : Nat) => k ≤ x.kept.length) (fun (k : Nat) => [(1, .d (.fs (l.map Wr.enc))), (5, .ptr 0 0 0), (7, .d (.str (failP l (loose l x.reached.toNat) (x.kept.take k) (wrote s (l.take (settled l x.reached.toNat)))))), (8, .d (.fs ((loose l x.reached.toNat).map Lo.enc))), (9, .d (i k))]) (fun (k : Nat) => [⟨[.d x.enc], 2, 0⟩]) (0) (by exact Nat.zero_le _) ?_ (fun k C hI hC => ?_); (exact ⟨[.old 0], rfl, rfl, ⟨rfl, ⟨rfl, rfl, rfl⟩, (congrArg D.str (failP_zero _ _ _ _).symm), rfl, rfl, trivial⟩, ⟨⟨rfl, rfl, .inl ⟨[_], rfl, rfl⟩⟩, trivial⟩⟩); have hka := fun (h : k < x.kept.length) => hkk _ (List.getElem_mem h); all_goals (conv => whnf)))
    | ((with_reducible show C _ _); first | (refine hC (k + 1) _ _ ?_ (by omega) ?_; clear hC; rotate_left; (exact ⟨[.old 0], rfl, rfl, ⟨(by first | (show (_ : D) = _; with_reducible rfl) | exact rfl), ⟨rfl, rfl, rfl⟩, (congrArg D.str (failP_snoc (by omega) (by have := hka (by omega); omega)).symm), (by first | (show (_ : D) = _; with_reducible rfl) | exact rfl), (by first | (show (_ : D) = _; with_reducible rfl) | exact congrArg (D.int .i64) (by omega) | exact congrArg (D.int .i64) (by simp only [List.length_map]) | exact rfl), trivial⟩, ⟨⟨rfl, rfl, .inl ⟨[_], rfl, rfl⟩⟩, trivial⟩⟩); (exact (by omega : k + 1 ≤ x.kept.length))))
    | (refine ⟨⟨(by first | rfl | (simp; done)), cap_ok (by simp only [List.length_map, List.length_cons, List.length_nil, List.length_append]; omega) rfl⟩, ?_⟩; conv => whnf)
    | (refine ⟨mem_one ⟨rfl, rfl⟩, ?_⟩; conv => whnf)
    | (refine ⟨(by intro y hy; obtain ⟨x, _, rfl⟩ := List.mem_map.1 hy; first | rfl | exact ⟨rfl, rfl⟩), ?_⟩; conv => whnf)
    | (refine ⟨cap_ok (by first | omega | (simp only [List.length_map]; omega)) rfl, ?_⟩; conv => whnf)
    | (refine ix_map (by omega) ?_; conv => whnf)
    | (refine ix_str (by omega) ?_; conv => whnf)
    | (refine wrap64 (by omega) ?_; conv => whnf)
    | (refine sl_map (f := Wr.enc) (l := l) 0 (settled l x.reached.toNat) rfl rfl (by omega) (fun x => rfl) ?_; conv => whnf)
    | (refine ix_at (x.kept[k]'(by omega)).toNat (by have := hka (by omega); omega) (by have := hka (by omega); omega) ?_; conv => whnf)
    | (refine wrap64 (by have := hlo _ (List.getElem_mem (l := (loose l x.reached.toNat)) (n := (x.kept[k]'(by omega)).toNat) (by have := hka (by omega); omega)); have h1 := this.sec0; have h2 := this.secn; omega) ?_; conv => whnf)
    | (refine wrap64 (by omega) ?_; conv => whnf)
    | (exfalso; simp only [List.length_map, List.length_cons, List.length_nil, List.length_append] at h; omega)
    | ((with_reducible refine endx_go ?_); first | (exact endx (congrArg D.str (by rw [List.take_of_length_le (by omega)])); done))
    | (refine ⟨rfl, ?_⟩; conv => whnf)
    | fail
    )

end Go.Proofs.YtpblmdolgocpaaaDoor

/-! Wg -/
namespace Go.Proofs.YtpblmdolgocpaaaDoor
open Go Dw
set_option maxRecDepth 10000
set_option linter.unusedVariables false
set_option linter.unusedSimpArgs false
attribute [local irreducible] Run
set_option maxHeartbeats 4000000

attribute [local irreducible] sec stK put patch wrote pat wr

theorem mayR_same {l : List Wr} {lo : List Lo} {set after : Bs} {k n : Nat} (h : mayR l lo set after k = some n) (c : sec after k = sec set k) : mayR l lo set after (k + 1) = some n := by
  simp only [mayR, h, if_pos c]
theorem mayR_more {l : List Wr} {lo : List Lo} {set after : Bs} {k n : Nat} (h : mayR l lo set after k = some n) (c : ¬ sec after k = sec set k) (m : mayAt l lo (sec after k) k = true) : mayR l lo set after (k + 1) = some (n + 1) := by
  simp only [mayR, h, if_neg c, if_pos m]
theorem mayR_stop {l : List Wr} {lo : List Lo} {set after : Bs} {k n N : Nat} (h : mayR l lo set after k = some n) (c : ¬ sec after k = sec set k) (m : mayAt l lo (sec after k) k = false) (hN : k + 1 ≤ N) : mayR l lo set after N = none := by
  refine mayR_none (k := k + 1) ?_ hN
  simp only [mayR, h, if_neg c, m]
  rfl
theorem mayAt_zero (l : List Wr) (lo : List Lo) (s : Bs) (j : Nat) : mayAt l (lo.take 0) s j = false := rfl
theorem mayAt_snoc {l : List Wr} {lo : List Lo} {s : Bs} {j k : Nat} (h : k < lo.length) : mayAt l (lo.take (k + 1)) s j = (mayAt l (lo.take k) s j || (decide (lo[k].sec = (j : Int)) && decide (gotS l lo[k] = s))) := by
  simp only [mayAt, List.take_succ_eq_append_getElem h, List.any_append, List.any_cons, List.any_nil, Bool.or_false]
theorem mayAt_all {l : List Wr} {lo : List Lo} {s : Bs} {j k : Nat} (h : lo.length ≤ k) : mayAt l (lo.take k) s j = mayAt l lo s j := by
  rw [List.take_of_length_le h]
def mayN (o : Option Nat) : Int × Bool := match o with
  | some n => ((n : Int), true)
  | none => (0, false)
attribute [local irreducible] loose settled reachErr gotS asc mayAt mayR

theorem c21 (s t : Bs) (l : List Wr) (r : Int) (hE : Ev s l) (hr : 0 ≤ r ∧ r ≤ l.length) (ht : t.length = s.length) : Fn 21 [.str s, .fs (l.map Wr.enc), i r, .str t] (.tup [i (mayN (mayR l (loose l r.toNat) (wrote s (l.take (settled l r.toNat))) t (s.length / 64))).1, .bool (mayN (mayR l (loose l r.toNat) (wrote s (l.take (settled l r.toNat))) t (s.length / 64))).2]) := by
  have hlb := loose_bd hE.hb hE.hl (r := r.toNat) (by omega); have hlo := lo_okE hE (r := r.toNat); have hws := wrote_len (s := s) (l := l.take (settled l r.toNat)) (fun y hy => hE.hi y (List.mem_of_mem_take hy)); have hss := hE.hs; have hset := settled_le l r.toNat; have hll := hE.hl; have hsa : sc s = ((s.length / 64 : Nat) : Int) := rfl
  refine run_walkF eok Tryd.func21 rfl (by kernel_rfl) ?_
  conv => whnf
  repeat' (first
    | ((with_reducible refine on_dec_f ?_ ?_); (focus ((try simp only [List.length_map, List.length_cons, List.length_nil, List.length_append]); omega)); conv => whnf)
    | ((with_reducible refine on_dec_t ?_ ?_); (focus ((try simp only [List.length_map, List.length_cons, List.length_nil, List.length_append]); omega)); conv => whnf)
    | ((with_reducible refine on_dec (fun h => ?_) (fun h => ?_)) <;> (try simp only [List.length_map] at h) <;> conv => whnf)
    | ((with_reducible refine on_ndec (fun h => ?_) (fun h => ?_)) <;> (try simp only [List.length_map] at h) <;> conv => whnf)
    | ((with_reducible refine on_not (fun h => ?_) (fun h => ?_)) <;> conv => whnf)
    | ((with_reducible refine onBool_split (fun h => ?_) (fun h => ?_)) <;> conv => whnf)
    | ((with_reducible refine call_go ?_); (first | refine call_step (run_view (c35q hE r r.toNat (by omega) (by omega)) rfl rfl) ?_ | refine call_step (run_view (c17q hE (settled l r.toNat)) rfl rfl) ?_ | refine call_step (run_viewF (c32q hE r r.toNat (by omega) (by omega)) rfl) ?_ | refine call_step (run_view (c67 _ (by omega)) rfl rfl) ?_ | refine call_step (run_view (c73 t k (by omega) (by omega)) rfl rfl) ?_ | refine call_step (run_view (c73 _ k (by rw [hws]; omega) (by rw [hws]; omega)) rfl rfl) ?_ | refine call_step (run_view (c74q hE ((loose l r.toNat)[j]'(by omega)) (hlo _ (List.getElem_mem _))) rfl rfl) ?_); conv => whnf)
    | ((with_reducible refine loop_go ?_); first | (refine loop2 (fun (k : Nat) (n : Nat) => s.length / 64 - k) (fun (k : Nat) (n : Nat) => k ≤ s.length / 64 ∧ n ≤ k ∧ mayR l (loose l r.toNat) (wrote s (l.take (settled l r.toNat))) t k = some n) (fun (k : Nat) (n : Nat) => [(0, .d (.str s)), (1, .d (.fs (l.map Wr.enc))), (3, .d (.str t)), (10, .d (.str (wrote s (l.take (settled l r.toNat))))), (11, .d (.fs ((loose l r.toNat).map Lo.enc))), (12, .d (i n)), (13, .d (i k))]) (fun (k : Nat) (n : Nat) => []) (0) (0) (by exact ⟨by omega, by omega, by unfold mayR; rfl⟩) ?_ (fun k n C hI hC => ?_); (exact ⟨[], rfl, rfl, ⟨(by first | (show (_ : D) = _; with_reducible rfl) | exact rfl), (by first | (show (_ : D) = _; with_reducible rfl) | exact rfl), (by first | (show (_ : D) = _; with_reducible rfl) | exact rfl), (by first | (show (_ : D) = _; with_reducible rfl) | exact rfl), (by first | (show (_ : D) = _; with_reducible rfl) | exact rfl), (by first | (show (_ : D) = _; with_reducible rfl) | exact congrArg (D.int .i64) (by omega) | exact congrArg (D.int .i64) (by simp only [List.length_map]) | exact rfl), (by first | (show (_ : D) = _; with_reducible rfl) | exact congrArg (D.int .i64) (by omega) | exact congrArg (D.int .i64) (by simp only [List.length_map]) | exact rfl), trivial⟩, trivial⟩); all_goals (conv => whnf)) | (refine loop1 (fun (j : Nat) => (loose l r.toNat).length - j) (fun (j : Nat) => j ≤ (loose l r.toNat).length) (fun (j : Nat) => [(0, .d (.str s)), (1, .d (.fs (l.map Wr.enc))), (3, .d (.str t)), (10, .d (.str (wrote s (l.take (settled l r.toNat))))), (11, .d (.fs ((loose l r.toNat).map Lo.enc))), (12, .d (i (n + 1))), (13, .d (i k)), (14, .d (.bool (mayAt l ((loose l r.toNat).take j) (sec t k) k))), (15, .d (i j))]) (fun (j : Nat) => []) (0) (by exact Nat.zero_le _) ?_ (fun j C2 hI2 hC2 => ?_); (exact ⟨[], rfl, rfl, ⟨rfl, rfl, rfl, rfl, rfl, (by first | (show (_ : D) = _; with_reducible rfl) | exact congrArg (D.int .i64) (by omega)), rfl, (congrArg D.bool (mayAt_zero _ _ _ _).symm), rfl, trivial⟩, trivial⟩); all_goals (conv => whnf)))
    | ((with_reducible show C _ _); first | (refine hC (k + 1) (n) _ _ ?_ (by omega) ?_; clear hC; rotate_left; (exact ⟨[], rfl, rfl, ⟨(by first | (show (_ : D) = _; with_reducible rfl) | exact rfl), (by first | (show (_ : D) = _; with_reducible rfl) | exact rfl), (by first | (show (_ : D) = _; with_reducible rfl) | exact rfl), (by first | (show (_ : D) = _; with_reducible rfl) | exact rfl), (by first | (show (_ : D) = _; with_reducible rfl) | exact rfl), (by first | (show (_ : D) = _; with_reducible rfl) | exact congrArg (D.int .i64) (by omega) | exact congrArg (D.int .i64) (by simp only [List.length_map]) | exact rfl), (by first | (show (_ : D) = _; with_reducible rfl) | exact congrArg (D.int .i64) (by omega) | exact congrArg (D.int .i64) (by simp only [List.length_map]) | exact rfl), trivial⟩, trivial⟩); (exact ⟨by omega, by omega, mayR_same hI.2.2 (by assumption)⟩)) | (refine hC (k + 1) (n + 1) _ _ ?_ (by omega) ?_; clear hC; rotate_left; (exact ⟨[], rfl, rfl, ⟨(by first | (show (_ : D) = _; with_reducible rfl) | exact rfl), (by first | (show (_ : D) = _; with_reducible rfl) | exact rfl), (by first | (show (_ : D) = _; with_reducible rfl) | exact rfl), (by first | (show (_ : D) = _; with_reducible rfl) | exact rfl), (by first | (show (_ : D) = _; with_reducible rfl) | exact rfl), (by first | (show (_ : D) = _; with_reducible rfl) | exact congrArg (D.int .i64) (by omega) | exact congrArg (D.int .i64) (by simp only [List.length_map]) | exact rfl), (by first | (show (_ : D) = _; with_reducible rfl) | exact congrArg (D.int .i64) (by omega) | exact congrArg (D.int .i64) (by simp only [List.length_map]) | exact rfl), trivial⟩, trivial⟩); (exact ⟨by omega, by omega, mayR_more hI.2.2 (by assumption) (by rw [← mayAt_all (k := j) (by omega)]; assumption)⟩)))
    | ((with_reducible show C2 _ _); first | (refine hC2 (j + 1) _ _ ?_ (by omega) ?_; clear hC2; rotate_left; (exact ⟨[], rfl, rfl, ⟨(by first | (show (_ : D) = _; with_reducible rfl) | exact rfl), (by first | (show (_ : D) = _; with_reducible rfl) | exact rfl), (by first | (show (_ : D) = _; with_reducible rfl) | exact rfl), (by first | (show (_ : D) = _; with_reducible rfl) | exact rfl), (by first | (show (_ : D) = _; with_reducible rfl) | exact rfl), (by first | (show (_ : D) = _; with_reducible rfl) | exact congrArg (D.int .i64) (by omega) | exact congrArg (D.int .i64) (by simp only [List.length_map]) | exact rfl), (by first | (show (_ : D) = _; with_reducible rfl) | exact congrArg (D.int .i64) (by omega) | exact congrArg (D.int .i64) (by simp only [List.length_map]) | exact rfl), (congrArg D.bool (by rw [mayAt_snoc (by omega)]; simp_all)), (by first | (show (_ : D) = _; with_reducible rfl) | exact congrArg (D.int .i64) (by omega) | exact congrArg (D.int .i64) (by simp only [List.length_map]) | exact rfl), trivial⟩, trivial⟩); (exact (by omega : j + 1 ≤ (loose l r.toNat).length))))
    | (refine ⟨⟨(by first | rfl | (simp; done)), cap_ok (by simp only [List.length_map, List.length_cons, List.length_nil, List.length_append]; omega) rfl⟩, ?_⟩; conv => whnf)
    | (refine ⟨mem_one ⟨rfl, rfl⟩, ?_⟩; conv => whnf)
    | (refine ⟨(by intro y hy; obtain ⟨x, _, rfl⟩ := List.mem_map.1 hy; first | rfl | exact ⟨rfl, rfl⟩), ?_⟩; conv => whnf)
    | (refine ⟨cap_ok (by first | omega | (simp only [List.length_map]; omega)) rfl, ?_⟩; conv => whnf)
    | (refine ix_map (by omega) ?_; conv => whnf)
    | (refine ix_str (by omega) ?_; conv => whnf)
    | (refine wrap64 (by omega) ?_; conv => whnf)
    | (refine sl_map (f := Wr.enc) (l := l) 0 (settled l r.toNat) rfl rfl (by omega) (fun x => rfl) ?_; conv => whnf)
    | (refine wrap64 (by omega) ?_; conv => whnf)
    | (exfalso; simp only [List.length_map, List.length_cons, List.length_nil, List.length_append] at h; omega)
    | ((with_reducible refine endx_go ?_); first | (have he : mayR l (loose l r.toNat) (wrote s (l.take (settled l r.toNat))) t (s.length / 64) = some n := (by rw [show s.length / 64 = k by omega]; exact hI.2.2); refine endx2 ?_; rw [he]; rfl; done) | (have he : mayR l (loose l r.toNat) (wrote s (l.take (settled l r.toNat))) t (s.length / 64) = none := mayR_stop hI.2.2 (by assumption) (by rw [← mayAt_all (k := j) (by omega)]; assumption) (by omega); refine endx2 ?_; rw [he]; rfl; done))
    | (refine ⟨rfl, ?_⟩; conv => whnf)
    | fail
    )

end Go.Proofs.YtpblmdolgocpaaaDoor

/-! Ph -/
namespace Go.Proofs.YtpblmdolgocpaaaDoor
open Go Dw
abbrev u8D (b : UInt8) : D := .int .u8 b.toNat
theorem le2_map (n : Nat) : (le2 n).map byteV = [.d (.int .u8 (n % 256 : Nat)), .d (.int .u8 (n / 256 % 256 : Nat))] := by
  simp only [le2, List.map_cons, List.map_nil, byteV_ofNat (Nat.mod_lt _ (by decide : 0 < 256))]
theorem zs_map (n : Nat) : (zs n).map byteV = List.replicate n (.d (.int .u8 0)) := by
  unfold zs; rw [List.map_replicate]; rfl
theorem num2_or {a b : UInt8} : a.toNat ||| ((b.toNat : Int) * 256).toNat = num2 [a, b] := by
  have ha := a.toNat_lt
  have e : ((b.toNat : Int) * 256).toNat = 2 ^ 8 * b.toNat := by omega
  rw [e, Nat.or_comm, ← Nat.two_pow_add_eq_or_of_lt (by omega : a.toNat < 2 ^ 8)]
  simp only [num2]; omega
theorem two_of {s : Bs} (h : s.length = 2) : ∃ a b, s = [a, b] := by
  match s, h with
  | [a, b], _ => exact ⟨a, b, rfl⟩
theorem at2_two {s : Bs} {a : Nat} (h : a + 2 ≤ s.length) : at2 s a = [s[a], s[a + 1]] := by
  unfold at2
  rw [List.drop_eq_getElem_cons (by omega), List.drop_eq_getElem_cons (by omega)]; rfl
theorem num2_at {s : Bs} {a : Nat} (h : a + 2 ≤ s.length) : (num2 (at2 s a) : Int) = ((s[a + 1]).toNat : Int) * 256 + (s[a]).toNat := by
  rw [at2_two h]; simp only [num2]; omega
theorem at2_map {s : Bs} {a : Nat} : ((s.take (a + 2)).drop a).map u8D = (at2 s a).map u8D := by
  rw [List.drop_take, show a + 2 - a = 2 by omega]; rfl
theorem patch_over {s t : Bs} {a : Nat} (h : a + t.length ≤ s.length) : over (s.map byteV) a ((t.map byteV).take (s.length - a)) = (patch s a t).map byteV := by
  rw [List.take_of_length_le (by rw [List.length_map]; omega)]
  simp only [over, patch, List.map_append, List.map_take, List.map_drop, List.length_map]
theorem tmod_emod (n : Int) {m : Int} (h : 0 < m) : (0 ≤ n.tmod m ∧ n.tmod m = n % m) ∨ (n.tmod m < 0 ∧ n.tmod m + m = n % m) := by
  have h1 := Int.emod_nonneg n (b := m) (by omega)
  have h2 := Int.emod_lt_of_pos n h
  by_cases c : 0 ≤ n
  · left
    rw [Int.tmod_eq_emod_of_nonneg c]; exact ⟨h1, rfl⟩
  · have e : n.tmod m = -((-n) % m) := by
      rw [← Int.tmod_eq_emod_of_nonneg (by omega : 0 ≤ -n), Int.neg_tmod]; omega
    have h3 := Int.emod_nonneg (-n) (b := m) (by omega)
    have h4 := Int.emod_lt_of_pos (-n) h
    have h5 : ((-n) % m + n % m) % m = 0 := by have := Int.add_emod (-n) n m; rw [Int.add_left_neg, Int.zero_emod] at this; exact this.symm
    have d : m ∣ (-n) % m + n % m := Int.dvd_of_emod_eq_zero h5
    obtain ⟨q, hq⟩ := d
    have hq2 : q < 2 := by
      refine Int.lt_of_not_ge fun hge => ?_
      have := Int.mul_le_mul_of_nonneg_left hge (by omega : 0 ≤ m)
      omega
    have hq0 : 0 ≤ q := by
      refine Int.le_of_not_gt fun hl => ?_
      have := Int.mul_le_mul_of_nonneg_left (by omega : q ≤ -1) (by omega : 0 ≤ m)
      omega
    have : q = 0 ∨ q = 1 := by omega
    rcases this with rfl | rfl
    · left; omega
    · by_cases z : (-n) % m = 0
      · rw [z] at hq; omega
      · right; omega
theorem rem_any {a b : Int} {K : Int → Prop} (h : 0 < b) (hk : K (a.tmod b)) : remK a b K := by
  rw [remK_eq]
  exact onOk_of (by simp; omega) hk
/-- Zero bytes. -/
def isz (s : Bs) : Bool := s.all fun b => decide (b = 0)
theorem isz_snoc {s : Bs} {k : Nat} (h : k < s.length) : isz (s.take (k + 1)) = (isz (s.take k) && decide (s[k] = 0)) := by
  simp only [isz, List.take_succ_eq_append_getElem h, List.all_append, List.all_cons, List.all_nil, Bool.and_true]
def trL (s : Bs) : Bs := s.dropWhile fun b => decide (b = 0)
def trRn (s : Bs) : Nat → Nat
  | 0 => 0
  | n + 1 => if s[n]? = some 0 then trRn s n else n + 1
def trR (s : Bs) : Bs := s.take (trRn s s.length)
theorem trL_nil {s : Bs} : trL s = [] ↔ isz s = true := by
  unfold trL isz
  induction s with
  | nil => simp
  | cons x s ih =>
    by_cases h : x = 0
    · subst h
      rw [List.dropWhile_cons_of_pos (by simp), ih]; simp
    · rw [List.dropWhile_cons_of_neg (by simpa using h)]; simp [h]
theorem trRn_le (s : Bs) : ∀ n, trRn s n ≤ n
  | 0 => Nat.le_refl _
  | n + 1 => by simp only [trRn]; split <;> have := trRn_le s n <;> omega
theorem trRn_z (s : Bs) : ∀ n, ∀ j, trRn s n ≤ j → j < n → s[j]? = some 0
  | 0, j, _, h => by omega
  | n + 1, j, h1, h2 => by
    simp only [trRn] at h1
    split at h1
    · rename_i h0
      by_cases c : j = n
      · subst c; exact h0
      · exact trRn_z s n j h1 (by omega)
    · omega
theorem isz_iff {s : Bs} : isz s = true ↔ ∀ j, j < s.length → s[j]? = some 0 := by
  simp only [isz, List.all_eq_true, decide_eq_true_eq]
  constructor
  · intro h j hj
    rw [List.getElem?_eq_getElem hj, h _ (List.getElem_mem hj)]
  · intro h x hx
    obtain ⟨j, hj, rfl⟩ := List.getElem_of_mem hx
    have := h j hj
    rw [List.getElem?_eq_getElem hj] at this
    exact Option.some.inj this
theorem trim_nil {s : Bs} : trL (trR s) = [] ↔ isz s = true := by
  rw [trL_nil, isz_iff, isz_iff]
  constructor
  · intro h j hj
    by_cases c : j < trRn s s.length
    · have := h j (by rw [trR, List.length_take]; omega)
      rwa [trR, List.getElem?_take, if_pos c] at this
    · exact trRn_z s s.length j (by omega) hj
  · intro h j hj
    rw [trR, List.length_take] at hj
    rw [trR, List.getElem?_take, if_pos (by omega)]
    exact h j (by omega)
theorem trRn_at {s : Bs} {n : Nat} (h : n < s.length) : trRn s (n + 1) = if s[n] = 0 then trRn s n else n + 1 := by
  simp only [trRn, List.getElem?_eq_getElem h, Option.some.injEq]
theorem trRn_stop {s : Bs} {n : Nat} (hn : n ≤ s.length) (c : n = 0 ∨ ∃ h : n - 1 < s.length, ¬ s[n - 1] = 0) : trRn s n = n := by
  cases n with
  | zero => rfl
  | succ n =>
    rcases c with c | ⟨h, c⟩
    · omega
    · simp only [Nat.add_sub_cancel] at c
      rw [trRn_at (by omega), if_neg c]
/-- The first k numbers of torn sectors. -/
def tornK (s : Bs) (k : Nat) : List Nat := (List.range k).filter fun i => decide (num2 (at2 s 40) = 0) || decide (at2 s (tl i) ≠ at2 s 40)
theorem tornK_8 (s : Bs) : tornK s 8 = torn s := rfl
theorem tornK_succ (s : Bs) (k : Nat) : tornK s (k + 1) = if num2 (at2 s 40) = 0 ∨ at2 s (tl k) ≠ at2 s 40 then tornK s k ++ [k] else tornK s k := by
  simp only [tornK, List.range_succ, List.filter_append]
  by_cases h1 : num2 (at2 s 40) = 0 <;> by_cases h2 : at2 s (tl k) = at2 s 40 <;> simp [h1, h2]
theorem tornK_le (s : Bs) (k : Nat) : (tornK s k).length ≤ k := by
  have := List.length_filter_le (fun i => decide (num2 (at2 s 40) = 0) || decide (at2 s (tl i) ≠ at2 s 40)) (List.range k)
  simpa [tornK] using this
def protErr (s : Bs) (n : Int) : Int := if blockErr s ≠ 0 then blockErr s else if isz ((s.drop 40).take 18) = false then 3 else if within n 1 65535 then 0 else 2
theorem protErr_ok {s : Bs} {n : Int} (h : protErr s n = 0) : s.length = 512 ∧ isz ((s.drop 40).take 18) = true ∧ 1 ≤ n ∧ n ≤ 65535 := by
  unfold protErr at h
  split at h
  · omega
  · rename_i h1
    split at h
    · omega
    · rename_i h2
      split at h
      · rename_i h3
        simp only [within, Bool.and_eq_true, decide_eq_true_eq] at h3
        refine ⟨?_, by simpa using h2, h3.1, h3.2⟩
        unfold blockErr at h1
        split at h1
        · assumption
        · omega
      · omega
/-- A block that is protected, whole: as in the statements. -/
theorem isz_at {s : Bs} (hs : s.length = 512) (h : isz ((s.drop 40).take 18) = true) : ∀ j, 40 ≤ j → j < 58 → s[j]? = some 0 := by
  intro j h1 h2
  rw [isz_iff] at h
  have := h (j - 40) (by rw [List.length_take, List.length_drop]; omega)
  rw [List.getElem?_take, if_pos (by omega), List.getElem?_drop, show 40 + (j - 40) = j by omega] at this
  exact this
end Go.Proofs.YtpblmdolgocpaaaDoor
namespace Dw
open Go
/-- A function that changes a row of bytes, its first argument, in place. -/
theorem run_mutB {P : Program} {f : Nat} {xs : List D} {l l' : List UInt8} (hf : Run P f (.sl 0 0 l.length 1 none :: xs.map .d) [⟨l.map byteV, 1, 0⟩] (.tup []) [⟨l'.map byteV, 1, 0⟩]) {H : Heap} {id : Nat} (h : H[id]? = some ⟨l.map byteV, 1, 0⟩) {args : List AV} (hv : vl (view 8 H) args = some xs)
    (hd : ∀ j ∈ args.flatMap (reach 8 H), j ≠ id) {len : Nat} (hlen : len = l.length) : Run P f (.sl id 0 len 1 none :: args) H (.tup []) (H.set id ⟨l'.map byteV, 1, 0⟩) := by
  subst hlen
  refine run_at (σ := [id]) (F := args.flatMap (reach 8 H)) (fl := true) hf (by simp) (fun j hj => by simpa using hd j hj) ⟨⟨rfl, rfl, rfl, rfl, rfl⟩, embs_views1 H args xs _ (fun _ h => h) hv⟩ ⟨(nthK_iff _ _).2 ⟨_, h, rfl, rfl, .inl ⟨_, byteV_map l, byteV_map l⟩⟩, trivial⟩ (fun _ => ⟨rfl, fun o ho => ?_⟩) rfl ?_
  · simp only [List.mem_cons, List.not_mem_nil, or_false] at ho
    subst ho
    exact ⟨flats_byteV _, Nat.zero_ne_one⟩
  · show setAll H [id] _ ++ _ = _
    simp only [setAll, List.map_cons, List.map_nil, List.length_cons, List.length_nil, List.drop_succ_cons, List.drop_zero, renO, rens_byteV, List.append_nil]
end Dw
