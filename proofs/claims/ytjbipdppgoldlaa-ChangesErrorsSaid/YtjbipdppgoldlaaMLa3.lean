/-
  Part 3 of the proof: own lemmas, no conditions: DwZb, DwZc, DwZd, DwZg, Te, Eok, Da, Wa, Wb, Wc, Wd, We, Wf, Wg, Wh, Wi, Wj, DwZh, Wk, Wl, Wm, Wn, Wo.
-/
import Derived.Test.YtjbipdppgoldlaaMLa2
import Derived.Test.YtjbipdppgoldlaaChecked
import Derived.KernelRfl
import Derived.Test.YtjbipdppgoldlaaProg

/-! DwZb -/
namespace Dw
open Go Go.RowKit

theorem freeze_get : ∀ (F : List Nat) (H : Heap) (id : Nat), (freeze H F)[id]? = (H[id]?).map (fun o => if id ∈ F then o.freeze else o)
  | [], H, id => by simp [freeze]
  | i :: F, H, id => by
    rw [freeze, freeze_get F]
    cases hi : H[i]? with
    | none =>
      simp only
      by_cases hid : id = i
      · subst hid; simp [hi]
      · simp [hid]
    | some o =>
      simp only
      by_cases hid : id = i
      · subst hid
        rw [List.getElem?_set_self (List.getElem?_eq_some_iff.1 hi).1, hi]
        simp only [Option.map_some, List.mem_cons, true_or, if_true]
        split
        · congr 1
          simp only [AO.freeze]
          split <;> simp_all
        · rfl
      · rw [List.getElem?_set_ne (Ne.symm hid)]
        simp [hid]

theorem freeze_length (F : List Nat) (H : Heap) : (freeze H F).length = H.length := by
  have h : ∀ id, ((freeze H F)[id]?).isSome = (H[id]?).isSome := fun id => by rw [freeze_get]; cases H[id]? <;> rfl
  rcases Nat.lt_trichotomy (freeze H F).length H.length with hl | hl | hl
  · have := h (freeze H F).length
    simp [hl] at this
  · exact hl
  · have := h H.length
    simp [hl] at this

theorem Good.imp {P : Program} {A C : Value → World → Prop} {r : Result Next} (h : Good P A r) (hm : ∀ v w, A v w → C v w) : Good P C r := Good.mono hm h

theorem run_emb {P : Program} {f : Nat} {args args' : List AV} {h H h1 : Heap} {r : AV} {σ F : List Nat} {fl : Bool} (hf : Run P f args h r h1) (hσ : σ.Nodup) (hσF : ∀ id ∈ F, id ∉ σ) (ha : embs σ F H args args') (hh : embH σ F H σ h)
    (hfl : fl = true → r.flat = true ∧ ∀ o ∈ h1, AV.flats o.elems = true ∧ o.st ≠ 1) :
    Run P f args' H (ren (tau σ H.length) r) (outH σ (tau σ H.length) (if fl then H else freeze H F) h1) := by
  intro B W w st vs hw hv
  obtain ⟨el, eg⟩ := embH_get hh
  have hin : ∀ (i j : Nat), σ[i]? = some j → ∃ o o', h[i]? = some o ∧ H[j]? = some o' ∧ embO σ F H o o' := by
    intro i j hij
    have hi : i < h.length := by rw [← el]; exact (List.getElem?_eq_some_iff.1 hij).1
    obtain ⟨j', o', g1, g2, g3⟩ := eg i _ (List.getElem?_eq_getElem hi)
    rw [hij] at g1; cases g1
    exact ⟨_, o', List.getElem?_eq_getElem hi, g2, g3⟩
  have hjl : ∀ (i j : Nat), σ[i]? = some j → j < H.length := fun i j hij => by
    obtain ⟨o, o', _, g, _⟩ := hin i j hij
    exact (List.getElem?_eq_some_iff.1 g).1
  have hσinj : ∀ (i i' j : Nat), σ[i]? = some j → σ[i']? = some j → i = i' := by
    intro i i' j h1 h2
    obtain ⟨a1, a2⟩ := List.getElem?_eq_some_iff.1 h1
    obtain ⟨b1, b2⟩ := List.getElem?_eq_some_iff.1 h2
    have hp := List.pairwise_iff_getElem.1 hσ
    rcases Nat.lt_trichotomy i i' with hl | hl | hl
    · exact absurd (a2.trans b2.symm) (hp i i' a1 b1 hl)
    · exact hl
    · exact absurd (b2.trans a2.symm) (hp i' i b1 a1 hl)
  have hmemσ : ∀ (i j : Nat), σ[i]? = some j → j ∈ σ := fun i j hij => List.mem_of_getElem? hij
  let Sd : Nat → Prop := fun b => st.S b ∨ ∃ id, id ∈ F ∧ ∃ r, st.ρ id = some r ∧ r.m ≠ 0 ∧ r.b = b
  let Ud : Nat → Prop := fun b => st.U b ∨ (b < w.heap.size ∧ ∀ (i j : Nat) (r : Blk), σ[i]? = some j → st.ρ j = some r → r.m ≠ 0 → r.b ≠ b)
  have hS : ∀ b, st.S b → Sd b := fun b hb => .inl hb
  have hF : ∀ id ∈ F, ∀ r, st.ρ id = some r → r.m ≠ 0 → Sd r.b := fun id hid r hr hm => .inr ⟨id, hid, r, hr, hm, rfl⟩
  have hn : h.length = σ.length := el.symm
  let stc : St := Stc st h.length σ Sd Ud
  have hρ : ∀ (i j : Nat), σ[i]? = some j → stc.ρ i = st.ρ j := fun i j hij => by simp [stc, Stc, hij]
  have hρn : ∀ (i : Nat) (r : Blk), stc.ρ i = some r → ∃ j, σ[i]? = some j ∧ st.ρ j = some r := by
    intro i r hr
    cases hij : σ[i]? with
    | none => simp [stc, Stc, hij] at hr
    | some j => exact ⟨j, rfl, by rw [← hρ i j hij]; exact hr⟩
  have hwc : WR B W w stc h := by
    refine ⟨hw.below, hw.base, rfl, fun i o ho hst hg => ?_, fun i r hr => ?_, fun i i' r s hi hi' hr hs hb => ?_, fun b hb => ?_, fun i r o hr ho hst hm => ?_, fun i r o hr ho hst hm => ?_, fun i hg => ?_, fun i r hr hm => ?_, fun b hb => .inl hb, fun b hb => ?_⟩
    · obtain ⟨j, o', g1, g2, g3, g4, g5⟩ := eg i o ho
      obtain ⟨r, r1, r2⟩ := hw.obj j o' g2 (by omega) (fun hgj => hg ⟨j, g1, hgj⟩)
      refine ⟨r, by rw [hρ i j g1]; exact r1, ?_⟩
      have hlen : o.elems.length = o'.elems.length := by
        rcases g5 with ⟨l, e1, e2⟩ | e
        · rw [e1, e2]
        · exact embs_length e
      refine ⟨by rw [r2.n, hlen], r2.m, by rw [r2.k, g3], r2.k0, fun hm => ?_⟩
      obtain ⟨b1, cs, e, fr, b2, b3, b4, b5⟩ := r2.mem hm
      refine ⟨b1, cs, e, fr, b2, b3, b4, fun n x hx => ?_⟩
      rcases g5 with ⟨l, e1, e2⟩ | ew
      · rw [e1] at hx
        obtain ⟨us, u1, u2, u3⟩ := b5 n x (by rw [e2]; exact hx)
        rw [List.getElem?_map] at hx
        obtain ⟨d, _, rfl⟩ := Option.map_eq_some_iff.1 hx
        refine ⟨us, u1, ?_, u3⟩
        simp only [aC] at u2 ⊢
        exact cC_mono (fun b hb => ⟨hS b hb, rfl⟩) d us u2
      · obtain ⟨x', hx', hemb⟩ := embs_get n x ew hx
        obtain ⟨us, u1, u2, u3⟩ := b5 n x' hx'
        exact ⟨us, u1, emb_aC hw hn hS hF x x' us hemb u2, u3⟩
    · obtain ⟨j, hj, hr'⟩ := hρn i r hr
      obtain ⟨o, o', g1, g2, g3, g4, _⟩ := hin i j hj
      obtain ⟨o'', d1, d2, d3⟩ := hw.dom j r hr'
      rw [g2] at d1; cases d1
      exact ⟨o, g1, by omega, fun ⟨j', e1, e2⟩ => d3 (by rw [hj] at e1; cases e1; exact e2)⟩
    · obtain ⟨j, hj, hr'⟩ := hρn i r hi
      obtain ⟨j', hj', hs'⟩ := hρn i' s hi'
      have := hw.inj j j' r s hr' hs' hr hs hb
      subst this
      exact hσinj i i' j hj hj'
    · rcases hb with hb | ⟨id, hid, r, hr, hm, rfl⟩
      · exact hw.stab b hb
      · exact hw.blk_lt hr hm
    · obtain ⟨j, hj, hr'⟩ := hρn i r hr
      obtain ⟨o1, o', g1, g2, g3, g4, _⟩ := hin i j hj
      rw [ho] at g1; cases g1
      rintro (hb | ⟨id, hid, s, hs, hsm, hbb⟩)
      · exact hw.live j r o' hr' g2 (by omega) hm hb
      · have := hw.inj id j s r hs hr' hsm hm hbb
        subst this
        exact hσF id hid (hmemσ i id hj)
    · obtain ⟨j, hj, hr'⟩ := hρn i r hr
      obtain ⟨o1, o', g1, g2, g3, g4, _⟩ := hin i j hj
      rw [ho] at g1; cases g1
      exact .inl (hw.frz j r o' hr' g2 (by omega) hm)
    · obtain ⟨j, hj, _⟩ := hg
      show i < h.length
      rw [hn]; exact (List.getElem?_eq_some_iff.1 hj).1
    · obtain ⟨j, hj, hr'⟩ := hρn i r hr
      rintro (hb | ⟨_, hb⟩)
      · exact hw.x.own j r hr' hm hb
      · exact hb i j r hj hr' hm rfl
    · rcases hb with hb | ⟨hb, _⟩
      · exact hw.x.ub b hb
      · exact hb
  refine (hf B W w stc vs hwc (embs_aVs hw hn hS hF args args' vs ha hv)).imp fun v w2 hpost => ?_
  obtain ⟨s2, w2r, vr, e2, g2⟩ := hpost
  -- the caller's state behind the call
  have hn2 : σ.length ≤ s2.n := by have := e2.n; show _ ≤ _; rw [← hn]; exact this
  have hl2 := w2r.len
  have hU2 := e2.U.1
  have hS02 := e2.U.2.1
  let H0 : Heap := if fl then H else freeze H F
  have hH0l : H0.length = H.length := by
    simp only [H0]
    split
    · rfl
    · exact freeze_length F H
  have hH0 : ∀ id o, H0[id]? = some o → ∃ o', H[id]? = some o' ∧ o.elems = o'.elems ∧ o.k = o'.k ∧ (o.st = o'.st ∨ (o'.st = 0 ∧ o.st = 1 ∧ id ∈ F ∧ fl = false)) ∧ (fl = false → id ∈ F → o.st ≠ 0) := by
    intro id o ho
    simp only [H0] at ho
    cases hfl' : fl with
    | true => rw [hfl'] at ho; exact ⟨o, ho, rfl, rfl, .inl rfl, fun h => Bool.noConfusion h⟩
    | false =>
      rw [hfl'] at ho
      simp only [Bool.false_eq_true, if_false] at ho
      rw [freeze_get] at ho
      obtain ⟨o', h1, h2⟩ := Option.map_eq_some_iff.1 ho
      refine ⟨o', h1, ?_⟩
      by_cases hid : id ∈ F
      · rw [if_pos hid] at h2
        subst h2
        by_cases h0 : o'.st = 0
        · simp [AO.freeze, h0, hid]
        · simp [AO.freeze, h0]
      · rw [if_neg hid] at h2
        subst h2
        exact ⟨rfl, rfl, .inl rfl, fun _ h => absurd h hid⟩
  let τ := tau σ H.length
  have hτin : ∀ (i j : Nat), σ[i]? = some j → τ i = j := fun i j hij => by simp [τ, tau, hij]
  have hτout : ∀ (i : Nat), σ.length ≤ i → τ i = H.length + (i - σ.length) := fun i hi => by simp [τ, tau, List.getElem?_eq_none hi]
  let ρF : Nat → Option Blk := fun id => if id < H.length then (if id ∈ σ then (σ.idxOf? id).bind s2.ρ else st.ρ id) else s2.ρ (id - H.length + σ.length)
  let SF : Nat → Prop := fun b => st.S b ∨ (fl = false ∧ s2.S b)
  let sF : St := ⟨H.length + (s2.n - σ.length), ρF, SF, st.G, st.U, st.S0⟩
  have hidx : ∀ (i j : Nat), σ[i]? = some j → σ.idxOf? j = some i := by
    intro i j hij
    cases hx : σ.idxOf? j with
    | none =>
      rw [List.idxOf?_eq_none_iff] at hx
      exact absurd (hmemσ i j hij) hx
    | some k =>
      rw [List.idxOf?_eq_some_iff] at hx
      obtain ⟨l1, l2, l3⟩ := hx
      congr 1
      exact hσinj k i j (by rw [List.getElem?_eq_getElem l1]; simpa using l2) hij
  have hFin : ∀ (i j : Nat), σ[i]? = some j → sF.ρ j = s2.ρ i := fun i j hij => by simp only [sF, ρF]; rw [if_pos (hjl i j hij), if_pos (hmemσ i j hij), hidx i j hij]; rfl
  have hFun : ∀ id, id < H.length → id ∉ σ → sF.ρ id = st.ρ id := fun id h1 h2 => by simp only [sF, ρF]; rw [if_pos h1, if_neg h2]
  have hFnew : ∀ i, σ.length ≤ i → sF.ρ (τ i) = s2.ρ i := fun i hi => by
    rw [hτout i hi]
    simp only [sF, ρF]
    rw [if_neg (by omega)]
    congr 1; omega
  have hFτ : ∀ i, i < s2.n → sF.ρ (τ i) = s2.ρ i := fun i hi => by
    rcases Nat.lt_or_ge i σ.length with h1 | h1
    · have := List.getElem?_eq_getElem h1
      rw [hτin i _ this, hFin i _ this]
    · exact hFnew i h1
  -- where an object of the final heap comes from
  have hsplit : ∀ id r, sF.ρ id = some r → (id < H.length ∧ id ∉ σ ∧ st.ρ id = some r) ∨ ∃ i, id = τ i ∧ s2.ρ i = some r := by
    intro id r hr
    by_cases hid : id < H.length
    · by_cases hm : id ∈ σ
      · obtain ⟨i, hi⟩ := List.mem_iff_getElem?.1 hm
        rw [hFin i id hi] at hr
        exact .inr ⟨i, (hτin i id hi).symm, hr⟩
      · rw [hFun id hid hm] at hr
        exact .inl ⟨hid, hm, hr⟩
    · refine .inr ⟨id - H.length + σ.length, ?_, by simpa [sF, ρF, hid] using hr⟩
      rw [hτout _ (by omega)]; omega
  have hτinj : ∀ i i', τ i = τ i' → i = i' := by
    intro i i' he
    rcases Nat.lt_or_ge i σ.length with a | a <;> rcases Nat.lt_or_ge i' σ.length with b | b
    · have h1 := List.getElem?_eq_getElem a
      have h2 := List.getElem?_eq_getElem b
      rw [hτin i _ h1, hτin i' _ h2] at he
      exact hσinj i i' _ h1 (by rw [he]; exact h2)
    · have h1 := List.getElem?_eq_getElem a
      rw [hτin i _ h1, hτout i' b] at he
      have := hjl i _ h1
      omega
    · have h2 := List.getElem?_eq_getElem b
      rw [hτout i a, hτin i' _ h2] at he
      have := hjl i' _ h2
      omega
    · rw [hτout i a, hτout i' b] at he
      omega
  have hτσ : ∀ i id, id < H.length → id ∉ σ → τ i ≠ id := by
    intro i id h1 h2 he
    rcases Nat.lt_or_ge i σ.length with a | a
    · have h3 := List.getElem?_eq_getElem a
      rw [hτin i _ h3] at he
      exact h2 (he ▸ hmemσ i _ h3)
    · rw [hτout i a] at he
      omega
  let HF : Heap := outH σ τ H0 h1
  have hsl : (setAll H0 σ (h1.map (renO τ))).length = H.length := by rw [length_setAll, hH0l]
  have hget1 : ∀ id, id < H.length → id ∉ σ → HF[id]? = H0[id]? := fun id h3 h4 => by
    simp only [HF, outH]
    rw [List.getElem?_append_left (by rw [hsl]; exact h3), get_setAll_out _ _ _ _ h4]
  have hget2 : ∀ i o, h1[i]? = some o → HF[τ i]? = some (renO τ o) := by
    intro i o ho
    simp only [HF, outH]
    rcases Nat.lt_or_ge i σ.length with a | a
    · have h3 := List.getElem?_eq_getElem a
      rw [hτin i _ h3]
      rw [List.getElem?_append_left (by rw [hsl]; exact hjl i _ h3)]
      exact get_setAll_in _ _ _ i _ _ hσ h3 (by simp [ho]) (by rw [hH0l]; exact hjl i _ h3)
    · rw [hτout i a, List.getElem?_append_right (by rw [hsl]; omega), hsl]
      rw [List.getElem?_map, List.getElem?_drop]
      rw [show σ.length + (H.length + (i - σ.length) - H.length) = i by omega, ho]
      rfl
  have hlenF : HF.length = H.length + (s2.n - σ.length) := by
    simp only [HF, outH, List.length_append, hsl, List.length_map, List.length_drop]
    rw [hl2]
  have hget3 : ∀ id o, HF[id]? = some o → (id < H.length ∧ id ∉ σ ∧ H0[id]? = some o) ∨ ∃ i o', id = τ i ∧ h1[i]? = some o' ∧ o = renO τ o' := by
    intro id o ho
    by_cases hid : id < H.length
    · by_cases hm : id ∈ σ
      · obtain ⟨i, hi⟩ := List.mem_iff_getElem?.1 hm
        have hil : i < h1.length := by
          have := (List.getElem?_eq_some_iff.1 hi).1
          have := hl2
          omega
        have := hget2 i _ (List.getElem?_eq_getElem hil)
        rw [hτin i id hi, ho] at this
        exact .inr ⟨i, _, (hτin i id hi).symm, List.getElem?_eq_getElem hil, Option.some.inj this⟩
      · rw [hget1 id hid hm] at ho
        exact .inl ⟨hid, hm, ho⟩
    · have hidl : id < HF.length := (List.getElem?_eq_some_iff.1 ho).1
      rw [hlenF] at hidl
      have hil : id - H.length + σ.length < h1.length := by have := hl2; omega
      have := hget2 _ _ (List.getElem?_eq_getElem hil)
      have hτe : τ (id - H.length + σ.length) = id := by rw [hτout _ (by omega)]; omega
      rw [hτe, ho] at this
      exact .inr ⟨_, _, hτe.symm, List.getElem?_eq_getElem hil, Option.some.inj this⟩
  have hG2 : ∀ i, s2.G i ↔ ∃ j, σ[i]? = some j ∧ st.G j := fun i => by rw [g2]; exact Iff.rfl
  have hGτ : ∀ i, ¬ s2.G i → ¬ st.G (τ i) := by
    intro i hi hg
    rcases Nat.lt_or_ge i σ.length with a | a
    · have h3 := List.getElem?_eq_getElem a
      rw [hτin i _ h3] at hg
      exact hi ((hG2 i).2 ⟨_, h3, hg⟩)
    · have := hw.gho _ hg
      rw [hw.len, hτout i a] at this
      omega
  have hGτ' : ∀ i, st.G (τ i) → s2.G i := fun i hg => Classical.byContradiction fun h => hGτ i h hg
  have hGn : ∀ i, s2.G i → st.G (τ i) := by
    intro i hi
    obtain ⟨j, h3, h4⟩ := (hG2 i).1 hi
    rw [hτin i j h3]; exact h4
  -- what lies outside is as it was
  have hout : ∀ id r, st.ρ id = some r → id ∉ σ → r.m ≠ 0 → Ud r.b := by
    intro id r hr hid hm
    refine .inr ⟨hw.blk_lt hr hm, fun i j s hj hs hsm hb => ?_⟩
    have := hw.inj j id s r hs hr hsm hm hb
    subst this
    exact hid (hmemσ i j hj)
  have hUsame : ∀ b, Ud b → w2.heap[b]? = w.heap[b]? := fun b hb => e2.U.2.2 b hb
  have hS2 : ∀ b, s2.S b → Sd b ∨ ¬ Ud b := by
    intro b hb
    rcases w2r.x.low b hb with h3 | h3
    · left
      rw [hS02] at h3; exact h3
    · right
      rw [hU2] at h3; exact h3
  have hown2 : ∀ i r, s2.ρ i = some r → r.m ≠ 0 → ¬ Ud r.b := by
    intro i r hr hm
    have := w2r.x.own i r hr hm
    rw [hU2] at this; exact this
  have hSS : ∀ b, st.S b → s2.S b := fun b hb => (e2.S b (hS b hb)).1
  have hExt : Ext w st w2 sF := by
    refine ⟨?_, fun id hid hg r hr => ?_, fun b hb => ⟨.inl hb, (e2.S b (hS b hb)).2⟩, fun id _ hg => hg, rfl, rfl, fun b hb => hUsame b (.inl hb)⟩
    · show st.n ≤ H.length + _
      rw [hw.len]; omega
    · rcases hsplit id r hr with ⟨_, _, h3⟩ | ⟨i, rfl, h3⟩
      · exact h3
      · have hil : i < σ.length := by
          rcases Nat.lt_or_ge i σ.length with a | a
          · exact a
          · rw [hw.len, hτout i a] at hid
            omega
        have h4 := List.getElem?_eq_getElem hil
        have hgi : ¬ stc.G i := fun ⟨j, a1, a2⟩ => hg (by rw [hτin i j a1]; exact a2)
        have := e2.ρ i (by show i < h.length; omega) hgi r h3
        rw [hρ i _ h4] at this
        rw [hτin i _ h4]
        exact this
  have hback : Back w2 s2 sF τ fl := by
    refine ⟨fun i hi => ?_, fun i _ hg => hGτ i hg, fun i hi r hr => ?_, fun h3 b hb => .inr ⟨h3, hb⟩⟩
    · show τ i < H.length + _
      rcases Nat.lt_or_ge i σ.length with a | a
      · have h4 := List.getElem?_eq_getElem a
        rw [hτin i _ h4]
        have := hjl i _ h4
        omega
      · rw [hτout i a]; omega
    · rw [hFτ i hi] at hr; exact hr
  have hwF : WR B W w2 sF HF := by
    refine ⟨w2r.below, w2r.base, hlenF.symm, fun id o ho hst hg => ?_, fun id r hr => ?_, fun id id' r s hid hid' hr hs hb => ?_, fun b hb => ?_, fun id r o hr ho hst hm => ?_, fun id r o hr ho hst hm => ?_, fun id hg => ?_, fun id r hr hm => ?_, fun b hb => ?_, fun b hb => ?_⟩
    · rcases hget3 id o ho with ⟨h3, h4, h5⟩ | ⟨i, o', rfl, h3, rfl⟩
      · obtain ⟨o', k1, k2, k3, k4, _⟩ := hH0 id o h5
        obtain ⟨r, r1, r2⟩ := hw.obj id o' k1 (by rcases k4 with k4 | k4 <;> omega) hg
        have r3 := r2.mono hExt (fun hm => hUsame r.b (hout id r r1 h4 hm))
        exact ⟨r, by rw [hFun id h3 h4]; exact r1, by rw [r3.n, k2], r3.m, by rw [r3.k, k3], r3.k0, fun hm => by
          rw [k2]
          exact r3.mem hm⟩
      · obtain ⟨r, r1, r2⟩ := w2r.obj i o' h3 hst (fun hgi => hg (hGn i hgi))
        have hi2 : i < s2.n := by rw [hl2]; exact (List.getElem?_eq_some_iff.1 h3).1
        refine ⟨r, by rw [hFτ i hi2]; exact r1, ?_⟩
        refine ⟨by rw [r2.n]; simp [renO], r2.m, r2.k, r2.k0, fun hm => ?_⟩
        obtain ⟨b1, cs, e, fr, b2, b3, b4, b5⟩ := r2.mem hm
        refine ⟨b1, cs, e, fr, b2, b3, b4, fun n x hx => ?_⟩
        simp only [renO, rens_map, List.getElem?_map] at hx
        obtain ⟨y, hy, rfl⟩ := Option.map_eq_some_iff.1 hx
        obtain ⟨us, u1, u2, u3⟩ := b5 n y hy
        refine ⟨us, u1, ren_aC hback y us (fun h4 => ?_) u2, u3⟩
        have h6 := ((hfl h4).2 o' (List.mem_of_getElem? h3)).1
        have hall : ∀ (l : List AV), AV.flats l = true → ∀ x ∈ l, x.flat = true := by
          intro l
          induction l with
          | nil => intro _ x hx; cases hx
          | cons z l ih =>
            intro hfs x hx
            simp only [AV.flats, Bool.and_eq_true] at hfs
            rcases List.mem_cons.1 hx with rfl | hx
            · exact hfs.1
            · exact ih hfs.2 x hx
        exact hall _ h6 y (List.mem_of_getElem? hy)
    · rcases hsplit id r hr with ⟨h3, h4, h5⟩ | ⟨i, rfl, h3⟩
      · obtain ⟨o, d1, d2, d3⟩ := hw.dom id r h5
        have hid0 : id < H0.length := by rw [hH0l]; exact h3
        have ho0 := List.getElem?_eq_getElem hid0
        obtain ⟨o', k1, k2, k3, k4, _⟩ := hH0 id _ ho0
        rw [d1] at k1; cases k1
        exact ⟨_, by rw [hget1 id h3 h4]; exact ho0, by rcases k4 with k4 | k4 <;> omega, d3⟩
      · obtain ⟨o, d1, d2, d3⟩ := w2r.dom i r h3
        exact ⟨_, hget2 i o d1, d2, hGτ i d3⟩
    · rcases hsplit id r hid with ⟨h3, h4, h5⟩ | ⟨i, rfl, h3⟩ <;> rcases hsplit id' s hid' with ⟨k3, k4, k5⟩ | ⟨i', rfl, k3⟩
      · exact hw.inj id id' r s h5 k5 hr hs hb
      · exact absurd (hb ▸ hout id r h5 h4 hr) (hown2 i' s k3 hs)
      · exact absurd (hb ▸ hout id' s k5 k4 hs) (hown2 i r h3 hr)
      · rw [w2r.inj i i' r s h3 k3 hr hs hb]
    · rcases hb with hb | ⟨_, hb⟩
      · exact w2r.stab b (hSS b hb)
      · exact w2r.stab b hb
    · rcases hget3 id o ho with ⟨h3, h4, h5⟩ | ⟨i, o', rfl, h3, rfl⟩
      · rw [hFun id h3 h4] at hr
        obtain ⟨o', k1, k2, k3, k4, k5⟩ := hH0 id o h5
        have h0 : o'.st = 0 := by rcases k4 with k4 | k4 <;> omega
        rintro (hb | ⟨hfl', hb⟩)
        · exact hw.live id r o' hr k1 h0 hm hb
        · rcases hS2 _ hb with (hb | ⟨id', hid', s, hs, hsm, hbb⟩) | hb
          · exact hw.live id r o' hr k1 h0 hm hb
          · have := hw.inj id' id s r hs hr hsm hm hbb
            subst this
            exact k5 hfl' hid' hst
          · exact hb (hout id r hr h4 hm)
      · have hi2 : i < s2.n := by rw [hl2]; exact (List.getElem?_eq_some_iff.1 h3).1
        rw [hFτ i hi2] at hr
        have := w2r.live i r o' hr h3 hst hm
        rintro (hb | ⟨_, hb⟩)
        · exact this (hSS _ hb)
        · exact this hb
    · rcases hget3 id o ho with ⟨h3, h4, h5⟩ | ⟨i, o', rfl, h3, rfl⟩
      · rw [hFun id h3 h4] at hr
        obtain ⟨o', k1, k2, k3, k4, k5⟩ := hH0 id o h5
        rcases k4 with k4 | ⟨k4, k6, k7, k8⟩
        · exact .inl (hw.frz id r o' hr k1 (by omega) hm)
        · exact .inr ⟨k8, (e2.S r.b (hF id k7 r hr hm)).1⟩
      · have hi2 : i < s2.n := by rw [hl2]; exact (List.getElem?_eq_some_iff.1 h3).1
        rw [hFτ i hi2] at hr
        cases hfl' : fl with
        | true => exact absurd hst ((hfl hfl').2 o' (List.mem_of_getElem? h3)).2
        | false => exact .inr ⟨hfl', w2r.frz i r o' hr h3 hst hm⟩
    · show id < H.length + _
      have := hw.gho id hg
      rw [hw.len] at this
      omega
    · rcases hsplit id r hr with ⟨h3, h4, h5⟩ | ⟨i, rfl, h3⟩
      · exact hw.x.own id r h5 hm
      · exact fun hu => hown2 i r h3 hm (.inl hu)
    · rcases hb with hb | ⟨_, hb⟩
      · exact hw.x.low b hb
      · rcases hS2 b hb with (hb | ⟨id', hid', s, hs, hsm, hbb⟩) | hb
        · exact hw.x.low b hb
        · exact .inr (hbb ▸ hw.x.own id' s hs hsm)
        · exact .inr fun hu => hb (.inl hu)
    · have hlt := hw.x.ub b hb
      have h3 := hUsame b (.inl hb)
      rw [Array.getElem?_eq_getElem hlt] at h3
      exact (Array.getElem?_eq_some_iff.1 h3).1
  refine ⟨sF, hwF, ?_, hExt, rfl⟩
  obtain ⟨us, u1, u2⟩ := vr
  refine ⟨us, ?_, ren_aC hback r us (fun h3 => (hfl h3).1) u2⟩
  have : (ren τ r).isAgg = r.isAgg := by cases r <;> rfl
  show (if (ren τ r).isAgg = true then _ else _)
  rw [this]
  exact u1

end Dw

/-! DwZc -/
namespace Dw
open Go Go.RowKit

def allTI (P : Program) : List TI → Nat → Bool
  | [], _ => true
  | ti :: l, n => (ti.kind == 0 || tiOk P n ti) && allTI P l (n + 1)

theorem allTI_spec {P : Program} : ∀ (l : List TI) (n : Nat), allTI P l n = true → ∀ t, (nthTI l t).kind ≠ 0 → tiOk P (n + t) (nthTI l t) = true
  | [], n, _, t, h => absurd rfl h
  | ti :: l, n, h, t, hk => by
    simp only [allTI, Bool.and_eq_true, Bool.or_eq_true, beq_iff_eq] at h
    cases t with
    | zero =>
      simp only [nthTI] at hk ⊢
      rcases h.1 with h1 | h1
      · exact absurd h1 hk
      · exact h1
    | succ t =>
      simp only [nthTI] at hk ⊢
      have := allTI_spec l (n + 1) h.2 t hk
      rw [show n + (t + 1) = n + 1 + t by omega]
      exact this

theorem eok_of {P : Program} {tab : List TI} (h1 : P.follows .mixedOrders = true) (h2 : allTI P tab 0 = true) : EOK P (nthTI tab) :=
  ⟨h1, fun t hk => by have := allTI_spec tab 0 h2 t hk; simpa using this⟩

/-! ### Rules for walks -/

section
variable {P : Program} {E : TE} (hE : EOK P E)
include hE

/-- A function's contract, from a walk through its body. -/
theorem run_walk {f : Nat} {fn : Func} (hf : P.funcs[f]? = some fn) (hn : (fn.name == "runtime.NumGoroutine") = false) {args : List AV} {h h1 : Heap} {r : AV} (hk : Body E (Run P) fn args h r h1) : Run P f args h r h1 :=
  run_body hE (drawSound hE) hf hn hk

end

/-- Plain data in, plain data out: wherever it is called. -/
theorem run_pure {P : Program} {f : Nat} {xs : List D} {r : D} (hf : Run P f (xs.map .d) [] (.d r) []) (hr : r.flat = true) (H : Heap) {args : List AV} (ha : ∃ F, embs [] F H (xs.map .d) args) : Run P f args H (.d r) H := by
  obtain ⟨F, ha⟩ := ha
  have := run_emb (σ := []) (F := F) (H := H) (fl := true) hf List.nodup_nil (fun _ _ h => by cases h) ha (by simp [embH]) (fun _ => ⟨by simpa [AV.flat] using hr, fun o ho => by cases ho⟩)
  simpa [ren, outH, setAll] using this

end Dw

/-! DwZd -/
namespace Dw
open Go Go.RowKit

/-- A loop: states s, what the temporaries and the heap are at its head, a number that goes down. -/
theorem loop_rule {σ : Type} {n0 : Nat} {V : List Nat} {W : List AV → Heap → (Ex → List AV → Heap → Prop) → Prop} {K : Ex → List AV → Heap → Prop} {T : List AV} {h : Heap} (m : σ → Nat) (I : σ → Prop) (Ts : σ → List AV) (hs : σ → Heap) (s0 : σ)
    (h0 : I s0) (hw : Wk V n0 T h (Ts s0) (hs s0))
    (step : ∀ (s : σ) (C : List AV → Heap → Prop), I s → (∀ s' T' h', I s' → m s' < m s → Wk V n0 T' h' (Ts s') (hs s') → C T' h') →
      W (Ts s) (hs s) (fun ex T' h' => match ex with
        | .normal => C T' h'
        | .exit id => K (.exit id) T' h'
        | .ret => K .ret T' h')) : ∃ n, iterD V n0 W K n T h := by
  have key : ∀ n T h s, m s < n → I s → Wk V n0 T h (Ts s) (hs s) → iterD V n0 W K n T h := by
    intro n
    induction n with
    | zero => intro T h s hm; omega
    | succ n ih =>
      intro T h s hm hI hk
      exact ⟨Ts s, hs s, hk, step s (iterD V n0 W K n) hI fun s' T' h' hI' hm' hk' => ih T' h' s' (by omega) hI' hk'⟩
  exact ⟨m s0 + 1, key _ T h s0 (Nat.lt_succ_self _) h0 hw⟩

/-- A walk from the list of temporaries written out. -/
theorem run_walkT {P : Program} {E : TE} (hE : EOK P E) {f : Nat} {fn : Func} {c : Code} (T : List AV) (hf : P.funcs[f]? = some fn) (hn : (fn.name == "runtime.NumGoroutine") = false) (hc : fn.body = some c) {args : List AV} {h h1 : Heap} {r : AV}
    (hT : start fn.ntmps args = T) (hk : codeD E (Run P) [] [] h.length c T h (endD E [] h.length fn.results.toList r h1)) : Run P f args h r h1 := by
  refine run_walk hE hf hn ?_
  unfold Body
  rw [hc]
  show codeD E (Run P) [] [] h.length c (start fn.ntmps args) h (endD E [] h.length fn.results.toList r h1)
  rw [hT]
  exact hk

/-! ### Ends -/

theorem end_data {x y : D} {h : Heap} (e : x = y) : EndR [] 0 h (.d x) (.d y) [] := .inl ⟨[], rfl, rfl, ⟨e, trivial⟩, trivial⟩

theorem end_tup2 {a b : D} {y : D} {h : Heap} (e : D.tup [a, b] = y) : EndR [] 0 h (.tup [.d a, .d b]) (.d y) [] := by
  subst e
  exact .inl ⟨[], rfl, rfl, ⟨⟨rfl, rfl, rfl, trivial⟩, trivial⟩, trivial⟩

theorem end_tup3 {a b c : D} {y : D} {h : Heap} (e : D.tup [a, b, c] = y) : EndR [] 0 h (.tup [.d a, .d b, .d c]) (.d y) [] := by
  subst e
  exact .inl ⟨[], rfl, rfl, ⟨⟨rfl, rfl, rfl, rfl, trivial⟩, trivial⟩, trivial⟩

theorem end_view {a : AV} {x y : D} {h : Heap} (hv : view 8 h a = some x) (e : x = y) : EndR [] 0 h a (.d y) [] := by
  subst e
  exact .inr ⟨x, hv, rfl, [], rfl, rfl, trivial, trivial⟩

theorem end_old1 {x y : D} {o o' : AO} {h : Heap} {l : List D} (e : x = y) (h1 : o.elems = l.map .d) (h2 : o'.elems = l.map .d) (hk : o.k = o'.k) (hs : o.st = o'.st) : EndR [] 1 (o :: h) (.d x) (.d y) [o'] :=
  .inl ⟨[.old 0], rfl, rfl, ⟨e, trivial⟩, ⟨⟨hk, hs, .inl ⟨l, h1, h2⟩⟩, trivial⟩⟩

/-! ### Calls -/

theorem embs_views (H : Heap) : ∀ (args : List AV) (xs : List D) (F : List Nat), (∀ id ∈ args.flatMap (reach 8 H), id ∈ F) → vl (view 8 H) args = some xs → embs [] F H (xs.map .d) args
  | [], xs, F, _, h => by simp [vl] at h; subst h; simp [embs]
  | a :: args, xs, F, hF, h => by
    simp only [vl] at h
    split at h
    · rename_i x hx
      split at h
      · rename_i r hr
        cases h
        simp only [List.map_cons, embs, emb]
        exact ⟨⟨hx, fun id hid => hF id (by simp [hid])⟩, embs_views H args r F (fun id hid => hF id (by simp only [List.flatMap_cons, List.mem_append]; exact .inr hid)) hr⟩
      · cases h
    · cases h

section
variable {P : Program} {f : Nat} {xs : List D} {r : D} (hf : Run P f (xs.map .d) [] (.d r) []) {H : Heap} {args : List AV}
include hf

/-- A function of data that looks at own objects. -/
theorem run_view (hr : r.flat = true) (hv : vl (view 8 H) args = some xs) : Run P f args H (.d r) H :=
  run_pure hf hr H ⟨_, embs_views H args xs (args.flatMap (reach 8 H)) (fun _ h => h) hv⟩

theorem run_viewF (hv : vl (view 8 H) args = some xs) : Run P f args H (.d r) (freeze H (args.flatMap (reach 8 H))) := by
  have := run_emb (σ := []) (F := args.flatMap (reach 8 H)) (H := H) (fl := false) hf List.nodup_nil (fun _ _ h => by cases h) (embs_views H args xs _ (fun _ h => h) hv) (by simp [embH]) (fun h => by cases h)
  simpa [ren, outH, setAll] using this
end

theorem call_step {P : Program} {f : Nat} {args : List AV} {h h' : Heap} {r : AV} {K : KV} (hR : Run P f args h r h') (k : K r h') : ∃ r h', Run P f args h r h' ∧ K r h' := ⟨r, h', hR, k⟩

/-- A call through an embedding, its result and the heap behind it told. -/
theorem run_at {P : Program} {f : Nat} {args args' : List AV} {h H h1 H' : Heap} {r r' : AV} {σ F : List Nat} {fl : Bool} (hf : Run P f args h r h1) (hσ : σ.Nodup) (hσF : ∀ id ∈ F, id ∉ σ) (ha : embs σ F H args args') (hh : embH σ F H σ h)
    (hfl : fl = true → r.flat = true ∧ ∀ o ∈ h1, AV.flats o.elems = true ∧ o.st ≠ 1) (hr : ren (tau σ H.length) r = r') (hH : outH σ (tau σ H.length) (if fl then H else freeze H F) h1 = H') : Run P f args' H r' H' := by
  subst hr; subst hH
  exact run_emb hf hσ hσF ha hh hfl

theorem flats_map : ∀ (l : List D), (∀ x ∈ l, x.flat = true) → AV.flats (l.map .d) = true
  | [], _ => rfl
  | x :: l, h => by
    simp only [List.map_cons, AV.flats, AV.flat, Bool.and_eq_true]
    exact ⟨h x (by simp), flats_map l fun y hy => h y (by simp [hy])⟩

theorem vl_data (H : Heap) : ∀ (xs : List D), vl (view 8 H) (xs.map .d) = some xs
  | [] => rfl
  | x :: xs => by
    have hv : view 8 H (.d x) = some x := rfl
    simp only [List.map_cons, vl, hv, vl_data H xs]

theorem vl_map_d (n : Nat) (H : Heap) : ∀ (l : List D), vl (view (n + 1) H) (l.map .d) = some l
  | [] => rfl
  | x :: xs => by
    have hv : view (n + 1) H (.d x) = some x := rfl
    simp only [List.map_cons, vl, hv, vl_map_d n H xs]

/-- An own row of data. -/
theorem view_own {H : Heap} {id s len k k' st n : Nat} {cap : Option Nat} {l : List D} (h : H[id]? = some ⟨l.map .d, k, st⟩) (hst : st < 2) (hs : s + len ≤ l.length) : view (n + 2) H (.sl id s len k' cap) = some (.fs ((l.drop s).take len)) := by
  have e : (l.map AV.d).drop s = (l.drop s).map .d := by rw [List.map_drop]
  have e2 : ((l.drop s).map AV.d).take len = ((l.drop s).take len).map .d := by rw [List.map_take]
  have hv := vl_map_d n H ((l.drop s).take len)
  show (match H[id]? with
    | some o => if o.st < 2 then (if s + len ≤ o.elems.length then (vl (view (n + 1) H) ((o.elems.drop s).take len)).map D.fs else none) else none
    | none => none) = _
  simp only [h, if_pos hst, List.length_map, if_pos hs, e, e2, hv, Option.map_some]

theorem view_all {H : Heap} {id k k' st n : Nat} {cap : Option Nat} {l : List D} (h : H[id]? = some ⟨l.map .d, k, st⟩) (hst : st < 2) : view (n + 2) H (.sl id 0 l.length k' cap) = some (.fs l) := by
  rw [view_own h hst (by omega)]
  simp

theorem view_bytes {H : Heap} {id k k' st n : Nat} {cap : Option Nat} {l : List UInt8} (h : H[id]? = some ⟨l.map byteV, k, st⟩) (hst : st < 2) : view (n + 2) H (.sl id 0 l.length k' cap) = some (.fs (l.map fun b => .int .u8 b.toNat)) := by
  have e : l.map byteV = (l.map fun b => D.int .u8 b.toNat).map .d := by rw [List.map_map]; rfl
  rw [e] at h
  have := view_all (n := n) (k' := k') (cap := cap) h hst
  simpa using this

theorem vl1 {f : AV → Option D} {a : AV} {x : D} (h : f a = some x) : vl f [a] = some [x] := by simp [vl, h]
theorem vl2 {f : AV → Option D} {a b : AV} {x y : D} (h : f a = some x) (g : f b = some y) : vl f [a, b] = some [x, y] := by simp [vl, h, g]
theorem vl3 {f : AV → Option D} {a b c : AV} {x y z : D} (h : f a = some x) (g : f b = some y) (k : f c = some z) : vl f [a, b, c] = some [x, y, z] := by simp [vl, h, g, k]

/-- A function of data, wherever it is called. -/
theorem run_data {P : Program} {f : Nat} {xs : List D} {r : D} (hf : Run P f (xs.map .d) [] (.d r) []) (H : Heap) : Run P f (xs.map .d) H (.d r) H := by
  have := run_viewF hf (vl_data H xs)
  have hre : (xs.map AV.d).flatMap (reach 8 H) = [] := by
    induction xs with
    | nil => rfl
    | cons x xs ih => simp [reach]
  rw [hre] at this
  exact this

end Dw

/-! DwZg -/
namespace Dw
open Go Go.RowKit

/-! ### A tree of types -/

inductive TT where
  | nil
  | leaf (n : Nat) (t : TI)
  | node (p : Nat) (l r : TT)

def TT.get : TT → Nat → TI
  | .nil, _ => noTI
  | .leaf n t, m => match Nat.beq n m with
    | true => t
    | false => noTI
  | .node p l r, m => match Nat.ble p m with
    | true => r.get m
    | false => l.get m

def allTT (P : Program) : TT → Bool
  | .nil => true
  | .leaf n t => tiOk P n t
  | .node _ l r => allTT P l && allTT P r

theorem allTT_spec {P : Program} : ∀ (x : TT), allTT P x = true → ∀ t, (x.get t).kind ≠ 0 → tiOk P t (x.get t) = true
  | .nil, _, t, h => absurd rfl h
  | .leaf n ti, h, t, hk => by
    simp only [TT.get] at hk ⊢
    cases hb : Nat.beq n t
    · rw [hb] at hk; exact absurd rfl hk
    · have := Nat.eq_of_beq_eq_true hb
      subst this
      exact h
  | .node p l r, h, t, hk => by
    simp only [allTT, Bool.and_eq_true] at h
    simp only [TT.get] at hk ⊢
    cases hb : Nat.ble p t
    · rw [hb] at hk; exact allTT_spec l h.1 t hk
    · rw [hb] at hk; exact allTT_spec r h.2 t hk

theorem eok_tree {P : Program} {tab : TT} (h1 : P.follows .mixedOrders = true) (h2 : allTT P tab = true) : EOK P tab.get :=
  ⟨h1, fun t hk => allTT_spec tab h2 t hk⟩

/-! ### Known temporaries -/

abbrev Env := List (Nat × AV)

def look : Env → Nat → AV
  | [], _ => .junk
  | (m, v) :: A, n => match Nat.beq m n with
    | true => v
    | false => look A n

def lookK : Env → Nat → (AV → Prop) → Prop
  | [], _, K => K .junk
  | (m, v) :: A, n, K => match Nat.beq m n with
    | true => K v
    | false => lookK A n K

theorem lookK_eq : ∀ (A : Env) (n : Nat) (K : AV → Prop), lookK A n K = K (look A n)
  | [], n, K => rfl
  | (m, v) :: A, n, K => by
    simp only [lookK, look]
    cases Nat.beq m n
    · exact lookK_eq A n K
    · rfl

abbrev OG := Operand → (AV → Prop) → Prop

def opndF (A : Env) : OG := fun x K =>
  match x with
  | .tmp t => lookK A t K
  | .const v => force (ofV v) K
  | .global _ => K .junk
  | .func f => K (.d (.fn f [] []))

def opndsG (G : OG) : List Operand → (List AV → Prop) → Prop
  | [], K => K []
  | x :: l, K => G x (fun a => opndsG G l (fun r => K (a :: r)))

def fillG (E : TE) (t : TI) (G : OG) : List (Nat × Operand) → List AV → (List AV → Prop) → Prop
  | [], cs, K => K cs
  | (i, x) :: l, cs, K => G x (fun v =>
      onBool (t.kind == 5)
        (nthK t.fields i (fun p => onOk (decide (p.1 + (E p.2).size ≤ cs.length) && (fits (E p.2) v && (E p.2).kind != 0)) (putK cs p.1 v.cells (fun cs' => fillG E t G l cs' K))))
        (onOk ((t.kind == 6 && (E t.elem).kind != 0) && (decide (i * (E t.elem).size + (E t.elem).size ≤ cs.length) && fits (E t.elem) v)) (putK cs (i * (E t.elem).size) v.cells (fun cs' => fillG E t G l cs' K))))

def rowG (t : TI) (G : OG) : List (Nat × Operand) → List AV → (List AV → Prop) → Prop
  | [], es, K => K es
  | (i, x) :: l, es, K => G x (fun v => onOk (fits t v && decide (i < es.length)) (setK es i v (fun es' => rowG t G l es' K)))

def optG (G : OG) : Option Operand → (Option AV → Prop) → Prop
  | none, K => K none
  | some x, K => G x (fun a => K (some a))

/-! Arithmetic: a walk stops at it and is told in which form the number shall be. -/

/-- No notation for tuples gets past it. -/
inductive Stop : Prop where
  | mk

structure wrapK (k : IntKind) (x : Int) (K : Int → Prop) : Prop where
  stop : Stop
  out : K (k.wrap x)
theorem wrapK_eq (k : IntKind) (x : Int) (K : Int → Prop) : wrapK k x K = (K (k.wrap x)) := propext ⟨fun h => h.out, fun h => ⟨.mk, h⟩⟩
structure divK (k : IntKind) (a b : Int) (K : Int → Prop) : Prop where
  stop : Stop
  out : onOk (!decide (b = 0)) (K (k.wrap (a.tdiv b)))
theorem divK_eq (k : IntKind) (a b : Int) (K : Int → Prop) : divK k a b K = (onOk (!decide (b = 0)) (K (k.wrap (a.tdiv b)))) := propext ⟨fun h => h.out, fun h => ⟨.mk, h⟩⟩
structure remK (a b : Int) (K : Int → Prop) : Prop where
  stop : Stop
  out : onOk (!decide (b = 0)) (K (a.tmod b))
theorem remK_eq (a b : Int) (K : Int → Prop) : remK a b K = (onOk (!decide (b = 0)) (K (a.tmod b))) := propext ⟨fun h => h.out, fun h => ⟨.mk, h⟩⟩
structure bitK (op : BinOp) (k : IntKind) (a b : Int) (K : Int → Prop) : Prop where
  stop : Stop
  out : K (bitsOf op k a b)
theorem bitK_eq (op : BinOp) (k : IntKind) (a b : Int) (K : Int → Prop) : bitK op k a b K = (K (bitsOf op k a b)) := propext ⟨fun h => h.out, fun h => ⟨.mk, h⟩⟩
structure shlK (k : IntKind) (a b : Int) (K : Int → Prop) : Prop where
  stop : Stop
  out : onOk (decide (0 ≤ b)) (K (k.wrap (a * 2 ^ (min b.toNat k.bits))))
theorem shlK_eq (k : IntKind) (a b : Int) (K : Int → Prop) : shlK k a b K = (onOk (decide (0 ≤ b)) (K (k.wrap (a * 2 ^ (min b.toNat k.bits))))) := propext ⟨fun h => h.out, fun h => ⟨.mk, h⟩⟩
structure shrK (k : IntKind) (a b : Int) (K : Int → Prop) : Prop where
  stop : Stop
  out : onOk (decide (0 ≤ b)) (K (a.fdiv (2 ^ (min b.toNat k.bits))))
theorem shrK_eq (k : IntKind) (a b : Int) (K : Int → Prop) : shrK k a b K = (onOk (decide (0 ≤ b)) (K (a.fdiv (2 ^ (min b.toNat k.bits))))) := propext ⟨fun h => h.out, fun h => ⟨.mk, h⟩⟩

def intF (op : BinOp) (k : IntKind) (a b : Int) (K : AV → Prop) : Prop :=
  match op with
  | .add => wrapK k (a + b) (fun n => K (.d (.int k n)))
  | .sub => wrapK k (a - b) (fun n => K (.d (.int k n)))
  | .mul => wrapK k (a * b) (fun n => K (.d (.int k n)))
  | .quo => divK k a b (fun n => K (.d (.int k n)))
  | .rem => remK a b (fun n => K (.d (.int k n)))
  | .and => bitK .and k a b (fun n => K (.d (.int k n)))
  | .or => bitK .or k a b (fun n => K (.d (.int k n)))
  | .xor => bitK .xor k a b (fun n => K (.d (.int k n)))
  | .andNot => bitK .andNot k a b (fun n => K (.d (.int k n)))
  | .eql => K (.d (.bool (decide (a = b))))
  | .neq => K (.d (.bool (!decide (a = b))))
  | .lss => K (.d (.bool (decide (a < b))))
  | .leq => K (.d (.bool (decide (a ≤ b))))
  | .gtr => K (.d (.bool (decide (b < a))))
  | .geq => K (.d (.bool (decide (b ≤ a))))
  | _ => False

def binF (E : TE) (op : BinOp) (t : Nat) (x y : AV) (K : AV → Prop) : Prop :=
  match x, y with
  | .d (.int k a), .d (.int k' b) =>
    match op with
    | .shl => shlK k a b (fun n => K (.d (.int k n)))
    | .shr => shrK k a b (fun n => K (.d (.int k n)))
    | _ => onOk (k == k') (intF op k a b K)
  | .d (.str a), .d (.str b) => strD op a b K
  | .d (.bool a), .d (.bool b) => onOk ((E t).kind == 2) (eqD op (a == b) K)
  | _, _ =>
    onOk (x.isAgg && y.isAgg && ((E t).kind == 5)) (
      match dcells x.cells with
      | some l => match dcells y.cells with
        | some r => onOk (!(E t).leaf.isEmpty && alike (E t).leaf l r) (eqD op (cellsEq l r) K)
        | none => False
      | none => False)

def unF (op : UnOp) (x : AV) (K : AV → Prop) : Prop :=
  match op, x with
  | .not, .d (.bool b) => K (.d (.bool (!b)))
  | .neg, .d (.int k n) => wrapK k (0 - n) (fun n => K (.d (.int k n)))
  | _, _ => False

def convF (E : TE) (src dst : Nat) (x : AV) (h : Heap) (K : KV) : Prop :=
  match x with
  | .d (.int _ n) => onOk ((E dst).kind == 1 && !((E src).kind == 0)) (wrapK (E dst).ik n (fun n => K (.d (.int (E dst).ik n)) h))
  | _ => convD E src dst x h K

structure rowSl (x : List D) (lo hi : Int) (sz : Nat) (K : List D → Prop) : Prop where
  stop : Stop
  out : (0 ≤ lo ∧ lo ≤ hi ∧ hi ≤ x.length ∧ ∀ y ∈ x, y.cells.length = sz) ∧ K ((x.take hi.toNat).drop lo.toNat)
theorem rowSl_eq (x : List D) (lo hi : Int) (sz : Nat) (K : List D → Prop) : rowSl x lo hi sz K = ((0 ≤ lo ∧ lo ≤ hi ∧ hi ≤ x.length ∧ ∀ y ∈ x, y.cells.length = sz) ∧ K ((x.take hi.toNat).drop lo.toNat)) := propext ⟨fun h => h.out, fun h => ⟨.mk, h⟩⟩
structure strSl (s : List UInt8) (lo hi : Int) (K : List UInt8 → Prop) : Prop where
  stop : Stop
  out : (0 ≤ lo ∧ lo ≤ hi ∧ hi ≤ s.length) ∧ K ((s.take hi.toNat).drop lo.toNat)
theorem strSl_eq (s : List UInt8) (lo hi : Int) (K : List UInt8 → Prop) : strSl s lo hi K = ((0 ≤ lo ∧ lo ≤ hi ∧ hi ≤ s.length) ∧ K ((s.take hi.toNat).drop lo.toNat)) := propext ⟨fun h => h.out, fun h => ⟨.mk, h⟩⟩

structure ownSl (h : Heap) (id s len k : Nat) (cap : Option Nat) (lo hi : Int) (K : AV → Prop) : Prop where
  stop : Stop
  out : (0 ≤ lo ∧ lo ≤ hi ∧ inRoom h id s len cap hi) ∧ K (.sl id (s + lo.toNat) (hi.toNat - lo.toNat) k (match cap with | some c => some (c - lo.toNat) | none => none))
theorem ownSl_eq (h : Heap) (id s len k : Nat) (cap : Option Nat) (lo hi : Int) (K : AV → Prop) : ownSl h id s len k cap lo hi K = ((0 ≤ lo ∧ lo ≤ hi ∧ inRoom h id s len cap hi) ∧ K (.sl id (s + lo.toNat) (hi.toNat - lo.toNat) k (match cap with | some c => some (c - lo.toNat) | none => none))) := propext ⟨fun h => h.out, fun h => ⟨.mk, h⟩⟩

def sliceF (E : TE) (t : Nat) (x : AV) (lo hi mx : Option AV) (h : Heap) (K : AV → Prop) : Prop :=
  match x with
  | .d (.str s) => onOk ((E t).kind == 3 && mx.isNone) (boundK 0 lo (fun l => boundK s.length hi (fun u => strSl s l u (fun r => K (.d (.str r))))))
  | .d (.fs y) => match mx with
    | none => onOk ((E t).kind == 4 && (E (E t).elem).kind != 0) (boundK 0 lo (fun l => boundK y.length hi (fun u => rowSl y l u (E (E t).elem).size (fun r => K (.d (.fs r))))))
    | some m => sliceD E t (.d (.fs y)) lo hi (some m) h K
  | .sl id s len k cap => match mx with
    | none => onOk ((E t).kind == 4 && (k == (E (E t).elem).size && (E (E t).elem).kind != 0)) (boundK 0 lo (fun l => boundK len hi (fun u => ownSl h id s len k cap l u K)))
    | some m => sliceD E t (.sl id s len k cap) lo hi (some m) h K
  | _ => sliceD E t x lo hi mx h K

theorem sliceF_eq (E : TE) (t : Nat) (x : AV) (lo hi mx : Option AV) (h : Heap) (K : AV → Prop) : sliceF E t x lo hi mx h K = sliceD E t x lo hi mx h K := by
  unfold sliceF
  split
  · simp only [strSl_eq, sliceD]
  · split
    · simp only [rowSl_eq, sliceD]
    · rfl
  · split
    · rename_i cap _
      simp only [ownSl_eq, sliceD]
      cases cap <;> rfl
    · rfl
  · rfl

/-- A slice of an own object. -/
theorem own_sl {h : Heap} {id s len k : Nat} {cap : Option Nat} {lo hi : Int} {K : AV → Prop} (a b : Nat) (ha : lo = a) (hb : hi = b) (hab : a ≤ b ∧ b ≤ len) (hk : K (.sl id (s + a) (b - a) k (match cap with | some c => some (c - a) | none => none))) : ownSl h id s len k cap lo hi K := by
  subst ha; subst hb
  exact ⟨.mk, ⟨by omega, by omega, .inl (by omega)⟩, hk⟩
theorem own_slr {h : Heap} {id s len k : Nat} {lo hi : Int} {K : AV → Prop} (a b : Nat) (o : AO) (ho : h[id]? = some o) (hst : o.st < 2) (ha : lo = a) (hb : hi = b) (hab : a ≤ b ∧ s + b ≤ o.elems.length) (hk : K (.sl id (s + a) (b - a) k none)) : ownSl h id s len k none lo hi K := by
  subst ha; subst hb
  exact ⟨.mk, ⟨by omega, by omega, .inr ⟨o, ho, hst, hab.2⟩⟩, hk⟩

theorem intF_eq (op : BinOp) (k : IntKind) (a b : Int) (K : AV → Prop) : intF op k a b K = intD op k a b K := by
  cases op <;> simp only [intF, intD, wrapK_eq, divK_eq, remK_eq, bitK_eq]

theorem binF_eq (E : TE) (op : BinOp) (t : Nat) (x y : AV) (K : AV → Prop) : binF E op t x y K = binD E op t x y K := by
  unfold binD
  split
  · cases op <;> simp only [binF, shlK_eq, shrK_eq, intF_eq]
  · rfl
  · rfl
  · rename_i h1 h2 h3
    unfold binF
    split
    · exact (h1 _ _ _ _ rfl rfl).elim
    · exact (h2 _ _ rfl rfl).elim
    · exact (h3 _ _ rfl rfl).elim
    · rfl

theorem unF_eq (op : UnOp) (x : AV) (K : AV → Prop) : unF op x K = unD op x K := by
  unfold unF unD
  split <;> simp only [wrapK_eq]

theorem convF_eq (E : TE) (src dst : Nat) (x : AV) (h : Heap) (K : KV) : convF E src dst x h K = convD E src dst x h K := by
  unfold convF
  split
  · simp only [wrapK_eq, convD]
  · rfl

theorem opndsG_eq (T : List AV) : ∀ (l : List Operand) (K : List AV → Prop), opndsK T l K = opndsG (opndK T) l K
  | [], K => rfl
  | x :: l, K => by simp only [opndsK, opndsG, opndsG_eq T l]

theorem fillG_eq (E : TE) (t : TI) (T : List AV) : ∀ (l : List (Nat × Operand)) (cs : List AV) (K : List AV → Prop), fillK E t T l cs K = fillG E t (opndK T) l cs K
  | [], cs, K => rfl
  | (i, x) :: l, cs, K => by simp only [fillK, fillG, fillG_eq E t T l]

theorem rowG_eq (t : TI) (T : List AV) : ∀ (l : List (Nat × Operand)) (es : List AV) (K : List AV → Prop), rowK t T l es K = rowG t (opndK T) l es K
  | [], es, K => rfl
  | (i, x) :: l, es, K => by simp only [rowK, rowG, rowG_eq t T l]

theorem optG_eq (T : List AV) (o : Option Operand) (K : Option AV → Prop) : optK T o K = optG (opndK T) o K := by cases o <;> rfl

def opG (E : TE) (R : Rel) (G : OG) (h : Heap) (o : Op) (K : KV) : Prop :=
  match o with
  | .move x => G x (fun a => K a h)
  | .assign x => G x (fun a => K a h)
  | .pick c a b => G c (fun c => match c with
      | .d (.bool c) => onBool c (G a (fun a => K a h)) (G b (fun b => K b h))
      | _ => False)
  | .alloc t => onOk ((E t).kind != 0) (newD h { elems := [(E t).zero], k := (E t).size, st := 0 } (fun id h' => K (.ptr id 0 0) h'))
  | .box t x => G x (fun v => onOk ((E t).kind != 0 && fits (E t) v) (newD h { elems := [v], k := (E t).size, st := 0 } (fun id h' => K (.ptr id 0 0) h')))
  | .build t ps => onOk ((E t).kind == 5 || ((E t).kind == 6 && (E (E t).elem).kind != 0)) (fillG E (E t) G ps.toList (E t).zero.cells (fun cs => K (.agg cs) h))
  | .buildSlice t n ps => onOk ((E t).kind == 4 && (decide (n * (E (E t).elem).size ≤ 16777216) && (E (E t).elem).kind != 0)) (
      onBool (n == 0) (onOk ps.toList.isEmpty (K .nilS h))
        (replK n (E (E t).elem).zero (fun es => rowG (E (E t).elem) G ps.toList es (fun es => onBool ((E t).len == 0) (newD h { elems := es, k := (E (E t).elem).size, st := 0 } (fun id h' => K (.sl id 0 n (E (E t).elem).size (some n)) h')) (dataK es (fun ds => K (.d (.fs ds)) h))))))
  | .load t a => G a (fun a => loadD (E t) a h (fun v => K v h))
  | .store t a v => G a (fun a => G v (fun v => storeD (E t) a v h (fun h' => K .und h')))
  | .nilCheck x => G x (fun a => match a with
      | .ptr .. => K a h
      | .fn .. => K a h
      | .d (.fp ..) => K a h
      | .d (.fn ..) => K a h
      | _ => False)
  | .binOp op t x y _ => G x (fun a => onBool (isNilC y) (nilD E op t a (fun v => K v h)) (G y (fun b => binF E op t a b (fun v => K v h))))
  | .unOp op _ x => G x (fun a => unF op a (fun v => K v h))
  | .convert src dst x => G x (fun a => convF E src dst a h K)
  | .makeFunc fn first cap => match fn with
    | .func f => opndsG G first.toList (fun a => opndsG G cap.toList (fun c => K (.fn f a c) h))
    | _ => False
  | .makeSlice t l c => G l (fun l => G c (fun c => match l, c with
      | .d (.int _ l), .d (.int _ c) => onOk ((E t).kind == 4 && (E (E t).elem).kind != 0) ((0 ≤ l ∧ l ≤ c ∧ c < 9223372036854775808 ∧ c * (E (E t).elem).bytes ≤ 140737488355328) ∧
          newD h { elems := List.replicate c.toNat (E (E t).elem).zero, k := (E (E t).elem).size, st := 0 } (fun id h' => K (.sl id 0 l.toNat (E (E t).elem).size (some c.toNat)) h'))
      | _, _ => False))
  | .slice t x lo hi mx => G x (fun a => optG G lo (fun lo => optG G hi (fun hi => optG G mx (fun mx => sliceF E t a lo hi mx h (fun v => K v h)))))
  | .fieldAddr s x f => G x (fun a => fieldAddrD E s a f (fun v => K v h))
  | .field s x f => G x (fun a => fieldD E s a f (fun v => K v h))
  | .indexAddr t x i => G x (fun a => G i (fun i => indexAddrD E t a i (fun v => K v h)))
  | .index t x i => G x (fun a => G i (fun i => indexD E t a i (fun v => K v h)))
  | .extract x i => G x (fun a => match a with
      | .tup l => nthK l i (fun v => K v h)
      | .d (.tup l) => nthK l i (fun v => K (.d v) h)
      | _ => False)
  | .call c => match c.callee with
    | .value f => G f (fun f => opndsG G c.args.toList (fun args => callK R f args h K))
    | .builtin b => opndsG G c.args.toList (fun args => builtinD E b c.argTypes.toList args h K)
    | _ => False
  | _ => False

theorem opG_eq (E : TE) (R : Rel) (T : List AV) (h : Heap) (o : Op) (K : KV) : opD E R T h o K = opG E R (opndK T) h o K := by
  cases o <;> simp only [opD, opG, opndsG_eq, fillG_eq, rowG_eq, optG_eq, binF_eq, unF_eq, convF_eq, sliceF_eq] <;> rfl

/-! ### Regions and code -/

def guardF (all : List Oper) (A : Env) (g : Option (Nat × Bool)) (P Q : Env → Prop) : Prop :=
  match g with
  | none => P A
  | some (j, want) =>
    match dstOf all j with
    | some t => lookK A t (fun a => match a with
      | .d (.bool b) => onBool b (onBool want (P ((t, .d (.bool true)) :: A)) (Q ((t, .d (.bool true)) :: A))) (onBool want (Q ((t, .d (.bool false)) :: A)) (P ((t, .d (.bool false)) :: A)))
      | .und => Q A
      | _ => False)
    | none => False

def dstF (dst : Option Nat) (v : AV) (A : Env) (K : Env → Prop) : Prop :=
  match dst with
  | some t => K ((t, v) :: A)
  | none => K A

/- By the recursor itself: what is left of a walk is then spelled alike, whoever unfolds it. -/
noncomputable def regF (E : TE) (R : Rel) (all : List Oper) (l : List Oper) : Env → Heap → (Env → Heap → Prop) → Prop :=
  List.rec (motive := fun _ => Env → Heap → (Env → Heap → Prop) → Prop)
    (fun A h K => K A h)
    (fun o _ ih A h K => guardF all A o.guard
      (fun A => opG E R (opndF A) h o.op (fun v h' => dstF o.dst v A (fun A' => ih A' h' K)))
      (fun A => dstF o.dst .und A (fun A' => ih A' h K)))
    l

theorem regF_cons {E : TE} {R : Rel} {all : List Oper} {o : Oper} {rest : List Oper} {A : Env} {h : Heap} {K : Env → Heap → Prop} : regF E R all (o :: rest) A h K = guardF all A o.guard
      (fun A => opG E R (opndF A) h o.op (fun v h' => dstF o.dst v A (fun A' => regF E R all rest A' h' K)))
      (fun A => dstF o.dst .und A (fun A' => regF E R all rest A' h K)) := rfl

def readsF (G : OG) (o : Op) (K : Option Nat → Prop) : Prop :=
  match o with
  | .load _ a => G a (fun v => match v with | .ptr id _ _ => K (some id) | _ => K none)
  | .convert _ _ a => G a (fun v => match v with | .sl id _ _ _ _ => K (some id) | _ => K none)
  | .slice _ a _ _ _ => G a (fun v => match v with | .sl id _ _ _ _ => K (some id) | _ => K none)
  | _ => K none

theorem readsF_eq (T : List AV) (o : Op) (K : Option Nat → Prop) : readsK T o K = readsF (opndK T) o K := by cases o <;> rfl

noncomputable def drawF (E : TE) (R : Rel) (all : List Oper) (ps : List (Nat × Nat)) (l : List (Nat × Oper)) : List Ev → Env → Heap → (Env → Heap → Prop) → Prop :=
  List.rec (motive := fun _ => List Ev → Env → Heap → (Env → Heap → Prop) → Prop)
    (fun _ A h K => K A h)
    (fun x _ ih L A h K => guardF all A x.2.guard
      (fun A => opG E R (opndF A) h x.2.op (fun v h' => dstF x.2.dst v A (fun A' =>
        match cls E x.2.op with
        | 0 => ih L A' h' K
        | 1 => readsF (opndF A) x.2.op (fun r => match r with
          | some id => evD ps (.read x.1 id) L (ih (.read x.1 id :: L) A' h' K)
          | none => ih L A' h' K)
        | 2 => match v with
          | .ptr id _ _ => ih (.made x.1 id :: L) A' h' K
          | _ => False
        | _ => evD ps (.heap x.1 h h') L (ih (.heap x.1 h h' :: L) A' h' K))))
      (fun A => dstF x.2.dst .und A (fun A' => ih L A' h K)))
    l

theorem drawF_cons {E : TE} {R : Rel} {all : List Oper} {ps : List (Nat × Nat)} {i : Nat} {o : Oper} {rest : List (Nat × Oper)} {L : List Ev} {A : Env} {h : Heap} {K : Env → Heap → Prop} : drawF E R all ps ((i, o) :: rest) L A h K = guardF all A o.guard
      (fun A => opG E R (opndF A) h o.op (fun v h' => dstF o.dst v A (fun A' =>
        match cls E o.op with
        | 0 => drawF E R all ps rest L A' h' K
        | 1 => readsF (opndF A) o.op (fun r => match r with
          | some id => evD ps (.read i id) L (drawF E R all ps rest (.read i id :: L) A' h' K)
          | none => drawF E R all ps rest L A' h' K)
        | 2 => match v with
          | .ptr id _ _ => drawF E R all ps rest (.made i id :: L) A' h' K
          | _ => False
        | _ => evD ps (.heap i h h') L (drawF E R all ps rest (.heap i h h' :: L) A' h' K))))
      (fun A => dstF o.dst .und A (fun A' => drawF E R all ps rest L A' h K)) := rfl

/-- What was known, and what shall be known of some temporaries. -/
def wkF (μ : List Mu) (A : Env) : Env → Prop
  | [] => True
  | (n, v) :: A1 => wk μ (look A n) v ∧ wkF μ A A1

def WkF (V : List Nat) (n0 : Nat) (A : Env) (h : Heap) (A1 : Env) (h1 : Heap) : Prop :=
  ∃ μ : List Mu, fixUp V n0 0 μ = true ∧ nodupB (olds μ) = true ∧ wkF μ A A1 ∧ wkH μ h μ h1

def iterF (V : List Nat) (n0 : Nat) (W : Env → Heap → (Ex → Env → Heap → Prop) → Prop) (K : Ex → Env → Heap → Prop) : Nat → Env → Heap → Prop
  | 0, _, _ => False
  | n + 1, A, h => ∃ A1 h1, WkF V n0 A h A1 h1 ∧ W A1 h1 (fun ex A' h' => match ex with
      | .normal => iterF V n0 W K n A' h'
      | .exit id => K (.exit id) A' h'
      | .ret => K .ret A' h')

def condF (A : Env) (c : Operand) (P Q : Env → Prop) : Prop :=
  match c with
  | .tmp t => lookK A t (fun a => match a with
    | .d (.bool b) => onBool b (P ((t, .d (.bool true)) :: A)) (Q ((t, .d (.bool false)) :: A))
    | _ => False)
  | .const (.bool b) => onBool b (P A) (Q A)
  | _ => False

def cutF (C V : List Nat) (n0 id : Nat) (A : Env) (h : Heap) (K : Env → Heap → Prop) : Prop :=
  match C.any (Nat.beq id) with
  | true => ∃ A1 h1, WkF V n0 A h A1 h1 ∧ K A1 h1
  | false => K A h

noncomputable def codeF (E : TE) (R : Rel) (C V : List Nat) (n0 : Nat) (c : Code) : Env → Heap → (Ex → Env → Heap → Prop) → Prop :=
  Code.rec (motive := fun _ => Env → Heap → (Ex → Env → Heap → Prop) → Prop)
    (skip := fun A h K => K .normal A h)
    (region := fun id ops d A h K => cutF C V n0 id A h (fun A h => match d with
      | false => regF E R ops.toList ops.toList A h (K .normal)
      | true => ∃ fl ps, drawOk (flagE E fl) ops.toList ps = true ∧ drawF (flagE E fl) R ops.toList ps (baseOrder ops.toList) [] A h (K .normal)))
    (seq := fun _ _ x y A h K => x A h (fun ex A h => match ex with
      | .normal => y A h K
      | .exit id => K (.exit id) A h
      | .ret => K .ret A h))
    (cond := fun c _ _ x y A h K => condF A c (fun A => x A h K) (fun A => y A h K))
    (block := fun id _ x A h K => x A h (fun ex A h => match ex with
      | .normal => K .normal A h
      | .exit i => onBool (Nat.beq i id) (K .normal A h) (K (.exit i) A h)
      | .ret => K .ret A h))
    (loop := fun _ x A h K => ∃ n, iterF V n0 x K n A h)
    (rangeFunc := fun _ _ _ _ _ _ _ _ _ => False)
    (exit := fun id A h K => K (.exit id) A h)
    (scope := fun _ _ _ _ _ => False)
    (label := fun _ _ _ _ => False)
    (goto := fun _ _ _ _ => False)
    (ret := fun A h K => K .ret A h)
    (refuse := fun _ _ _ _ => False)
    c

noncomputable def resF (E : TE) (h : Heap) (A : Env) (l : List ResultVar) : (List AV → Prop) → Prop :=
  List.rec (motive := fun _ => (List AV → Prop) → Prop)
    (fun K => K [])
    (fun x _ ih K => match x with
      | .tmp t => lookK A t (fun v => ih (fun r => K (v :: r)))
      | .cell a t => lookK A a (fun a => loadD (E t) a h (fun v => ih (fun r => K (v :: r)))))
    l

/-- What a function's end has to show; a walk stops at it. -/
structure EndX (V : List Nat) (n0 : Nat) (h : Heap) (a r : AV) (h1 : Heap) : Prop where
  stop : Stop
  out : EndR V n0 h a r h1
theorem EndX_eq (V : List Nat) (n0 : Nat) (h : Heap) (a r : AV) (h1 : Heap) : EndX V n0 h a r h1 = (EndR V n0 h a r h1) := propext ⟨fun h => h.out, fun h => ⟨.mk, h⟩⟩

noncomputable def endF (E : TE) (V : List Nat) (n0 : Nat) (rs : List ResultVar) (r : AV) (h1 : Heap) : Ex → Env → Heap → Prop
  | .exit _, _, _ => False
  | .normal, A, h => resF E h A rs (fun l => EndX V n0 h (tupD l) r h1)
  | .ret, A, h => resF E h A rs (fun l => EndX V n0 h (tupD l) r h1)

/-! ### It is the same walk -/

/-- The known temporaries stand for the list of all. -/
def Rep (N : Nat) (T : List AV) (A : Env) : Prop := T.length = N ∧ ∀ n, look A n = nth T n

theorem Rep.opnd {N : Nat} {T : List AV} {A : Env} (h : Rep N T A) : opndF A = opndK T := by
  funext x K
  cases x <;> simp [opndF, opndK, lookK_eq, getK_eq, h.2]

theorem look_cons (m : Nat) (v : AV) (A : Env) (n : Nat) : look ((m, v) :: A) n = if n = m then v else look A n := by
  simp only [look]
  cases hb : Nat.beq m n
  · rw [if_neg (fun e => by subst e; simp [Nat.beq_refl] at hb)]
  · rw [if_pos (Nat.eq_of_beq_eq_true hb).symm]

theorem Rep.set {N : Nat} {T : List AV} {A : Env} (h : Rep N T A) {t : Nat} (ht : t < N) (v : AV) : Rep N (T.set t v) ((t, v) :: A) := by
  refine ⟨by simp [h.1], fun n => ?_⟩
  rw [look_cons, nth_set, h.2, h.1]
  by_cases e : n = t
  · rw [if_pos e, if_pos ⟨e, ht⟩]
  · rw [if_neg e, if_neg (fun x => e x.1)]

def bdO (N : Nat) (o : Oper) : Bool :=
  match o.dst with
  | some t => Nat.blt t N
  | none => true

def bdC (N : Nat) : Code → Bool
  | .region _ ops _ => ops.toList.all (bdO N)
  | .seq a b => bdC N a && bdC N b
  | .cond _ a b => bdC N a && bdC N b
  | .block _ c => bdC N c
  | .loop c => bdC N c
  | _ => true

section
variable {N : Nat} {E : TE} {R : Rel}

theorem dstF_sound {T : List AV} {A : Env} {o : Oper} {v : AV} {K : List AV → Prop} {K' : Env → Prop} (hr : Rep N T A) (hb : bdO N o = true) (hK : ∀ T' A', Rep N T' A' → K' A' → K T') (hk : dstF o.dst v A K') : dstK o.dst v T K := by
  rw [dstK_eq]
  unfold bdO at hb
  cases hd : o.dst with
  | none => rw [hd] at hk; exact hK _ _ hr hk
  | some t =>
    rw [hd] at hk hb
    exact hK _ _ (hr.set (by simpa using hb) v) hk

theorem nth_lt {T : List AV} {t : Nat} {x : AV} (h : nth T t = x) (hx : x ≠ .junk) : t < T.length := by
  rw [nth_get] at h
  by_cases hl : t < T.length
  · exact hl
  · rw [List.getElem?_eq_none (by omega)] at h
    exact absurd h.symm hx

theorem guardF_sound {all : List Oper} {T : List AV} {A : Env} {g : Option (Nat × Bool)} {P Q : List AV → Prop} {P' Q' : Env → Prop} (hr : Rep N T A) (hP : ∀ T' A', Rep N T' A' → P' A' → P T') (hQ : ∀ T' A', Rep N T' A' → Q' A' → Q T') (hk : guardF all A g P' Q') : guardD all T g P Q := by
  unfold guardF at hk
  unfold guardD
  split at hk
  · exact hP _ _ hr hk
  · rename_i j want
    split at hk
    · rename_i t ht
      simp only [ht]
      rw [getK_eq]
      rw [lookK_eq, hr.2] at hk
      split at hk
      · rename_i b hb
        have hl := nth_lt hb (by simp)
        rw [hr.1] at hl
        simp only [hb, setK_eq]
        rcases onBool_spec hk with ⟨h1, h2⟩ | ⟨h1, h2⟩ <;> rcases onBool_spec h2 with ⟨h3, h4⟩ | ⟨h3, h4⟩ <;> subst h1 <;> subst h3 <;> simp only [onBool]
        · exact hP _ _ (hr.set hl _) h4
        · exact hQ _ _ (hr.set hl _) h4
        · exact hQ _ _ (hr.set hl _) h4
        · exact hP _ _ (hr.set hl _) h4
      · rename_i hb
        simp only [hb]
        exact hQ _ _ hr hk
      · exact hk.elim
    · exact hk.elim

theorem opG_sound {T : List AV} {A : Env} {h : Heap} {o : Op} {K K' : KV} (hr : Rep N T A) (hK : ∀ v h', K' v h' → K v h') (hk : opG E R (opndF A) h o K') : opD E R T h o K := by
  rw [hr.opnd, ← opG_eq] at hk
  obtain ⟨v, h', h1, h2⟩ := opD_out hk
  exact h2 K (hK v h' h1)

theorem regF_sound {all : List Oper} : ∀ (l : List Oper) (T : List AV) (A : Env) (h : Heap) (K : List AV → Heap → Prop) (K' : Env → Heap → Prop), l.all (bdO N) = true → Rep N T A → (∀ T' A' h', Rep N T' A' → K' A' h' → K T' h') →
    regF E R all l A h K' → regD E R all l T h K
  | [], T, A, h, K, K', _, hr, hK, hk => hK T A h hr hk
  | o :: l, T, A, h, K, K', hb, hr, hK, hk => by
    simp only [List.all_cons, Bool.and_eq_true] at hb
    rw [regF_cons] at hk
    simp only [regD]
    refine guardF_sound hr (fun T' A' hr' hk' => ?_) (fun T' A' hr' hk' => ?_) hk
    · exact opG_sound hr' (fun v h' hk => dstF_sound hr' hb.1 (fun T2 A2 hr2 hk2 => regF_sound l T2 A2 h' K K' hb.2 hr2 hK hk2) hk) hk'
    · exact dstF_sound hr' hb.1 (fun T2 A2 hr2 hk2 => regF_sound l T2 A2 h K K' hb.2 hr2 hK hk2) hk'

theorem evD_mono {ps : List (Nat × Nat)} {K K' : Prop} (hK : K' → K) : ∀ (e : Ev) (L : List Ev), evD ps e L K' → evD ps e L K
  | e, [], h => by simp only [evD] at h ⊢; exact hK h
  | .read i id, .heap j h h' :: l, hk => by
    simp only [evD] at hk ⊢
    cases hb : memB ps i j <;> simp only [hb, onBool] at hk ⊢
    · exact evD_mono hK _ l hk
    · exact ⟨hk.1, evD_mono hK _ l hk.2⟩
  | .heap j h h', .read i id :: l, hk => by
    simp only [evD] at hk ⊢
    cases hb : memB ps i j <;> simp only [hb, onBool] at hk ⊢
    · exact evD_mono hK _ l hk
    · exact ⟨hk.1, evD_mono hK _ l hk.2⟩
  | .heap j h h', .made i id :: l, hk => by
    simp only [evD] at hk ⊢
    cases hb : memB ps i j <;> simp only [hb, onBool] at hk ⊢
    · exact evD_mono hK _ l hk
    · exact ⟨hk.1, evD_mono hK _ l hk.2⟩
  | .read i id, .read j jd :: l, hk => by simp only [evD] at hk ⊢; exact evD_mono hK _ l hk
  | .read i id, .made j jd :: l, hk => by simp only [evD] at hk ⊢; exact evD_mono hK _ l hk
  | .made i id, .read j jd :: l, hk => by simp only [evD] at hk ⊢; exact evD_mono hK _ l hk
  | .made i id, .made j jd :: l, hk => by simp only [evD] at hk ⊢; exact evD_mono hK _ l hk
  | .made i id, .heap j h h' :: l, hk => by simp only [evD] at hk ⊢; exact evD_mono hK _ l hk
  | .heap i g g', .heap j h h' :: l, hk => by simp only [evD] at hk ⊢; exact evD_mono hK _ l hk

theorem drawF_sound {all : List Oper} {ps : List (Nat × Nat)} : ∀ (l : List (Nat × Oper)) (L : List Ev) (T : List AV) (A : Env) (h : Heap) (K : List AV → Heap → Prop) (K' : Env → Heap → Prop), l.all (fun p => bdO N p.2) = true → Rep N T A →
    (∀ T' A' h', Rep N T' A' → K' A' h' → K T' h') → drawF E R all ps l L A h K' → drawR E R all ps l L T h K
  | [], L, T, A, h, K, K', _, hr, hK, hk => hK T A h hr hk
  | (i, o) :: l, L, T, A, h, K, K', hb, hr, hK, hk => by
    simp only [List.all_cons, Bool.and_eq_true] at hb
    rw [drawF_cons] at hk
    simp only [drawR]
    refine guardF_sound hr (fun T' A' hr' hk' => ?_) (fun T' A' hr' hk' => ?_) hk
    · refine opG_sound hr' (fun v h' hk => dstF_sound hr' hb.1 (fun T2 A2 hr2 hk2 => ?_) hk) hk'
      have ih := fun (L : List Ev) (hk : drawF E R all ps l L A2 h' K') => drawF_sound (all := all) (ps := ps) l L T2 A2 h' K K' hb.2 hr2 hK hk
      revert hk2
      cases cls E o.op with
      | zero => exact fun hk2 => ih _ hk2
      | succ c =>
        cases c with
        | zero =>
          intro hk2
          simp only [hr'.opnd, ← readsF_eq] at hk2
          show readsK T' o.op _
          cases hop : o.op <;> rw [hop] at hk2 <;> simp only [readsK, opndK_eq] at hk2 ⊢ <;> first
            | exact ih _ hk2
            | (split at hk2
               · exact evD_mono (ih _) _ _ hk2
               · exact ih _ hk2)
        | succ c =>
          cases c with
          | zero =>
            cases v <;> intro hk2 <;> first
              | exact ih _ hk2
              | exact hk2.elim
          | succ c => exact fun hk2 => evD_mono (ih _) _ _ hk2
    · exact dstF_sound hr' hb.1 (fun T2 A2 hr2 hk2 => drawF_sound l L T2 A2 h K K' hb.2 hr2 hK hk2) hk'

theorem wkF_look {μ : List Mu} {A : Env} : ∀ {A1 : Env}, wkF μ A A1 → ∀ n, wk μ (look A n) (look A1 n)
  | [], _, n => by simp only [look]; unfold wk; trivial
  | (m, v) :: A1, h, n => by
    rw [look_cons]
    by_cases e : n = m
    · rw [if_pos e, e]; exact h.1
    · rw [if_neg e]; exact wkF_look h.2 n

theorem wks_map {μ : List Mu} (f : Nat → AV) : ∀ (T : List AV) (k : Nat), (∀ n, n < T.length → wk μ (nth T n) (f (k + n))) → wks μ T ((List.range' k T.length).map f)
  | [], k, h => by simp [wks]
  | a :: T, k, h => by
    simp only [List.length_cons, List.range'_succ, List.map_cons, wks]
    refine ⟨by have := h 0 (by simp); simpa [nth] using this, wks_map f T (k + 1) fun n hn => ?_⟩
    have := h (n + 1) (by simpa using hn)
    rw [show k + (n + 1) = k + 1 + n by omega] at this
    simpa [nth] using this

theorem nth_map (f : Nat → AV) (N n : Nat) : nth ((List.range' 0 N).map f) n = if n < N then f n else .junk := by
  rw [nth_get]
  by_cases h : n < N
  · simp [h]
  · simp [h]

theorem WkF.to {n0 : Nat} {V : List Nat} {T : List AV} {A A1 : Env} {h h1 : Heap} (hr : Rep N T A) (hk : WkF V n0 A h A1 h1) : ∃ T1, Rep N T1 A1 ∧ Wk V n0 T h T1 h1 := by
  obtain ⟨μ, h1, h2, h3, h4⟩ := hk
  refine ⟨(List.range' 0 T.length).map (look A1), ⟨by simp [hr.1], fun n => ?_⟩, μ, h1, h2, wks_map _ _ _ fun n hn => ?_, h4⟩
  · rw [nth_map]
    by_cases hn : n < T.length
    · rw [if_pos hn]
    · rw [if_neg hn]
      have := wkF_look h3 n
      rw [hr.2, nth_get, List.getElem?_eq_none (by omega)] at this
      simp only [Option.getD_none] at this
      revert this
      cases look A1 n <;> simp [wk]
  · have := wkF_look h3 n
    rw [hr.2] at this
    simpa using this

theorem condF_sound {T : List AV} {A : Env} {c : Operand} {P Q : List AV → Prop} {P' Q' : Env → Prop} (hr : Rep N T A) (hP : ∀ T' A', Rep N T' A' → P' A' → P T') (hQ : ∀ T' A', Rep N T' A' → Q' A' → Q T') (hk : condF A c P' Q') : condK T c P Q := by
  unfold condF at hk
  unfold condK
  split at hk
  · rename_i t
    simp only [getK_eq]
    rw [lookK_eq, hr.2] at hk
    split at hk
    · rename_i b hb
      have hl := nth_lt hb (by simp)
      rw [hr.1] at hl
      simp only [hb, setK_eq]
      rcases onBool_spec hk with ⟨h1, h2⟩ | ⟨h1, h2⟩ <;> subst h1 <;> simp only [onBool]
      · exact hP _ _ (hr.set hl _) h2
      · exact hQ _ _ (hr.set hl _) h2
    · exact hk.elim
  · rename_i b
    simp only
    rcases onBool_spec hk with ⟨h1, h2⟩ | ⟨h1, h2⟩ <;> subst h1 <;> simp only [onBool]
    · exact hP _ _ hr h2
    · exact hQ _ _ hr h2
  · exact hk.elim

theorem baseOrder_all {p : Oper → Bool} {ops : List Oper} (h : ops.all p = true) : (baseOrder ops).all (fun x => p x.2) = true := by
  have hn : ∀ (l : List Oper) (n : Nat), l.all p = true → ∀ x ∈ number l n, p x.2 = true := by
    intro l
    induction l with
    | nil => intro n _ x hx; simp [number] at hx
    | cons o l ih =>
      intro n hl x hx
      simp only [List.all_cons, Bool.and_eq_true] at hl
      simp only [number, List.mem_cons] at hx
      rcases hx with rfl | hx
      · exact hl.1
      · exact ih _ hl.2 x hx
  rw [List.all_eq_true]
  intro x hx
  simp only [baseOrder, List.mem_append, List.mem_filter] at hx
  rcases hx with hx | hx
  · exact hn ops 0 h x hx.1
  · exact hn ops 0 h x hx.1

theorem cutF_sound {n0 id : Nat} {C V : List Nat} {T : List AV} {A : Env} {h : Heap} {K : List AV → Heap → Prop} {K' : Env → Heap → Prop} (hr : Rep N T A) (hK : ∀ T A h, Rep N T A → K' A h → K T h) (hk : cutF C V n0 id A h K') : cutD C V n0 id T h K := by
  unfold cutF at hk
  unfold cutD
  split at hk
  · rename_i hc
    simp only [hc]
    obtain ⟨A1, h1, k1, k2⟩ := hk
    obtain ⟨T1, r1, r2⟩ := k1.to hr
    exact ⟨T1, h1, r2, hK _ _ _ r1 k2⟩
  · rename_i hc
    simp only [hc]
    exact hK _ _ _ hr hk

theorem codeF_sound {n0 : Nat} {C V : List Nat} : ∀ (c : Code) (T : List AV) (A : Env) (h : Heap) (K : Ex → List AV → Heap → Prop) (K' : Ex → Env → Heap → Prop), bdC N c = true → Rep N T A → (∀ ex T' A' h', Rep N T' A' → K' ex A' h' → K ex T' h') →
    codeF E R C V n0 c A h K' → codeD E R C V n0 c T h K
  | .skip, T, A, h, K, K', _, hr, hK, hk => by
    simp only [codeD]
    exact hK _ _ _ _ hr hk
  | .region id ops false, T, A, h, K, K', hb, hr, hK, hk => by
    simp only [codeD]
    refine cutF_sound (C := C) (V := V) (n0 := n0) (id := id) hr (fun T A h hr hk => ?_) hk
    exact regF_sound _ T A h _ _ (by simpa only [bdC] using hb) hr (fun T' A' h' hr' hk' => hK _ T' A' h' hr' hk') hk
  | .region id ops true, T, A, h, K, K', hb, hr, hK, hk => by
    simp only [codeD, drawD]
    refine cutF_sound (C := C) (V := V) (n0 := n0) (id := id) hr (fun T A h hr hk => ?_) hk
    obtain ⟨fl, ps, h1, h2⟩ := hk
    exact ⟨fl, ps, h1, drawF_sound _ _ T A h _ _ (baseOrder_all (by simpa only [bdC] using hb)) hr (fun T' A' h' hr' hk' => hK _ T' A' h' hr' hk') h2⟩
  | .seq x y, T, A, h, K, K', hb, hr, hK, hk => by
    simp only [bdC, Bool.and_eq_true] at hb
    simp only [codeD]
    refine codeF_sound x T A h _ _ hb.1 hr (fun ex T' A' h' hr' hk' => ?_) hk
    cases ex with
    | normal => exact codeF_sound y T' A' h' K K' hb.2 hr' hK hk'
    | exit id => exact hK _ _ _ _ hr' hk'
    | ret => exact hK _ _ _ _ hr' hk'
  | .cond c x y, T, A, h, K, K', hb, hr, hK, hk => by
    simp only [bdC, Bool.and_eq_true] at hb
    simp only [codeD]
    exact condF_sound hr (fun T' A' hr' hk' => codeF_sound x T' A' h K K' hb.1 hr' hK hk') (fun T' A' hr' hk' => codeF_sound y T' A' h K K' hb.2 hr' hK hk') hk
  | .block id c, T, A, h, K, K', hb, hr, hK, hk => by
    simp only [bdC] at hb
    simp only [codeD]
    refine codeF_sound c T A h _ _ hb hr (fun ex T' A' h' hr' hk' => ?_) hk
    cases ex with
    | normal => exact hK _ _ _ _ hr' hk'
    | exit i =>
      rcases onBool_spec hk' with ⟨h1, h2⟩ | ⟨h1, h2⟩
      · exact onBool_t h1 (hK _ _ _ _ hr' h2)
      · exact onBool_f h1 (hK _ _ _ _ hr' h2)
    | ret => exact hK _ _ _ _ hr' hk'
  | .loop c, T, A, h, K, K', hb, hr, hK, hk => by
    simp only [bdC] at hb
    simp only [codeD]
    obtain ⟨n, hk⟩ := hk
    refine ⟨n, ?_⟩
    have key : ∀ n T A h, Rep N T A → iterF V n0 (codeF E R C V n0 c) K' n A h → iterD V n0 (codeD E R C V n0 c) K n T h := by
      intro n
      induction n with
      | zero => intro T A h _ hk; exact hk.elim
      | succ n ih =>
        rintro T A h hr ⟨A1, h1, k1, k2⟩
        obtain ⟨T1, r1, r2⟩ := k1.to hr
        refine ⟨T1, h1, r2, codeF_sound c T1 A1 h1 _ _ hb r1 (fun ex T' A' h' hr' hk' => ?_) k2⟩
        cases ex with
        | normal => exact ih _ _ _ hr' hk'
        | exit id => exact hK _ _ _ _ hr' hk'
        | ret => exact hK _ _ _ _ hr' hk'
    exact key n T A h hr hk
  | .exit id, T, A, h, K, K', _, hr, hK, hk => by
    simp only [codeD]
    exact hK _ _ _ _ hr hk
  | .ret, T, A, h, K, K', _, hr, hK, hk => by
    simp only [codeD]
    exact hK _ _ _ _ hr hk
  | .rangeFunc .., _, _, _, _, _, _, _, _, hk => hk.elim
  | .scope .., _, _, _, _, _, _, _, _, hk => hk.elim
  | .label .., _, _, _, _, _, _, _, _, hk => hk.elim
  | .goto .., _, _, _, _, _, _, _, _, hk => hk.elim
  | .refuse .., _, _, _, _, _, _, _, _, hk => hk.elim

theorem resF_sound {h : Heap} {T : List AV} {A : Env} (hr : Rep N T A) : ∀ (rs : List ResultVar) (K : List AV → Prop), resF E h A rs K → resD E h T rs K
  | [], K, hk => hk
  | .tmp t :: l, K, hk => by
    have hk : lookK A t (fun v => resF E h A l (fun r => K (v :: r))) := hk
    rw [lookK_eq, hr.2] at hk
    simp only [resD, getK_eq]
    exact resF_sound hr l _ hk
  | .cell a t :: l, K, hk => by
    have hk : lookK A a (fun a => loadD (E t) a h (fun v => resF E h A l (fun r => K (v :: r)))) := hk
    rw [lookK_eq, hr.2] at hk
    simp only [resD, getK_eq]
    obtain ⟨v, k1, k2⟩ := out_loadD _ _ _ _ hk
    exact k2 _ (resF_sound hr l _ k1)

end

theorem endX_sound {N : Nat} {E : TE} {h : Heap} {T : List AV} {A : Env} (hr : Rep N T A) {rs : List ResultVar} {n0 : Nat} {V : List Nat} {r : AV} {h1 : Heap} (hk : resF E h A rs (fun l => EndX V n0 h (tupD l) r h1)) : resD E h T rs (fun l => EndR V n0 h (tupD l) r h1) := by
  simp only [EndX_eq] at hk
  exact resF_sound hr _ _ hk

/-- What is known at a function's start. -/
def startF : Nat → List AV → Env
  | _, [] => []
  | k, a :: l => (k, a) :: startF (k + 1) l

theorem look_startF : ∀ (l : List AV) (k n : Nat), look (startF k l) n = if k ≤ n then nth l (n - k) else .junk
  | [], k, n => by simp [startF, look, nth]
  | a :: l, k, n => by
    simp only [startF]
    rw [look_cons, look_startF l]
    by_cases e : n = k
    · subst e; simp [nth]
    · rw [if_neg e]
      by_cases h : k ≤ n
      · rw [if_pos h, if_pos (by omega), show n - k = (n - (k + 1)) + 1 by omega]; rfl
      · rw [if_neg h, if_neg (by omega)]

/-! Objects that the arguments lead to: they are there. -/

def hasB : Nat → AV → Nat → Bool
  | 0, _, _ => false
  | _ + 1, .ptr i _ _, j => Nat.beq i j
  | _ + 1, .sl i _ _ _ _, j => Nat.beq i j
  | n + 1, .agg l, j => l.any (fun x => hasB n x j)
  | n + 1, .fn _ a c, j => a.any (fun x => hasB n x j) || c.any (fun x => hasB n x j)
  | n + 1, .tup l, j => l.any (fun x => hasB n x j)
  | _, _, _ => false

def seenB (h : Heap) (args : List AV) : List Nat → List Nat → Bool
  | _, [] => true
  | acc, j :: l => (args.any (fun a => hasB 4 a j) || acc.any (fun i => match h[i]? with
    | some o => Nat.blt o.st 2 && o.elems.any (fun x => hasB 4 x j)
    | none => false)) && seenB h args (acc ++ [j]) l

theorem aCs_mem {w : World} {st : St} : ∀ {l : List AV} {us : List Value} {x : AV}, aCs w st l us → x ∈ l → ∃ v, aC w st x [v]
  | [], _, _, _, hx => by cases hx
  | y :: l, us, x, h, hx => by
    simp only [aCs] at h
    obtain ⟨v, r, _, _, h3, h4⟩ := h
    rcases List.mem_cons.1 hx with rfl | hx
    · exact ⟨v, h3⟩
    · exact aCs_mem h4 hx

theorem aVs_mem {w : World} {st : St} : ∀ {l : List AV} {us : List Value} {x : AV}, aVs w st l us → x ∈ l → ∃ vs, aC w st x vs
  | [], _, _, _, hx => by cases hx
  | y :: l, us, x, h, hx => by
    simp only [aVs] at h
    obtain ⟨v, r, ws, _, _, h3, h4⟩ := h
    rcases List.mem_cons.1 hx with rfl | hx
    · exact ⟨ws, h3⟩
    · exact aVs_mem h4 hx

theorem hasB_sound {w : World} {st : St} {j : Nat} : ∀ (n : Nat) (x : AV) (us : List Value), hasB n x j = true → aC w st x us → ¬ st.G j
  | 0, x, us, h, _ => by simp [hasB] at h
  | n + 1, .ptr i e o, us, h, hc => by
    have := Nat.eq_of_beq_eq_true h
    subst this
    simp only [aC] at hc
    obtain ⟨b, o', _, _, h4, _⟩ := hc
    exact h4
  | n + 1, .sl i s l k c, us, h, hc => by
    have := Nat.eq_of_beq_eq_true h
    subst this
    simp only [aC] at hc
    obtain ⟨a, c, _, _, h4, _⟩ := hc
    exact h4
  | n + 1, .agg l, us, h, hc => by
    simp only [hasB, List.any_eq_true] at h
    obtain ⟨x, hx, hj⟩ := h
    simp only [aC] at hc
    obtain ⟨v, hv⟩ := aCs_mem hc hx
    exact hasB_sound n x _ hj hv
  | n + 1, .fn f a c, us, h, hc => by
    simp only [hasB, Bool.or_eq_true, List.any_eq_true] at h
    simp only [aC] at hc
    obtain ⟨u, t, _, h2, h3⟩ := hc
    rcases h with ⟨x, hx, hj⟩ | ⟨x, hx, hj⟩
    · obtain ⟨v, hv⟩ := aVs_mem h2 hx
      exact hasB_sound n x _ hj hv
    · obtain ⟨v, hv⟩ := aVs_mem h3 hx
      exact hasB_sound n x _ hj hv
  | n + 1, .tup l, us, h, hc => by
    simp only [hasB, List.any_eq_true] at h
    obtain ⟨x, hx, hj⟩ := h
    simp only [aC] at hc
    obtain ⟨u, _, h2⟩ := hc
    obtain ⟨v, hv⟩ := aVs_mem h2 hx
    exact hasB_sound n x _ hj hv
  | n + 1, .d _, us, h, _ => by simp [hasB] at h
  | n + 1, .nilS, us, h, _ => by simp [hasB] at h
  | n + 1, .raw _, us, h, _ => by simp [hasB] at h
  | n + 1, .und, us, h, _ => by simp [hasB] at h
  | n + 1, .junk, us, h, _ => by simp [hasB] at h

theorem seenB_sound {B : Nat} {W w : World} {st : St} {h : Heap} {args : List AV} {vs : List Value} (hw : WR B W w st h) (ha : aVs w st args vs) : ∀ (l acc : List Nat), (∀ i ∈ acc, ¬ st.G i) → seenB h args acc l = true → ∀ i ∈ l, ¬ st.G i
  | [], _, _, _, i, hi => by cases hi
  | j :: l, acc, hacc, hs, i, hi => by
    simp only [seenB, Bool.and_eq_true, Bool.or_eq_true, List.any_eq_true] at hs
    obtain ⟨h1, h2⟩ := hs
    have hj : ¬ st.G j := by
      rcases h1 with ⟨a, ha1, ha2⟩ | ⟨k, hk1, hk2⟩
      · obtain ⟨us, hus⟩ := aVs_mem ha ha1
        exact hasB_sound 4 a us ha2 hus
      · split at hk2
        · rename_i o ho
          simp only [Bool.and_eq_true, List.any_eq_true, Nat.blt_eq] at hk2
          obtain ⟨hst, x, hx, hxj⟩ := hk2
          obtain ⟨r, r1, r2⟩ := hw.obj k o ho hst (hacc k hk1)
          obtain ⟨n, hn, hnx⟩ := List.getElem_of_mem hx
          have hm : r.m ≠ 0 := by have := r2.n; have := r2.m; omega
          obtain ⟨_, _, _, _, _, _, _, b5⟩ := r2.mem hm
          obtain ⟨us, _, u2, _⟩ := b5 n x (by rw [List.getElem?_eq_getElem hn, hnx])
          exact hasB_sound 4 x us hxj u2
        · cases hk2
    rcases List.mem_cons.1 hi with rfl | hi
    · exact hj
    · exact seenB_sound hw ha l (acc ++ [j]) (fun i hi => by
        rcases List.mem_append.1 hi with h | h
        · exact hacc i h
        · simp at h; subst h; exact hj) h2 i hi

noncomputable def BodyF (E : TE) (R : Rel) (C V : List Nat) (fn : Func) (args : List AV) (h : Heap) (r : AV) (h1 : Heap) : Prop :=
  match fn.body with
  | some c => codeF E R C V h.length c (startF 0 args) h (endF E V h.length fn.results.toList r h1)
  | none => False

def bdF (fn : Func) : Bool :=
  match fn.body with
  | some c => bdC fn.ntmps c
  | none => false

section
variable {P : Program} {E : TE} (hE : EOK P E)
include hE

theorem bodyF_calls {f : Nat} {fn : Func} (hf : P.funcs[f]? = some fn) (hbd : bdF fn = true) {args : List AV} {h h1 : Heap} {r : AV} {C V : List Nat} (hV : seenB h args [] V = true) (hk : BodyF E (Run P) C V fn args h r h1)
    {B : Nat} {W w : World} {st : St} {vs : List Value} (hw : WR B W w st h) (ha : aVs w st args vs) : Calls P f vs.toArray w (fun e w' => ∃ v, e = .returned v ∧ RunPost B W w st r h1 v w') := by
  unfold BodyF at hk
  unfold bdF at hbd
  split at hk
  · rename_i c hc
    simp only [hc] at hbd
    refine calls_of_wp hf hc ?_
    have hl := ((aVs_iff _ _).1 ha).1
    have hg0 : ∀ i, st.G i → i < st.n := hw.gho
    have hlen := hw.len
    have hv0 : ∀ i ∈ V, ¬ st.G i := seenB_sound hw ha V [] (fun _ h => by cases h) hV
    have hT : aT w st (args ++ List.replicate (fn.ntmps - args.length) .junk) (vs.toArray ++ Array.replicate (fn.ntmps - vs.toArray.size) undef) := by
      refine ⟨by simp [hl], fun i => ?_⟩
      rw [nth_get]
      by_cases hi : i < args.length
      · have h1 : (args ++ List.replicate (fn.ntmps - args.length) AV.junk)[i]? = some args[i] := by rw [List.getElem?_append_left hi]; exact List.getElem?_eq_getElem hi
        have h2 : (vs.toArray ++ Array.replicate (fn.ntmps - vs.toArray.size) undef).getD i undef = vs[i] := by
          simp [Array.getElem?_append, hl, hi]
        rw [h1, h2]
        exact ((aVs_iff _ _).1 ha).2 i _ _ (List.getElem?_eq_getElem hi) (List.getElem?_eq_getElem (by omega))
      · have h1 : ((args ++ List.replicate (fn.ntmps - args.length) AV.junk)[i]?).getD .junk = .junk := by
          rw [List.getElem?_append_right (by omega), List.getElem?_replicate]
          split <;> rfl
        rw [h1]
        exact aV_junk _ _ _
    by_cases hN : args.length ≤ fn.ntmps
    · have hr : Rep fn.ntmps (args ++ List.replicate (fn.ntmps - args.length) .junk) (startF 0 args) := by
        refine ⟨by simp; omega, fun n => ?_⟩
        rw [look_startF, if_pos (Nat.zero_le _), Nat.sub_zero, nth_get, nth_get]
        by_cases hi : n < args.length
        · rw [List.getElem?_append_left hi]
        · rw [List.getElem?_append_right (by omega), List.getElem?_eq_none (by omega), List.getElem?_replicate]
          split <;> rfl
      have hk := codeF_sound (N := fn.ntmps) c _ _ h (endD E V h.length fn.results.toList r h1) _ hbd hr (fun ex T' A' h' hr' hk' => by
        cases ex with
        | normal => exact endX_sound hr' hk'
        | exit id => exact hk'.elim
        | ret => exact endX_sound hr' hk') hk
      refine codeD_sound hE (drawSound hE) (B := B) (W := W) (w0 := w) (st0 := st) (n0 := h.length) (C := C) (V := V) hg0 (by omega) hv0 c _ h _ w _ _ ?_ ⟨rfl, st, hw, hT, Ext.refl _ _, rfl⟩ hk
      intro ex T h' a w' hk hI
      cases ex with
      | exit id => exact hk.elim
      | normal =>
        simp only [endD] at hk
        rw [← hlen] at hk
        obtain ⟨hd, v, h1, h2⟩ := endD_sound hE hI hg0 hv0 hk
        exact ⟨hd, v, h1, v, rfl, h2⟩
      | ret =>
        simp only [endD] at hk
        rw [← hlen] at hk
        obtain ⟨hd, v, h1, h2⟩ := endD_sound hE hI hg0 hv0 hk
        exact ⟨hd, v, h1, v, rfl, h2⟩
    · have hr : Rep args.length (args ++ List.replicate (fn.ntmps - args.length) .junk) (startF 0 args) := by
        have h0 : fn.ntmps - args.length = 0 := by omega
        rw [h0]
        refine ⟨by simp, fun n => ?_⟩
        rw [look_startF, if_pos (Nat.zero_le _), Nat.sub_zero]
        simp
      have hbd' : bdC args.length c = true := by
        have hm : ∀ (o : Oper), bdO fn.ntmps o = true → bdO args.length o = true := by
          intro o ho
          cases hd : o.dst with
          | none => simp [bdO, hd]
          | some t =>
            simp only [bdO, hd, Nat.blt_eq] at ho ⊢
            omega
        have hc : ∀ (c : Code), bdC fn.ntmps c = true → bdC args.length c = true := by
          intro c
          induction c using bdC.induct with
          | case1 _ ops _ => intro h; simp only [bdC, List.all_eq_true] at h ⊢; exact fun o ho => hm o (h o ho)
          | case2 a b iha ihb => intro h; simp only [bdC, Bool.and_eq_true] at h ⊢; exact ⟨iha h.1, ihb h.2⟩
          | case3 _ a b iha ihb => intro h; simp only [bdC, Bool.and_eq_true] at h ⊢; exact ⟨iha h.1, ihb h.2⟩
          | case4 _ c ih => intro h; simp only [bdC] at h ⊢; exact ih h
          | case5 c ih => intro h; simp only [bdC] at h ⊢; exact ih h
          | case6 => intro h; simp_all [bdC]
        exact hc c hbd
      have hk := codeF_sound (N := args.length) c _ _ h (endD E V h.length fn.results.toList r h1) _ hbd' hr (fun ex T' A' h' hr' hk' => by
        cases ex with
        | normal => exact endX_sound hr' hk'
        | exit id => exact hk'.elim
        | ret => exact endX_sound hr' hk') hk
      refine codeD_sound hE (drawSound hE) (B := B) (W := W) (w0 := w) (st0 := st) (n0 := h.length) (C := C) (V := V) hg0 (by omega) hv0 c _ h _ w _ _ ?_ ⟨rfl, st, hw, hT, Ext.refl _ _, rfl⟩ hk
      intro ex T h' a w' hk hI
      cases ex with
      | exit id => exact hk.elim
      | normal =>
        simp only [endD] at hk
        rw [← hlen] at hk
        obtain ⟨hd, v, h1, h2⟩ := endD_sound hE hI hg0 hv0 hk
        exact ⟨hd, v, h1, v, rfl, h2⟩
      | ret =>
        simp only [endD] at hk
        rw [← hlen] at hk
        obtain ⟨hd, v, h1, h2⟩ := endD_sound hE hI hg0 hv0 hk
        exact ⟨hd, v, h1, v, rfl, h2⟩
  · exact hk.elim

/-- A function's contract, from a walk through its body. -/
theorem run_walkV {f : Nat} {fn : Func} (hf : P.funcs[f]? = some fn) (hn : (fn.name == "runtime.NumGoroutine") = false) (hbd : bdF fn = true) {args : List AV} {h h1 : Heap} {r : AV} (V : List Nat) (hV : seenB h args [] V = true) (C : List Nat) (hk : BodyF E (Run P) C V fn args h r h1) : Run P f args h r h1 := by
  intro B W w st vs hw ha
  have hb : fn.body.isNone = false := by
    unfold bdF at hbd
    split at hbd
    · rename_i c hc; simp [hc]
    · cases hbd
  have hc : (callFunc f vs.toArray).run P w = .ok (.enter f vs.toArray) w := by
    simp only [callFunc, Sem.run_bind, run_program, Result.andThen_ok, hf, hn, hb, Bool.false_eq_true, if_false, Sem.run_pure]
  rw [hc]
  exact bodyF_calls hE hf hbd hV hk hw ha

end

/-- The same, where no object is given away. -/
theorem run_walkF {P : Program} {E : TE} (hE : EOK P E) {f : Nat} {fn : Func} (hf : P.funcs[f]? = some fn) (hn : (fn.name == "runtime.NumGoroutine") = false) (hbd : bdF fn = true) {args : List AV} {h h1 : Heap} {r : AV} (hk : BodyF E (Run P) [] [] fn args h r h1) : Run P f args h r h1 :=
  run_walkV hE hf hn hbd [] rfl [] hk

/-- A loop: states s, what is known of the temporaries and the heap at its head, a number that goes down. -/
theorem loopF {σ : Type} {n0 : Nat} {V : List Nat} {W : Env → Heap → (Ex → Env → Heap → Prop) → Prop} {K : Ex → Env → Heap → Prop} {A : Env} {h : Heap} (m : σ → Nat) (I : σ → Prop) (As : σ → Env) (hs : σ → Heap) (s0 : σ)
    (h0 : I s0) (hw : WkF V n0 A h (As s0) (hs s0))
    (step : ∀ (s : σ) (C : Env → Heap → Prop), I s → (∀ s' A' h', I s' → m s' < m s → WkF V n0 A' h' (As s') (hs s') → C A' h') →
      W (As s) (hs s) (fun ex A' h' => match ex with
        | .normal => C A' h'
        | .exit id => K (.exit id) A' h'
        | .ret => K .ret A' h')) : ∃ n, iterF V n0 W K n A h := by
  have key : ∀ n A h s, m s < n → I s → WkF V n0 A h (As s) (hs s) → iterF V n0 W K n A h := by
    intro n
    induction n with
    | zero => intro A h s hm; omega
    | succ n ih =>
      intro A h s hm hI hk
      exact ⟨As s, hs s, hk, step s (iterF V n0 W K n) hI fun s' A' h' hI' hm' hk' => ih A' h' s' (by omega) hI' hk'⟩
  exact ⟨m s0 + 1, key _ A h s0 (Nat.lt_succ_self _) h0 hw⟩


/-! ### Steps of a walk -/

theorem wrap_in {k : IntKind} {x : Int} {K : Int → Prop} (h : k.wrap x = x) (hk : K x) : wrapK k x K := by
  rw [wrapK_eq]; rw [h]; exact hk
theorem wrap_raw {k : IntKind} {x : Int} {K : Int → Prop} (hk : K (k.wrap x)) : wrapK k x K := by
  rw [wrapK_eq]; exact hk
theorem wrap64 {x : Int} {K : Int → Prop} (h : -9223372036854775808 ≤ x ∧ x ≤ 9223372036854775807) (hk : K x) : wrapK .i64 x K := wrap_in (Go.IntWalk.i64_in _ (by omega)) hk
theorem wrapU8 {x : Int} {K : Int → Prop} (h : 0 ≤ x ∧ x ≤ 255) (hk : K x) : wrapK .u8 x K := wrap_in (by simp only [IntKind.wrap, IntKind.bits, IntKind.signed, Bool.false_and, Bool.false_eq_true, if_false]; omega) hk
theorem wrapU16 {x : Int} {K : Int → Prop} (h : 0 ≤ x ∧ x ≤ 65535) (hk : K x) : wrapK .u16 x K := wrap_in (by simp only [IntKind.wrap, IntKind.bits, IntKind.signed, Bool.false_and, Bool.false_eq_true, if_false]; omega) hk
theorem wrapU32 {x : Int} {K : Int → Prop} (h : 0 ≤ x ∧ x ≤ 4294967295) (hk : K x) : wrapK .u32 x K := wrap_in (by simp only [IntKind.wrap, IntKind.bits, IntKind.signed, Bool.false_and, Bool.false_eq_true, if_false]; omega) hk
theorem wrapU64 {x : Int} {K : Int → Prop} (h : 0 ≤ x ∧ x ≤ 18446744073709551615) (hk : K x) : wrapK .u64 x K := wrap_in (by simp only [IntKind.wrap, IntKind.bits, IntKind.signed, Bool.false_and, Bool.false_eq_true, if_false]; omega) hk
theorem div64 {a b : Int} {K : Int → Prop} (h : 0 ≤ a ∧ a ≤ 9223372036854775807 ∧ 0 < b) (hk : K (a / b)) : divK .i64 a b K := by
  rw [divK_eq]
  have hb : (!decide (b = 0)) = true := by simp; omega
  refine onOk_of hb ?_
  have h1 : a.tdiv b = a / b := Int.tdiv_eq_ediv_of_nonneg h.1
  have h2 : 0 ≤ a / b := Int.ediv_nonneg h.1 (by omega)
  have h3 : a / b ≤ a := Int.ediv_le_self b h.1
  rw [h1, Go.IntWalk.i64_in _ (by omega)]
  exact hk
theorem rem_nn {a b : Int} {K : Int → Prop} (h : 0 ≤ a ∧ 0 < b) (hk : K (a % b)) : remK a b K := by
  rw [remK_eq]
  have hb : (!decide (b = 0)) = true := by simp; omega
  refine onOk_of hb ?_
  rw [Int.tmod_eq_emod_of_nonneg h.1]
  exact hk
theorem bit_raw {op : BinOp} {k : IntKind} {a b : Int} {K : Int → Prop} (hk : K (bitsOf op k a b)) : bitK op k a b K := by
  rw [bitK_eq]; exact hk
theorem shl_at {k : IntKind} {a b : Int} {K : Int → Prop} (p : Int) (h0 : decide (0 ≤ b) = true) (h : (2 : Int) ^ (min b.toNat k.bits) = p) (hk : wrapK k (a * p) K) : shlK k a b K := by
  rw [shlK_eq]; rw [wrapK_eq] at hk
  refine onOk_of h0 ?_
  rw [h]; exact hk
theorem shr_at {k : IntKind} {a b : Int} {K : Int → Prop} (p : Int) (h0 : decide (0 ≤ b) = true) (h : (2 : Int) ^ (min b.toNat k.bits) = p) (hp : decide (0 ≤ p) = true) (hk : K (a / p)) : shrK k a b K := by
  rw [shrK_eq]
  refine onOk_of h0 ?_
  rw [h, Int.fdiv_eq_ediv_of_nonneg a (by simpa using hp)]; exact hk

theorem on_dec {p : Prop} [Decidable p] {A B : Prop} (ht : p → A) (hf : ¬ p → B) : onBool (decide p) A B :=
  onBool_split (fun h => ht (of_decide_eq_true h)) (fun h => hf (of_decide_eq_false h))
theorem on_dec_t {p : Prop} [Decidable p] {A B : Prop} (hp : p) (ha : A) : onBool (decide p) A B := onBool_t (decide_eq_true hp) ha
theorem on_dec_f {p : Prop} [Decidable p] {A B : Prop} (hp : ¬ p) (hb : B) : onBool (decide p) A B := onBool_f (decide_eq_false hp) hb
theorem on_ndec {p : Prop} [Decidable p] {A B : Prop} (ht : ¬ p → A) (hf : p → B) : onBool (!decide p) A B :=
  onBool_split (fun h => ht (by simpa using h)) (fun h => hf (by simpa using h))
theorem on_not {b : Bool} {A B : Prop} (ht : b = false → A) (hf : b = true → B) : onBool (!b) A B :=
  onBool_split (fun h => ht (by simpa using h)) (fun h => hf (by simpa using h))

/-- An element of a list of data at a number. -/
theorem ix_map {α : Type} {f : α → D} {l : List α} {k : Nat} {K : D → Prop} (h : k < l.length) (hk : K (f l[k])) : 0 ≤ (k : Int) ∧ nthK (l.map f) ((k : Int).toNat) K :=
  ⟨by omega, nthK_of (x := f l[k]) (by simp [h]) hk⟩
theorem ix_str {s : List UInt8} {k : Nat} {K : UInt8 → Prop} (h : k < s.length) (hk : K s[k]) : 0 ≤ (k : Int) ∧ nthK s ((k : Int).toNat) K :=
  ⟨by omega, nthK_of (x := s[k]) (by simp [h]) hk⟩
theorem ix_at {α : Type} {f : α → D} {l : List α} {n : Int} (k : Nat) (hn : n = k) {K : D → Prop} (h : k < l.length) (hk : K (f l[k])) : 0 ≤ n ∧ nthK (l.map f) n.toNat K := by
  subst hn; exact ix_map h hk

theorem endX_of {V : List Nat} {n0 : Nat} {h : Heap} {a r : AV} {h1 : Heap} (hk : EndR V n0 h a r h1) : EndX V n0 h a r h1 := by
  rw [EndX_eq]; exact hk
theorem endx {x y : D} {h : Heap} (e : x = y) : EndX [] 0 h (.d x) (.d y) [] := endX_of (end_data e)
theorem endx2 {a b : D} {y : D} {h : Heap} (e : D.tup [a, b] = y) : EndX [] 0 h (.tup [.d a, .d b]) (.d y) [] := endX_of (end_tup2 e)
theorem endx3 {a b c : D} {y : D} {h : Heap} (e : D.tup [a, b, c] = y) : EndX [] 0 h (.tup [.d a, .d b, .d c]) (.d y) [] := endX_of (end_tup3 e)
theorem endxv {a : AV} {x y : D} {h : Heap} (hv : view 8 h a = some x) (e : x = y) : EndX [] 0 h a (.d y) [] := endX_of (end_view hv e)


theorem loop1 {α : Type} {n0 : Nat} {V : List Nat} {W : Env → Heap → (Ex → Env → Heap → Prop) → Prop} {K : Ex → Env → Heap → Prop} {A : Env} {h : Heap} (m : α → Nat) (I : α → Prop) (As : α → Env) (hs : α → Heap) (a0 : α)
    (h0 : I a0) (hw : WkF V n0 A h (As a0) (hs a0))
    (step : ∀ (a : α) (C : Env → Heap → Prop), I a → (∀ (a' : α) A' h', I a' → m a' < m a → WkF V n0 A' h' (As a') (hs a') → C A' h') →
      W (As a) (hs a) (fun ex A' h' => match ex with
        | .normal => C A' h'
        | .exit id => K (.exit id) A' h'
        | .ret => K .ret A' h')) : ∃ n, iterF V n0 W K n A h :=
  loopF (σ := α) (fun s => m s) (fun s => I s) (fun s => As s) (fun s => hs s) (a0) h0 hw (fun s C hI hC => step s C hI (fun a' A' h' h1 h2 h3 => hC (a') A' h' h1 h2 h3))

theorem loop2 {α β : Type} {n0 : Nat} {V : List Nat} {W : Env → Heap → (Ex → Env → Heap → Prop) → Prop} {K : Ex → Env → Heap → Prop} {A : Env} {h : Heap} (m : α → β → Nat) (I : α → β → Prop) (As : α → β → Env) (hs : α → β → Heap) (a0 : α) (b0 : β)
    (h0 : I a0 b0) (hw : WkF V n0 A h (As a0 b0) (hs a0 b0))
    (step : ∀ (a : α) (b : β) (C : Env → Heap → Prop), I a b → (∀ (a' : α) (b' : β) A' h', I a' b' → m a' b' < m a b → WkF V n0 A' h' (As a' b') (hs a' b') → C A' h') →
      W (As a b) (hs a b) (fun ex A' h' => match ex with
        | .normal => C A' h'
        | .exit id => K (.exit id) A' h'
        | .ret => K .ret A' h')) : ∃ n, iterF V n0 W K n A h :=
  loopF (σ := α × β) (fun s => m s.1 s.2) (fun s => I s.1 s.2) (fun s => As s.1 s.2) (fun s => hs s.1 s.2) (a0, b0) h0 hw (fun s C hI hC => step s.1 s.2 C hI (fun a' b' A' h' h1 h2 h3 => hC (a', b') A' h' h1 h2 h3))

theorem loop3 {α β γ : Type} {n0 : Nat} {V : List Nat} {W : Env → Heap → (Ex → Env → Heap → Prop) → Prop} {K : Ex → Env → Heap → Prop} {A : Env} {h : Heap} (m : α → β → γ → Nat) (I : α → β → γ → Prop) (As : α → β → γ → Env) (hs : α → β → γ → Heap) (a0 : α) (b0 : β) (c0 : γ)
    (h0 : I a0 b0 c0) (hw : WkF V n0 A h (As a0 b0 c0) (hs a0 b0 c0))
    (step : ∀ (a : α) (b : β) (c : γ) (C : Env → Heap → Prop), I a b c → (∀ (a' : α) (b' : β) (c' : γ) A' h', I a' b' c' → m a' b' c' < m a b c → WkF V n0 A' h' (As a' b' c') (hs a' b' c') → C A' h') →
      W (As a b c) (hs a b c) (fun ex A' h' => match ex with
        | .normal => C A' h'
        | .exit id => K (.exit id) A' h'
        | .ret => K .ret A' h')) : ∃ n, iterF V n0 W K n A h :=
  loopF (σ := α × β × γ) (fun s => m s.1 s.2.1 s.2.2) (fun s => I s.1 s.2.1 s.2.2) (fun s => As s.1 s.2.1 s.2.2) (fun s => hs s.1 s.2.1 s.2.2) (a0, b0, c0) h0 hw (fun s C hI hC => step s.1 s.2.1 s.2.2 C hI (fun a' b' c' A' h' h1 h2 h3 => hC (a', b', c') A' h' h1 h2 h3))

theorem loop4 {α β γ δ : Type} {n0 : Nat} {V : List Nat} {W : Env → Heap → (Ex → Env → Heap → Prop) → Prop} {K : Ex → Env → Heap → Prop} {A : Env} {h : Heap} (m : α → β → γ → δ → Nat) (I : α → β → γ → δ → Prop) (As : α → β → γ → δ → Env) (hs : α → β → γ → δ → Heap) (a0 : α) (b0 : β) (c0 : γ) (d0 : δ)
    (h0 : I a0 b0 c0 d0) (hw : WkF V n0 A h (As a0 b0 c0 d0) (hs a0 b0 c0 d0))
    (step : ∀ (a : α) (b : β) (c : γ) (d : δ) (C : Env → Heap → Prop), I a b c d → (∀ (a' : α) (b' : β) (c' : γ) (d' : δ) A' h', I a' b' c' d' → m a' b' c' d' < m a b c d → WkF V n0 A' h' (As a' b' c' d') (hs a' b' c' d') → C A' h') →
      W (As a b c d) (hs a b c d) (fun ex A' h' => match ex with
        | .normal => C A' h'
        | .exit id => K (.exit id) A' h'
        | .ret => K .ret A' h')) : ∃ n, iterF V n0 W K n A h :=
  loopF (σ := α × β × γ × δ) (fun s => m s.1 s.2.1 s.2.2.1 s.2.2.2) (fun s => I s.1 s.2.1 s.2.2.1 s.2.2.2) (fun s => As s.1 s.2.1 s.2.2.1 s.2.2.2) (fun s => hs s.1 s.2.1 s.2.2.1 s.2.2.2) (a0, b0, c0, d0) h0 hw (fun s C hI hC => step s.1 s.2.1 s.2.2.1 s.2.2.2 C hI (fun a' b' c' d' A' h' h1 h2 h3 => hC (a', b', c', d') A' h' h1 h2 h3))

theorem loop5 {α β γ δ ε : Type} {n0 : Nat} {V : List Nat} {W : Env → Heap → (Ex → Env → Heap → Prop) → Prop} {K : Ex → Env → Heap → Prop} {A : Env} {h : Heap} (m : α → β → γ → δ → ε → Nat) (I : α → β → γ → δ → ε → Prop) (As : α → β → γ → δ → ε → Env) (hs : α → β → γ → δ → ε → Heap) (a0 : α) (b0 : β) (c0 : γ) (d0 : δ) (e0 : ε)
    (h0 : I a0 b0 c0 d0 e0) (hw : WkF V n0 A h (As a0 b0 c0 d0 e0) (hs a0 b0 c0 d0 e0))
    (step : ∀ (a : α) (b : β) (c : γ) (d : δ) (e : ε) (C : Env → Heap → Prop), I a b c d e → (∀ (a' : α) (b' : β) (c' : γ) (d' : δ) (e' : ε) A' h', I a' b' c' d' e' → m a' b' c' d' e' < m a b c d e → WkF V n0 A' h' (As a' b' c' d' e') (hs a' b' c' d' e') → C A' h') →
      W (As a b c d e) (hs a b c d e) (fun ex A' h' => match ex with
        | .normal => C A' h'
        | .exit id => K (.exit id) A' h'
        | .ret => K .ret A' h')) : ∃ n, iterF V n0 W K n A h :=
  loopF (σ := α × β × γ × δ × ε) (fun s => m s.1 s.2.1 s.2.2.1 s.2.2.2.1 s.2.2.2.2) (fun s => I s.1 s.2.1 s.2.2.1 s.2.2.2.1 s.2.2.2.2) (fun s => As s.1 s.2.1 s.2.2.1 s.2.2.2.1 s.2.2.2.2) (fun s => hs s.1 s.2.1 s.2.2.1 s.2.2.2.1 s.2.2.2.2) (a0, b0, c0, d0, e0) h0 hw (fun s C hI hC => step s.1 s.2.1 s.2.2.1 s.2.2.2.1 s.2.2.2.2 C hI (fun a' b' c' d' e' A' h' h1 h2 h3 => hC (a', b', c', d', e') A' h' h1 h2 h3))

theorem loop6 {α β γ δ ε ζ : Type} {n0 : Nat} {V : List Nat} {W : Env → Heap → (Ex → Env → Heap → Prop) → Prop} {K : Ex → Env → Heap → Prop} {A : Env} {h : Heap} (m : α → β → γ → δ → ε → ζ → Nat) (I : α → β → γ → δ → ε → ζ → Prop) (As : α → β → γ → δ → ε → ζ → Env) (hs : α → β → γ → δ → ε → ζ → Heap) (a0 : α) (b0 : β) (c0 : γ) (d0 : δ) (e0 : ε) (g0 : ζ)
    (h0 : I a0 b0 c0 d0 e0 g0) (hw : WkF V n0 A h (As a0 b0 c0 d0 e0 g0) (hs a0 b0 c0 d0 e0 g0))
    (step : ∀ (a : α) (b : β) (c : γ) (d : δ) (e : ε) (g : ζ) (C : Env → Heap → Prop), I a b c d e g → (∀ (a' : α) (b' : β) (c' : γ) (d' : δ) (e' : ε) (g' : ζ) A' h', I a' b' c' d' e' g' → m a' b' c' d' e' g' < m a b c d e g → WkF V n0 A' h' (As a' b' c' d' e' g') (hs a' b' c' d' e' g') → C A' h') →
      W (As a b c d e g) (hs a b c d e g) (fun ex A' h' => match ex with
        | .normal => C A' h'
        | .exit id => K (.exit id) A' h'
        | .ret => K .ret A' h')) : ∃ n, iterF V n0 W K n A h :=
  loopF (σ := α × β × γ × δ × ε × ζ) (fun s => m s.1 s.2.1 s.2.2.1 s.2.2.2.1 s.2.2.2.2.1 s.2.2.2.2.2) (fun s => I s.1 s.2.1 s.2.2.1 s.2.2.2.1 s.2.2.2.2.1 s.2.2.2.2.2) (fun s => As s.1 s.2.1 s.2.2.1 s.2.2.2.1 s.2.2.2.2.1 s.2.2.2.2.2) (fun s => hs s.1 s.2.1 s.2.2.1 s.2.2.2.1 s.2.2.2.2.1 s.2.2.2.2.2) (a0, b0, c0, d0, e0, g0) h0 hw (fun s C hI hC => step s.1 s.2.1 s.2.2.1 s.2.2.2.1 s.2.2.2.2.1 s.2.2.2.2.2 C hI (fun a' b' c' d' e' g' A' h' h1 h2 h3 => hC (a', b', c', d', e', g') A' h' h1 h2 h3))

/-! Bits of numbers that are not negative. -/

theorem ofInt_nat {n : Nat} (h : n < 9223372036854775808) : (BitVec.ofInt 64 (n : Int)).toNat = n := by
  rw [BitVec.toNat_ofInt]; omega

theorem i64_nat {n : Nat} (h : n < 9223372036854775808) : IntKind.i64.wrap (n : Int) = n := Go.IntWalk.i64_in _ (by omega)

theorem bits_and {a b : Nat} (ha : a < 9223372036854775808) (hb : b < 9223372036854775808) : bitsOf .and .i64 a b = ((a &&& b : Nat) : Int) := by
  have h1 : a &&& b ≤ a := Nat.and_le_left
  simp only [bitsOf]
  show IntKind.i64.wrap ((BitVec.ofInt 64 (a : Int) &&& BitVec.ofInt 64 (b : Int)).toNat : Int) = _
  rw [BitVec.toNat_and, ofInt_nat ha, ofInt_nat hb, i64_nat (by omega)]

theorem or_lt63 {a b : Nat} (ha : a < 9223372036854775808) (hb : b < 9223372036854775808) : a ||| b < 9223372036854775808 := Nat.or_lt_two_pow (n := 63) ha hb
theorem xor_lt63 {a b : Nat} (ha : a < 9223372036854775808) (hb : b < 9223372036854775808) : a ^^^ b < 9223372036854775808 := Nat.xor_lt_two_pow (n := 63) ha hb

theorem bits_or {a b : Nat} (ha : a < 9223372036854775808) (hb : b < 9223372036854775808) : bitsOf .or .i64 a b = ((a ||| b : Nat) : Int) := by
  simp only [bitsOf]
  show IntKind.i64.wrap ((BitVec.ofInt 64 (a : Int) ||| BitVec.ofInt 64 (b : Int)).toNat : Int) = _
  rw [BitVec.toNat_or, ofInt_nat ha, ofInt_nat hb, i64_nat (or_lt63 ha hb)]

theorem bits_xor {a b : Nat} (ha : a < 9223372036854775808) (hb : b < 9223372036854775808) : bitsOf .xor .i64 a b = ((a ^^^ b : Nat) : Int) := by
  simp only [bitsOf]
  show IntKind.i64.wrap ((BitVec.ofInt 64 (a : Int) ^^^ BitVec.ofInt 64 (b : Int)).toNat : Int) = _
  rw [BitVec.toNat_xor, ofInt_nat ha, ofInt_nat hb, i64_nat (xor_lt63 ha hb)]

theorem bit_and {a b : Int} {K : Int → Prop} (h : (0 ≤ a ∧ a < 9223372036854775808) ∧ 0 ≤ b ∧ b < 9223372036854775808) (hk : K ((a.toNat &&& b.toNat : Nat) : Int)) : bitK .and .i64 a b K := by
  rw [bitK_eq]
  have := bits_and (a := a.toNat) (b := b.toNat) (by omega) (by omega)
  rw [Int.toNat_of_nonneg h.1.1, Int.toNat_of_nonneg h.2.1] at this
  rw [this]; exact hk
theorem bit_or {a b : Int} {K : Int → Prop} (h : (0 ≤ a ∧ a < 9223372036854775808) ∧ 0 ≤ b ∧ b < 9223372036854775808) (hk : K ((a.toNat ||| b.toNat : Nat) : Int)) : bitK .or .i64 a b K := by
  rw [bitK_eq]
  have := bits_or (a := a.toNat) (b := b.toNat) (by omega) (by omega)
  rw [Int.toNat_of_nonneg h.1.1, Int.toNat_of_nonneg h.2.1] at this
  rw [this]; exact hk
theorem bit_xor {a b : Int} {K : Int → Prop} (h : (0 ≤ a ∧ a < 9223372036854775808) ∧ 0 ≤ b ∧ b < 9223372036854775808) (hk : K ((a.toNat ^^^ b.toNat : Nat) : Int)) : bitK .xor .i64 a b K := by
  rw [bitK_eq]
  have := bits_xor (a := a.toNat) (b := b.toNat) (by omega) (by omega)
  rw [Int.toNat_of_nonneg h.1.1, Int.toNat_of_nonneg h.2.1] at this
  rw [this]; exact hk

theorem endx_old1 {x y : D} {o o' : AO} {h : Heap} {l : List D} (e : x = y) (h1 : o.elems = l.map .d) (h2 : o'.elems = l.map .d) (hk : o.k = o'.k) (hs : o.st = o'.st) : EndX [] 1 (o :: h) (.d x) (.d y) [o'] := endX_of (end_old1 e h1 h2 hk hs)
theorem endx_tup2_old1 {a b : D} {y : D} {o o' : AO} {h : Heap} {l : List D} (e : D.tup [a, b] = y) (h1 : o.elems = l.map .d) (h2 : o'.elems = l.map .d) (hk : o.k = o'.k) (hs : o.st = o'.st) : EndX [] 1 (o :: h) (.tup [.d a, .d b]) (.d y) [o'] := by
  subst e
  exact endX_of (.inl ⟨[.old 0], rfl, rfl, ⟨⟨rfl, rfl, rfl, trivial⟩, trivial⟩, ⟨⟨hk, hs, .inl ⟨l, h1, h2⟩⟩, trivial⟩⟩)


/-! ### A cut: several ways through a region are brought together -/

theorem opG_mono {E : TE} {R : Rel} {A : Env} {h : Heap} {o : Op} {K K' : KV} (hK : ∀ v h', K' v h' → K v h') (hk : opG E R (opndF A) h o K') : opG E R (opndF A) h o K := by
  obtain ⟨N, T, hr⟩ : ∃ N T, Rep N T A := ⟨A.foldr (fun p n => max (p.1 + 1) n) 0, (List.range' 0 (A.foldr (fun p n => max (p.1 + 1) n) 0)).map (look A), by simp, fun n => by
    rw [nth_map]
    split
    · rfl
    · rename_i hn
      have key : ∀ (A : Env), A.foldr (fun p n => max (p.1 + 1) n) 0 ≤ n → look A n = .junk := by
        intro A
        induction A with
        | nil => intro _; rfl
        | cons p A ih =>
          intro hle
          simp only [List.foldr_cons] at hle
          rw [look_cons, if_neg (by omega)]
          exact ih (by omega)
      exact key A (by omega)⟩
  rw [hr.opnd, ← opG_eq] at hk ⊢
  obtain ⟨v, h', h1, h2⟩ := opD_out hk
  exact h2 K (hK v h' h1)

theorem guardF_mono {all : List Oper} {A : Env} {g : Option (Nat × Bool)} {P Q P' Q' : Env → Prop} (hP : ∀ A, P' A → P A) (hQ : ∀ A, Q' A → Q A) (hk : guardF all A g P' Q') : guardF all A g P Q := by
  unfold guardF at hk ⊢
  split at hk
  · exact hP _ hk
  · split at hk
    · rename_i t ht
      try simp only [ht]
      rw [lookK_eq] at hk ⊢
      split at hk
      · rename_i b hb
        try simp only [hb]
        rename_i want _ _ _
        rcases onBool_spec hk with ⟨h1, h2⟩ | ⟨h1, h2⟩ <;> rcases onBool_spec h2 with ⟨h3, h4⟩ | ⟨h3, h4⟩ <;> subst h1 <;> subst h3 <;> simp only [onBool] <;> first | exact hP _ h4 | exact hQ _ h4
      · rename_i hb
        try simp only [hb]
        exact hQ _ hk
      · exact hk.elim
    · exact hk.elim

theorem dstF_mono {d : Option Nat} {v : AV} {A : Env} {K K' : Env → Prop} (hK : ∀ A, K' A → K A) (hk : dstF d v A K') : dstF d v A K := by
  cases d <;> exact hK _ hk

theorem regF_mono {E : TE} {R : Rel} {all : List Oper} {K K' : Env → Heap → Prop} (hK : ∀ A h, K' A h → K A h) : ∀ (l : List Oper) (A : Env) (h : Heap), regF E R all l A h K' → regF E R all l A h K
  | [], A, h, hk => hK A h hk
  | o :: l, A, h, hk => by
    rw [regF_cons] at hk ⊢
    exact guardF_mono (fun A hk => opG_mono (fun v h' hk => dstF_mono (fun A hk => regF_mono hK l A h' hk) hk) hk) (fun A hk => dstF_mono (fun A hk => regF_mono hK l A h hk) hk) hk

/-- The ways through a region are brought together ahead of a cut. -/
theorem reg_join {E : TE} {R : Rel} {all ops : List Oper} {A : Env} {h : Heap} {V : List Nat} {n0 : Nat} {F : Env → Heap → Prop} {σ : Type} (S : σ → Prop) (As : σ → Env) (hs : σ → Heap)
    (walk : regF E R all ops A h (fun A' h' => ∃ s, S s ∧ WkF V n0 A' h' (As s) (hs s))) (rest : ∀ s, S s → F (As s) (hs s)) : regF E R all ops A h (fun A' h' => ∃ A1 h1, WkF V n0 A' h' A1 h1 ∧ F A1 h1) :=
  regF_mono (fun _ _ ⟨s, h1, h2⟩ => ⟨As s, hs s, h2, rest s h1⟩) ops A h walk

end Dw

/-! Te -/
namespace Go.Proofs.Ytjbipdppgoldlaa
open Go Dw
def tab : TT :=
 .node 87
 (.node 41
  (.node 21
   (.node 10
    (.node 5
     (.node 3
      (.node 2
       (.leaf 1 ⟨8, 1, 8, .raw .nilFunc, .i64, [], 0, 0, []⟩)
       (.leaf 2 ⟨1, 1, 8, .d (.int .i64 0), .i64, [], 0, 0, []⟩))
      (.node 4
       (.leaf 3 ⟨1, 1, 8, .d (.int .i64 0), .i64, [], 0, 0, []⟩)
       (.leaf 4 ⟨2, 1, 1, .d (.bool false), .i64, [], 0, 0, []⟩)))
     (.node 7
      (.node 6
       (.leaf 5 ⟨1, 1, 1, .d (.int .u8 0), .u8, [], 0, 0, []⟩)
       (.leaf 6 ⟨1, 1, 1, .d (.int .u8 0), .u8, [], 0, 0, []⟩))
      (.node 8
       (.leaf 7 ⟨5, 4, 24, .agg [.d (.int .i64 0), .d (.int .i64 0), .d (.bool false), .d (.int .u8 0)], .i64, [(0, 2), (1, 3), (2, 4), (3, 6)], 0, 0, [1, 1, 2, 1]⟩)
       (.node 9
        (.leaf 8 ⟨5, 4, 24, .agg [.d (.int .i64 0), .d (.int .i64 0), .d (.bool false), .d (.int .u8 0)], .i64, [(0, 2), (1, 3), (2, 4), (3, 6)], 0, 0, [1, 1, 2, 1]⟩)
        (.leaf 9 ⟨3, 1, 16, .d (.str []), .i64, [], 0, 0, []⟩)))))
    (.node 15
     (.node 12
      (.node 11
       (.leaf 10 ⟨3, 1, 16, .d (.str []), .i64, [], 0, 0, []⟩)
       (.leaf 11 ⟨3, 1, 16, .d (.str []), .i64, [], 0, 0, []⟩))
      (.node 13
       (.leaf 12 ⟨1, 1, 8, .d (.int .u64 0), .u64, [], 0, 0, []⟩)
       (.node 14
        (.leaf 13 ⟨5, 2, 24, .agg [.d (.str []), .d (.int .u64 0)], .i64, [(0, 9), (1, 12)], 0, 0, []⟩)
        (.leaf 14 ⟨5, 2, 24, .agg [.d (.str []), .d (.int .u64 0)], .i64, [(0, 9), (1, 12)], 0, 0, []⟩))))
     (.node 17
      (.node 16
       (.leaf 15 ⟨7, 1, 8, .raw (.pointer none), .i64, [], 154, 0, []⟩)
       (.leaf 16 ⟨7, 1, 8, .raw (.pointer none), .i64, [], 157, 0, []⟩))
      (.node 18
       (.leaf 17 ⟨7, 1, 8, .raw (.pointer none), .i64, [], 166, 0, []⟩)
       (.node 19
        (.leaf 18 ⟨5, 1, 8, .agg [.raw (.pointer none)], .i64, [(0, 17)], 0, 0, []⟩)
        (.leaf 19 ⟨5, 1, 8, .agg [.raw (.pointer none)], .i64, [(0, 17)], 0, 0, []⟩))))))
   (.node 30
    (.node 25
     (.node 23
      (.node 22
       (.leaf 21 ⟨1, 1, 4, .d (.int .i32 0), .i32, [], 0, 0, []⟩)
       (.leaf 22 ⟨4, 1, 24, .nilS, .i64, [], 43, 0, []⟩))
      (.node 24
       (.leaf 23 ⟨4, 1, 24, .nilS, .i64, [], 102, 0, []⟩)
       (.leaf 24 ⟨5, 6, 80, .agg [.d (.int .i64 0), .d (.int .i64 0), .d (.int .i64 0), .d (.int .i64 0), .nilS, .nilS], .i64, [(0, 3), (1, 3), (2, 3), (3, 3), (4, 22), (5, 23)], 0, 0, []⟩)))
     (.node 27
      (.node 26
       (.leaf 25 ⟨5, 6, 80, .agg [.d (.int .i64 0), .d (.int .i64 0), .d (.int .i64 0), .d (.int .i64 0), .nilS, .nilS], .i64, [(0, 3), (1, 3), (2, 3), (3, 3), (4, 22), (5, 23)], 0, 0, []⟩)
       (.leaf 26 ⟨1, 1, 2, .d (.int .u16 0), .u16, [], 0, 0, []⟩))
      (.node 28
       (.leaf 27 ⟨4, 1, 24, .nilS, .i64, [], 5, 0, []⟩)
       (.node 29
        (.leaf 28 ⟨5, 3, 32, .agg [.d (.int .u16 0), .d (.bool false), .nilS], .i64, [(0, 26), (1, 4), (2, 27)], 0, 0, []⟩)
        (.leaf 29 ⟨5, 3, 32, .agg [.d (.int .u16 0), .d (.bool false), .nilS], .i64, [(0, 26), (1, 4), (2, 27)], 0, 0, []⟩)))))
    (.node 35
     (.node 32
      (.node 31
       (.leaf 30 ⟨8, 1, 8, .raw .nilFunc, .i64, [], 0, 0, []⟩)
       (.leaf 31 ⟨8, 1, 8, .raw .nilFunc, .i64, [], 0, 0, []⟩))
      (.node 33
       (.leaf 32 ⟨8, 1, 8, .raw .nilFunc, .i64, [], 0, 0, []⟩)
       (.node 34
        (.leaf 33 ⟨5, 5, 40, .agg [.d (.int .i64 0), .d (.int .i64 0), .d (.int .i64 0), .d (.bool false), .d (.int .i64 0)], .i64, [(0, 3), (1, 3), (2, 3), (3, 4), (4, 3)], 0, 0, [1, 1, 1, 2, 1]⟩)
        (.leaf 34 ⟨5, 5, 40, .agg [.d (.int .i64 0), .d (.int .i64 0), .d (.int .i64 0), .d (.bool false), .d (.int .i64 0)], .i64, [(0, 3), (1, 3), (2, 3), (3, 4), (4, 3)], 0, 0, [1, 1, 1, 2, 1]⟩))))
     (.node 38
      (.node 37
       (.leaf 35 ⟨1, 1, 8, .d (.int .i64 0), .i64, [], 0, 0, []⟩)
       (.leaf 37 ⟨8, 1, 8, .raw .nilFunc, .i64, [], 0, 0, []⟩))
      (.node 39
       (.leaf 38 ⟨8, 1, 8, .raw .nilFunc, .i64, [], 0, 0, []⟩)
       (.node 40
        (.leaf 39 ⟨8, 1, 8, .raw .nilFunc, .i64, [], 0, 0, []⟩)
        (.leaf 40 ⟨5, 2, 16, .agg [.d (.int .i64 0), .d (.int .i64 0)], .i64, [(0, 3), (1, 3)], 0, 0, [1, 1]⟩)))))))
  (.node 63
   (.node 52
    (.node 45
     (.node 43
      (.node 42
       (.leaf 41 ⟨5, 2, 16, .agg [.d (.int .i64 0), .d (.int .i64 0)], .i64, [(0, 3), (1, 3)], 0, 0, [1, 1]⟩)
       (.leaf 42 ⟨5, 8, 72, .agg [.d (.int .i64 0), .d (.int .i64 0), .d (.int .i64 0), .d (.int .i64 0), .d (.int .i64 0), .d (.int .i64 0), .d (.int .i64 0), .d (.str [])], .i64, [(0, 3), (1, 41), (3, 41), (5, 3), (6, 3), (7, 9)], 0, 0, [1, 1, 1, 1, 1, 1, 1, 3]⟩))
      (.node 44
       (.leaf 43 ⟨5, 8, 72, .agg [.d (.int .i64 0), .d (.int .i64 0), .d (.int .i64 0), .d (.int .i64 0), .d (.int .i64 0), .d (.int .i64 0), .d (.int .i64 0), .d (.str [])], .i64, [(0, 3), (1, 41), (3, 41), (5, 3), (6, 3), (7, 9)], 0, 0, [1, 1, 1, 1, 1, 1, 1, 3]⟩)
       (.leaf 44 ⟨8, 1, 8, .raw .nilFunc, .i64, [], 0, 0, []⟩)))
     (.node 47
      (.node 46
       (.leaf 45 ⟨8, 1, 8, .raw .nilFunc, .i64, [], 0, 0, []⟩)
       (.leaf 46 ⟨8, 1, 8, .raw .nilFunc, .i64, [], 0, 0, []⟩))
      (.node 49
       (.leaf 47 ⟨6, 2, 16, .agg [.d (.int .i64 0), .d (.int .i64 0)], .i64, [], 3, 2, []⟩)
       (.node 51
        (.leaf 49 ⟨8, 1, 8, .raw .nilFunc, .i64, [], 0, 0, []⟩)
        (.leaf 51 ⟨8, 1, 8, .raw .nilFunc, .i64, [], 0, 0, []⟩)))))
    (.node 58
     (.node 55
      (.node 53
       (.leaf 52 ⟨8, 1, 8, .raw .nilFunc, .i64, [], 0, 0, []⟩)
       (.leaf 53 ⟨8, 1, 8, .raw .nilFunc, .i64, [], 0, 0, []⟩))
      (.node 56
       (.leaf 55 ⟨8, 1, 8, .raw .nilFunc, .i64, [], 0, 0, []⟩)
       (.node 57
        (.leaf 56 ⟨8, 1, 8, .raw .nilFunc, .i64, [], 0, 0, []⟩)
        (.leaf 57 ⟨8, 1, 8, .raw .nilFunc, .i64, [], 0, 0, []⟩))))
     (.node 60
      (.node 59
       (.leaf 58 ⟨8, 1, 8, .raw .nilFunc, .i64, [], 0, 0, []⟩)
       (.leaf 59 ⟨8, 1, 8, .raw .nilFunc, .i64, [], 0, 0, []⟩))
      (.node 61
       (.leaf 60 ⟨5, 10, 96, .agg [.d (.int .i64 0), .d (.int .i64 0), .d (.int .i64 0), .d (.int .i64 0), .d (.int .i64 0), .d (.int .i64 0), .d (.str []), .d (.int .i64 0), .d (.int .i64 0), .d (.str [])], .i64, [(0, 41), (2, 41), (4, 3), (5, 3), (6, 9), (7, 41), (9, 9)], 0, 0, [1, 1, 1, 1, 1, 1, 3, 1, 1, 3]⟩)
       (.node 62
        (.leaf 61 ⟨5, 10, 96, .agg [.d (.int .i64 0), .d (.int .i64 0), .d (.int .i64 0), .d (.int .i64 0), .d (.int .i64 0), .d (.int .i64 0), .d (.str []), .d (.int .i64 0), .d (.int .i64 0), .d (.str [])], .i64, [(0, 41), (2, 41), (4, 3), (5, 3), (6, 9), (7, 41), (9, 9)], 0, 0, [1, 1, 1, 1, 1, 1, 3, 1, 1, 3]⟩)
        (.leaf 62 ⟨8, 1, 8, .raw .nilFunc, .i64, [], 0, 0, []⟩))))))
   (.node 73
    (.node 68
     (.node 65
      (.node 64
       (.leaf 63 ⟨8, 1, 8, .raw .nilFunc, .i64, [], 0, 0, []⟩)
       (.leaf 64 ⟨8, 1, 8, .raw .nilFunc, .i64, [], 0, 0, []⟩))
      (.node 66
       (.leaf 65 ⟨8, 1, 8, .raw .nilFunc, .i64, [], 0, 0, []⟩)
       (.leaf 66 ⟨8, 1, 8, .raw .nilFunc, .i64, [], 0, 0, []⟩)))
     (.node 70
      (.node 69
       (.leaf 68 ⟨8, 1, 8, .raw .nilFunc, .i64, [], 0, 0, []⟩)
       (.leaf 69 ⟨8, 1, 8, .raw .nilFunc, .i64, [], 0, 0, []⟩))
      (.node 71
       (.leaf 70 ⟨8, 1, 8, .raw .nilFunc, .i64, [], 0, 0, []⟩)
       (.node 72
        (.leaf 71 ⟨8, 1, 8, .raw .nilFunc, .i64, [], 0, 0, []⟩)
        (.leaf 72 ⟨8, 1, 8, .raw .nilFunc, .i64, [], 0, 0, []⟩)))))
    (.node 80
     (.node 76
      (.node 74
       (.leaf 73 ⟨8, 1, 8, .raw .nilFunc, .i64, [], 0, 0, []⟩)
       (.leaf 74 ⟨4, 1, 24, .nilS, .i64, [], 61, 0, []⟩))
      (.node 77
       (.leaf 76 ⟨8, 1, 8, .raw .nilFunc, .i64, [], 0, 0, []⟩)
       (.node 79
        (.leaf 77 ⟨8, 1, 8, .raw .nilFunc, .i64, [], 0, 0, []⟩)
        (.leaf 79 ⟨8, 1, 8, .raw .nilFunc, .i64, [], 0, 0, []⟩))))
     (.node 83
      (.node 82
       (.leaf 80 ⟨8, 1, 8, .raw .nilFunc, .i64, [], 0, 0, []⟩)
       (.leaf 82 ⟨8, 1, 8, .raw .nilFunc, .i64, [], 0, 0, []⟩))
      (.node 85
       (.leaf 83 ⟨8, 1, 8, .raw .nilFunc, .i64, [], 0, 0, []⟩)
       (.node 86
        (.leaf 85 ⟨8, 1, 8, .raw .nilFunc, .i64, [], 0, 0, []⟩)
        (.leaf 86 ⟨8, 1, 8, .raw .nilFunc, .i64, [], 0, 0, []⟩))))))))
 (.node 126
  (.node 107
   (.node 97
    (.node 92
     (.node 89
      (.node 88
       (.leaf 87 ⟨8, 1, 8, .raw .nilFunc, .i64, [], 0, 0, []⟩)
       (.leaf 88 ⟨8, 1, 8, .raw .nilFunc, .i64, [], 0, 0, []⟩))
      (.node 91
       (.leaf 89 ⟨8, 1, 8, .raw .nilFunc, .i64, [], 0, 0, []⟩)
       (.leaf 91 ⟨8, 1, 8, .raw .nilFunc, .i64, [], 0, 0, []⟩)))
     (.node 94
      (.node 93
       (.leaf 92 ⟨8, 1, 8, .raw .nilFunc, .i64, [], 0, 0, []⟩)
       (.leaf 93 ⟨8, 1, 8, .raw .nilFunc, .i64, [], 0, 0, []⟩))
      (.node 95
       (.leaf 94 ⟨8, 1, 8, .raw .nilFunc, .i64, [], 0, 0, []⟩)
       (.node 96
        (.leaf 95 ⟨8, 1, 8, .raw .nilFunc, .i64, [], 0, 0, []⟩)
        (.leaf 96 ⟨8, 1, 8, .raw .nilFunc, .i64, [], 0, 0, []⟩)))))
    (.node 102
     (.node 99
      (.node 98
       (.leaf 97 ⟨8, 1, 8, .raw .nilFunc, .i64, [], 0, 0, []⟩)
       (.leaf 98 ⟨8, 1, 8, .raw .nilFunc, .i64, [], 0, 0, []⟩))
      (.node 100
       (.leaf 99 ⟨8, 1, 8, .raw .nilFunc, .i64, [], 0, 0, []⟩)
       (.node 101
        (.leaf 100 ⟨8, 1, 8, .raw .nilFunc, .i64, [], 0, 0, []⟩)
        (.leaf 101 ⟨5, 3, 24, .agg [.d (.int .i64 0), .d (.int .i64 0), .d (.int .i64 0)], .i64, [(0, 41), (2, 3)], 0, 0, [1, 1, 1]⟩))))
     (.node 104
      (.node 103
       (.leaf 102 ⟨5, 3, 24, .agg [.d (.int .i64 0), .d (.int .i64 0), .d (.int .i64 0)], .i64, [(0, 41), (2, 3)], 0, 0, [1, 1, 1]⟩)
       (.leaf 103 ⟨8, 1, 8, .raw .nilFunc, .i64, [], 0, 0, []⟩))
      (.node 105
       (.leaf 104 ⟨8, 1, 8, .raw .nilFunc, .i64, [], 0, 0, []⟩)
       (.node 106
        (.leaf 105 ⟨8, 1, 8, .raw .nilFunc, .i64, [], 0, 0, []⟩)
        (.leaf 106 ⟨8, 1, 8, .raw .nilFunc, .i64, [], 0, 0, []⟩))))))
   (.node 116
    (.node 111
     (.node 109
      (.node 108
       (.leaf 107 ⟨8, 1, 8, .raw .nilFunc, .i64, [], 0, 0, []⟩)
       (.leaf 108 ⟨7, 1, 8, .raw (.pointer none), .i64, [], 112, 0, []⟩))
      (.node 110
       (.leaf 109 ⟨8, 1, 8, .raw .nilFunc, .i64, [], 0, 0, []⟩)
       (.leaf 110 ⟨8, 1, 8, .raw .nilFunc, .i64, [], 0, 0, []⟩)))
     (.node 113
      (.node 112
       (.leaf 111 ⟨5, 6, 80, .agg [.d (.int .i64 0), .d (.int .i64 0), .d (.int .i64 0), .d (.int .i64 0), .nilS, .nilS], .i64, [(0, 25)], 0, 0, []⟩)
       (.leaf 112 ⟨5, 6, 80, .agg [.d (.int .i64 0), .d (.int .i64 0), .d (.int .i64 0), .d (.int .i64 0), .nilS, .nilS], .i64, [(0, 25)], 0, 0, []⟩))
      (.node 114
       (.leaf 113 ⟨8, 1, 8, .raw .nilFunc, .i64, [], 0, 0, []⟩)
       (.node 115
        (.leaf 114 ⟨8, 1, 8, .raw .nilFunc, .i64, [], 0, 0, []⟩)
        (.leaf 115 ⟨8, 1, 8, .raw .nilFunc, .i64, [], 0, 0, []⟩)))))
    (.node 121
     (.node 118
      (.node 117
       (.leaf 116 ⟨6, 4, 32, .agg [.d (.int .i64 0), .d (.int .i64 0), .d (.int .i64 0), .d (.int .i64 0)], .i64, [], 3, 4, []⟩)
       (.leaf 117 ⟨8, 1, 8, .raw .nilFunc, .i64, [], 0, 0, []⟩))
      (.node 119
       (.leaf 118 ⟨1, 1, 4, .d (.int .u32 0), .u32, [], 0, 0, []⟩)
       (.node 120
        (.leaf 119 ⟨8, 1, 8, .raw .nilFunc, .i64, [], 0, 0, []⟩)
        (.leaf 120 ⟨8, 1, 8, .raw .nilFunc, .i64, [], 0, 0, []⟩))))
     (.node 123
      (.node 122
       (.leaf 121 ⟨8, 1, 8, .raw .nilFunc, .i64, [], 0, 0, []⟩)
       (.leaf 122 ⟨8, 1, 8, .raw .nilFunc, .i64, [], 0, 0, []⟩))
      (.node 124
       (.leaf 123 ⟨8, 1, 8, .raw .nilFunc, .i64, [], 0, 0, []⟩)
       (.node 125
        (.leaf 124 ⟨8, 1, 8, .raw .nilFunc, .i64, [], 0, 0, []⟩)
        (.leaf 125 ⟨8, 1, 8, .raw .nilFunc, .i64, [], 0, 0, []⟩)))))))
  (.node 145
   (.node 135
    (.node 130
     (.node 128
      (.node 127
       (.leaf 126 ⟨8, 1, 8, .raw .nilFunc, .i64, [], 0, 0, []⟩)
       (.leaf 127 ⟨1, 1, 8, .d (.int .u64 0), .u64, [], 0, 0, []⟩))
      (.node 129
       (.leaf 128 ⟨4, 1, 24, .nilS, .i64, [], 35, 0, []⟩)
       (.leaf 129 ⟨6, 3, 24, .agg [.d (.int .i64 0), .d (.int .i64 0), .d (.int .i64 0)], .i64, [], 3, 3, []⟩)))
     (.node 132
      (.node 131
       (.leaf 130 ⟨8, 1, 8, .raw .nilFunc, .i64, [], 0, 0, []⟩)
       (.leaf 131 ⟨8, 1, 8, .raw .nilFunc, .i64, [], 0, 0, []⟩))
      (.node 133
       (.leaf 132 ⟨8, 1, 8, .raw .nilFunc, .i64, [], 0, 0, []⟩)
       (.node 134
        (.leaf 133 ⟨8, 1, 8, .raw .nilFunc, .i64, [], 0, 0, []⟩)
        (.leaf 134 ⟨8, 1, 8, .raw .nilFunc, .i64, [], 0, 0, []⟩)))))
    (.node 140
     (.node 137
      (.node 136
       (.leaf 135 ⟨8, 1, 8, .raw .nilFunc, .i64, [], 0, 0, []⟩)
       (.leaf 136 ⟨8, 1, 8, .raw .nilFunc, .i64, [], 0, 0, []⟩))
      (.node 138
       (.leaf 137 ⟨8, 1, 8, .raw .nilFunc, .i64, [], 0, 0, []⟩)
       (.node 139
        (.leaf 138 ⟨8, 1, 8, .raw .nilFunc, .i64, [], 0, 0, []⟩)
        (.leaf 139 ⟨8, 1, 8, .raw .nilFunc, .i64, [], 0, 0, []⟩))))
     (.node 142
      (.node 141
       (.leaf 140 ⟨4, 1, 24, .nilS, .i64, [], 3, 0, []⟩)
       (.leaf 141 ⟨8, 1, 8, .raw .nilFunc, .i64, [], 0, 0, []⟩))
      (.node 143
       (.leaf 142 ⟨8, 1, 8, .raw .nilFunc, .i64, [], 0, 0, []⟩)
       (.node 144
        (.leaf 143 ⟨8, 1, 8, .raw .nilFunc, .i64, [], 0, 0, []⟩)
        (.leaf 144 ⟨8, 1, 8, .raw .nilFunc, .i64, [], 0, 0, []⟩))))))
   (.node 154
    (.node 149
     (.node 147
      (.node 146
       (.leaf 145 ⟨8, 1, 8, .raw .nilFunc, .i64, [], 0, 0, []⟩)
       (.leaf 146 ⟨8, 1, 8, .raw .nilFunc, .i64, [], 0, 0, []⟩))
      (.node 148
       (.leaf 147 ⟨8, 1, 8, .raw .nilFunc, .i64, [], 0, 0, []⟩)
       (.leaf 148 ⟨8, 1, 8, .raw .nilFunc, .i64, [], 0, 0, []⟩)))
     (.node 151
      (.node 150
       (.leaf 149 ⟨8, 1, 8, .raw .nilFunc, .i64, [], 0, 0, []⟩)
       (.leaf 150 ⟨8, 1, 8, .raw .nilFunc, .i64, [], 0, 0, []⟩))
      (.node 152
       (.leaf 151 ⟨8, 1, 8, .raw .nilFunc, .i64, [], 0, 0, []⟩)
       (.node 153
        (.leaf 152 ⟨8, 1, 8, .raw .nilFunc, .i64, [], 0, 0, []⟩)
        (.leaf 153 ⟨5, 4, 40, .agg [.raw (.pointer none), .raw (.pointer none), .raw (.pointer none), .d (.str [])], .i64, [(0, 17), (1, 17), (2, 17), (3, 9)], 0, 0, []⟩)))))
    (.node 162
     (.node 159
      (.node 158
       (.leaf 154 ⟨5, 4, 40, .agg [.raw (.pointer none), .raw (.pointer none), .raw (.pointer none), .d (.str [])], .i64, [(0, 17), (1, 17), (2, 17), (3, 9)], 0, 0, []⟩)
       (.leaf 158 ⟨8, 1, 8, .raw .nilFunc, .i64, [], 0, 0, []⟩))
      (.node 160
       (.leaf 159 ⟨1, 1, 1, .d (.int .u8 0), .u8, [], 0, 0, []⟩)
       (.node 161
        (.leaf 160 ⟨1, 1, 1, .d (.int .u8 0), .u8, [], 0, 0, []⟩)
        (.leaf 161 ⟨8, 1, 8, .raw .nilFunc, .i64, [], 0, 0, []⟩))))
     (.node 164
      (.node 163
       (.leaf 162 ⟨7, 1, 8, .raw (.pointer none), .i64, [], 5, 0, []⟩)
       (.leaf 163 ⟨1, 1, 4, .d (.int .i32 0), .i32, [], 0, 0, []⟩))
      (.node 165
       (.leaf 164 ⟨1, 1, 4, .d (.int .i32 0), .i32, [], 0, 0, []⟩)
       (.node 166
        (.leaf 165 ⟨5, 11, 48, .agg [.d (.int .u64 0), .d (.int .u64 0), .d (.int .u32 0), .d (.int .u8 0), .d (.int .u8 0), .d (.int .u8 0), .d (.int .u8 0), .raw .nilFunc, .raw (.pointer none), .d (.int .i32 0), .d (.int .i32 0)], .i64, [(0, 12), (1, 12), (2, 118), (3, 159), (4, 5), (5, 5), (6, 160), (7, 161), (8, 162), (9, 163), (10, 164)], 0, 0, []⟩)
        (.leaf 166 ⟨5, 11, 48, .agg [.d (.int .u64 0), .d (.int .u64 0), .d (.int .u32 0), .d (.int .u8 0), .d (.int .u8 0), .d (.int .u8 0), .d (.int .u8 0), .raw .nilFunc, .raw (.pointer none), .d (.int .i32 0), .d (.int .i32 0)], .i64, [(0, 12), (1, 12), (2, 118), (3, 159), (4, 5), (5, 5), (6, 160), (7, 161), (8, 162), (9, 163), (10, 164)], 0, 0, []⟩))))))))
def E : TE := tab.get
end Go.Proofs.Ytjbipdppgoldlaa

/-! Eok -/
namespace Go.Proofs.Ytjbipdppgoldlaa
open Go Dw
theorem eok : EOK Try.prog E := eok_tree (by kernel_rfl) (by kernel_rfl)
end Go.Proofs.Ytjbipdppgoldlaa

/-! Da -/
namespace Go.Proofs.Ytjbipdppgoldlaa
open Go Dw

abbrev i (n : Int) : D := .int .i64 n

structure Ref where
  r : Int
  s : Int
  deriving DecidableEq
def Ref.enc (x : Ref) : D := .agg [i x.r, i x.s]

structure Chg where
  usn : Int
  file : Ref
  parent : Ref
  tick : Int
  reasons : Int
  name : List UInt8
  deriving DecidableEq
def Chg.enc (x : Chg) : D := .agg [i x.usn, i x.file.r, i x.file.s, i x.parent.r, i x.parent.s, i x.tick, i x.reasons, .str x.name]

structure Opn where
  file : Ref
  reasons : Int
  deriving DecidableEq
def Opn.enc (x : Opn) : D := .agg [i x.file.r, i x.file.s, i x.reasons]

structure Jrn where
  id : Int
  first : Int
  next : Int
  most : Int
  recs : List Chg
  opens : List Opn
  deriving DecidableEq
def Jrn.enc (x : Jrn) : D := .agg [i x.id, i x.first, i x.next, i x.most, .fs (x.recs.map Chg.enc), .fs (x.opens.map Opn.enc)]

def within (n lo hi : Int) : Bool := decide (lo ≤ n) && decide (n ≤ hi)
def refErr (x : Ref) : Int := if within x.r 0 95 && within x.s 1 65535 then 0 else 2
def first : List Int → Int
  | [] => 0
  | e :: l => if e = 0 then first l else e
def has (a b : Int) : Bool := decide (bitsOf0 a b = b)
where bitsOf0 (a b : Int) : Int := IntKind.i64.wrap (BitVec.ofInt 64 a &&& BitVec.ofInt 64 b).toNat
def size (n : Nat) : Int := ((n : Int) + 39) / 8 * 8
def ctl (s : List UInt8) : Bool := s.any (fun b => decide ((b.toNat : Int) < 32))
def idx : List UInt8 → Nat → Int
  | [], _ => -1
  | b :: l, k => if (b.toNat : Int) < 32 then k else idx l (k + 1)
def nameErr (s : List UInt8) : Int := if within s.length 1 32 && !ctl s then 0 else 4
def cmp (a b : Int) : Int := if a < b then -1 else if b < a then 1 else 0
def compare (a b : Ref) : Int := first [cmp a.r b.r, cmp a.s b.s]
def recordErr (x : Chg) : Int := first [refErr x.file, refErr x.parent, if within x.tick 0 1000000 && within x.reasons 1 4095 then 0 else 2, nameErr x.name]
def numbersErr (j : Jrn) : Int :=
  if within j.id 0 2147483647 && within j.first 0 2147483647 && within j.next 0 2147483647 then (if within j.most 128 8192 then 0 else 2) else 2

end Go.Proofs.Ytjbipdppgoldlaa

/-! Wa -/
namespace Go.Proofs.Ytjbipdppgoldlaa
open Go Dw
set_option maxRecDepth 10000

/-- A function of data. -/
def Fn (f : Nat) (xs : List D) (r : D) : Prop := Run Try.prog f (xs.map .d) [] (.d r) []

theorem c51 (n lo hi : Int) : Fn 51 [i n, i lo, i hi] (.bool (decide (lo ≤ n) && decide (n ≤ hi))) := by
  refine run_walk eok Try.func51 rfl ?_
  conv => whnf
  refine onBool_split (fun h => ?_) (fun h => ?_)
  · conv => whnf
    exact end_data (by simp [h])
  · conv => whnf
    exact end_data (by simp [h])

theorem c54 (a : Bool) (e : Int) : Fn 54 [.bool a, i e] (i (if a then 0 else e)) := by
  refine run_walk eok Try.func54 rfl ?_
  conv => whnf
  refine onBool_split (fun h => ?_) (fun h => ?_)
  · conv => whnf
    exact end_data (by simp [h])
  · conv => whnf
    exact end_data (by simp [h])

theorem c64 (r : Ref) : Fn 64 [r.enc] (i (refErr r)) := by
  refine run_walk eok Try.func64 rfl ?_
  conv => whnf
  refine ⟨_, _, run_view (c51 _ _ _) rfl rfl, ?_⟩
  conv => whnf
  refine onBool_split (fun h => ?_) (fun h => ?_)
  · conv => whnf
    refine ⟨_, _, run_view (c51 _ _ _) rfl rfl, ?_⟩
    conv => whnf
    refine ⟨_, _, run_view (c54 _ _) rfl rfl, ?_⟩
    conv => whnf
    exact end_data (by simp [h, refErr, within])
  · conv => whnf
    refine ⟨_, _, run_view (c54 _ _) rfl rfl, ?_⟩
    conv => whnf
    exact end_data (by simp [h, refErr, within])

theorem first_drop (l : List Int) (k : Nat) (x : Int) (h : l[k]? = some x) : first (l.drop k) = if x = 0 then first (l.drop (k + 1)) else x := by
  obtain ⟨h1, rfl⟩ := List.getElem?_eq_some_iff.1 h
  rw [List.drop_eq_getElem_cons h1]; rfl

theorem c52 (l : List Int) (hl : l.length < 1000000) : Fn 52 [.fs (l.map i)] (i (first l)) := by
  refine run_walk eok Try.func52 rfl ?_
  conv => whnf
  refine loop_rule (σ := Nat) (fun k => l.length - k) (fun k => k ≤ l.length ∧ first l = first (l.drop k))
    (fun k => [.d (.fs (l.map i)), .junk, .d (i 0), .junk, .junk, .d (.fs (l.map i)), .d (i l.length), .d (i k), .junk, .junk, .junk, .junk, .junk, .junk, .junk]) (fun _ => []) 0 ?_ ?_ ?_
  · simp
  · refine ⟨[], rfl, rfl, ?_, trivial⟩
    simp [wks, wk]
  · intro k C hI hC
    conv => whnf
    refine onBool_split (fun h => ?_) (fun h => ?_)
    · conv => whnf
      have hk : k < l.length := by simpa using h
      have hg : l[k]? = some l[k] := List.getElem?_eq_getElem hk
      refine ⟨by omega, nthK_of (x := i l[k]) (by show (l.map i)[k]? = _; simp [hk]) ?_⟩
      conv => whnf
      have hf := first_drop l k _ hg
      refine onBool_split (fun h2 => ?_) (fun h2 => ?_)
      · conv => whnf
        refine end_data ?_
        simp only [Bool.not_eq_true', decide_eq_false_iff_not] at h2
        rw [hI.2, hf, if_neg h2]
      · conv => whnf
        simp only [Bool.not_eq_false', decide_eq_true_eq] at h2
        refine hC (k + 1) _ _ ⟨hk, by rw [hI.2, hf, if_pos h2]⟩ (by omega) ⟨[], rfl, rfl, ?_, trivial⟩
        simp [wks, wk]
        exact Go.IntWalk.i64_in _ (by omega)
    · conv => whnf
      have hk : ¬ k < l.length := by simpa using h
      refine end_data ?_
      rw [hI.2, List.drop_eq_nil_of_le (by omega)]
      rfl

theorem c88 (l : List Int) (hl : l.length < 1000000) : Fn 88 [.fs (l.map i)] (i (first l)) := by
  refine run_walk eok Try.func88 rfl ?_
  conv => whnf
  refine loop_rule (σ := Nat) (fun k => l.length - k) (fun k => k ≤ l.length ∧ first l = first (l.drop k))
    (fun k => [.d (.fs (l.map i)), .junk, .d (i 0), .d (i 0), .junk, .junk, .d (.fs (l.map i)), .d (i l.length), .d (i k), .junk, .junk, .junk, .junk, .junk, .junk, .junk, .junk, .junk]) (fun _ => []) 0 ?_ ?_ ?_
  · simp
  · refine ⟨[], rfl, rfl, ?_, trivial⟩
    simp [wks, wk]
  · intro k C hI hC
    conv => whnf
    refine onBool_split (fun h => ?_) (fun h => ?_)
    · conv => whnf
      have hk : k < l.length := by simpa using h
      have hg : l[k]? = some l[k] := List.getElem?_eq_getElem hk
      refine ⟨by omega, nthK_of (x := i l[k]) (by show (l.map i)[k]? = _; simp [hk]) ?_⟩
      conv => whnf
      have hf := first_drop l k _ hg
      refine onBool_split (fun h2 => ?_) (fun h2 => ?_)
      · conv => whnf
        refine end_data ?_
        simp only [Bool.not_eq_true', decide_eq_false_iff_not] at h2
        rw [hI.2, hf, if_neg h2]
      · conv => whnf
        simp only [Bool.not_eq_false', decide_eq_true_eq] at h2
        refine hC (k + 1) _ _ ⟨hk, by rw [hI.2, hf, if_pos h2]⟩ (by omega) ⟨[], rfl, rfl, ?_, trivial⟩
        simp [wks, wk]
        exact Go.IntWalk.i64_in _ (by omega)
    · conv => whnf
      have hk : ¬ k < l.length := by simpa using h
      refine end_data ?_
      rw [hI.2, List.drop_eq_nil_of_le (by omega)]
      rfl

theorem size_wrap {n : Nat} (h : n < 1000000) : IntKind.i64.wrap (IntKind.i64.wrap ((IntKind.i64.wrap (IntKind.i64.wrap (IntKind.i64.wrap (32 + (n : Int)) + 8) - 1)).tdiv 8) * 8) = size n := by
  have w := Go.IntWalk.i64_in
  rw [w (32 + (n : Int)) (by omega), w (32 + (n : Int) + 8) (by omega), w (32 + (n : Int) + 8 - 1) (by omega), Int.tdiv_eq_ediv_of_nonneg (by omega), w ((32 + (n : Int) + 8 - 1) / 8) (by omega), w ((32 + (n : Int) + 8 - 1) / 8 * 8) (by omega)]
  unfold size
  omega

end Go.Proofs.Ytjbipdppgoldlaa

/-! Wb -/
namespace Go.Proofs.Ytjbipdppgoldlaa
open Go Dw
set_option maxRecDepth 10000
set_option linter.unusedVariables false
set_option linter.unusedSimpArgs false

theorem c55 (a b : Int) : Fn 55 [i a, i b] (.bool (has a b)) := by
  refine run_walk eok Try.func55 rfl ?_
  conv => whnf
  repeat' (first
    | (refine onBool_split (fun h => ?_) (fun h => ?_) <;> conv => whnf)
    | (refine ⟨rfl, ?_⟩; conv => whnf)
    | fail
    )
  all_goals (exact end_data rfl)

theorem c56 (x : Chg) (h : x.name.length < 1000000) : Fn 56 [x.enc] (i (size x.name.length)) := by
  refine run_walk eok Try.func56 rfl ?_
  conv => whnf
  repeat' (first
    | (refine onBool_split (fun h => ?_) (fun h => ?_) <;> conv => whnf)
    | (refine ⟨rfl, ?_⟩; conv => whnf)
    | fail
    )
  all_goals (exact end_data (congrArg i (size_wrap h)))

theorem c87 (a : Int) : Fn 87 [i a] (.bool false) := by
  refine run_walk eok Try.func87 rfl ?_
  conv => whnf
  repeat' (first
    | (refine onBool_split (fun h => ?_) (fun h => ?_) <;> conv => whnf)
    | (refine ⟨rfl, ?_⟩; conv => whnf)
    | fail
    )
  all_goals (exact end_data (by simp))

theorem c50 (a b : Int) : Fn 50 [i a, i b] (i (cmp a b)) := by
  refine run_walk eok Try.func50 rfl ?_
  conv => whnf
  repeat' (first
    | (refine onBool_split (fun h => ?_) (fun h => ?_) <;> conv => whnf)
    | (refine call_step (run_view (c87 _) rfl rfl) ?_; conv => whnf)
    | (refine ⟨rfl, ?_⟩; conv => whnf)
    | fail
    )
  all_goals (exact end_data (by simp only [cmp]; first | (simp_all; done) | (split <;> (try split) <;> simp_all <;> omega)))

theorem c65 (a b : Ref) : Fn 65 [a.enc, b.enc] (i (compare a b)) := by
  refine run_walk eok Try.func65 rfl ?_
  conv => whnf
  repeat' (first
    | (refine onBool_split (fun h => ?_) (fun h => ?_) <;> conv => whnf)
    | (refine call_step (run_view (c50 _ _) rfl rfl) ?_; conv => whnf)
    | (refine call_step (run_view (c88 [_, _] (by simp)) rfl rfl) ?_; conv => whnf)
    | (refine ⟨[], [(6, 4), (8, 4)], rfl, ?_⟩; conv => whnf)
    | (refine ⟨rfl, ?_⟩; conv => whnf)
    | fail
    )
  all_goals (exact end_data rfl)

end Go.Proofs.Ytjbipdppgoldlaa

/-! Wc -/
namespace Go.Proofs.Ytjbipdppgoldlaa
open Go Dw
set_option maxRecDepth 10000
set_option linter.unusedVariables false
set_option linter.unusedSimpArgs false

theorem c90 (b : UInt8) : Fn 90 [.int .u8 b.toNat] (.bool (decide ((b.toNat : Int) < 32))) := by
  refine run_walk eok Try.func90 rfl ?_
  conv => whnf
  repeat' (first
    | (refine onBool_split (fun h => ?_) (fun h => ?_) <;> conv => whnf)
    | (refine ⟨rfl, ?_⟩; conv => whnf)
    | fail
    )
  all_goals (exact end_data rfl)

theorem idx_drop (l : List UInt8) (k : Nat) (h : k < l.length) : idx (l.drop k) k = if (l[k].toNat : Int) < 32 then (k : Int) else idx (l.drop (k + 1)) (k + 1) := by
  rw [List.drop_eq_getElem_cons h]; rfl

theorem idx_ctl : ∀ (l : List UInt8) (k : Nat), decide (0 ≤ idx l k) = ctl l
  | [], k => rfl
  | b :: l, k => by
    have ih := idx_ctl l (k + 1)
    simp only [idx, ctl, List.any_cons] at ih ⊢
    by_cases h : (b.toNat : Int) < 32
    · simp [h]
    · simp only [h, if_false, ih, decide_false, Bool.false_or]

theorem c100 (l : List UInt8) (hl : l.length < 1000000) : Fn 100 [.fs (l.map fun b => .int .u8 b.toNat), .fn 90 [] []] (i (idx l 0)) := by
  refine run_walk eok Try.func100 rfl ?_
  conv => whnf
  refine loop_rule (σ := Nat) (fun k => l.length - k) (fun k => k ≤ l.length ∧ idx l 0 = idx (l.drop k) k)
    (fun k => [.d (.fs (l.map fun b => .int .u8 b.toNat)), .d (.fn 90 [] []), .junk, .junk, .d (i 0), .junk, .d (.fs (l.map fun b => .int .u8 b.toNat)), .d (i l.length), .d (i k), .junk, .junk, .junk, .junk, .junk, .junk, .junk, .junk, .junk, .junk]) (fun _ => []) 0 ?_ ?_ ?_
  · simp
  · refine ⟨[], rfl, rfl, ?_, trivial⟩
    simp [wks, wk]
  · intro k C hI hC
    conv => whnf
    refine onBool_split (fun h => ?_) (fun h => ?_)
    · conv => whnf
      have hk : k < l.length := by simpa using h
      refine ⟨by omega, nthK_of (x := .int .u8 l[k].toNat) (by show (l.map _)[k]? = _; simp [hk]) ?_⟩
      conv => whnf
      refine ⟨_, _, run_view (c90 _) rfl rfl, ?_⟩
      conv => whnf
      have hf := idx_drop l k hk
      refine onBool_split (fun h2 => ?_) (fun h2 => ?_)
      · conv => whnf
        refine end_data ?_
        rw [hI.2, hf, if_pos (by simpa using h2)]
      · conv => whnf
        refine hC (k + 1) _ _ ⟨hk, by rw [hI.2, hf, if_neg (by simpa using h2)]⟩ (by omega) ⟨[], rfl, rfl, ?_, trivial⟩
        simp [wks, wk]
        exact Go.IntWalk.i64_in _ (by omega)
    · conv => whnf
      have hk : ¬ k < l.length := by simpa using h
      refine end_data ?_
      rw [hI.2, List.drop_eq_nil_of_le (by omega)]
      rfl

theorem c89 (l : List UInt8) (hl : l.length < 1000000) : Fn 89 [.fs (l.map fun b => .int .u8 b.toNat), .fn 90 [] []] (.bool (ctl l)) := by
  refine run_walk eok Try.func89 rfl ?_
  conv => whnf
  repeat' (first
    | (refine onBool_split (fun h => ?_) (fun h => ?_) <;> conv => whnf)
    | (refine call_step (run_view (c100 _ hl) rfl rfl) ?_; conv => whnf)
    | (refine ⟨rfl, ?_⟩; conv => whnf)
    | fail
    )
  all_goals (exact end_data (by rw [← idx_ctl l 0]))

theorem c68 (s : List UInt8) (hs : s.length < 1000000) : Fn 68 [.str s] (i (nameErr s)) := by
  refine run_walk eok Try.func68 rfl ?_
  conv => whnf
  repeat' (first
    | (refine onBool_split (fun h => ?_) (fun h => ?_) <;> conv => whnf)
    | (refine call_step (run_view (c51 _ _ _) rfl rfl) ?_; conv => whnf)
    | (refine call_step (run_view (c89 s hs) rfl (vl2 (view_bytes rfl (by decide)) rfl)) ?_; conv => whnf)
    | (refine call_step (run_view (c54 _ _) rfl rfl) ?_; conv => whnf)
    | (refine ⟨rfl, ?_⟩; conv => whnf)
    | fail
    )
  all_goals (exact end_data (by simp [*, nameErr, within]))

theorem c61 (x : Chg) (h0 : x.name.length < 1000000) : Fn 61 [x.enc] (i (recordErr x)) := by
  refine run_walk eok Try.func61 rfl ?_
  conv => whnf
  repeat' (first
    | (refine onBool_split (fun h => ?_) (fun h => ?_) <;> conv => whnf)
    | (refine call_step (run_view (c64 _) rfl rfl) ?_; conv => whnf)
    | (refine call_step (run_view (c51 _ _ _) rfl rfl) ?_; conv => whnf)
    | (refine call_step (run_view (c54 _ _) rfl rfl) ?_; conv => whnf)
    | (refine call_step (run_view (c68 _ (by assumption)) rfl rfl) ?_; conv => whnf)
    | (refine call_step (run_view (c52 [_, _] (by simp)) rfl rfl) ?_; conv => whnf)
    | (refine call_step (run_view (c52 [_, _, _] (by simp)) rfl rfl) ?_; conv => whnf)
    | (refine call_step (run_view (c52 [_, _, _, _] (by simp)) rfl rfl) ?_; conv => whnf)
    | (refine ⟨[], [(4, 2), (7, 2), (16, 2), (7, 5), (16, 5), (16, 8), (16, 12), (16, 14)], rfl, ?_⟩; conv => whnf)
    | (refine ⟨rfl, ?_⟩; conv => whnf)
    | fail
    )
  all_goals (exact end_data (by simp [*, recordErr, within]))

theorem c19 (x : Chg) (h0 : x.name.length < 1000000) : Fn 19 [x.enc] (.tup [i (if nameErr x.name = 0 then size x.name.length else 0), i (nameErr x.name)]) := by
  refine run_walk eok Try.func19 rfl ?_
  conv => whnf
  repeat' (first
    | (refine onBool_split (fun h => ?_) (fun h => ?_) <;> conv => whnf)
    | (refine call_step (run_view (c68 _ (by assumption)) rfl rfl) ?_; conv => whnf)
    | (refine call_step (run_view (c56 _ (by assumption)) rfl rfl) ?_; conv => whnf)
    | (refine ⟨rfl, ?_⟩; conv => whnf)
    | fail
    )
  all_goals (refine end_tup2 ?_; simp only [Bool.not_eq_true', Bool.not_eq_false', decide_eq_true_eq, decide_eq_false_iff_not] at h; simp [h])

end Go.Proofs.Ytjbipdppgoldlaa

/-! Wd -/
namespace Go.Proofs.Ytjbipdppgoldlaa
open Go Dw
set_option maxRecDepth 10000
set_option linter.unusedVariables false
set_option linter.unusedSimpArgs false

def recErr (x : Chg) (at_ : Int) : Int := first [recordErr x, if x.usn = at_ then 0 else 9]

theorem c60 (k at_ : Int) (x : Chg) (h0 : x.name.length < 1000000) : Run Try.prog 60 [.d (i k), .d x.enc, .ptr 0 0 0] [⟨[.d (i at_)], 1, 0⟩] (.d (i (recErr x at_))) [⟨[.d (i (IntKind.i64.wrap (at_ + size x.name.length)))], 1, 0⟩] := by
  refine run_walk eok Try.func60 rfl ?_
  conv => whnf
  repeat' (first
    | (refine onBool_split (fun h => ?_) (fun h => ?_) <;> conv => whnf)
    | (refine call_step (run_view (c61 _ (by assumption)) rfl rfl) ?_; conv => whnf)
    | (refine call_step (run_view (c54 _ _) rfl rfl) ?_; conv => whnf)
    | (refine call_step (run_view (c52 [_, _] (by simp)) rfl rfl) ?_; conv => whnf)
    | (refine call_step (run_view (c52 [_, _, _] (by simp)) rfl rfl) ?_; conv => whnf)
    | (refine call_step (run_view (c52 [_, _, _, _] (by simp)) rfl rfl) ?_; conv => whnf)
    | (refine call_step (run_view (c56 _ (by assumption)) rfl rfl) ?_; conv => whnf)
    | (refine ⟨[], [(3, 1), (4, 1)], rfl, ?_⟩; conv => whnf)
    | (refine ⟨[], [(0, 2)], rfl, ?_⟩; conv => whnf)
    | (refine ⟨rfl, ?_⟩; conv => whnf)
    | fail
    )
  all_goals (exact end_old1 (l := [_]) (by simp [recErr]) rfl rfl rfl rfl)

end Go.Proofs.Ytjbipdppgoldlaa

/-! We -/
namespace Go.Proofs.Ytjbipdppgoldlaa
open Go Dw
set_option maxRecDepth 10000
set_option linter.unusedVariables false
set_option linter.unusedSimpArgs false

theorem c58 (j : Jrn) : Fn 58 [j.enc] (i (numbersErr j)) := by
  refine run_walk eok Try.func58 rfl ?_
  conv => whnf
  refine loop_rule (σ := Nat) (fun k => 3 - k) (fun k => k ≤ 3 ∧ (1 ≤ k → within j.id 0 2147483647 = true) ∧ (2 ≤ k → within j.first 0 2147483647 = true) ∧ (3 ≤ k → within j.next 0 2147483647 = true))
    (fun k => [.junk, .ptr 0 0 0, .d (i 0), .junk, .junk, .junk, .junk, .junk, .junk, .junk, .junk, .agg [.d (i j.id), .d (i j.first), .d (i j.next)], .d (i k), .junk, .junk, .junk, .junk, .junk, .junk, .junk, .junk, .junk, .junk]) (fun _ => [⟨[.d j.enc], 6, 0⟩]) 0 ?_ ?_ ?_
  · simp
  · exact ⟨[.old 0], rfl, rfl, by simp [wks, wk], ⟨⟨rfl, rfl, .inl ⟨[_], rfl, rfl⟩⟩, trivial⟩⟩
  · intro k C hI hC
    by_cases hk : k < 3
    · obtain ⟨_, h1, h2, h3⟩ := hI
      obtain rfl | rfl | rfl : k = 0 ∨ k = 1 ∨ k = 2 := by omega
      all_goals
        conv => whnf
        refine ⟨⟨by decide, by decide⟩, ?_⟩
        conv => whnf
        refine ⟨_, _, run_view (c51 _ _ _) rfl rfl, ?_⟩
        conv => whnf
        refine onBool_split (fun h => ?_) (fun h => ?_)
      · conv => whnf
        refine end_data ?_
        simp only [Bool.not_eq_true'] at h
        simp [numbersErr, within, h]
      · conv => whnf
        simp only [Bool.not_eq_false'] at h
        refine hC 1 _ _ ⟨by omega, fun _ => h, by omega, by omega⟩ (by omega) ⟨[.old 0], rfl, rfl, by simp [wks, wk]; rfl, ⟨⟨rfl, rfl, .inl ⟨[_], rfl, rfl⟩⟩, trivial⟩⟩
      · conv => whnf
        refine end_data ?_
        simp only [Bool.not_eq_true'] at h
        simp [numbersErr, within, h]
      · conv => whnf
        simp only [Bool.not_eq_false'] at h
        refine hC 2 _ _ ⟨by omega, fun _ => h1 (by omega), fun _ => h, by omega⟩ (by omega) ⟨[.old 0], rfl, rfl, by simp [wks, wk]; rfl, ⟨⟨rfl, rfl, .inl ⟨[_], rfl, rfl⟩⟩, trivial⟩⟩
      · conv => whnf
        refine end_data ?_
        simp only [Bool.not_eq_true'] at h
        simp [numbersErr, within, h]
      · conv => whnf
        simp only [Bool.not_eq_false'] at h
        refine hC 3 _ _ ⟨by omega, fun _ => h1 (by omega), fun _ => h2 (by omega), fun _ => h⟩ (by omega) ⟨[.old 0], rfl, rfl, by simp [wks, wk]; rfl, ⟨⟨rfl, rfl, .inl ⟨[_], rfl, rfl⟩⟩, trivial⟩⟩
    · have hk3 : k = 3 := by omega
      subst hk3
      obtain ⟨_, h1, h2, h3⟩ := hI
      conv => whnf
      refine ⟨_, _, run_view (c51 _ _ _) rfl rfl, ?_⟩
      conv => whnf
      refine ⟨_, _, run_view (c54 _ _) rfl rfl, ?_⟩
      conv => whnf
      refine end_data ?_
      simp only [numbersErr, h1 (by omega), h2 (by omega), h3 (by omega)]
      rfl

theorem c22 (a b : Int) : Fn 22 [i a, i b] (let j : Jrn := ⟨a, 0, 0, b, [], []⟩; .tup [if numbersErr j = 0 then j.enc else (⟨0, 0, 0, 0, [], []⟩ : Jrn).enc, i (numbersErr j)]) := by
  refine run_walk eok Try.func22 rfl ?_
  conv => whnf
  repeat' (first
    | (refine onBool_split (fun h => ?_) (fun h => ?_) <;> conv => whnf)
    | (refine call_step (run_view (c58 _) rfl rfl) ?_; conv => whnf)
    | (refine call_step (run_view (c58 ⟨a, 0, 0, b, [], []⟩) rfl rfl) ?_; conv => whnf)
    | (refine ⟨rfl, ?_⟩; conv => whnf)
    | fail
    )
  all_goals (refine end_view rfl ?_; simp only [Bool.not_eq_true', Bool.not_eq_false', decide_eq_true_eq, decide_eq_false_iff_not] at h; simp only [h, if_true, if_false]; rfl)

end Go.Proofs.Ytjbipdppgoldlaa

/-! Wf -/
namespace Go.Proofs.Ytjbipdppgoldlaa
open Go Dw
set_option maxRecDepth 10000
set_option linter.unusedVariables false
set_option linter.unusedSimpArgs false

def eachRec : List Chg → Nat → Int → Int × Int × Int
  | [], _, at_ => (0, 0, at_)
  | x :: l, k, at_ => if recErr x at_ = 0 then eachRec l (k + 1) (IntKind.i64.wrap (at_ + size x.name.length)) else (k, recErr x at_, IntKind.i64.wrap (at_ + size x.name.length))

theorem eachRec_drop (l : List Chg) (k : Nat) (a : Int) (h : k < l.length) : eachRec (l.drop k) k a = if recErr l[k] a = 0 then eachRec (l.drop (k + 1)) (k + 1) (IntKind.i64.wrap (a + size l[k].name.length)) else (k, recErr l[k] a, IntKind.i64.wrap (a + size l[k].name.length)) := by
  rw [List.drop_eq_getElem_cons h]; rfl

theorem c59 (l : List Chg) (at0 : Int) (hl : l.length < 1000000) (hn : ∀ x ∈ l, x.name.length < 1000000) : Run Try.prog 59 [.d (.fs (l.map Chg.enc)), .fn 60 [] [.ptr 0 0 0]] [⟨[.d (i at0)], 1, 0⟩] (.d (.tup [i (eachRec l 0 at0).1, i (eachRec l 0 at0).2.1])) [⟨[.d (i (eachRec l 0 at0).2.2)], 1, 0⟩] := by
  refine run_walk eok Try.func59 rfl ?_
  conv => whnf
  refine loop_rule (σ := Nat × Int) (fun s => l.length - s.1) (fun s => s.1 ≤ l.length ∧ eachRec l 0 at0 = eachRec (l.drop s.1) s.1 s.2)
    (fun s => [.junk, .fn 60 [] [.ptr 0 0 0], .junk, .junk, .d (i 0), .d (i 0), .junk, .junk, .junk, .d (.fs (l.map Chg.enc)), .d (i l.length), .d (i s.1), .junk, .junk, .junk, .junk, .junk, .junk, .junk, .junk, .junk, .junk, .junk, .junk, .junk]) (fun s => [⟨[.d (i s.2)], 1, 0⟩]) (0, at0) ?_ ?_ ?_
  · simp
  · exact ⟨[.old 0], rfl, rfl, by simp [wks, wk], ⟨⟨rfl, rfl, .inl ⟨[_], rfl, rfl⟩⟩, trivial⟩⟩
  · rintro ⟨k, a⟩ C hI hC
    simp only at hI hC
    conv => whnf
    refine onBool_split (fun h => ?_) (fun h => ?_)
    · conv => whnf
      have hk : k < l.length := by simpa using h
      refine ⟨by omega, nthK_of (x := l[k].enc) (by show (l.map _)[k]? = _; simp [hk]) ?_⟩
      conv => whnf
      refine ⟨.d (i (recErr l[k] a)), [⟨[.d (i (IntKind.i64.wrap (a + size l[k].name.length)))], 1, 0⟩, ⟨[.d l[k].enc], 8, 0⟩], run_at (σ := [0]) (F := []) (fl := true) (c60 k a l[k] (hn _ (List.getElem_mem hk))) (by decide) (fun _ h => by cases h) ⟨⟨rfl, fun _ h => by cases h⟩, ⟨rfl, fun _ h => by cases h⟩, ⟨rfl, rfl, rfl⟩, trivial⟩ ⟨⟨rfl, rfl, .inl ⟨[_], rfl, rfl⟩⟩, trivial⟩ (fun _ => ⟨rfl, fun o ho => by simp at ho; subst ho; exact ⟨rfl, fun h => by cases h⟩⟩) rfl rfl, ?_⟩
      conv => whnf
      have he := eachRec_drop l k a hk
      refine onBool_split (fun h2 => ?_) (fun h2 => ?_)
      · conv => whnf
        simp only [Bool.not_eq_true', decide_eq_false_iff_not] at h2
        have he2 : eachRec l 0 at0 = ((k : Int), recErr l[k] a, IntKind.i64.wrap (a + size l[k].name.length)) := by rw [hI.2, he, if_neg h2]
        rw [he2]
        exact .inl ⟨[.old 0], rfl, rfl, ⟨⟨rfl, rfl, rfl, trivial⟩, trivial⟩, ⟨⟨rfl, rfl, .inl ⟨[_], rfl, rfl⟩⟩, trivial⟩⟩
      · conv => whnf
        simp only [Bool.not_eq_false', decide_eq_true_eq] at h2
        refine hC (k + 1, IntKind.i64.wrap (a + size l[k].name.length)) _ _ ⟨hk, by rw [hI.2, he, if_pos h2]⟩ (by show l.length - (k + 1) < l.length - k; omega) ⟨[.old 0], rfl, rfl, ?_, ⟨⟨rfl, rfl, .inl ⟨[_], rfl, rfl⟩⟩, trivial⟩⟩
        simp [wks, wk]
        exact Go.IntWalk.i64_in _ (by omega)
    · conv => whnf
      have hk : ¬ k < l.length := by simpa using h
      have he : eachRec l 0 at0 = (0, 0, a) := by rw [hI.2, List.drop_eq_nil_of_le (by omega)]; rfl
      rw [he]
      exact .inl ⟨[.old 0], rfl, rfl, ⟨⟨rfl, rfl, rfl, trivial⟩, trivial⟩, ⟨⟨rfl, rfl, .inl ⟨[_], rfl, rfl⟩⟩, trivial⟩⟩

end Go.Proofs.Ytjbipdppgoldlaa

/-! Wg -/
namespace Go.Proofs.Ytjbipdppgoldlaa
open Go Dw
set_option maxRecDepth 10000
set_option linter.unusedVariables false
set_option linter.unusedSimpArgs false

def opnErr (opens : List Opn) (k : Nat) (x : Opn) : Int :=
  first [refErr x.file, if within x.reasons 1 4095 && !has x.reasons 2048 then 0 else 2, if k = 0 then 0 else match opens[k - 1]? with | some p => if compare p.file x.file < 0 then 0 else 9 | none => 0]

theorem prev_ix {k : Nat} (hk : decide ((k : Int) = 0) = false) (hb : k < 1000000) : goMax 0 (IntKind.i64.wrap ((k : Int) - 1)) = ((k - 1 : Nat) : Int) := by
  have hk' : (k : Int) ≠ 0 := by simpa using hk
  rw [Go.IntWalk.i64_in _ (by omega)]
  unfold goMax
  split <;> omega

theorem prev_get {k : Nat} {l : List Opn} {p : Opn} (hk : decide ((k : Int) = 0) = false) (hb : k < 1000000) (hp : k ≠ 0 → l[k - 1]? = some p) : (l.map Opn.enc)[(goMax 0 (IntKind.i64.wrap ((k : Int) - 1))).toNat]? = some p.enc := by
  rw [prev_ix hk hb]
  have hk' : k ≠ 0 := by
    intro h; subst h; simp at hk
  simp [hp hk']

theorem c63 (j : Jrn) (k : Nat) (x p : Opn) (hb : k < 1000000) (hp : k ≠ 0 → j.opens[k - 1]? = some p) : Run Try.prog 63 [.d (i k), .d x.enc, .ptr 0 0 0] [⟨[.d j.enc], 6, 0⟩] (.d (i (opnErr j.opens k x))) [⟨[.d j.enc], 6, 0⟩] := by
  refine run_walk eok Try.func63 rfl ?_
  conv => whnf
  repeat' (first
    | (refine onBool_split (fun h => ?_) (fun h => ?_) <;> conv => whnf)
    | (refine call_step (run_view (c51 _ _ _) rfl rfl) ?_; conv => whnf)
    | (refine call_step (run_view (c55 _ _) rfl rfl) ?_; conv => whnf)
    | (refine call_step (run_view (c64 _) rfl rfl) ?_; conv => whnf)
    | (refine call_step (run_view (c54 _ _) rfl rfl) ?_; conv => whnf)
    | (refine call_step (run_view (c65 _ _) rfl rfl) ?_; conv => whnf)
    | (refine call_step (run_view (c52 [_, _] (by simp)) rfl rfl) ?_; conv => whnf)
    | (refine call_step (run_view (c52 [_, _, _] (by simp)) rfl rfl) ?_; conv => whnf)
    | (refine call_step (run_view (c52 [_, _, _, _] (by simp)) rfl rfl) ?_; conv => whnf)
    | (refine ⟨[], [], rfl, ?_⟩; conv => whnf)
    | (refine ⟨by rw [prev_ix h hb]; omega, nthK_of (x := p.enc) (prev_get h hb hp) ?_⟩; conv => whnf)
    | (refine ⟨rfl, ?_⟩; conv => whnf)
    | fail
    )
  all_goals (rename_i h0; have hw : within x.reasons 1 4095 = _ := h0; clear h0; refine end_old1 (l := [_]) (congrArg i ?_) rfl rfl rfl rfl; simp_all [opnErr])

def eachOpn (all : List Opn) : List Opn → Nat → Int × Int
  | [], _ => (0, 0)
  | x :: l, k => if opnErr all k x = 0 then eachOpn all l (k + 1) else (k, opnErr all k x)

theorem eachOpn_drop (all l : List Opn) (k : Nat) (h : k < l.length) : eachOpn all (l.drop k) k = if opnErr all k l[k] = 0 then eachOpn all (l.drop (k + 1)) (k + 1) else (k, opnErr all k l[k]) := by
  rw [List.drop_eq_getElem_cons h]; rfl

theorem c62 (j : Jrn) (hl : j.opens.length < 1000000) : Run Try.prog 62 [.d (.fs (j.opens.map Opn.enc)), .fn 63 [] [.ptr 0 0 0]] [⟨[.d j.enc], 6, 0⟩] (.d (.tup [i (eachOpn j.opens j.opens 0).1, i (eachOpn j.opens j.opens 0).2])) [⟨[.d j.enc], 6, 0⟩] := by
  refine run_walk eok Try.func62 rfl ?_
  conv => whnf
  refine loop_rule (σ := Nat) (fun k => j.opens.length - k) (fun k => k ≤ j.opens.length ∧ eachOpn j.opens j.opens 0 = eachOpn j.opens (j.opens.drop k) k)
    (fun k => [.junk, .fn 63 [] [.ptr 0 0 0], .junk, .junk, .d (i 0), .d (i 0), .junk, .junk, .junk, .d (.fs (j.opens.map Opn.enc)), .d (i j.opens.length), .d (i k), .junk, .junk, .junk, .junk, .junk, .junk, .junk, .junk, .junk, .junk, .junk, .junk, .junk]) (fun _ => [⟨[.d j.enc], 6, 0⟩]) 0 ?_ ?_ ?_
  · simp
  · exact ⟨[.old 0], rfl, rfl, by simp [wks, wk], ⟨⟨rfl, rfl, .inl ⟨[_], rfl, rfl⟩⟩, trivial⟩⟩
  · intro k C hI hC
    conv => whnf
    refine onBool_split (fun h => ?_) (fun h => ?_)
    · conv => whnf
      have hk : k < j.opens.length := by simpa using h
      refine ⟨by omega, nthK_of (x := j.opens[k].enc) (by show (j.opens.map _)[k]? = _; simp [hk]) ?_⟩
      conv => whnf
      have hp : k ≠ 0 → j.opens[k - 1]? = some (j.opens[k - 1]'(by omega)) := fun _ => List.getElem?_eq_getElem (by omega)
      refine ⟨.d (i (opnErr j.opens k j.opens[k])), [⟨[.d j.enc], 6, 0⟩, ⟨[.d j.opens[k].enc], 3, 0⟩], run_at (σ := [0]) (F := []) (fl := false) (c63 j k j.opens[k] _ (by omega) hp) (by decide) (fun _ h => by cases h) ⟨⟨rfl, fun _ h => by cases h⟩, ⟨rfl, fun _ h => by cases h⟩, ⟨rfl, rfl, rfl⟩, trivial⟩ ⟨⟨rfl, rfl, .inl ⟨[_], rfl, rfl⟩⟩, trivial⟩ (fun h => by cases h) rfl rfl, ?_⟩
      conv => whnf
      have he := eachOpn_drop j.opens j.opens k hk
      refine onBool_split (fun h2 => ?_) (fun h2 => ?_)
      · conv => whnf
        simp only [Bool.not_eq_true', decide_eq_false_iff_not] at h2
        have he2 : eachOpn j.opens j.opens 0 = ((k : Int), opnErr j.opens k j.opens[k]) := by rw [hI.2, he, if_neg h2]
        rw [he2]
        exact .inl ⟨[.old 0], rfl, rfl, ⟨⟨rfl, rfl, rfl, trivial⟩, trivial⟩, ⟨⟨rfl, rfl, .inl ⟨[_], rfl, rfl⟩⟩, trivial⟩⟩
      · conv => whnf
        simp only [Bool.not_eq_false', decide_eq_true_eq] at h2
        refine hC (k + 1) _ _ ⟨hk, by rw [hI.2, he, if_pos h2]⟩ (by omega) ⟨[.old 0], rfl, rfl, ?_, ⟨⟨rfl, rfl, .inl ⟨[_], rfl, rfl⟩⟩, trivial⟩⟩
        simp [wks, wk]
        exact Go.IntWalk.i64_in _ (by omega)
    · conv => whnf
      have hk : ¬ k < j.opens.length := by simpa using h
      have he : eachOpn j.opens j.opens 0 = (0, 0) := by rw [hI.2, List.drop_eq_nil_of_le (by omega)]; rfl
      rw [he]
      exact .inl ⟨[.old 0], rfl, rfl, ⟨⟨rfl, rfl, rfl, trivial⟩, trivial⟩, ⟨⟨rfl, rfl, .inl ⟨[_], rfl, rfl⟩⟩, trivial⟩⟩

end Go.Proofs.Ytjbipdppgoldlaa

/-! Wh -/
namespace Go.Proofs.Ytjbipdppgoldlaa
open Go Dw
set_option maxRecDepth 10000
set_option linter.unusedVariables false
set_option linter.unusedSimpArgs false

def few (j : Jrn) : Bool := decide ((j.recs.length : Int) ≤ 200) && decide ((j.opens.length : Int) ≤ 64)
def checkJ (j : Jrn) : Int × Int :=
  if first [numbersErr j, if few j then 0 else 8] ≠ 0 then (0, first [numbersErr j, if few j then 0 else 8])
  else if (eachRec j.recs 0 j.first).2.1 ≠ 0 then ((eachRec j.recs 0 j.first).1, (eachRec j.recs 0 j.first).2.1)
  else if j.next ≠ (eachRec j.recs 0 j.first).2.2 then (0, 9)
  else eachOpn j.opens j.opens 0

structure Mod (j : Jrn) : Prop where
  recs : j.recs.length < 1000000
  names : ∀ x ∈ j.recs, x.name.length < 1000000
  opens : j.opens.length < 1000000

theorem c17 (j : Jrn) (hr : j.recs.length < 1000000) (hn : ∀ x ∈ j.recs, x.name.length < 1000000) (ho : j.opens.length < 1000000) : Fn 17 [j.enc] (.tup [i (checkJ j).1, i (checkJ j).2]) := by
  refine run_walk eok Try.func17 rfl ?_
  conv => whnf
  repeat' (first
    | (refine onBool_split (fun h => ?_) (fun h => ?_) <;> conv => whnf)
    | (refine call_step (run_view (c58 _) rfl rfl) ?_; conv => whnf)
    | (refine call_step (run_view (c54 _ _) rfl rfl) ?_; conv => whnf)
    | (refine call_step (run_view (c52 [_, _] (by simp)) rfl rfl) ?_; conv => whnf)
    | (refine call_step (run_view (c52 [_, _, _] (by simp)) rfl rfl) ?_; conv => whnf)
    | (refine call_step (run_view (c52 [_, _, _, _] (by simp)) rfl rfl) ?_; conv => whnf)
    | (refine ⟨.d (.tup [i (eachRec j.recs 0 j.first).1, i (eachRec j.recs 0 j.first).2.1]), [⟨[.d j.enc], 6, 0⟩, _, ⟨[.d (i (eachRec j.recs 0 j.first).2.2)], 1, 0⟩], run_at (σ := [2]) (F := []) (fl := false) (c59 j.recs j.first hr hn) (by decide) (fun _ h => by cases h) ⟨⟨rfl, fun _ h => by cases h⟩, ⟨rfl, trivial, ⟨rfl, rfl, rfl⟩, trivial⟩, trivial⟩ ⟨⟨rfl, rfl, .inl ⟨[_], rfl, rfl⟩⟩, trivial⟩ (fun h => by cases h) rfl rfl, ?_⟩; conv => whnf)
    | (refine ⟨.d (.tup [i (eachOpn j.opens j.opens 0).1, i (eachOpn j.opens j.opens 0).2]), [⟨[.d j.enc], 6, 0⟩, _, _], run_at (σ := [0]) (F := []) (fl := false) (c62 j ho) (by decide) (fun _ h => by cases h) ⟨⟨rfl, fun _ h => by cases h⟩, ⟨rfl, trivial, ⟨rfl, rfl, rfl⟩, trivial⟩, trivial⟩ ⟨⟨rfl, rfl, .inl ⟨[_], rfl, rfl⟩⟩, trivial⟩ (fun h => by cases h) rfl rfl, ?_⟩; conv => whnf)
    | (refine ⟨rfl, ?_⟩; conv => whnf)
    | fail
    )
  all_goals (refine end_tup2 ?_; first | (simp_all [checkJ, few]; done) | (simp_all [checkJ, few, -Int.not_lt, -Int.not_le, ← Int.not_lt]))

end Go.Proofs.Ytjbipdppgoldlaa

/-! Wi -/
namespace Go.Proofs.Ytjbipdppgoldlaa
open Go Dw
set_option maxRecDepth 10000
set_option linter.unusedVariables false
set_option linter.unusedSimpArgs false

theorem c24 (n lo hi : Int) : Fn 24 [i n, i lo, i hi] (.bool (within n lo hi)) := by
  refine run_walk eok Try.func24 rfl ?_
  conv => whnf
  repeat' (first
    | (refine onBool_split (fun h => ?_) (fun h => ?_) <;> conv => whnf)
    | (refine ⟨rfl, ?_⟩; conv => whnf)
    | fail
    )
  all_goals (exact end_data (by simp [*, within]))

theorem c23 (n : Int) : Fn 23 [i n] (.bool (within n 0 2147483647)) := by
  refine run_walk eok Try.func23 rfl ?_
  conv => whnf
  repeat' (first
    | (refine onBool_split (fun h => ?_) (fun h => ?_) <;> conv => whnf)
    | (refine call_step (run_view (c24 _ _ _) rfl rfl) ?_; conv => whnf)
    | (refine ⟨rfl, ?_⟩; conv => whnf)
    | fail
    )
  all_goals (exact end_data rfl)

theorem c71 (n : Int) : Fn 71 [i n] (.bool (within n 0 1000000)) := by
  refine run_walk eok Try.func71 rfl ?_
  conv => whnf
  repeat' (first
    | (refine onBool_split (fun h => ?_) (fun h => ?_) <;> conv => whnf)
    | (refine call_step (run_view (c24 _ _ _) rfl rfl) ?_; conv => whnf)
    | (refine ⟨rfl, ?_⟩; conv => whnf)
    | fail
    )
  all_goals (exact end_data rfl)

theorem c44 (r : Ref) : Fn 44 [r.enc] (i (refErr r)) := by
  refine run_walk eok Try.func44 rfl ?_
  conv => whnf
  repeat' (first
    | (refine onBool_split (fun h => ?_) (fun h => ?_) <;> conv => whnf)
    | (refine call_step (run_view (c24 _ _ _) rfl rfl) ?_; conv => whnf)
    | (refine ⟨rfl, ?_⟩; conv => whnf)
    | fail
    )
  all_goals (exact end_data (by simp_all [refErr]))

theorem c70 (a b : Ref) : Fn 70 [a.enc, b.enc] (i (first [refErr a, refErr b])) := by
  refine run_walk eok Try.func70 rfl ?_
  conv => whnf
  repeat' (first
    | (refine onBool_split (fun h => ?_) (fun h => ?_) <;> conv => whnf)
    | (refine call_step (run_view (c44 _) rfl rfl) ?_; conv => whnf)
    | (refine ⟨rfl, ?_⟩; conv => whnf)
    | fail
    )
  all_goals (exact end_data (by simp_all [first]))

def less (a b : Ref) : Bool := decide (a.r < b.r) || (decide (a.r = b.r) && decide (a.s < b.s))
def hasR (a b : Int) : Bool := decide ((IntKind.i64.wrap (a.tdiv b)).tmod 2 = 1)

theorem c67 (a b : Ref) : Fn 67 [a.enc, b.enc] (.bool (less a b)) := by
  refine run_walk eok Try.func67 rfl ?_
  conv => whnf
  repeat' (first
    | (refine onBool_split (fun h => ?_) (fun h => ?_) <;> conv => whnf)
    | (refine ⟨rfl, ?_⟩; conv => whnf)
    | fail
    )
  all_goals (exact end_data (by simp_all [less]))

theorem c15 (a b : Int) (hb : b ≠ 0) : Fn 15 [i a, i b] (.bool (hasR a b)) := by
  refine run_walk eok Try.func15 rfl ?_
  conv => whnf
  repeat' (first
    | (refine onBool_split (fun h => ?_) (fun h => ?_) <;> conv => whnf)
    | (refine onOk_of (by simp [hb]) ?_; conv => whnf)
    | (refine ⟨rfl, ?_⟩; conv => whnf)
    | fail
    )
  all_goals (exact end_data rfl)

theorem mod1 {n b : Int} (h1 : 0 < b) (h : n.tmod b < 0) : n.tmod b + b = n % b := by
  have h2 := Int.lt_tmod_of_pos n h1
  have e : n.tmod b + b = n + b * (1 - n.tdiv b) := by rw [Int.tmod_def, Int.mul_sub]; omega
  have e2 : (n.tmod b + b) % b = n % b := by rw [e, Int.add_mul_emod_self_left]
  rw [← e2, Int.emod_eq_of_lt (by omega) (by omega)]
theorem mod2 {n b : Int} (h1 : 0 < b) (h : ¬ n.tmod b < 0) : n.tmod b = n % b := by
  have h2 := Int.tmod_lt_of_pos n h1
  have e : n.tmod b = n + b * (- n.tdiv b) := by rw [Int.tmod_def, Int.mul_neg]; omega
  have e2 : (n.tmod b) % b = n % b := by
    have := congrArg (· % b) e
    simp only [Int.add_mul_emod_self_left] at this
    exact this
  rw [← e2, Int.emod_eq_of_lt (by omega) h2]

theorem c69 (n b : Int) (h1 : 0 < b) (h2 : b < 1000) (h3 : -1000000000000 < n) (h4 : n < 1000000000000) : Fn 69 [i n, i b] (i (n % b)) := by
  refine run_walk eok Try.func69 rfl ?_
  conv => whnf
  repeat' (first
    | (refine onBool_split (fun h => ?_) (fun h => ?_) <;> conv => whnf)
    | (refine onOk_of (by simp; omega) ?_; conv => whnf)
    | (refine ⟨rfl, ?_⟩; conv => whnf)
    | fail
    )
  all_goals (refine end_data (congrArg i ?_); first | exact mod2 h1 (by simpa using h) | (have hm := Int.lt_tmod_of_pos n h1; have hh : n.tmod b < 0 := (by simpa using h); rw [Go.IntWalk.i64_in (n.tmod b + b) ⟨by omega, by omega⟩]; exact mod1 h1 hh))

end Go.Proofs.Ytjbipdppgoldlaa

/-! Wj -/
namespace Go.Proofs.Ytjbipdppgoldlaa
open Go Dw
set_option maxRecDepth 10000
set_option linter.unusedVariables false
set_option linter.unusedSimpArgs false

theorem size_wrapR {n : Nat} (h : n < 1000000) : IntKind.i64.wrap (IntKind.i64.wrap (32 + (n : Int)) + IntKind.i64.wrap (0 - IntKind.i64.wrap (32 + (n : Int))) % 8) = size n := by
  have w := Go.IntWalk.i64_in
  rw [w (32 + (n : Int)) (by omega), w (0 - (32 + (n : Int))) (by omega), w (32 + (n : Int) + (0 - (32 + (n : Int))) % 8) (by omega)]
  unfold size
  omega
theorem szm {n : Nat} (h : n < 1000000) : -1000000000000 < IntKind.i64.wrap (0 - IntKind.i64.wrap (32 + (n : Int))) ∧ IntKind.i64.wrap (0 - IntKind.i64.wrap (32 + (n : Int))) < 1000000000000 := by
  have w := Go.IntWalk.i64_in
  rw [w (32 + (n : Int)) (by omega), w (0 - (32 + (n : Int))) (by omega)]
  omega

theorem c21 (s : List UInt8) (hs : s.length < 1000000) : Fn 21 [.str s] (i (size s.length)) := by
  have hm1 := (szm hs).1
  have hm2 := (szm hs).2
  refine run_walk eok Try.func21 rfl ?_
  conv => whnf
  repeat' (first
    | (refine onBool_split (fun h => ?_) (fun h => ?_) <;> conv => whnf)
    | (refine call_step (run_view (c69 _ _ (by decide) (by decide) hm1 hm2) rfl rfl) ?_; conv => whnf)
    | (refine ⟨rfl, ?_⟩; conv => whnf)
    | fail
    )
  all_goals (exact end_data (congrArg i (size_wrapR hs)))

theorem ctl_drop (s : List UInt8) (k : Nat) (h : k < s.length) : ctl (s.drop k) = (decide ((s[k].toNat : Int) < 32) || ctl (s.drop (k + 1))) := by
  unfold ctl; rw [List.drop_eq_getElem_cons h, List.any_cons]

theorem c20 (s : List UInt8) (hs : s.length < 1000000) : Fn 20 [.str s] (i (nameErr s)) := by
  refine run_walk eok Try.func20 rfl ?_
  conv => whnf
  refine ⟨_, _, run_view (c24 _ _ _) rfl rfl, ?_⟩
  conv => whnf
  refine onBool_split (fun h0 => ?_) (fun h0 => ?_)
  · conv => whnf
    exact end_data (by simp_all [nameErr])
  · conv => whnf
    have hw : within s.length 1 32 = true := by simpa using h0
    refine loop_rule (σ := Nat) (fun k => s.length - k) (fun k => k ≤ s.length ∧ ctl s = ctl (s.drop k))
      (fun k => [.d (.str s), .junk, .d (i 0), .d (i k), .junk, .junk, .junk, .junk, .junk, .junk, .junk, .junk, .junk, .junk, .junk, .junk, .junk, .junk]) (fun _ => []) 0 ?_ ?_ ?_
    · simp
    · refine ⟨[], rfl, rfl, ?_, trivial⟩
      simp [wks, wk]
    · intro k C hI hC
      conv => whnf
      refine onBool_split (fun h => ?_) (fun h => ?_)
      · conv => whnf
        have hk : k < s.length := by simpa using h
        refine ⟨by omega, nthK_of (x := s[k]) (by show s[k]? = _; simp [hk]) ?_⟩
        conv => whnf
        have hf := ctl_drop s k hk
        refine onBool_split (fun h2 => ?_) (fun h2 => ?_)
        · conv => whnf
          refine end_data ?_
          rw [h2] at hf
          simp [nameErr, hw, hI.2, hf]
        · conv => whnf
          rw [h2] at hf
          refine hC (k + 1) _ _ ⟨hk, by rw [hI.2, hf, Bool.false_or]⟩ (by omega) ⟨[], rfl, rfl, ?_, trivial⟩
          simp [wks, wk]
          exact Go.IntWalk.i64_in _ (by omega)
      · conv => whnf
        have hk : ¬ k < s.length := by simpa using h
        refine end_data ?_
        have : ctl s = false := by rw [hI.2, List.drop_eq_nil_of_le (by omega)]; rfl
        simp [nameErr, hw, this]

theorem c66 (x : Chg) (h0 : x.name.length < 1000000) : Fn 66 [x.enc] (i (recordErr x)) := by
  refine run_walk eok Try.func66 rfl ?_
  conv => whnf
  repeat' (first
    | (refine onBool_split (fun h => ?_) (fun h => ?_) <;> conv => whnf)
    | (refine call_step (run_view (c70 _ _) rfl rfl) ?_; conv => whnf)
    | (refine call_step (run_view (c71 _) rfl rfl) ?_; conv => whnf)
    | (refine call_step (run_view (c24 _ _ _) rfl rfl) ?_; conv => whnf)
    | (refine call_step (run_view (c20 _ (by assumption)) rfl rfl) ?_; conv => whnf)
    | (refine ⟨rfl, ?_⟩; conv => whnf)
    | fail
    )
  all_goals (refine end_data (congrArg i ?_); simp only [first, recordErr] at *; by_cases ha : refErr x.file = 0 <;> by_cases hb : refErr x.parent = 0 <;> by_cases hn : nameErr x.name = 0 <;> simp_all)

end Go.Proofs.Ytjbipdppgoldlaa

/-! DwZh -/
namespace Dw
open Go

theorem and_pow_iff (m n : Nat) : m &&& 2 ^ n = 2 ^ n ↔ m / 2 ^ n % 2 = 1 := by
  have ht : m.testBit n = decide (m / 2 ^ n % 2 = 1) := Nat.testBit_eq_decide_div_mod_eq
  constructor
  · intro h
    have h2 := congrArg (fun x => Nat.testBit x n) h
    simp only [Nat.testBit_and, Nat.testBit_two_pow_self, Bool.and_true] at h2
    rw [ht] at h2
    simpa using h2
  · intro h
    apply Nat.eq_of_testBit_eq
    intro k
    rw [Nat.testBit_and, Nat.testBit_two_pow]
    by_cases hk : n = k
    · subst hk; rw [ht]; simp [h]
    · simp [hk]

theorem take_eq_succ {α : Type} {l r : List α} {k : Nat} (hk : k < l.length) (hk' : k < r.length) (h : l.take k = r.take k) (e : l[k] = r[k]) : l.take (k + 1) = r.take (k + 1) := by
  rw [List.take_succ_eq_append_getElem hk, List.take_succ_eq_append_getElem hk', h, e]

theorem eq_of_take {α : Type} {l r : List α} {k : Nat} (hl : l.length = r.length) (hk : l.length ≤ k) (h : l.take k = r.take k) : l = r := by
  rwa [List.take_of_length_le hk, List.take_of_length_le (by omega)] at h

theorem view_new {H : Heap} {id k k' st n : Nat} {cap : Option Nat} {l : List D} (h : H[id]? = some ⟨l.map .d, k, st⟩) (hst : st < 2) : view (n + 2) H (.sl id 0 (l.map AV.d).length k' cap) = some (.fs l) := by
  rw [List.length_map]; exact view_all h hst

theorem cap_ok {n b : Nat} (h : n ≤ 10000000) (hb : Nat.ble (10000000 * b) 140737488355328 = true) : n * b ≤ 140737488355328 :=
  Nat.le_trans (Nat.mul_le_mul_right b h) (Nat.le_of_ble_eq_true hb)

theorem vlc {f : AV → Option D} {a : AV} {x : D} {l : List AV} {r : List D} (h : f a = some x) (g : vl f l = some r) : vl f (a :: l) = some (x :: r) := by simp [vl, h, g]
theorem vln {f : AV → Option D} : vl f [] = some [] := rfl
theorem view_agg {n : Nat} {h : Heap} {l : List AV} {r : List D} (e : vl (view n h) l = some r) : view (n + 1) h (.agg l) = some (.agg r) := by
  simp only [view, e, Option.map_some]
theorem view_tup {n : Nat} {h : Heap} {l : List AV} {r : List D} (e : vl (view n h) l = some r) : view (n + 1) h (.tup l) = some (.tup r) := by
  simp only [view, e, Option.map_some]

/-- a without the bits of b. -/
def andn (a b : Nat) : Nat := a ^^^ (a &&& b)
theorem andn_bit (a b k : Nat) : (andn a b).testBit k = (a.testBit k && !b.testBit k) := by
  simp only [andn, Nat.testBit_xor, Nat.testBit_and]
  cases a.testBit k <;> cases b.testBit k <;> rfl
theorem andn_le (a b : Nat) : andn a b ≤ a := by
  apply Nat.le_of_testBit
  intro k
  rw [andn_bit]
  cases a.testBit k <;> simp
theorem mod_bit (x k : Nat) : x % 2 ^ (k + 1) = x % 2 ^ k + (if x.testBit k then 2 ^ k else 0) := by
  have h2 : x / 2 ^ k % 2 < 2 := Nat.mod_lt _ (by decide)
  rw [Nat.testBit_eq_decide_div_mod_eq, Nat.pow_succ, Nat.mod_mul]
  by_cases h : x / 2 ^ k % 2 = 1
  · simp [h]
  · have : x / 2 ^ k % 2 = 0 := by omega
    simp [this]

theorem view_app {H : Heap} {id k k' st n : Nat} {cap : Option Nat} {l m : List D} (h : H[id]? = some ⟨l.map .d ++ m.map .d, k, st⟩) (hst : st < 2) : view (n + 2) H (.sl id 0 ((l.map AV.d).length + (m.map AV.d).length) k' cap) = some (.fs (l ++ m)) := by
  rw [← List.length_append, ← List.map_append]
  rw [← List.map_append] at h
  exact view_new h hst

theorem mem_one {p : D → Prop} {x : D} (h : p x) : ∀ y ∈ [x], p y := by
  intro y hy
  rcases List.mem_singleton.1 hy with rfl
  exact h

/-- A part of a list of data, of a string. -/
theorem sl_map {α : Type} {f : α → D} {l : List α} {lo hi : Int} {sz : Nat} {K : List D → Prop} (a b : Nat) (ha : lo = a) (hb : hi = b) (h : a ≤ b ∧ b ≤ l.length) (hc : ∀ x, (f x).cells.length = sz) (hk : K (((l.take b).drop a).map f)) : rowSl (l.map f) lo hi sz K := by
  subst ha; subst hb
  rw [rowSl_eq]
  refine ⟨⟨by omega, by omega, by simp; omega, fun y hy => ?_⟩, ?_⟩
  · obtain ⟨x, _, rfl⟩ := List.mem_map.1 hy; exact hc x
  · simp only [Int.toNat_natCast, ← List.map_take, ← List.map_drop]; exact hk

theorem sl_str {s : List UInt8} {lo hi : Int} {K : List UInt8 → Prop} (a b : Nat) (ha : lo = a) (hb : hi = b) (h : a ≤ b ∧ b ≤ s.length) (hk : K ((s.take b).drop a)) : strSl s lo hi K := by
  subst ha; subst hb
  rw [strSl_eq]
  exact ⟨⟨by omega, by omega, by omega⟩, by simpa using hk⟩

theorem wksd (μ : List Mu) : ∀ (l : List D), wks μ (l.map .d) (l.map .d)
  | [] => trivial
  | _ :: l => ⟨rfl, wksd μ l⟩

theorem wks_app {μ : List Mu} : ∀ {l r l' r' : List AV}, wks μ l r → wks μ l' r' → wks μ (l ++ l') (r ++ r')
  | [], [], _, _, _, h => h
  | _ :: _, _ :: _, _, _, h, h' => ⟨h.1, wks_app h.2 h'⟩
  | [], _ :: _, _, _, h, _ => h.elim
  | _ :: _, [], _, _, h, _ => h.elim

/-- A row with one more element. -/
theorem wks_add {α : Type} {f : α → D} {μ : List Mu} {l : List AV} {r : List α} {a : AV} {x : α} (h : wks μ l ((r.map f).map .d)) (ha : wk μ a (.d (f x))) : wks μ (l ++ [a]) (((r ++ [x]).map f).map .d) := by
  rw [List.map_append, List.map_append]
  exact wks_app h ⟨ha, trivial⟩

theorem view_map {α : Type} {f : α → D} {l : List α} {H : Heap} {id k k' st n : Nat} {cap : Option Nat} (h : H[id]? = some ⟨(l.map f).map .d, k, st⟩) (hst : st < 2) : view (n + 2) H (.sl id 0 l.length k' cap) = some (.fs (l.map f)) := by
  have := view_all (n := n) (k' := k') (cap := cap) h hst
  rwa [List.length_map] at this

theorem vl_app {f : AV → Option D} : ∀ {l l' : List AV} {r r' : List D}, vl f l = some r → vl f l' = some r' → vl f (l ++ l') = some (r ++ r')
  | [], l', r, r', h, h' => by simp [vl] at h; subst h; simpa using h'
  | a :: l, l', r, r', h, h' => by
    simp only [vl] at h
    split at h
    · rename_i x hx
      split at h
      · rename_i t ht
        cases h
        have := vl_app (l := l) ht h'
        simp only [List.cons_append, vl, hx, this]
      · cases h
    · cases h

theorem view_snoc {α : Type} {f : α → D} {l : List α} {H : Heap} {id k k' st n : Nat} {cap : Option Nat} {a : AV} {x : D} (h : H[id]? = some ⟨(l.map f).map .d ++ [a], k, st⟩) (hst : st < 2) (ha : view (n + 1) H a = some x) : view (n + 2) H (.sl id 0 (l.length + [a].length) k' cap) = some (.fs (l.map f ++ [x])) := by
  have hv := vl_app (f := view (n + 1) H) (vl_map_d n H (l.map f)) (vl1 ha)
  have hlen : l.length + [a].length = ((l.map f).map AV.d ++ [a]).length := by simp
  show (match H[id]? with
    | some o => if o.st < 2 then (if 0 + (l.length + [a].length) ≤ o.elems.length then (vl (view (n + 1) H) ((o.elems.drop 0).take (l.length + [a].length))).map D.fs else none) else none
    | none => none) = _
  simp only [h, if_pos hst]
  rw [if_pos (by omega), hlen, List.drop_zero, List.take_length, hv]
  rfl

end Dw

/-! Wk -/
namespace Go.Proofs.Ytjbipdppgoldlaa
open Go Dw
set_option maxRecDepth 10000
set_option linter.unusedVariables false
set_option linter.unusedSimpArgs false
attribute [local irreducible] Run

theorem eachRec_end {l : List Chg} {k : Nat} {a : Int} (h : l.length ≤ k) : eachRec (l.drop k) k a = (0, 0, a) := by
  rw [List.drop_eq_nil_of_le h]; rfl
theorem eachOpn_end {m l : List Opn} {k : Nat} (h : l.length ≤ k) : eachOpn m (l.drop k) k = (0, 0) := by
  rw [List.drop_eq_nil_of_le h]; rfl
theorem hasR_has {a : Int} (h0 : 0 ≤ a) (h1 : a < 9223372036854775808) (n : Nat) (hn : n < 62) : hasR a ((2 ^ n : Nat) : Int) = has a ((2 ^ n : Nat) : Int) := by
  have hp : 2 ^ n < 9223372036854775808 := Nat.lt_of_lt_of_le (Nat.pow_lt_pow_right (by decide) hn) (by decide)
  have hq : 0 < 2 ^ n := Nat.pow_pos (by decide)
  obtain ⟨m, rfl⟩ : ∃ m : Nat, a = m := ⟨a.toNat, by omega⟩
  have h2 := bits_and (a := m) (b := 2 ^ n) (by omega) hp
  have h3 : has.bitsOf0 (m : Int) ((2 ^ n : Nat) : Int) = ((m &&& 2 ^ n : Nat) : Int) := h2
  have h4 : m / 2 ^ n ≤ m := Nat.div_le_self _ _
  unfold has hasR
  rw [h3, Int.tdiv_eq_ediv_of_nonneg (by omega), ← Int.natCast_ediv, i64_nat (Nat.lt_of_le_of_lt h4 (by omega)), Int.tmod_eq_emod_of_nonneg (Int.natCast_nonneg _), decide_eq_decide]
  have := and_pow_iff m n
  omega
theorem hasR_close {x : Int} (h : within x 1 4095 = true) : hasR x 2048 = has x 2048 := by
  simp only [within, Bool.and_eq_true, decide_eq_true_eq] at h
  exact hasR_has (by omega) (by omega) 11 (by omega)
theorem compare_less (a b : Ref) : compare a b < 0 ↔ less a b = true := by
  simp only [compare, first, cmp, less, Bool.or_eq_true, Bool.and_eq_true, decide_eq_true_eq]
  grind
theorem first_nil : first [] = 0 := rfl
theorem first_cons (e : Int) (l : List Int) : first (e :: l) = if e = 0 then first l else e := rfl

theorem c18 (j : Jrn) (hr : j.recs.length < 1000000) (hn : ∀ x ∈ j.recs, x.name.length < 1000000) (ho : j.opens.length < 1000000) : Fn 18 [j.enc] (.tup [i (checkJ j).1, i (checkJ j).2]) := by
  refine run_walkF eok Try.func18 rfl (by kernel_rfl) ?_
  conv => whnf
  repeat' (first
    | ((with_reducible refine on_dec_f ?_ ?_); (focus ((try simp only [List.length_map, List.length_cons, List.length_nil, List.length_append]); omega)); conv => whnf)
    | ((with_reducible refine on_dec_t ?_ ?_); (focus ((try simp only [List.length_map, List.length_cons, List.length_nil, List.length_append]); omega)); conv => whnf)
    | ((with_reducible refine on_dec (fun h => ?_) (fun h => ?_)) <;> (try simp only [List.length_map] at h) <;> conv => whnf)
    | ((with_reducible refine on_ndec (fun h => ?_) (fun h => ?_)) <;> (try simp only [List.length_map] at h) <;> conv => whnf)
    | ((with_reducible refine on_not (fun h => ?_) (fun h => ?_)) <;> conv => whnf)
    | ((with_reducible refine onBool_split (fun h => ?_) (fun h => ?_)) <;> conv => whnf)
    | (refine call_step (run_view (c23 _) rfl rfl) ?_; conv => whnf)
    | (refine call_step (run_view (c24 _ _ _) rfl rfl) ?_; conv => whnf)
    | (refine call_step (run_view (c66 _ (hn _ (List.getElem_mem _))) rfl rfl) ?_; conv => whnf)
    | (refine call_step (run_view (c21 _ (hn _ (List.getElem_mem _))) rfl rfl) ?_; conv => whnf)
    | (refine call_step (run_view (c44 _) rfl rfl) ?_; conv => whnf)
    | (refine call_step (run_view (c15 _ _ (by decide)) rfl rfl) ?_; conv => whnf)
    | (refine call_step (run_view (c67 _ _) rfl rfl) ?_; conv => whnf)
    | (refine ⟨[], [], (by decide +kernel), ?_⟩; conv => whnf)
    | (refine loop2 (fun (k : Nat) (a : Int) => j.recs.length - k) (fun (k : Nat) (a : Int) => k ≤ j.recs.length ∧ eachRec j.recs 0 j.first = eachRec (j.recs.drop k) k a) (fun (k : Nat) (a : Int) => [(1, .ptr 0 0 0), (4, .d (i a)), (5, .d (i k))]) (fun (k : Nat) (a : Int) => [⟨[.d j.enc], 6, 0⟩]) (0) (j.first) (by first | (simp; done) | (constructor <;> simp; done) | omega) ?_ (fun k a C hI hC => ?_); (exact ⟨[.old 0], rfl, rfl, ⟨(by first | exact congrArg (D.int .i64) (by omega) | exact ⟨rfl, rfl, rfl⟩ | exact ⟨rfl, rfl, rfl, rfl, rfl⟩ | (show (_ : D) = _; with_reducible rfl)), (by first | exact congrArg (D.int .i64) (by omega) | exact ⟨rfl, rfl, rfl⟩ | exact ⟨rfl, rfl, rfl, rfl, rfl⟩ | (show (_ : D) = _; with_reducible rfl)), (by first | exact congrArg (D.int .i64) (by omega) | exact ⟨rfl, rfl, rfl⟩ | exact ⟨rfl, rfl, rfl, rfl, rfl⟩ | (show (_ : D) = _; with_reducible rfl)), trivial⟩, ⟨⟨rfl, rfl, .inl ⟨[_], rfl, rfl⟩⟩, trivial⟩⟩); all_goals (conv => whnf))
    | (refine hC (k + 1) (IntKind.i64.wrap (a + size j.recs[k].name.length)) _ _ ?_ (by omega) ?_; clear hC; rotate_left; (exact ⟨[.old 0], rfl, rfl, ⟨(by first | exact congrArg (D.int .i64) (by omega) | exact ⟨rfl, rfl, rfl⟩ | exact ⟨rfl, rfl, rfl, rfl, rfl⟩ | (show (_ : D) = _; with_reducible rfl)), (by first | exact congrArg (D.int .i64) (by omega) | exact ⟨rfl, rfl, rfl⟩ | exact ⟨rfl, rfl, rfl, rfl, rfl⟩ | (show (_ : D) = _; with_reducible rfl)), (by first | exact congrArg (D.int .i64) (by omega) | exact ⟨rfl, rfl, rfl⟩ | exact ⟨rfl, rfl, rfl, rfl, rfl⟩ | (show (_ : D) = _; with_reducible rfl)), trivial⟩, ⟨⟨rfl, rfl, .inl ⟨[_], rfl, rfl⟩⟩, trivial⟩⟩); (exact ⟨by omega, by grind [eachRec_drop, recErr, first_cons, first_nil]⟩))
    | (refine loop1 (fun (k : Nat) => j.opens.length - k) (fun (k : Nat) => k ≤ j.opens.length ∧ eachOpn j.opens j.opens 0 = eachOpn j.opens (j.opens.drop k) k) (fun (k : Nat) => [(1, .ptr 0 0 0), (7, .d (i k))]) (fun (k : Nat) => [⟨[.d j.enc], 6, 0⟩]) (0) (by first | (simp; done) | (constructor <;> simp; done) | omega) ?_ (fun k C hI hC => ?_); (exact ⟨[.old 0], rfl, rfl, ⟨(by first | exact congrArg (D.int .i64) (by omega) | exact ⟨rfl, rfl, rfl⟩ | exact ⟨rfl, rfl, rfl, rfl, rfl⟩ | (show (_ : D) = _; with_reducible rfl)), (by first | exact congrArg (D.int .i64) (by omega) | exact ⟨rfl, rfl, rfl⟩ | exact ⟨rfl, rfl, rfl, rfl, rfl⟩ | (show (_ : D) = _; with_reducible rfl)), trivial⟩, ⟨⟨rfl, rfl, .inl ⟨[_], rfl, rfl⟩⟩, trivial⟩⟩); all_goals (conv => whnf))
    | (refine hC (k + 1) _ _ ?_ (by omega) ?_; clear hC; rotate_left; (exact ⟨[.old 0], rfl, rfl, ⟨(by first | exact congrArg (D.int .i64) (by omega) | exact ⟨rfl, rfl, rfl⟩ | exact ⟨rfl, rfl, rfl, rfl, rfl⟩ | (show (_ : D) = _; with_reducible rfl)), (by first | exact congrArg (D.int .i64) (by omega) | exact ⟨rfl, rfl, rfl⟩ | exact ⟨rfl, rfl, rfl, rfl, rfl⟩ | (show (_ : D) = _; with_reducible rfl)), trivial⟩, ⟨⟨rfl, rfl, .inl ⟨[_], rfl, rfl⟩⟩, trivial⟩⟩); (exact ⟨by omega, by grind [eachOpn_drop, opnErr, first_cons, first_nil, hasR_close, compare_less]⟩))
    | (refine ⟨⟨(by first | rfl | (simp; done)), cap_ok (by simp only [List.length_map, List.length_cons, List.length_nil, List.length_append]; omega) rfl⟩, ?_⟩; conv => whnf)
    | (refine ⟨mem_one ⟨rfl, rfl⟩, ?_⟩; conv => whnf)
    | (refine ⟨(by intro y hy; obtain ⟨x, _, rfl⟩ := List.mem_map.1 hy; first | rfl | exact ⟨rfl, rfl⟩), ?_⟩; conv => whnf)
    | (refine ⟨cap_ok (by first | omega | (simp only [List.length_map]; omega)) rfl, ?_⟩; conv => whnf)
    | (refine ix_map (by omega) ?_; conv => whnf)
    | (refine ix_str (by omega) ?_; conv => whnf)
    | (refine wrap64 (by omega) ?_; conv => whnf)
    | (refine wrap_raw ?_; conv => whnf)
    | (refine ix_at (k - 1) (by omega) (by omega) ?_; conv => whnf)
    | (exfalso; simp only [List.length_map, List.length_cons, List.length_nil, List.length_append] at h; omega)
    | (refine endx2 ?_; grind [checkJ, numbersErr, first_cons, first_nil, few, recErr, eachRec_drop, eachRec_end, eachOpn_drop, eachOpn_end, opnErr, hasR_close, compare_less]; done)
    | (refine ⟨rfl, ?_⟩; conv => whnf)
    | fail
    )

end Go.Proofs.Ytjbipdppgoldlaa

/-! Wl -/
namespace Go.Proofs.Ytjbipdppgoldlaa
open Go Dw
set_option maxRecDepth 10000
set_option linter.unusedVariables false
set_option linter.unusedSimpArgs false
attribute [local irreducible] Run

theorem c53 (j : Jrn) (hr : j.recs.length < 1000000) (hn : ∀ x ∈ j.recs, x.name.length < 1000000) (ho : j.opens.length < 1000000) : Fn 53 [j.enc] (i (checkJ j).2) := by
  refine run_walkF eok Try.func53 rfl (by kernel_rfl) ?_
  conv => whnf
  repeat' (first
    | ((with_reducible refine on_dec_f ?_ ?_); (focus ((try simp only [List.length_map, List.length_cons, List.length_nil, List.length_append]); omega)); conv => whnf)
    | ((with_reducible refine on_dec_t ?_ ?_); (focus ((try simp only [List.length_map, List.length_cons, List.length_nil, List.length_append]); omega)); conv => whnf)
    | ((with_reducible refine on_dec (fun h => ?_) (fun h => ?_)) <;> (try simp only [List.length_map] at h) <;> conv => whnf)
    | ((with_reducible refine on_ndec (fun h => ?_) (fun h => ?_)) <;> (try simp only [List.length_map] at h) <;> conv => whnf)
    | ((with_reducible refine on_not (fun h => ?_) (fun h => ?_)) <;> conv => whnf)
    | ((with_reducible refine onBool_split (fun h => ?_) (fun h => ?_)) <;> conv => whnf)
    | (refine call_step (run_view (c17 _ hr hn ho) rfl rfl) ?_; conv => whnf)
    | (refine ⟨⟨(by first | rfl | (simp; done)), cap_ok (by simp only [List.length_map, List.length_cons, List.length_nil, List.length_append]; omega) rfl⟩, ?_⟩; conv => whnf)
    | (refine ⟨mem_one ⟨rfl, rfl⟩, ?_⟩; conv => whnf)
    | (refine ⟨(by intro y hy; obtain ⟨x, _, rfl⟩ := List.mem_map.1 hy; first | rfl | exact ⟨rfl, rfl⟩), ?_⟩; conv => whnf)
    | (refine ⟨cap_ok (by first | omega | (simp only [List.length_map]; omega)) rfl, ?_⟩; conv => whnf)
    | (refine ix_map (by omega) ?_; conv => whnf)
    | (refine ix_str (by omega) ?_; conv => whnf)
    | (refine wrap64 (by omega) ?_; conv => whnf)
    | (exfalso; simp only [List.length_map, List.length_cons, List.length_nil, List.length_append] at h; omega)
    | (exact endx rfl; done)
    | (refine ⟨rfl, ?_⟩; conv => whnf)
    | fail
    )

theorem c11 (j : Jrn) (hr : j.recs.length < 1000000) (hn : ∀ x ∈ j.recs, x.name.length < 1000000) (ho : j.opens.length < 1000000) : Fn 11 [j.enc] (i (checkJ j).2) := by
  refine run_walkF eok Try.func11 rfl (by kernel_rfl) ?_
  conv => whnf
  repeat' (first
    | ((with_reducible refine on_dec_f ?_ ?_); (focus ((try simp only [List.length_map, List.length_cons, List.length_nil, List.length_append]); omega)); conv => whnf)
    | ((with_reducible refine on_dec_t ?_ ?_); (focus ((try simp only [List.length_map, List.length_cons, List.length_nil, List.length_append]); omega)); conv => whnf)
    | ((with_reducible refine on_dec (fun h => ?_) (fun h => ?_)) <;> (try simp only [List.length_map] at h) <;> conv => whnf)
    | ((with_reducible refine on_ndec (fun h => ?_) (fun h => ?_)) <;> (try simp only [List.length_map] at h) <;> conv => whnf)
    | ((with_reducible refine on_not (fun h => ?_) (fun h => ?_)) <;> conv => whnf)
    | ((with_reducible refine onBool_split (fun h => ?_) (fun h => ?_)) <;> conv => whnf)
    | (refine call_step (run_view (c18 _ hr hn ho) rfl rfl) ?_; conv => whnf)
    | (refine ⟨⟨(by first | rfl | (simp; done)), cap_ok (by simp only [List.length_map, List.length_cons, List.length_nil, List.length_append]; omega) rfl⟩, ?_⟩; conv => whnf)
    | (refine ⟨mem_one ⟨rfl, rfl⟩, ?_⟩; conv => whnf)
    | (refine ⟨(by intro y hy; obtain ⟨x, _, rfl⟩ := List.mem_map.1 hy; first | rfl | exact ⟨rfl, rfl⟩), ?_⟩; conv => whnf)
    | (refine ⟨cap_ok (by first | omega | (simp only [List.length_map]; omega)) rfl, ?_⟩; conv => whnf)
    | (refine ix_map (by omega) ?_; conv => whnf)
    | (refine ix_str (by omega) ?_; conv => whnf)
    | (refine wrap64 (by omega) ?_; conv => whnf)
    | (exfalso; simp only [List.length_map, List.length_cons, List.length_nil, List.length_append] at h; omega)
    | (exact endx rfl; done)
    | (refine ⟨rfl, ?_⟩; conv => whnf)
    | fail
    )

theorem c57 (l : List Chg) (hl : l.length < 1000000) : Fn 57 [.fs (l.map Chg.enc)] (.fs (l.map Chg.enc)) := by
  refine run_walkF eok Try.func57 rfl (by kernel_rfl) ?_
  conv => whnf
  repeat' (first
    | ((with_reducible refine on_dec_f ?_ ?_); (focus ((try simp only [List.length_map, List.length_cons, List.length_nil, List.length_append]); omega)); conv => whnf)
    | ((with_reducible refine on_dec_t ?_ ?_); (focus ((try simp only [List.length_map, List.length_cons, List.length_nil, List.length_append]); omega)); conv => whnf)
    | ((with_reducible refine on_dec (fun h => ?_) (fun h => ?_)) <;> (try simp only [List.length_map] at h) <;> conv => whnf)
    | ((with_reducible refine on_ndec (fun h => ?_) (fun h => ?_)) <;> (try simp only [List.length_map] at h) <;> conv => whnf)
    | ((with_reducible refine on_not (fun h => ?_) (fun h => ?_)) <;> conv => whnf)
    | ((with_reducible refine onBool_split (fun h => ?_) (fun h => ?_)) <;> conv => whnf)
    | (refine ⟨⟨(by first | rfl | (simp; done)), cap_ok (by simp only [List.length_map, List.length_cons, List.length_nil, List.length_append]; omega) rfl⟩, ?_⟩; conv => whnf)
    | (refine ⟨mem_one ⟨rfl, rfl⟩, ?_⟩; conv => whnf)
    | (refine ⟨(by intro y hy; obtain ⟨x, _, rfl⟩ := List.mem_map.1 hy; first | rfl | exact ⟨rfl, rfl⟩), ?_⟩; conv => whnf)
    | (refine ⟨cap_ok (by first | omega | (simp only [List.length_map]; omega)) rfl, ?_⟩; conv => whnf)
    | (refine ix_map (by omega) ?_; conv => whnf)
    | (refine ix_str (by omega) ?_; conv => whnf)
    | (refine wrap64 (by omega) ?_; conv => whnf)
    | (exfalso; simp only [List.length_map, List.length_cons, List.length_nil, List.length_append] at h; omega)
    | (exact endxv (view_new rfl (by decide)) rfl; done)
    | (refine ⟨rfl, ?_⟩; conv => whnf)
    | fail
    )

structure Evt where
  file : Ref
  parent : Ref
  tick : Int
  reasons : Int
  name : List UInt8
  np : Ref
  nn : List UInt8
  deriving DecidableEq
def Evt.enc (x : Evt) : D := .agg [i x.file.r, i x.file.s, i x.parent.r, i x.parent.s, i x.tick, i x.reasons, .str x.name, i x.np.r, i x.np.s, .str x.nn]

theorem c37 (l : List Evt) (hl : l.length < 1000000) : Fn 37 [.fs (l.map Evt.enc)] (.fs (l.map Evt.enc)) := by
  refine run_walkF eok Try.func37 rfl (by kernel_rfl) ?_
  conv => whnf
  repeat' (first
    | ((with_reducible refine on_dec_f ?_ ?_); (focus ((try simp only [List.length_map, List.length_cons, List.length_nil, List.length_append]); omega)); conv => whnf)
    | ((with_reducible refine on_dec_t ?_ ?_); (focus ((try simp only [List.length_map, List.length_cons, List.length_nil, List.length_append]); omega)); conv => whnf)
    | ((with_reducible refine on_dec (fun h => ?_) (fun h => ?_)) <;> (try simp only [List.length_map] at h) <;> conv => whnf)
    | ((with_reducible refine on_ndec (fun h => ?_) (fun h => ?_)) <;> (try simp only [List.length_map] at h) <;> conv => whnf)
    | ((with_reducible refine on_not (fun h => ?_) (fun h => ?_)) <;> conv => whnf)
    | ((with_reducible refine onBool_split (fun h => ?_) (fun h => ?_)) <;> conv => whnf)
    | (refine ⟨⟨(by first | rfl | (simp; done)), cap_ok (by simp only [List.length_map, List.length_cons, List.length_nil, List.length_append]; omega) rfl⟩, ?_⟩; conv => whnf)
    | (refine ⟨mem_one ⟨rfl, rfl⟩, ?_⟩; conv => whnf)
    | (refine ⟨(by intro y hy; obtain ⟨x, _, rfl⟩ := List.mem_map.1 hy; first | rfl | exact ⟨rfl, rfl⟩), ?_⟩; conv => whnf)
    | (refine ⟨cap_ok (by first | omega | (simp only [List.length_map]; omega)) rfl, ?_⟩; conv => whnf)
    | (refine ix_map (by omega) ?_; conv => whnf)
    | (refine ix_str (by omega) ?_; conv => whnf)
    | (refine wrap64 (by omega) ?_; conv => whnf)
    | (exfalso; simp only [List.length_map, List.length_cons, List.length_nil, List.length_append] at h; omega)
    | (exact endxv (view_new rfl (by decide)) rfl; done)
    | (refine ⟨rfl, ?_⟩; conv => whnf)
    | fail
    )

theorem c13 (j : Jrn) (hr : j.recs.length < 1000000) (ho : j.opens.length < 1000000) : Fn 13 [j.enc] j.enc := by
  refine run_walkF eok Try.func13 rfl (by kernel_rfl) ?_
  conv => whnf
  repeat' (first
    | ((with_reducible refine on_dec_f ?_ ?_); (focus ((try simp only [List.length_map, List.length_cons, List.length_nil, List.length_append]); omega)); conv => whnf)
    | ((with_reducible refine on_dec_t ?_ ?_); (focus ((try simp only [List.length_map, List.length_cons, List.length_nil, List.length_append]); omega)); conv => whnf)
    | ((with_reducible refine on_dec (fun h => ?_) (fun h => ?_)) <;> (try simp only [List.length_map] at h) <;> conv => whnf)
    | ((with_reducible refine on_ndec (fun h => ?_) (fun h => ?_)) <;> (try simp only [List.length_map] at h) <;> conv => whnf)
    | ((with_reducible refine on_not (fun h => ?_) (fun h => ?_)) <;> conv => whnf)
    | ((with_reducible refine onBool_split (fun h => ?_) (fun h => ?_)) <;> conv => whnf)
    | (refine call_step (run_data (c57 _ (by omega)) _) ?_; conv => whnf)
    | (refine ⟨⟨(by first | rfl | (simp; done)), cap_ok (by simp only [List.length_map, List.length_cons, List.length_nil, List.length_append]; omega) rfl⟩, ?_⟩; conv => whnf)
    | (refine ⟨mem_one ⟨rfl, rfl⟩, ?_⟩; conv => whnf)
    | (refine ⟨(by intro y hy; obtain ⟨x, _, rfl⟩ := List.mem_map.1 hy; first | rfl | exact ⟨rfl, rfl⟩), ?_⟩; conv => whnf)
    | (refine ⟨cap_ok (by first | omega | (simp only [List.length_map]; omega)) rfl, ?_⟩; conv => whnf)
    | (refine ix_map (by omega) ?_; conv => whnf)
    | (refine ix_str (by omega) ?_; conv => whnf)
    | (refine wrap64 (by omega) ?_; conv => whnf)
    | (exfalso; simp only [List.length_map, List.length_cons, List.length_nil, List.length_append] at h; omega)
    | (exact endxv (view_agg (vlc rfl (vlc rfl (vlc rfl (vlc rfl (vlc rfl (vlc (view_new rfl (by decide)) vln))))))) rfl; done)
    | (refine ⟨rfl, ?_⟩; conv => whnf)
    | fail
    )

theorem on_ref {a b : Ref} {A B : Prop} (ht : a = b → A) (hf : a ≠ b → B) : onBool (cellsEq [i a.r, i a.s] [i b.r, i b.s]) A B := by
  refine onBool_split (fun h => ht ?_) (fun h => hf ?_)
  · simp only [cellsEq, cellEq, Bool.and_true, Bool.and_eq_true, decide_eq_true_eq] at h
    cases a; cases b; simp_all
  · rintro rfl; simp [cellsEq, cellEq] at h
theorem chg_cells (x y : Chg) : cellsEq [i x.usn, i x.file.r, i x.file.s, i x.parent.r, i x.parent.s, i x.tick, i x.reasons, .str x.name] [i y.usn, i y.file.r, i y.file.s, i y.parent.r, i y.parent.s, i y.tick, i y.reasons, .str y.name] = decide (x = y) := by
  rcases x with ⟨a, ⟨b, c⟩, ⟨d, e⟩, f, g, h⟩; rcases y with ⟨a', ⟨b', c'⟩, ⟨d', e'⟩, f', g', h'⟩
  rw [Bool.eq_iff_iff]
  simp [cellsEq, cellEq, and_assoc]
theorem on_chg {a b : Chg} {A B : Prop} (ht : a = b → A) (hf : a ≠ b → B) : onBool (cellsEq [i a.usn, i a.file.r, i a.file.s, i a.parent.r, i a.parent.s, i a.tick, i a.reasons, .str a.name] [i b.usn, i b.file.r, i b.file.s, i b.parent.r, i b.parent.s, i b.tick, i b.reasons, .str b.name]) A B := by
  rw [chg_cells]; exact on_dec ht hf
theorem on_chgn {a b : Chg} {A B : Prop} (ht : a ≠ b → A) (hf : a = b → B) : onBool (!cellsEq [i a.usn, i a.file.r, i a.file.s, i a.parent.r, i a.parent.s, i a.tick, i a.reasons, .str a.name] [i b.usn, i b.file.r, i b.file.s, i b.parent.r, i b.parent.s, i b.tick, i b.reasons, .str b.name]) A B := by
  rw [chg_cells]; exact on_ndec ht hf
theorem opn_cells (x y : Opn) : cellsEq [i x.file.r, i x.file.s, i x.reasons] [i y.file.r, i y.file.s, i y.reasons] = decide (x = y) := by
  rcases x with ⟨⟨b, c⟩, d⟩; rcases y with ⟨⟨b', c'⟩, d'⟩
  rw [Bool.eq_iff_iff]
  simp [cellsEq, cellEq, and_assoc]
theorem on_opnn {a b : Opn} {A B : Prop} (ht : a ≠ b → A) (hf : a = b → B) : onBool (!cellsEq [i a.file.r, i a.file.s, i a.reasons] [i b.file.r, i b.file.s, i b.reasons]) A B := by
  rw [opn_cells]; exact on_ndec ht hf

theorem c16 (a b : List Chg) (ha : a.length < 1000000) (hb : b.length < 1000000) : Fn 16 [.fs (a.map Chg.enc), .fs (b.map Chg.enc)] (.bool (decide (a = b))) := by
  refine run_walkF eok Try.func16 rfl (by kernel_rfl) ?_
  conv => whnf
  repeat' (first
    | (refine on_chg (fun h => ?_) (fun h => ?_) <;> conv => whnf)
    | (refine on_chgn (fun h => ?_) (fun h => ?_) <;> conv => whnf)
    | (refine on_opnn (fun h => ?_) (fun h => ?_) <;> conv => whnf)
    | (refine on_ref (fun h => ?_) (fun h => ?_) <;> conv => whnf)
    | ((with_reducible refine on_dec_f ?_ ?_); (focus ((try simp only [List.length_map, List.length_cons, List.length_nil, List.length_append]); omega)); conv => whnf)
    | ((with_reducible refine on_dec_t ?_ ?_); (focus ((try simp only [List.length_map, List.length_cons, List.length_nil, List.length_append]); omega)); conv => whnf)
    | ((with_reducible refine on_dec (fun h => ?_) (fun h => ?_)) <;> (try simp only [List.length_map] at h) <;> conv => whnf)
    | ((with_reducible refine on_ndec (fun h => ?_) (fun h => ?_)) <;> (try simp only [List.length_map] at h) <;> conv => whnf)
    | ((with_reducible refine on_not (fun h => ?_) (fun h => ?_)) <;> conv => whnf)
    | ((with_reducible refine onBool_split (fun h => ?_) (fun h => ?_)) <;> conv => whnf)
    | (refine ⟨[], [], (by decide +kernel), ?_⟩; conv => whnf)
    | (refine loop1 (fun (k : Nat) => a.length - k) (fun (k : Nat) => a.length = b.length ∧ k ≤ a.length ∧ a.take k = b.take k) (fun (k : Nat) => [(0, .d (.fs (a.map Chg.enc))), (1, .d (.fs (b.map Chg.enc))), (5, .d (i k))]) (fun (k : Nat) => []) (0) (by exact ⟨by omega, by omega, rfl⟩) ?_ (fun k C hI hC => ?_); (exact ⟨[], rfl, rfl, ⟨(by first | exact congrArg (D.int .i64) (by omega) | exact ⟨rfl, rfl, rfl⟩ | exact ⟨rfl, rfl, rfl, rfl, rfl⟩ | (show (_ : D) = _; with_reducible rfl)), (by first | exact congrArg (D.int .i64) (by omega) | exact ⟨rfl, rfl, rfl⟩ | exact ⟨rfl, rfl, rfl, rfl, rfl⟩ | (show (_ : D) = _; with_reducible rfl)), (by first | exact congrArg (D.int .i64) (by omega) | exact ⟨rfl, rfl, rfl⟩ | exact ⟨rfl, rfl, rfl, rfl, rfl⟩ | (show (_ : D) = _; with_reducible rfl)), trivial⟩, trivial⟩); all_goals (conv => whnf))
    | (refine hC (k + 1) _ _ ?_ (by omega) ?_; clear hC; rotate_left; (exact ⟨[], rfl, rfl, ⟨(by first | exact congrArg (D.int .i64) (by omega) | exact ⟨rfl, rfl, rfl⟩ | exact ⟨rfl, rfl, rfl, rfl, rfl⟩ | (show (_ : D) = _; with_reducible rfl)), (by first | exact congrArg (D.int .i64) (by omega) | exact ⟨rfl, rfl, rfl⟩ | exact ⟨rfl, rfl, rfl, rfl, rfl⟩ | (show (_ : D) = _; with_reducible rfl)), (by first | exact congrArg (D.int .i64) (by omega) | exact ⟨rfl, rfl, rfl⟩ | exact ⟨rfl, rfl, rfl, rfl, rfl⟩ | (show (_ : D) = _; with_reducible rfl)), trivial⟩, trivial⟩); (exact ⟨hI.1, by omega, take_eq_succ (by omega) (by omega) hI.2.2 h⟩))
    | (refine ⟨⟨(by first | rfl | (simp; done)), cap_ok (by simp only [List.length_map, List.length_cons, List.length_nil, List.length_append]; omega) rfl⟩, ?_⟩; conv => whnf)
    | (refine ⟨mem_one ⟨rfl, rfl⟩, ?_⟩; conv => whnf)
    | (refine ⟨(by intro y hy; obtain ⟨x, _, rfl⟩ := List.mem_map.1 hy; first | rfl | exact ⟨rfl, rfl⟩), ?_⟩; conv => whnf)
    | (refine ⟨cap_ok (by first | omega | (simp only [List.length_map]; omega)) rfl, ?_⟩; conv => whnf)
    | (refine ix_map (by omega) ?_; conv => whnf)
    | (refine ix_str (by omega) ?_; conv => whnf)
    | (refine wrap64 (by omega) ?_; conv => whnf)
    | (exfalso; simp only [List.length_map, List.length_cons, List.length_nil, List.length_append] at h; omega)
    | (exact endx (congrArg D.bool (decide_eq_true (eq_of_take hI.1 (by omega) hI.2.2)).symm); done)
    | (exact endx (congrArg D.bool (decide_eq_false (fun e => by subst e; first | exact h rfl | exact absurd rfl h | omega)).symm); done)
    | (refine ⟨rfl, ?_⟩; conv => whnf)
    | fail
    )

end Go.Proofs.Ytjbipdppgoldlaa

/-! Wm -/
namespace Go.Proofs.Ytjbipdppgoldlaa
open Go Dw
set_option maxRecDepth 10000
set_option linter.unusedVariables false
set_option linter.unusedSimpArgs false
attribute [local irreducible] Run

theorem on_refn {a b : Ref} {A B : Prop} (ht : a ≠ b → A) (hf : a = b → B) : onBool (!cellsEq [i a.r, i a.s] [i b.r, i b.s]) A B := by
  have := on_ref (a := a) (b := b) hf ht
  cases h : cellsEq [i a.r, i a.s] [i b.r, i b.s] <;> rw [h] at this <;> exact this
theorem jrn_eq {a b : Jrn} (h1 : a.id = b.id) (h2 : a.first = b.first) (h3 : a.next = b.next) (h4 : a.most = b.most) (h5 : a.opens = b.opens) : decide (a.recs = b.recs) = decide (a = b) := by
  cases a; cases b; simp_all

theorem c25 (a b : Jrn) (ha : a.recs.length < 1000000) (hb : b.recs.length < 1000000) (ha2 : a.opens.length < 1000000) (hb2 : b.opens.length < 1000000) : Fn 25 [a.enc, b.enc] (.bool (decide (a = b))) := by
  refine run_walkF eok Try.func25 rfl (by kernel_rfl) ?_
  conv => whnf
  repeat' (first
    | (refine on_chg (fun h => ?_) (fun h => ?_) <;> conv => whnf)
    | (refine on_chgn (fun h => ?_) (fun h => ?_) <;> conv => whnf)
    | (refine on_opnn (fun h => ?_) (fun h => ?_) <;> conv => whnf)
    | (refine on_ref (fun h => ?_) (fun h => ?_) <;> conv => whnf)
    | (refine on_refn (fun h => ?_) (fun h => ?_) <;> conv => whnf)
    | ((with_reducible refine on_dec_f ?_ ?_); (focus ((try simp only [List.length_map, List.length_cons, List.length_nil, List.length_append]); omega)); conv => whnf)
    | ((with_reducible refine on_dec_t ?_ ?_); (focus ((try simp only [List.length_map, List.length_cons, List.length_nil, List.length_append]); omega)); conv => whnf)
    | ((with_reducible refine on_dec (fun h => ?_) (fun h => ?_)) <;> (try simp only [List.length_map] at h) <;> conv => whnf)
    | ((with_reducible refine on_ndec (fun h => ?_) (fun h => ?_)) <;> (try simp only [List.length_map] at h) <;> conv => whnf)
    | ((with_reducible refine on_not (fun h => ?_) (fun h => ?_)) <;> conv => whnf)
    | ((with_reducible refine onBool_split (fun h => ?_) (fun h => ?_)) <;> conv => whnf)
    | (refine call_step (run_view (c16 _ _ (by omega) (by omega)) rfl rfl) ?_; conv => whnf)
    | (refine ⟨[], [], (by decide +kernel), ?_⟩; conv => whnf)
    | (refine loop1 (fun (k : Nat) => a.opens.length - k) (fun (k : Nat) => k ≤ a.opens.length ∧ a.opens.take k = b.opens.take k) (fun (k : Nat) => [(2, .ptr 0 0 0), (3, .ptr 1 0 0), (5, .d (i k))]) (fun (k : Nat) => [⟨[.d a.enc], 6, 0⟩, ⟨[.d b.enc], 6, 0⟩]) (0) (by exact ⟨by omega, rfl⟩) ?_ (fun k C hI hC => ?_); (exact ⟨[.old 0, .old 1], rfl, rfl, ⟨(by first | exact congrArg (D.int .i64) (by omega) | exact ⟨rfl, rfl, rfl⟩ | exact ⟨rfl, rfl, rfl, rfl, rfl⟩ | (show (_ : D) = _; with_reducible rfl)), (by first | exact congrArg (D.int .i64) (by omega) | exact ⟨rfl, rfl, rfl⟩ | exact ⟨rfl, rfl, rfl, rfl, rfl⟩ | (show (_ : D) = _; with_reducible rfl)), (by first | exact congrArg (D.int .i64) (by omega) | exact ⟨rfl, rfl, rfl⟩ | exact ⟨rfl, rfl, rfl, rfl, rfl⟩ | (show (_ : D) = _; with_reducible rfl)), trivial⟩, ⟨⟨rfl, rfl, .inl ⟨[_], rfl, rfl⟩⟩, ⟨rfl, rfl, .inl ⟨[_], rfl, rfl⟩⟩, trivial⟩⟩); all_goals (conv => whnf))
    | (refine hC (k + 1) _ _ ?_ (by omega) ?_; clear hC; rotate_left; (exact ⟨[.old 0, .old 1], rfl, rfl, ⟨(by first | exact congrArg (D.int .i64) (by omega) | exact ⟨rfl, rfl, rfl⟩ | exact ⟨rfl, rfl, rfl, rfl, rfl⟩ | (show (_ : D) = _; with_reducible rfl)), (by first | exact congrArg (D.int .i64) (by omega) | exact ⟨rfl, rfl, rfl⟩ | exact ⟨rfl, rfl, rfl, rfl, rfl⟩ | (show (_ : D) = _; with_reducible rfl)), (by first | exact congrArg (D.int .i64) (by omega) | exact ⟨rfl, rfl, rfl⟩ | exact ⟨rfl, rfl, rfl, rfl, rfl⟩ | (show (_ : D) = _; with_reducible rfl)), trivial⟩, ⟨⟨rfl, rfl, .inl ⟨[_], rfl, rfl⟩⟩, ⟨rfl, rfl, .inl ⟨[_], rfl, rfl⟩⟩, trivial⟩⟩); (exact ⟨by omega, take_eq_succ (by omega) (by omega) hI.2 h⟩))
    | (refine ⟨⟨(by first | rfl | (simp; done)), cap_ok (by simp only [List.length_map, List.length_cons, List.length_nil, List.length_append]; omega) rfl⟩, ?_⟩; conv => whnf)
    | (refine ⟨mem_one ⟨rfl, rfl⟩, ?_⟩; conv => whnf)
    | (refine ⟨(by intro y hy; obtain ⟨x, _, rfl⟩ := List.mem_map.1 hy; first | rfl | exact ⟨rfl, rfl⟩), ?_⟩; conv => whnf)
    | (refine ⟨cap_ok (by first | omega | (simp only [List.length_map]; omega)) rfl, ?_⟩; conv => whnf)
    | (refine ix_map (by omega) ?_; conv => whnf)
    | (refine ix_str (by omega) ?_; conv => whnf)
    | (refine wrap64 (by omega) ?_; conv => whnf)
    | (exfalso; simp only [List.length_map, List.length_cons, List.length_nil, List.length_append] at h; omega)
    | (exact endx (congrArg D.bool (jrn_eq (by assumption) (by assumption) (by assumption) (by assumption) (eq_of_take (by omega) (by omega) hI.2))); done)
    | (exact endx (congrArg D.bool (decide_eq_false (fun e => by subst e; first | exact h rfl | exact absurd rfl h | omega)).symm); done)
    | (refine ⟨rfl, ?_⟩; conv => whnf)
    | fail
    )

theorem hasR_bit {a : Int} (h0 : 0 ≤ a ∧ a ≤ 4095) {k : Nat} (hn : k < 62) : hasR a ((2 ^ k : Nat) : Int) = a.toNat.testBit k := by
  obtain ⟨m, rfl⟩ : ∃ m : Nat, a = m := ⟨a.toNat, by omega⟩
  have h4 : m / 2 ^ k ≤ m := Nat.div_le_self _ _
  unfold hasR
  rw [Int.tdiv_eq_ediv_of_nonneg (by omega), ← Int.natCast_ediv, i64_nat (Nat.lt_of_le_of_lt h4 (by omega)), Int.tmod_eq_emod_of_nonneg (Int.natCast_nonneg _), Int.toNat_natCast, Nat.testBit_eq_decide_div_mod_eq]
  exact decide_eq_decide.2 (by omega)
theorem pow_small {k : Nat} (h : ((2 ^ k : Nat) : Int) ≤ 4095) : k < 12 := by
  refine Nat.lt_of_not_le (fun hk => ?_)
  have : 2 ^ 12 ≤ 2 ^ k := Nat.pow_le_pow_right (by decide) hk
  omega
theorem pow_big {k x : Nat} (h : ¬ ((2 ^ k : Nat) : Int) ≤ 4095) (hx : x ≤ 4095) : x % 2 ^ k = x := Nat.mod_eq_of_lt (by omega)
def woI (a b : Int) : Int := (andn a.toNat b.toNat : Nat)
def withI (a b : Int) : Int := (a.toNat ||| b.toNat : Nat)
theorem woI_bd {a b : Int} (ha : 0 ≤ a ∧ a ≤ 4095) : 0 ≤ woI a b ∧ woI a b ≤ a := by
  have := andn_le a.toNat b.toNat
  unfold woI; omega
theorem withI_bd {a b : Int} (ha : 0 ≤ a ∧ a ≤ 4095) (hb : 0 ≤ b ∧ b ≤ 4095) : 0 ≤ withI a b ∧ withI a b ≤ 4095 := by
  have : a.toNat ||| b.toNat < 2 ^ 12 := Nat.or_lt_two_pow (by omega) (by omega)
  unfold withI; omega
theorem bitmod_le (x k : Nat) (h : x ≤ 4095) : 0 ≤ ((x % 2 ^ k : Nat) : Int) ∧ ((x % 2 ^ k : Nat) : Int) ≤ 4095 := by
  have := Nat.mod_le x (2 ^ k); omega
theorem pow_dbl (k : Nat) : ((2 ^ (k + 1) : Nat) : Int) = ((2 ^ k : Nat) : Int) * 2 := by
  rw [Nat.pow_succ]; omega
theorem bit_add {x k : Nat} (h : x.testBit k = true) : ((x % 2 ^ (k + 1) : Nat) : Int) = ((x % 2 ^ k : Nat) : Int) + ((2 ^ k : Nat) : Int) := by
  rw [mod_bit, if_pos h]; omega
theorem bit_no {x k : Nat} (h : x.testBit k = false) : ((x % 2 ^ (k + 1) : Nat) : Int) = ((x % 2 ^ k : Nat) : Int) := by
  rw [mod_bit, h]; simp

theorem c14 (a b : Int) (ha : 0 ≤ a ∧ a ≤ 4095) (hb : 0 ≤ b ∧ b ≤ 4095) : Fn 14 [i a, i b] (i (woI a b)) := by
  refine run_walkF eok Try.func14 rfl (by kernel_rfl) ?_
  conv => whnf
  repeat' (first
    | (refine on_chg (fun h => ?_) (fun h => ?_) <;> conv => whnf)
    | (refine on_chgn (fun h => ?_) (fun h => ?_) <;> conv => whnf)
    | (refine on_opnn (fun h => ?_) (fun h => ?_) <;> conv => whnf)
    | (refine on_ref (fun h => ?_) (fun h => ?_) <;> conv => whnf)
    | (refine on_refn (fun h => ?_) (fun h => ?_) <;> conv => whnf)
    | ((with_reducible refine on_dec_f ?_ ?_); (focus ((try simp only [List.length_map, List.length_cons, List.length_nil, List.length_append]); omega)); conv => whnf)
    | ((with_reducible refine on_dec_t ?_ ?_); (focus ((try simp only [List.length_map, List.length_cons, List.length_nil, List.length_append]); omega)); conv => whnf)
    | ((with_reducible refine on_dec (fun h => ?_) (fun h => ?_)) <;> (try simp only [List.length_map] at h) <;> conv => whnf)
    | ((with_reducible refine on_ndec (fun h => ?_) (fun h => ?_)) <;> (try simp only [List.length_map] at h) <;> conv => whnf)
    | ((with_reducible refine on_not (fun h => ?_) (fun h => ?_)) <;> conv => whnf)
    | ((with_reducible refine onBool_split (fun h => ?_) (fun h => ?_)) <;> conv => whnf)
    | (refine call_step (run_view (c15 _ _ (by have := Nat.two_pow_pos k; omega)) rfl rfl) ?_; conv => whnf)
    | (refine loop1 (fun (k : Nat) => 13 - k) (fun (k : Nat) => k ≤ 12) (fun (k : Nat) => [(0, .d (i a)), (1, .d (i b)), (5, .d (i ((andn a.toNat b.toNat % 2 ^ k : Nat)))), (6, .d (i ((2 ^ k : Nat))))]) (fun (k : Nat) => []) (0) (by decide) ?_ (fun k C hI hC => ?_); (exact ⟨[], rfl, rfl, ⟨rfl, rfl, (congrArg (D.int .i64) (congrArg Int.ofNat (Nat.mod_one _).symm)), rfl, trivial⟩, trivial⟩); have hp := Nat.two_pow_pos k; have hA := fun (h : k < 62) => hasR_bit ha h; have hB := fun (h : k < 62) => hasR_bit hb h; have hkk : k < 62 := Nat.lt_of_le_of_lt hI (by decide); replace hA := hA hkk; replace hB := hB hkk; have hb1 := bitmod_le (andn a.toNat b.toNat) k (by have := andn_le a.toNat b.toNat; omega); all_goals (conv => whnf))
    | (refine hC (k + 1) _ _ ?_ (by omega) ?_; clear hC; rotate_left; (exact ⟨[], rfl, rfl, ⟨(by first | rfl | exact congrArg (D.int .i64) (pow_dbl k).symm | exact congrArg (D.int .i64) (bit_add (by simp only [andn_bit]; simp_all)).symm | exact congrArg (D.int .i64) (bit_no (by simp only [andn_bit]; simp_all)).symm), (by first | rfl | exact congrArg (D.int .i64) (pow_dbl k).symm | exact congrArg (D.int .i64) (bit_add (by simp only [andn_bit]; simp_all)).symm | exact congrArg (D.int .i64) (bit_no (by simp only [andn_bit]; simp_all)).symm), (by first | rfl | exact congrArg (D.int .i64) (pow_dbl k).symm | exact congrArg (D.int .i64) (bit_add (by simp only [andn_bit]; simp_all)).symm | exact congrArg (D.int .i64) (bit_no (by simp only [andn_bit]; simp_all)).symm), (by first | rfl | exact congrArg (D.int .i64) (pow_dbl k).symm | exact congrArg (D.int .i64) (bit_add (by simp only [andn_bit]; simp_all)).symm | exact congrArg (D.int .i64) (bit_no (by simp only [andn_bit]; simp_all)).symm), trivial⟩, trivial⟩); (exact (pow_small (by assumption))))
    | (refine ⟨⟨(by first | rfl | (simp; done)), cap_ok (by simp only [List.length_map, List.length_cons, List.length_nil, List.length_append]; omega) rfl⟩, ?_⟩; conv => whnf)
    | (refine ⟨mem_one ⟨rfl, rfl⟩, ?_⟩; conv => whnf)
    | (refine ⟨(by intro y hy; obtain ⟨x, _, rfl⟩ := List.mem_map.1 hy; first | rfl | exact ⟨rfl, rfl⟩), ?_⟩; conv => whnf)
    | (refine ⟨cap_ok (by first | omega | (simp only [List.length_map]; omega)) rfl, ?_⟩; conv => whnf)
    | (refine ix_map (by omega) ?_; conv => whnf)
    | (refine ix_str (by omega) ?_; conv => whnf)
    | (refine wrap64 (by omega) ?_; conv => whnf)
    | (exfalso; simp only [List.length_map, List.length_cons, List.length_nil, List.length_append] at h; omega)
    | (exact endx (congrArg i (congrArg Int.ofNat (pow_big h (by have := andn_le a.toNat b.toNat; omega)))); done)
    | (refine ⟨rfl, ?_⟩; conv => whnf)
    | fail
    )

theorem c30 (a b : Int) (ha : 0 ≤ a ∧ a ≤ 4095) (hb : 0 ≤ b ∧ b ≤ 4095) : Fn 30 [i a, i b] (i (withI a b)) := by
  refine run_walkF eok Try.func30 rfl (by kernel_rfl) ?_
  conv => whnf
  repeat' (first
    | (refine on_chg (fun h => ?_) (fun h => ?_) <;> conv => whnf)
    | (refine on_chgn (fun h => ?_) (fun h => ?_) <;> conv => whnf)
    | (refine on_opnn (fun h => ?_) (fun h => ?_) <;> conv => whnf)
    | (refine on_ref (fun h => ?_) (fun h => ?_) <;> conv => whnf)
    | (refine on_refn (fun h => ?_) (fun h => ?_) <;> conv => whnf)
    | ((with_reducible refine on_dec_f ?_ ?_); (focus ((try simp only [List.length_map, List.length_cons, List.length_nil, List.length_append]); omega)); conv => whnf)
    | ((with_reducible refine on_dec_t ?_ ?_); (focus ((try simp only [List.length_map, List.length_cons, List.length_nil, List.length_append]); omega)); conv => whnf)
    | ((with_reducible refine on_dec (fun h => ?_) (fun h => ?_)) <;> (try simp only [List.length_map] at h) <;> conv => whnf)
    | ((with_reducible refine on_ndec (fun h => ?_) (fun h => ?_)) <;> (try simp only [List.length_map] at h) <;> conv => whnf)
    | ((with_reducible refine on_not (fun h => ?_) (fun h => ?_)) <;> conv => whnf)
    | ((with_reducible refine onBool_split (fun h => ?_) (fun h => ?_)) <;> conv => whnf)
    | (refine call_step (run_view (c15 _ _ (by have := Nat.two_pow_pos k; omega)) rfl rfl) ?_; conv => whnf)
    | (refine loop1 (fun (k : Nat) => 13 - k) (fun (k : Nat) => k ≤ 12) (fun (k : Nat) => [(0, .d (i a)), (1, .d (i b)), (5, .d (i (((a.toNat ||| b.toNat) % 2 ^ k : Nat)))), (6, .d (i ((2 ^ k : Nat))))]) (fun (k : Nat) => []) (0) (by decide) ?_ (fun k C hI hC => ?_); (exact ⟨[], rfl, rfl, ⟨rfl, rfl, (congrArg (D.int .i64) (congrArg Int.ofNat (Nat.mod_one _).symm)), rfl, trivial⟩, trivial⟩); have hp := Nat.two_pow_pos k; have hA := fun (h : k < 62) => hasR_bit ha h; have hB := fun (h : k < 62) => hasR_bit hb h; have hkk : k < 62 := Nat.lt_of_le_of_lt hI (by decide); replace hA := hA hkk; replace hB := hB hkk; have hb1 := bitmod_le ((a.toNat ||| b.toNat)) k (by have := withI_bd ha hb; unfold withI at this; omega); all_goals (conv => whnf))
    | (refine hC (k + 1) _ _ ?_ (by omega) ?_; clear hC; rotate_left; (exact ⟨[], rfl, rfl, ⟨(by first | rfl | exact congrArg (D.int .i64) (pow_dbl k).symm | exact congrArg (D.int .i64) (bit_add (by simp only [Nat.testBit_or]; simp_all)).symm | exact congrArg (D.int .i64) (bit_no (by simp only [Nat.testBit_or]; simp_all)).symm), (by first | rfl | exact congrArg (D.int .i64) (pow_dbl k).symm | exact congrArg (D.int .i64) (bit_add (by simp only [Nat.testBit_or]; simp_all)).symm | exact congrArg (D.int .i64) (bit_no (by simp only [Nat.testBit_or]; simp_all)).symm), (by first | rfl | exact congrArg (D.int .i64) (pow_dbl k).symm | exact congrArg (D.int .i64) (bit_add (by simp only [Nat.testBit_or]; simp_all)).symm | exact congrArg (D.int .i64) (bit_no (by simp only [Nat.testBit_or]; simp_all)).symm), (by first | rfl | exact congrArg (D.int .i64) (pow_dbl k).symm | exact congrArg (D.int .i64) (bit_add (by simp only [Nat.testBit_or]; simp_all)).symm | exact congrArg (D.int .i64) (bit_no (by simp only [Nat.testBit_or]; simp_all)).symm), trivial⟩, trivial⟩); (exact (pow_small (by assumption))))
    | (refine ⟨⟨(by first | rfl | (simp; done)), cap_ok (by simp only [List.length_map, List.length_cons, List.length_nil, List.length_append]; omega) rfl⟩, ?_⟩; conv => whnf)
    | (refine ⟨mem_one ⟨rfl, rfl⟩, ?_⟩; conv => whnf)
    | (refine ⟨(by intro y hy; obtain ⟨x, _, rfl⟩ := List.mem_map.1 hy; first | rfl | exact ⟨rfl, rfl⟩), ?_⟩; conv => whnf)
    | (refine ⟨cap_ok (by first | omega | (simp only [List.length_map]; omega)) rfl, ?_⟩; conv => whnf)
    | (refine ix_map (by omega) ?_; conv => whnf)
    | (refine ix_str (by omega) ?_; conv => whnf)
    | (refine wrap64 (by omega) ?_; conv => whnf)
    | (exfalso; simp only [List.length_map, List.length_cons, List.length_nil, List.length_append] at h; omega)
    | (exact endx (congrArg i (congrArg Int.ofNat (pow_big h (by have : a.toNat ||| b.toNat < 2 ^ 12 := Nat.or_lt_two_pow (by omega) (by omega); omega)))); done)
    | (refine ⟨rfl, ?_⟩; conv => whnf)
    | fail
    )

def openR : List Opn → Ref → Int
  | [], _ => 0
  | o :: l, f => if o.file = f then o.reasons else openR l f
theorem openR_drop {l : List Opn} {f : Ref} {k : Nat} (h : k < l.length) : openR (l.drop k) f = if l[k].file = f then l[k].reasons else openR (l.drop (k + 1)) f := by
  rw [List.drop_eq_getElem_cons h]; rfl
theorem openR_end {l : List Opn} {f : Ref} {k : Nat} (h : l.length ≤ k) : openR (l.drop k) f = 0 := by
  rw [List.drop_eq_nil_of_le h]; rfl
def lastR : List Chg → Ref → Int → Int
  | [], _, out => out
  | x :: l, f, out => lastR l f (if x.file = f then x.usn else out)
theorem lastR_drop {l : List Chg} {f : Ref} {k : Nat} {out : Int} (h : k < l.length) : lastR (l.drop k) f out = lastR (l.drop (k + 1)) f (if l[k].file = f then l[k].usn else out) := by
  rw [List.drop_eq_getElem_cons h]; rfl
theorem lastR_end {l : List Chg} {f : Ref} {k : Nat} {out : Int} (h : l.length ≤ k) : lastR (l.drop k) f out = out := by
  rw [List.drop_eq_nil_of_le h]; rfl
def fewB (j : Jrn) : Bool := decide (j.recs.length ≤ 210) && decide (j.opens.length ≤ 70) && j.recs.all (fun x => decide (x.name.length ≤ 40))
def shortB (e : Evt) : Bool := decide (e.name.length ≤ 40) && decide (e.nn.length ≤ 40)

theorem c45 (j : Jrn) (f : Ref) (ho : j.opens.length < 1000000) : Fn 45 [j.enc, f.enc] (i (openR j.opens f)) := by
  refine run_walkF eok Try.func45 rfl (by kernel_rfl) ?_
  conv => whnf
  repeat' (first
    | (refine on_chg (fun h => ?_) (fun h => ?_) <;> conv => whnf)
    | (refine on_chgn (fun h => ?_) (fun h => ?_) <;> conv => whnf)
    | (refine on_opnn (fun h => ?_) (fun h => ?_) <;> conv => whnf)
    | (refine on_ref (fun h => ?_) (fun h => ?_) <;> conv => whnf)
    | (refine on_refn (fun h => ?_) (fun h => ?_) <;> conv => whnf)
    | ((with_reducible refine on_dec_f ?_ ?_); (focus ((try simp only [List.length_map, List.length_cons, List.length_nil, List.length_append]); omega)); conv => whnf)
    | ((with_reducible refine on_dec_t ?_ ?_); (focus ((try simp only [List.length_map, List.length_cons, List.length_nil, List.length_append]); omega)); conv => whnf)
    | ((with_reducible refine on_dec (fun h => ?_) (fun h => ?_)) <;> (try simp only [List.length_map] at h) <;> conv => whnf)
    | ((with_reducible refine on_ndec (fun h => ?_) (fun h => ?_)) <;> (try simp only [List.length_map] at h) <;> conv => whnf)
    | ((with_reducible refine on_not (fun h => ?_) (fun h => ?_)) <;> conv => whnf)
    | ((with_reducible refine onBool_split (fun h => ?_) (fun h => ?_)) <;> conv => whnf)
    | (refine ⟨[], [], (by decide +kernel), ?_⟩; conv => whnf)
    | (refine loop1 (fun (k : Nat) => j.opens.length - k) (fun (k : Nat) => k ≤ j.opens.length ∧ openR j.opens f = openR (j.opens.drop k) f) (fun (k : Nat) => [(2, .ptr 0 0 0), (3, .ptr 1 0 0), (5, .d (i k))]) (fun (k : Nat) => [⟨[.d j.enc], 6, 0⟩, ⟨[.d f.enc], 2, 0⟩]) (0) (by first | (simp; done) | (constructor <;> simp; done) | omega) ?_ (fun k C hI hC => ?_); (exact ⟨[.old 0, .old 1], rfl, rfl, ⟨(by first | exact congrArg (D.int .i64) (by omega) | exact ⟨rfl, rfl, rfl⟩ | exact ⟨rfl, rfl, rfl, rfl, rfl⟩ | (show (_ : D) = _; with_reducible rfl)), (by first | exact congrArg (D.int .i64) (by omega) | exact ⟨rfl, rfl, rfl⟩ | exact ⟨rfl, rfl, rfl, rfl, rfl⟩ | (show (_ : D) = _; with_reducible rfl)), (by first | exact congrArg (D.int .i64) (by omega) | exact ⟨rfl, rfl, rfl⟩ | exact ⟨rfl, rfl, rfl, rfl, rfl⟩ | (show (_ : D) = _; with_reducible rfl)), trivial⟩, ⟨⟨rfl, rfl, .inl ⟨[_], rfl, rfl⟩⟩, ⟨rfl, rfl, .inl ⟨[_], rfl, rfl⟩⟩, trivial⟩⟩); all_goals (conv => whnf))
    | (refine hC (k + 1) _ _ ?_ (by omega) ?_; clear hC; rotate_left; (exact ⟨[.old 0, .old 1], rfl, rfl, ⟨(by first | exact congrArg (D.int .i64) (by omega) | exact ⟨rfl, rfl, rfl⟩ | exact ⟨rfl, rfl, rfl, rfl, rfl⟩ | (show (_ : D) = _; with_reducible rfl)), (by first | exact congrArg (D.int .i64) (by omega) | exact ⟨rfl, rfl, rfl⟩ | exact ⟨rfl, rfl, rfl, rfl, rfl⟩ | (show (_ : D) = _; with_reducible rfl)), (by first | exact congrArg (D.int .i64) (by omega) | exact ⟨rfl, rfl, rfl⟩ | exact ⟨rfl, rfl, rfl, rfl, rfl⟩ | (show (_ : D) = _; with_reducible rfl)), trivial⟩, ⟨⟨rfl, rfl, .inl ⟨[_], rfl, rfl⟩⟩, ⟨rfl, rfl, .inl ⟨[_], rfl, rfl⟩⟩, trivial⟩⟩); (exact ⟨by omega, by rw [hI.2, openR_drop (by omega), if_neg h]⟩))
    | (refine ⟨⟨(by first | rfl | (simp; done)), cap_ok (by simp only [List.length_map, List.length_cons, List.length_nil, List.length_append]; omega) rfl⟩, ?_⟩; conv => whnf)
    | (refine ⟨mem_one ⟨rfl, rfl⟩, ?_⟩; conv => whnf)
    | (refine ⟨(by intro y hy; obtain ⟨x, _, rfl⟩ := List.mem_map.1 hy; first | rfl | exact ⟨rfl, rfl⟩), ?_⟩; conv => whnf)
    | (refine ⟨cap_ok (by first | omega | (simp only [List.length_map]; omega)) rfl, ?_⟩; conv => whnf)
    | (refine ix_map (by omega) ?_; conv => whnf)
    | (refine ix_str (by omega) ?_; conv => whnf)
    | (refine wrap64 (by omega) ?_; conv => whnf)
    | (exfalso; simp only [List.length_map, List.length_cons, List.length_nil, List.length_append] at h; omega)
    | (exact endx (congrArg i (by rw [hI.2, openR_drop (by omega), if_pos h])); done)
    | (exact endx (congrArg i (by rw [hI.2, openR_end (by omega)])); done)
    | (refine ⟨rfl, ?_⟩; conv => whnf)
    | fail
    )

theorem c46 (j : Jrn) (f : Ref) (ho : j.recs.length < 1000000) : Fn 46 [j.enc, f.enc] (i (lastR j.recs f (-1))) := by
  refine run_walkF eok Try.func46 rfl (by kernel_rfl) ?_
  conv => whnf
  repeat' (first
    | (refine on_chg (fun h => ?_) (fun h => ?_) <;> conv => whnf)
    | (refine on_chgn (fun h => ?_) (fun h => ?_) <;> conv => whnf)
    | (refine on_opnn (fun h => ?_) (fun h => ?_) <;> conv => whnf)
    | (refine on_ref (fun h => ?_) (fun h => ?_) <;> conv => whnf)
    | (refine on_refn (fun h => ?_) (fun h => ?_) <;> conv => whnf)
    | ((with_reducible refine on_dec_f ?_ ?_); (focus ((try simp only [List.length_map, List.length_cons, List.length_nil, List.length_append]); omega)); conv => whnf)
    | ((with_reducible refine on_dec_t ?_ ?_); (focus ((try simp only [List.length_map, List.length_cons, List.length_nil, List.length_append]); omega)); conv => whnf)
    | ((with_reducible refine on_dec (fun h => ?_) (fun h => ?_)) <;> (try simp only [List.length_map] at h) <;> conv => whnf)
    | ((with_reducible refine on_ndec (fun h => ?_) (fun h => ?_)) <;> (try simp only [List.length_map] at h) <;> conv => whnf)
    | ((with_reducible refine on_not (fun h => ?_) (fun h => ?_)) <;> conv => whnf)
    | ((with_reducible refine onBool_split (fun h => ?_) (fun h => ?_)) <;> conv => whnf)
    | (refine ⟨[], [], (by decide +kernel), ?_⟩; conv => whnf)
    | (refine loop2 (fun (k : Nat) (o : Int) => j.recs.length - k) (fun (k : Nat) (o : Int) => k ≤ j.recs.length ∧ lastR j.recs f (-1) = lastR (j.recs.drop k) f o) (fun (k : Nat) (o : Int) => [(2, .ptr 0 0 0), (3, .ptr 1 0 0), (6, .d (i k)), (5, .d (i o))]) (fun (k : Nat) (o : Int) => [⟨[.d j.enc], 6, 0⟩, ⟨[.d f.enc], 2, 0⟩]) (0) (-1) (by first | (simp; done) | (constructor <;> simp; done) | omega) ?_ (fun k o C hI hC => ?_); (exact ⟨[.old 0, .old 1], rfl, rfl, ⟨(by first | exact congrArg (D.int .i64) (by omega) | exact ⟨rfl, rfl, rfl⟩ | exact ⟨rfl, rfl, rfl, rfl, rfl⟩ | (show (_ : D) = _; with_reducible rfl)), (by first | exact congrArg (D.int .i64) (by omega) | exact ⟨rfl, rfl, rfl⟩ | exact ⟨rfl, rfl, rfl, rfl, rfl⟩ | (show (_ : D) = _; with_reducible rfl)), (by first | exact congrArg (D.int .i64) (by omega) | exact ⟨rfl, rfl, rfl⟩ | exact ⟨rfl, rfl, rfl, rfl, rfl⟩ | (show (_ : D) = _; with_reducible rfl)), (by first | exact congrArg (D.int .i64) (by omega) | exact ⟨rfl, rfl, rfl⟩ | exact ⟨rfl, rfl, rfl, rfl, rfl⟩ | (show (_ : D) = _; with_reducible rfl)), trivial⟩, ⟨⟨rfl, rfl, .inl ⟨[_], rfl, rfl⟩⟩, ⟨rfl, rfl, .inl ⟨[_], rfl, rfl⟩⟩, trivial⟩⟩); all_goals (conv => whnf))
    | (refine hC (k + 1) (j.recs[k].usn) _ _ ?_ (by omega) ?_; clear hC; rotate_left; (exact ⟨[.old 0, .old 1], rfl, rfl, ⟨(by first | exact congrArg (D.int .i64) (by omega) | exact ⟨rfl, rfl, rfl⟩ | exact ⟨rfl, rfl, rfl, rfl, rfl⟩ | (show (_ : D) = _; with_reducible rfl)), (by first | exact congrArg (D.int .i64) (by omega) | exact ⟨rfl, rfl, rfl⟩ | exact ⟨rfl, rfl, rfl, rfl, rfl⟩ | (show (_ : D) = _; with_reducible rfl)), (by first | exact congrArg (D.int .i64) (by omega) | exact ⟨rfl, rfl, rfl⟩ | exact ⟨rfl, rfl, rfl, rfl, rfl⟩ | (show (_ : D) = _; with_reducible rfl)), (by first | exact congrArg (D.int .i64) (by omega) | exact ⟨rfl, rfl, rfl⟩ | exact ⟨rfl, rfl, rfl, rfl, rfl⟩ | (show (_ : D) = _; with_reducible rfl)), trivial⟩, ⟨⟨rfl, rfl, .inl ⟨[_], rfl, rfl⟩⟩, ⟨rfl, rfl, .inl ⟨[_], rfl, rfl⟩⟩, trivial⟩⟩); (exact ⟨by omega, by rw [hI.2, lastR_drop (by omega), if_pos h]⟩))
    | (refine hC (k + 1) (o) _ _ ?_ (by omega) ?_; clear hC; rotate_left; (exact ⟨[.old 0, .old 1], rfl, rfl, ⟨(by first | exact congrArg (D.int .i64) (by omega) | exact ⟨rfl, rfl, rfl⟩ | exact ⟨rfl, rfl, rfl, rfl, rfl⟩ | (show (_ : D) = _; with_reducible rfl)), (by first | exact congrArg (D.int .i64) (by omega) | exact ⟨rfl, rfl, rfl⟩ | exact ⟨rfl, rfl, rfl, rfl, rfl⟩ | (show (_ : D) = _; with_reducible rfl)), (by first | exact congrArg (D.int .i64) (by omega) | exact ⟨rfl, rfl, rfl⟩ | exact ⟨rfl, rfl, rfl, rfl, rfl⟩ | (show (_ : D) = _; with_reducible rfl)), (by first | exact congrArg (D.int .i64) (by omega) | exact ⟨rfl, rfl, rfl⟩ | exact ⟨rfl, rfl, rfl, rfl, rfl⟩ | (show (_ : D) = _; with_reducible rfl)), trivial⟩, ⟨⟨rfl, rfl, .inl ⟨[_], rfl, rfl⟩⟩, ⟨rfl, rfl, .inl ⟨[_], rfl, rfl⟩⟩, trivial⟩⟩); (exact ⟨by omega, by rw [hI.2, lastR_drop (by omega), if_neg h]⟩))
    | (refine ⟨⟨(by first | rfl | (simp; done)), cap_ok (by simp only [List.length_map, List.length_cons, List.length_nil, List.length_append]; omega) rfl⟩, ?_⟩; conv => whnf)
    | (refine ⟨mem_one ⟨rfl, rfl⟩, ?_⟩; conv => whnf)
    | (refine ⟨(by intro y hy; obtain ⟨x, _, rfl⟩ := List.mem_map.1 hy; first | rfl | exact ⟨rfl, rfl⟩), ?_⟩; conv => whnf)
    | (refine ⟨cap_ok (by first | omega | (simp only [List.length_map]; omega)) rfl, ?_⟩; conv => whnf)
    | (refine ix_map (by omega) ?_; conv => whnf)
    | (refine ix_str (by omega) ?_; conv => whnf)
    | (refine wrap64 (by omega) ?_; conv => whnf)
    | (exfalso; simp only [List.length_map, List.length_cons, List.length_nil, List.length_append] at h; omega)
    | (exact endx (congrArg i (by rw [hI.2, lastR_end (by omega)])); done)
    | (refine ⟨rfl, ?_⟩; conv => whnf)
    | fail
    )

theorem c26 (e : Evt) : Fn 26 [e.enc] (.bool (shortB e)) := by
  refine run_walkF eok Try.func26 rfl (by kernel_rfl) ?_
  conv => whnf
  repeat' (first
    | (refine on_chg (fun h => ?_) (fun h => ?_) <;> conv => whnf)
    | (refine on_chgn (fun h => ?_) (fun h => ?_) <;> conv => whnf)
    | (refine on_opnn (fun h => ?_) (fun h => ?_) <;> conv => whnf)
    | (refine on_ref (fun h => ?_) (fun h => ?_) <;> conv => whnf)
    | (refine on_refn (fun h => ?_) (fun h => ?_) <;> conv => whnf)
    | ((with_reducible refine on_dec_f ?_ ?_); (focus ((try simp only [List.length_map, List.length_cons, List.length_nil, List.length_append]); omega)); conv => whnf)
    | ((with_reducible refine on_dec_t ?_ ?_); (focus ((try simp only [List.length_map, List.length_cons, List.length_nil, List.length_append]); omega)); conv => whnf)
    | ((with_reducible refine on_dec (fun h => ?_) (fun h => ?_)) <;> (try simp only [List.length_map] at h) <;> conv => whnf)
    | ((with_reducible refine on_ndec (fun h => ?_) (fun h => ?_)) <;> (try simp only [List.length_map] at h) <;> conv => whnf)
    | ((with_reducible refine on_not (fun h => ?_) (fun h => ?_)) <;> conv => whnf)
    | ((with_reducible refine onBool_split (fun h => ?_) (fun h => ?_)) <;> conv => whnf)
    | (refine ⟨⟨(by first | rfl | (simp; done)), cap_ok (by simp only [List.length_map, List.length_cons, List.length_nil, List.length_append]; omega) rfl⟩, ?_⟩; conv => whnf)
    | (refine ⟨mem_one ⟨rfl, rfl⟩, ?_⟩; conv => whnf)
    | (refine ⟨(by intro y hy; obtain ⟨x, _, rfl⟩ := List.mem_map.1 hy; first | rfl | exact ⟨rfl, rfl⟩), ?_⟩; conv => whnf)
    | (refine ⟨cap_ok (by first | omega | (simp only [List.length_map]; omega)) rfl, ?_⟩; conv => whnf)
    | (refine ix_map (by omega) ?_; conv => whnf)
    | (refine ix_str (by omega) ?_; conv => whnf)
    | (refine wrap64 (by omega) ?_; conv => whnf)
    | (exfalso; simp only [List.length_map, List.length_cons, List.length_nil, List.length_append] at h; omega)
    | (exact endx (congrArg D.bool (by simp only [shortB]; grind)); done)
    | (refine ⟨rfl, ?_⟩; conv => whnf)
    | fail
    )

theorem c10 (j : Jrn) (hr : j.recs.length < 1000000) (ho : j.opens.length < 1000000) : Fn 10 [j.enc] (.bool (fewB j)) := by
  refine run_walkF eok Try.func10 rfl (by kernel_rfl) ?_
  conv => whnf
  repeat' (first
    | (refine on_chg (fun h => ?_) (fun h => ?_) <;> conv => whnf)
    | (refine on_chgn (fun h => ?_) (fun h => ?_) <;> conv => whnf)
    | (refine on_opnn (fun h => ?_) (fun h => ?_) <;> conv => whnf)
    | (refine on_ref (fun h => ?_) (fun h => ?_) <;> conv => whnf)
    | (refine on_refn (fun h => ?_) (fun h => ?_) <;> conv => whnf)
    | ((with_reducible refine on_dec_f ?_ ?_); (focus ((try simp only [List.length_map, List.length_cons, List.length_nil, List.length_append]); omega)); conv => whnf)
    | ((with_reducible refine on_dec_t ?_ ?_); (focus ((try simp only [List.length_map, List.length_cons, List.length_nil, List.length_append]); omega)); conv => whnf)
    | ((with_reducible refine on_dec (fun h => ?_) (fun h => ?_)) <;> (try simp only [List.length_map] at h) <;> conv => whnf)
    | ((with_reducible refine on_ndec (fun h => ?_) (fun h => ?_)) <;> (try simp only [List.length_map] at h) <;> conv => whnf)
    | ((with_reducible refine on_not (fun h => ?_) (fun h => ?_)) <;> conv => whnf)
    | ((with_reducible refine onBool_split (fun h => ?_) (fun h => ?_)) <;> conv => whnf)
    | (refine loop1 (fun (k : Nat) => j.recs.length - k) (fun (k : Nat) => k ≤ j.recs.length ∧ (j.recs.take k).all (fun x => decide (x.name.length ≤ 40)) = true) (fun (k : Nat) => [(1, .ptr 0 0 0), (3, .d (i k))]) (fun (k : Nat) => [⟨[.d j.enc], 6, 0⟩]) (0) (by first | (simp; done) | (constructor <;> simp; done) | omega) ?_ (fun k C hI hC => ?_); (exact ⟨[.old 0], rfl, rfl, ⟨(by first | exact congrArg (D.int .i64) (by omega) | exact ⟨rfl, rfl, rfl⟩ | exact ⟨rfl, rfl, rfl, rfl, rfl⟩ | (show (_ : D) = _; with_reducible rfl)), (by first | exact congrArg (D.int .i64) (by omega) | exact ⟨rfl, rfl, rfl⟩ | exact ⟨rfl, rfl, rfl, rfl, rfl⟩ | (show (_ : D) = _; with_reducible rfl)), trivial⟩, ⟨⟨rfl, rfl, .inl ⟨[_], rfl, rfl⟩⟩, trivial⟩⟩); all_goals (conv => whnf))
    | (refine hC (k + 1) _ _ ?_ (by omega) ?_; clear hC; rotate_left; (exact ⟨[.old 0], rfl, rfl, ⟨(by first | exact congrArg (D.int .i64) (by omega) | exact ⟨rfl, rfl, rfl⟩ | exact ⟨rfl, rfl, rfl, rfl, rfl⟩ | (show (_ : D) = _; with_reducible rfl)), (by first | exact congrArg (D.int .i64) (by omega) | exact ⟨rfl, rfl, rfl⟩ | exact ⟨rfl, rfl, rfl, rfl, rfl⟩ | (show (_ : D) = _; with_reducible rfl)), trivial⟩, ⟨⟨rfl, rfl, .inl ⟨[_], rfl, rfl⟩⟩, trivial⟩⟩); (exact ⟨by omega, by rw [List.take_succ_eq_append_getElem (by omega), List.all_append, hI.2]; simp; omega⟩))
    | (refine ⟨⟨(by first | rfl | (simp; done)), cap_ok (by simp only [List.length_map, List.length_cons, List.length_nil, List.length_append]; omega) rfl⟩, ?_⟩; conv => whnf)
    | (refine ⟨mem_one ⟨rfl, rfl⟩, ?_⟩; conv => whnf)
    | (refine ⟨(by intro y hy; obtain ⟨x, _, rfl⟩ := List.mem_map.1 hy; first | rfl | exact ⟨rfl, rfl⟩), ?_⟩; conv => whnf)
    | (refine ⟨cap_ok (by first | omega | (simp only [List.length_map]; omega)) rfl, ?_⟩; conv => whnf)
    | (refine ix_map (by omega) ?_; conv => whnf)
    | (refine ix_str (by omega) ?_; conv => whnf)
    | (refine wrap64 (by omega) ?_; conv => whnf)
    | (exfalso; simp only [List.length_map, List.length_cons, List.length_nil, List.length_append] at h; omega)
    | (exact endx (congrArg D.bool (by simp only [fewB]; grind)); done)
    | (exact endx (congrArg D.bool (by have := hI.2; rw [List.take_of_length_le (by omega)] at this; simp only [fewB, this]; simp; omega)); done)
    | (exact endx (congrArg D.bool (by symm; simp only [fewB, Bool.and_eq_false_iff]; right; rw [List.all_eq_false]; exact ⟨j.recs[k], List.getElem_mem _, by simp; omega⟩)); done)
    | (refine ⟨rfl, ?_⟩; conv => whnf)
    | fail
    )

def Jrn.wr (j : Jrn) (x : Chg) : Jrn := { j with recs := j.recs ++ [{ x with usn := j.next }], next := IntKind.i64.wrap (j.next + size x.name.length) }

theorem c97 (j : Jrn) (x : Chg) (hr : j.recs.length < 1000000) (hx : x.name.length < 1000000) : Fn 97 [j.enc, x.enc] (j.wr x).enc := by
  refine run_walkF eok Try.func97 rfl (by kernel_rfl) ?_
  conv => whnf
  repeat' (first
    | (refine on_chg (fun h => ?_) (fun h => ?_) <;> conv => whnf)
    | (refine on_chgn (fun h => ?_) (fun h => ?_) <;> conv => whnf)
    | (refine on_opnn (fun h => ?_) (fun h => ?_) <;> conv => whnf)
    | (refine on_ref (fun h => ?_) (fun h => ?_) <;> conv => whnf)
    | (refine on_refn (fun h => ?_) (fun h => ?_) <;> conv => whnf)
    | ((with_reducible refine on_dec_f ?_ ?_); (focus ((try simp only [List.length_map, List.length_cons, List.length_nil, List.length_append]); omega)); conv => whnf)
    | ((with_reducible refine on_dec_t ?_ ?_); (focus ((try simp only [List.length_map, List.length_cons, List.length_nil, List.length_append]); omega)); conv => whnf)
    | ((with_reducible refine on_dec (fun h => ?_) (fun h => ?_)) <;> (try simp only [List.length_map] at h) <;> conv => whnf)
    | ((with_reducible refine on_ndec (fun h => ?_) (fun h => ?_)) <;> (try simp only [List.length_map] at h) <;> conv => whnf)
    | ((with_reducible refine on_not (fun h => ?_) (fun h => ?_)) <;> conv => whnf)
    | ((with_reducible refine onBool_split (fun h => ?_) (fun h => ?_)) <;> conv => whnf)
    | (refine call_step (run_view (c21 _ (by omega)) rfl rfl) ?_; conv => whnf)
    | (refine ⟨[22], [(4, 3)], (by decide +kernel), ?_⟩; conv => whnf)
    | (refine ⟨[], [(1, 4)], (by decide +kernel), ?_⟩; conv => whnf)
    | (refine ⟨⟨(by first | rfl | (simp; done)), cap_ok (by simp only [List.length_map, List.length_cons, List.length_nil, List.length_append]; omega) rfl⟩, ?_⟩; conv => whnf)
    | (refine ⟨mem_one ⟨rfl, rfl⟩, ?_⟩; conv => whnf)
    | (refine ⟨(by intro y hy; obtain ⟨x, _, rfl⟩ := List.mem_map.1 hy; first | rfl | exact ⟨rfl, rfl⟩), ?_⟩; conv => whnf)
    | (refine ⟨cap_ok (by first | omega | (simp only [List.length_map]; omega)) rfl, ?_⟩; conv => whnf)
    | (refine ix_map (by omega) ?_; conv => whnf)
    | (refine ix_str (by omega) ?_; conv => whnf)
    | (refine wrap64 (by omega) ?_; conv => whnf)
    | (refine wrap_raw ?_; conv => whnf)
    | (exfalso; simp only [List.length_map, List.length_cons, List.length_nil, List.length_append] at h; omega)
    | (exact endxv (view_agg (vlc rfl (vlc rfl (vlc rfl (vlc rfl (vlc (view_app rfl Nat.two_pos) (vlc rfl vln))))))) (by simp [Jrn.wr, Jrn.enc, Chg.enc]); done)
    | (refine ⟨rfl, ?_⟩; conv => whnf)
    | fail
    )

end Go.Proofs.Ytjbipdppgoldlaa

/-! Wn -/
namespace Go.Proofs.Ytjbipdppgoldlaa
open Go Dw
set_option maxRecDepth 10000
set_option linter.unusedVariables false
set_option linter.unusedSimpArgs false
attribute [local irreducible] Run

def trimR (next most : Int) : Int → List Chg → Int × List Chg
  | f, [] => (f, [])
  | f, x :: l => if most < IntKind.i64.wrap (next - f) then trimR next most (IntKind.i64.wrap (f + size x.name.length)) l else (f, x :: l)
def Jrn.trim (j : Jrn) : Jrn := { j with first := (trimR j.next j.most j.first j.recs).1, recs := (trimR j.next j.most j.first j.recs).2 }

theorem c40 (j : Jrn) (hr : j.recs.length < 1000000) (hn : ∀ x ∈ j.recs, x.name.length < 1000000) : Fn 40 [j.enc] j.trim.enc := by
  refine run_walkF eok Try.func40 rfl (by kernel_rfl) ?_
  conv => whnf
  repeat' (first
    | (refine on_ref (fun h => ?_) (fun h => ?_) <;> conv => whnf)
    | (refine on_refn (fun h => ?_) (fun h => ?_) <;> conv => whnf)
    | ((with_reducible refine on_dec_f ?_ ?_); (focus ((try simp only [List.length_map, List.length_cons, List.length_nil, List.length_append]); omega)); conv => whnf)
    | ((with_reducible refine on_dec_t ?_ ?_); (focus ((try simp only [List.length_map, List.length_cons, List.length_nil, List.length_append]); omega)); conv => whnf)
    | ((with_reducible refine on_dec (fun h => ?_) (fun h => ?_)) <;> (try simp only [List.length_map] at h) <;> conv => whnf)
    | ((with_reducible refine on_ndec (fun h => ?_) (fun h => ?_)) <;> (try simp only [List.length_map] at h) <;> conv => whnf)
    | ((with_reducible refine on_not (fun h => ?_) (fun h => ?_)) <;> conv => whnf)
    | ((with_reducible refine onBool_split (fun h => ?_) (fun h => ?_)) <;> conv => whnf)
    | (refine call_step (run_view (c21 _ (by simp_all)) rfl rfl) ?_; conv => whnf)
    | (refine ⟨[], [(1, 7)], (by decide +kernel), ?_⟩; conv => whnf)
    | (refine loop2 (fun (f : Int) (l : List Chg) => l.length) (fun (f : Int) (l : List Chg) => trimR j.next j.most j.first j.recs = trimR j.next j.most f l ∧ (∀ x ∈ l, x.name.length < 1000000) ∧ l.length < 1000000) (fun (f : Int) (l : List Chg) => [(1, .ptr 0 0 0), (2, .ptr 1 0 0)]) (fun (f : Int) (l : List Chg) => [⟨[.d { j with first := f, recs := l }.enc], 6, 0⟩, ⟨[.junk], 6, 0⟩]) (j.first) (j.recs) (by exact ⟨rfl, hn, hr⟩) ?_ (fun f l C hI hC => ?_); (exact ⟨[.old 0, .old 1], rfl, rfl, ⟨(by first | exact congrArg (D.int .i64) (by omega) | exact ⟨rfl, rfl, rfl⟩ | exact ⟨rfl, rfl, rfl, rfl, rfl⟩ | (show (_ : D) = _; with_reducible rfl)), (by first | exact congrArg (D.int .i64) (by omega) | exact ⟨rfl, rfl, rfl⟩ | exact ⟨rfl, rfl, rfl, rfl, rfl⟩ | (show (_ : D) = _; with_reducible rfl)), trivial⟩, ⟨⟨rfl, rfl, .inl ⟨[_], rfl, rfl⟩⟩, ⟨rfl, rfl, .inr ⟨trivial, trivial⟩⟩, trivial⟩⟩); rcases l with _ | ⟨x, l⟩; all_goals (conv => whnf))
    | (refine hC (IntKind.i64.wrap (f + size x.name.length)) (l) _ _ ?_ (by simp) ?_; clear hC; rotate_left; (exact ⟨[.old 0, .old 1], rfl, rfl, ⟨(by first | exact congrArg (D.int .i64) (by omega) | exact ⟨rfl, rfl, rfl⟩ | exact ⟨rfl, rfl, rfl, rfl, rfl⟩ | (show (_ : D) = _; with_reducible rfl)), (by first | exact congrArg (D.int .i64) (by omega) | exact ⟨rfl, rfl, rfl⟩ | exact ⟨rfl, rfl, rfl, rfl, rfl⟩ | (show (_ : D) = _; with_reducible rfl)), trivial⟩, ⟨⟨rfl, rfl, .inr ⟨⟨rfl, rfl, rfl, rfl, rfl, (by simp [wk]), rfl, trivial⟩, trivial⟩⟩, ⟨rfl, rfl, .inr ⟨trivial, trivial⟩⟩, trivial⟩⟩); (exact ⟨by rw [hI.1, trimR, if_pos h], fun y hy => hI.2.1 y (by simp [hy]), by have := hI.2.2; simp at this; omega⟩))
    | (refine wrap_raw ?_; conv => whnf)
    | (refine ⟨by decide, nthK_of (x := x.enc) rfl ?_⟩; conv => whnf)
    | (refine sl_map (f := Chg.enc) (l := x :: l) 1 (l.length + 1) ?_ ?_ ?_ ?_ ?_; (rfl); (simp); (simp); (exact fun x => rfl); conv => whnf)
    | (exfalso; simp only [List.length_map, List.length_cons, List.length_nil, List.length_append] at h; omega)
    | (exact endx (by simp only [Jrn.trim, hI.1]; first | rfl | (rw [trimR, if_neg (by omega)])); done)
    | (refine ⟨rfl, ?_⟩; conv => whnf)
    | fail
    )

end Go.Proofs.Ytjbipdppgoldlaa

/-! Wo -/
namespace Go.Proofs.Ytjbipdppgoldlaa
open Go Dw
set_option maxRecDepth 10000
set_option linter.unusedVariables false
set_option linter.unusedSimpArgs false
attribute [local irreducible] Run
set_option maxHeartbeats 4000000

def eventErr (e : Evt) : Int :=
  if first [refErr e.file, refErr e.parent, if within e.tick 0 1000000 && within e.reasons 1 4095 then 0 else 2, if has e.reasons 512 = has e.reasons 1024 then 0 else 10, nameErr e.name] ≠ 0 then
    first [refErr e.file, refErr e.parent, if within e.tick 0 1000000 && within e.reasons 1 4095 then 0 else 2, if has e.reasons 512 = has e.reasons 1024 then 0 else 10, nameErr e.name]
  else if has e.reasons 1024 then first [refErr e.np, nameErr e.nn] else if e.np = ⟨0, 0⟩ ∧ e.nn = [] then 0 else 3
theorem hasR_512 {x : Int} (h : within x 1 4095 = true) : hasR x 512 = has x 512 := by
  simp only [within, Bool.and_eq_true, decide_eq_true_eq] at h
  exact hasR_has (by omega) (by omega) 9 (by omega)
theorem hasR_1024 {x : Int} (h : within x 1 4095 = true) : hasR x 1024 = has x 1024 := by
  simp only [within, Bool.and_eq_true, decide_eq_true_eq] at h
  exact hasR_has (by omega) (by omega) 10 (by omega)
theorem within_eq (n lo hi : Int) : (decide (lo ≤ n) && decide (n ≤ hi)) = within n lo hi := rfl

theorem c27 (e : Evt) (h0 : e.name.length < 1000000) (h1 : e.nn.length < 1000000) : Fn 27 [e.enc] (i (eventErr e)) := by
  refine run_walkF eok Try.func27 rfl (by kernel_rfl) ?_
  conv => whnf
  repeat' (first
    | (refine on_ref (b := ⟨0, 0⟩) (fun h => ?_) (fun h => ?_) <;> conv => whnf)
    | (refine on_refn (b := ⟨0, 0⟩) (fun h => ?_) (fun h => ?_) <;> conv => whnf)
    | ((with_reducible refine on_dec_f ?_ ?_); (focus ((try simp only [List.length_map, List.length_cons, List.length_nil, List.length_append]); omega)); conv => whnf)
    | ((with_reducible refine on_dec_t ?_ ?_); (focus ((try simp only [List.length_map, List.length_cons, List.length_nil, List.length_append]); omega)); conv => whnf)
    | ((with_reducible refine on_dec (fun h => ?_) (fun h => ?_)) <;> (try simp only [List.length_map] at h) <;> conv => whnf)
    | ((with_reducible refine on_ndec (fun h => ?_) (fun h => ?_)) <;> (try simp only [List.length_map] at h) <;> conv => whnf)
    | ((with_reducible refine on_not (fun h => ?_) (fun h => ?_)) <;> conv => whnf)
    | ((with_reducible refine onBool_split (fun h => ?_) (fun h => ?_)) <;> conv => whnf)
    | (refine call_step (run_view (c70 _ _) rfl rfl) ?_; conv => whnf)
    | (refine call_step (run_view (c71 _) rfl rfl) ?_; conv => whnf)
    | (refine call_step (run_view (c24 _ _ _) rfl rfl) ?_; conv => whnf)
    | (refine call_step (run_view (c15 _ _ (by decide)) rfl rfl) ?_; conv => whnf)
    | (refine call_step (run_view (c20 _ (by assumption)) rfl rfl) ?_; conv => whnf)
    | (refine call_step (run_view (c44 _) rfl rfl) ?_; conv => whnf)
    | (refine ⟨[], [(4, 2)], (by decide +kernel), ?_⟩; conv => whnf)
    | (refine ⟨⟨(by first | rfl | (simp; done)), cap_ok (by simp only [List.length_map, List.length_cons, List.length_nil, List.length_append]; omega) rfl⟩, ?_⟩; conv => whnf)
    | (refine ⟨mem_one ⟨rfl, rfl⟩, ?_⟩; conv => whnf)
    | (refine ⟨(by intro y hy; obtain ⟨x, _, rfl⟩ := List.mem_map.1 hy; first | rfl | exact ⟨rfl, rfl⟩), ?_⟩; conv => whnf)
    | (refine ⟨cap_ok (by first | omega | (simp only [List.length_map]; omega)) rfl, ?_⟩; conv => whnf)
    | (refine ix_map (by omega) ?_; conv => whnf)
    | (refine ix_str (by omega) ?_; conv => whnf)
    | (refine wrap64 (by omega) ?_; conv => whnf)
    | (exfalso; simp only [List.length_map, List.length_cons, List.length_nil, List.length_append] at h; omega)
    | (refine endx (congrArg i ?_); simp only [eventErr]; grind [first_cons, first_nil, hasR_512, hasR_1024]; done)
    | (refine ⟨rfl, ?_⟩; conv => whnf)
    | fail
    )

theorem c93 (e : Evt) (h0 : e.name.length < 1000000) (h1 : e.nn.length < 1000000) : Fn 93 [e.enc] (i (eventErr e)) := by
  refine run_walkF eok Try.func93 rfl (by kernel_rfl) ?_
  conv => whnf
  repeat' (first
    | (refine on_ref (b := ⟨0, 0⟩) (fun h => ?_) (fun h => ?_) <;> conv => whnf)
    | (refine on_refn (b := ⟨0, 0⟩) (fun h => ?_) (fun h => ?_) <;> conv => whnf)
    | ((with_reducible refine on_dec_f ?_ ?_); (focus ((try simp only [List.length_map, List.length_cons, List.length_nil, List.length_append]); omega)); conv => whnf)
    | ((with_reducible refine on_dec_t ?_ ?_); (focus ((try simp only [List.length_map, List.length_cons, List.length_nil, List.length_append]); omega)); conv => whnf)
    | ((with_reducible refine on_dec (fun h => ?_) (fun h => ?_)) <;> (try simp only [List.length_map] at h) <;> conv => whnf)
    | ((with_reducible refine on_ndec (fun h => ?_) (fun h => ?_)) <;> (try simp only [List.length_map] at h) <;> conv => whnf)
    | ((with_reducible refine on_not (fun h => ?_) (fun h => ?_)) <;> conv => whnf)
    | ((with_reducible refine onBool_split (fun h => ?_) (fun h => ?_)) <;> conv => whnf)
    | (refine call_step (run_view (c55 _ _) rfl rfl) ?_; conv => whnf)
    | (refine call_step (run_view (c64 _) rfl rfl) ?_; conv => whnf)
    | (refine call_step (run_view (c51 _ _ _) rfl rfl) ?_; conv => whnf)
    | (refine call_step (run_view (c54 _ _) rfl rfl) ?_; conv => whnf)
    | (refine call_step (run_view (c68 _ (by assumption)) rfl rfl) ?_; conv => whnf)
    | (refine call_step (run_view (c52 [_, _] (by simp)) rfl rfl) ?_; conv => whnf)
    | (refine call_step (run_view (c52 [_, _, _] (by simp)) rfl rfl) ?_; conv => whnf)
    | (refine call_step (run_view (c52 [_, _, _, _] (by simp)) rfl rfl) ?_; conv => whnf)
    | (refine call_step (run_view (c52 [_, _, _, _, _] (by simp)) rfl rfl) ?_; conv => whnf)
    | (refine ⟨[], [(4, 2)], (by decide +kernel), ?_⟩; conv => whnf)
    | (refine ⟨[], [(4, 2), (7, 2), (20, 2), (7, 5), (20, 5), (20, 8), (20, 12), (20, 14), (20, 18)], (by decide +kernel), ?_⟩; conv => whnf)
    | (refine ⟨⟨(by first | rfl | (simp; done)), cap_ok (by simp only [List.length_map, List.length_cons, List.length_nil, List.length_append]; omega) rfl⟩, ?_⟩; conv => whnf)
    | (refine ⟨mem_one ⟨rfl, rfl⟩, ?_⟩; conv => whnf)
    | (refine ⟨(by intro y hy; obtain ⟨x, _, rfl⟩ := List.mem_map.1 hy; first | rfl | exact ⟨rfl, rfl⟩), ?_⟩; conv => whnf)
    | (refine ⟨cap_ok (by first | omega | (simp only [List.length_map]; omega)) rfl, ?_⟩; conv => whnf)
    | (refine ix_map (by omega) ?_; conv => whnf)
    | (refine ix_str (by omega) ?_; conv => whnf)
    | (refine wrap64 (by omega) ?_; conv => whnf)
    | (exfalso; simp only [List.length_map, List.length_cons, List.length_nil, List.length_append] at h; omega)
    | (refine endx (congrArg i ?_); simp only [eventErr, within_eq] at *; grind [first_cons, first_nil]; done)
    | (refine ⟨rfl, ?_⟩; conv => whnf)
    | fail
    )

end Go.Proofs.Ytjbipdppgoldlaa
