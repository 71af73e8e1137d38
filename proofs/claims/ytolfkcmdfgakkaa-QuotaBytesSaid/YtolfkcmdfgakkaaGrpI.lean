/-
  Own lemmas, no conditions: DwZo, DwZq, DwZp, DwZzd, DwZzc, DwZze.
-/
import Derived.Test.YtolfkcmdfgakkaaGrpC
import Derived.Calls
import Derived.Lib.Overlaps
import Derived.Sort.Row
import Derived.Sort.Grow
import Derived.Laws.AppendOwn
set_option linter.unusedVariables false
set_option linter.unusedSimpArgs false

/-! DwZo -/
namespace Dw
open Go Go.RowKit

theorem ext_below {w w' : World} {st : St} {h : Heap} {B : Nat} {W : World} (hw : WR B W w st h) (hb : Below w.heap.size w w') : Ext w st w' st where
  n := Nat.le_refl _
  ρ := fun _ _ _ _ h => h
  S b hs := ⟨hs, hb.block b (hw.stab b hs)⟩
  G := fun _ _ h => h
  U := ⟨rfl, rfl, fun b hu => hb.block b (hw.x.ub b hu)⟩

theorem heap_lt {w : World} {b : Nat} {o : Obj} (h : w.heap[b]? = some o) : b < w.heap.size := by
  rcases Nat.lt_or_ge b w.heap.size with h' | h'
  · exact h'
  · simp [Array.getElem?_eq_none h'] at h

theorem wr_below {w w' : World} {st : St} {h : Heap} {B : Nat} {W : World} (hw : WR B W w st h) (hb : Below w.heap.size w w') : WR B W w' st h where
  below := hw.below.trans (hb.mono hw.base)
  base := Nat.le_trans hw.base hb.size
  len := hw.len
  obj id o ho h2 hg := by
    obtain ⟨r, e1, e2⟩ := hw.obj id o ho h2 hg
    refine ⟨r, e1, e2.n, e2.m, e2.k, e2.k0, fun hm => ?_⟩
    obtain ⟨f1, cs, e, fr, f2, f3, f4, f5⟩ := e2.mem hm
    have hbk : w'.heap[r.b]? = w.heap[r.b]? := hb.block r.b (heap_lt f2)
    refine ⟨f1, cs, e, fr, hbk.trans f2, f3, f4, fun i x hx => ?_⟩
    obtain ⟨us, g1, g2, g3⟩ := f5 i x hx
    exact ⟨us, g1, aC_mono (ext_below hw hb) x us g2, memAt_mono hbk g3⟩
  mobj id o ho h2 hg := by
    obtain ⟨r, e1, e2⟩ := hw.mobj id o ho h2 hg
    exact ⟨r, e1, e2.keep (hb.block r.b (hw.blk_lt e1 e2.m))⟩
  dom := hw.dom
  inj := hw.inj
  stab b hs := Nat.lt_of_lt_of_le (hw.stab b hs) hb.size
  live := hw.live
  frz := hw.frz
  gho := hw.gho
  x := ⟨hw.x.own, hw.x.low, fun b hu => Nat.lt_of_lt_of_le (hw.x.ub b hu) hb.size⟩

end Dw

/-! DwZq -/
namespace Dw
open Go Go.RowKit
set_option linter.unusedVariables false

/-- A function of the library that is not run, but taken from its contract: slices.Clone, or a function of plain data. -/
inductive Orc where
  | clone (k : Nat)
  | fn (g : List D → Option D)

section
variable {P : Program} {E : TE} (hE : EOK P E)
include hE

end

end Dw

/-! DwZp -/
namespace Dw
open Go

theorem embs_views1 {σ : List Nat} (H : Heap) (args : List AV) (xs : List D) (F : List Nat) (hF : ∀ id ∈ args.flatMap (reach 8 H), id ∈ F) (hv : vl (view 8 H) args = some xs) : embs σ F H (xs.map .d) args := by
  have := embs_views H args xs F hF hv
  have key : ∀ (ys : List D) (bs : List AV), embs [] F H (ys.map .d) bs → embs σ F H (ys.map .d) bs := by
    intro ys
    induction ys with
    | nil => intro bs h; cases bs with
      | nil => trivial
      | cons a bs => exact h.elim
    | cons y ys ih => intro bs h; cases bs with
      | nil => exact h.elim
      | cons a bs => exact ⟨h.1, ih bs h.2⟩
  exact key xs args this

theorem view_ptr {n : Nat} {h : Heap} {id e off : Nat} {o : AO} {x : AV} {d : D} (h1 : h[id]? = some o) (hst : o.st < 2) (he : o.elems[e]? = some x) (hv : view n h x = some d) : view (n + 1) h (.ptr id e off) = some (.fp d off) := by
  show (match h[id]? with
    | some o => if o.st < 2 then (match o.elems[e]? with | some x => (view n h x).map (D.fp · off) | none => none) else none
    | none => none) = _
  simp only [h1, if_pos hst, he, hv, Option.map_some]
/-- An element of a row of data is looked up, or set. -/
theorem nthK_row {α : Type} {g : α → D} {l : List α} {n : Nat} {K : AV → Prop} (h : n < l.length) (hk : K (.d (g l[n]))) : nthK ((l.map g).map AV.d) n K :=
  nthK_of (x := .d (g l[n])) (by simp [h]) hk
theorem nthK_row0 {α : Type} {g : α → D} {l : List α} {n : Nat} {K : AV → Prop} (h : n < l.length) (hk : K (.d (g l[n]))) : nthK ((l.map g).map AV.d) (0 + n) K := by
  rw [Nat.zero_add]; exact nthK_row h hk
theorem setK_of {α : Type} {l : List α} {n : Nat} {v : α} {K : List α → Prop} (hk : K (l.set n v)) : setK l n v K := by
  rw [setK_eq]; exact hk
theorem set_row {α : Type} {g : α → D} (l : List α) (k : Nat) (y : α) : ((l.map g).map AV.d).set k (.d (g y)) = ((l.set k y).map g).map AV.d := by
  rw [List.map_set, List.map_set]
end Dw

/-! DwZzd -/
namespace Dw
open Go Go.RowKit
set_option linter.unusedVariables false

/-- Values that do not name object 0. -/
def AV.off0 : AV → Bool
  | .d _ => true
  | .nilS => true
  | .sl (_ + 1) _ _ _ _ => true
  | _ => false

def St.room (st : St) (c : Nat) : St := { st with ρ := fun i => if i = 0 then (st.ρ 0).map (fun r => { r with n := c }) else st.ρ i }

theorem aC_room {w : World} {st : St} {c : Nat} {x : AV} {us : List Value} (hx : x.off0 = true) (h : aC w st x us) : aC w (st.room c) x us := by
  cases x
  case d d => simpa [aC, St.room] using h
  case nilS => simpa [aC] using h
  case sl id s l k cp =>
    cases id with
    | zero => cases hx
    | succ id => simpa [aC, St.room] using h
  all_goals cases hx

theorem aVs_room {w : World} {st : St} {c : Nat} {l : List AV} {vs : List Value} (hx : ∀ x ∈ l, x.off0 = true) (h : aVs w st l vs) : aVs w (st.room c) l vs := by
  rw [aVs_iff] at *
  refine ⟨h.1, fun i x v h1 h2 => ?_⟩
  obtain ⟨us, u1, u2⟩ := h.2 i x v h1 h2
  exact ⟨us, u1, aC_room (hx x (List.mem_iff_getElem?.2 ⟨i, h1⟩)) u2⟩

/-- A row of which nobody knows how much room there is. -/
theorem run_grow {P : Program} {f n k : Nat} {elems : List AV} {args : List AV} {H H' : Heap} {j len k' : Nat} {D1 : AO}
    (hn : elems.length = n) (he : ∀ x ∈ elems, x.off0 = true) (ha : ∀ x ∈ args, x.off0 = true) (hH : ∀ o ∈ H, ∀ x ∈ o.elems, x.off0 = true)
    (hD : D1.st = 2) (hj : ∃ o, H'[j]? = some o ∧ o.elems.length = len ∧ o.st < 2)
    (hr : ∀ c, n ≤ c → ∃ q, Run P f (.sl 0 0 n k (some c) :: args) (⟨elems ++ List.replicate (c - n) .junk, k, 0⟩ :: H) (.sl (j + 1) 0 len k' q) (D1 :: H')) :
    Run P f (.sl 0 0 n k none :: args) (⟨elems, k, 0⟩ :: H) (.sl (j + 1) 0 len k' none) (D1 :: H') := by
  intro B W w st vs hw hv
  simp only [aVs] at hv
  obtain ⟨v, vr, us, rfl, u1, u2, hvr⟩ := hv
  have hv0 : aV w st (.sl 0 0 n k none) v := ⟨us, u1, u2⟩
  obtain ⟨a, c, rfl, a1, a2, a3, a4, a5, a6⟩ := aV_sl.1 hv0
  obtain ⟨r, hr0, hobj⟩ := hw.obj 0 _ rfl (by simp) a2
  obtain ⟨r1, r2, r3, r4⟩ := a6 r hr0
  have hrn := hobj.n
  simp only at hrn
  have hρ : (st.room c).ρ 0 = some { r with n := c } := by simp [St.room, hr0]
  have hne : ∀ {i}, i ≠ 0 → (st.room c).ρ i = st.ρ i := fun h => by simp [St.room, h]
  have hsome : ∀ {i s}, (st.room c).ρ i = some s → ∃ s', st.ρ i = some s' ∧ s.b = s'.b ∧ s.m = s'.m := by
    intro i s hs
    by_cases h0 : i = 0
    · subst h0
      rw [hρ] at hs; cases hs
      exact ⟨r, hr0, rfl, rfl⟩
    · rw [hne h0] at hs; exact ⟨s, hs, rfl, rfl⟩
  have hget : ∀ {i o}, (⟨elems ++ List.replicate (c - n) .junk, k, 0⟩ :: H : Heap)[i]? = some o → (i = 0 ∧ o = ⟨elems ++ List.replicate (c - n) .junk, k, 0⟩) ∨ (i ≠ 0 ∧ (⟨elems, k, 0⟩ :: H : Heap)[i]? = some o) := by
    intro i o h
    cases i with
    | zero => left; simp at h; exact ⟨rfl, h.symm⟩
    | succ i => right; exact ⟨by simp, by simpa using h⟩
  have hmem : ∀ {i : Nat} {o : AO}, (⟨elems, k, 0⟩ :: H : Heap)[i]? = some o → ∀ x ∈ o.elems, x.off0 = true := by
    intro i o h
    cases i with
    | zero => simp at h; subst h; exact he
    | succ i => exact hH o (List.mem_iff_getElem?.2 ⟨i, by simpa using h⟩)
  have hst : ∀ {i : Nat} {o : AO}, (⟨elems ++ List.replicate (c - n) .junk, k, 0⟩ :: H : Heap)[i]? = some o → ∃ o', (⟨elems, k, 0⟩ :: H : Heap)[i]? = some o' ∧ o'.st = o.st := by
    intro i o h
    rcases hget h with ⟨rfl, rfl⟩ | ⟨h1, h2⟩
    · exact ⟨_, rfl, rfl⟩
    · exact ⟨o, h2, rfl⟩
  have hcell : ∀ (i : Nat) (o : AO) (s : Blk), (⟨elems, k, 0⟩ :: H : Heap)[i]? = some o → ObjC B w st s o → ObjC B w (st.room c) s o := by
    intro i o s ho hc
    refine ⟨hc.n, hc.m, hc.k, hc.k0, fun hm => ?_⟩
    obtain ⟨b1, cs, e, fr, m1, m2, m3, m4⟩ := hc.mem hm
    refine ⟨b1, cs, e, fr, m1, m2, m3, fun q x hx => ?_⟩
    obtain ⟨us, e1, e2, e3⟩ := m4 q x hx
    exact ⟨us, e1, aC_room (hmem ho x (List.mem_iff_getElem?.2 ⟨q, hx⟩)) e2, e3⟩
  have hw1 : WR B W w (st.room c) (⟨elems ++ List.replicate (c - n) .junk, k, 0⟩ :: H) := by
    refine ⟨hw.below, hw.base, by simpa [St.room] using hw.len, fun i o h1 h2 h3 => ?_, fun i o h1 h2 h3 => ?_, fun i s hs => ?_, fun p q s t hp hq h1 h2 h3 => ?_, hw.stab, fun i s o hs h1 h2 h3 => ?_, fun i s o hs h1 h2 h3 => ?_, hw.gho, fun i s hs hm => ?_, hw.x.low, hw.x.ub⟩
    · rcases hget h1 with ⟨rfl, rfl⟩ | ⟨hi, h1'⟩
      · refine ⟨_, hρ, by simp [hn]; omega, by simp; omega, hobj.k, hobj.k0, fun hm => ?_⟩
        obtain ⟨b1, cs, e, fr, m1, m2, m3, m4⟩ := hobj.mem hm
        refine ⟨b1, cs, e, fr, m1, m2, m3, fun q x hx => ?_⟩
        simp only at hx
        rw [List.getElem?_append] at hx
        split at hx
        · obtain ⟨us, e1, e2, e3⟩ := m4 q x hx
          exact ⟨us, e1, aC_room (he x (List.mem_iff_getElem?.2 ⟨q, hx⟩)) e2, e3⟩
        · rename_i hq
          rw [List.getElem?_replicate] at hx
          split at hx
          · rename_i hq2
            cases hx
            have hqc : q < r.m := by omega
            have hq1 : (q + 1) * r.k ≤ r.m * r.k := Nat.mul_le_mul_right _ hqc
            rw [Nat.add_mul, Nat.one_mul] at hq1
            refine ⟨(cs.toList.drop (r.o + q * r.k)).take r.k, ?_, trivial, (memAt_iff _ _).2 fun z v hz => ?_⟩
            · simp only [List.length_take, List.length_drop, Array.length_toList]; omega
            · rw [List.getElem?_take] at hz
              split at hz
              · rw [List.getElem?_drop, Array.getElem?_toList] at hz
                rw [cell_blk m1]; exact hz
              · cases hz
          · cases hx
      · obtain ⟨s, e1, e2⟩ := hw.obj i o h1' h2 h3
        exact ⟨s, by rw [hne hi]; exact e1, hcell i o s h1' e2⟩
    · rcases hget h1 with ⟨rfl, rfl⟩ | ⟨hi, h1'⟩
      · simp at h2
      · obtain ⟨s, e1, e2⟩ := hw.mobj i o h1' h2 h3
        exact ⟨s, by rw [hne hi]; exact e1, e2⟩
    · obtain ⟨s', e1, _, _⟩ := hsome hs
      obtain ⟨o, o1, o2, o3⟩ := hw.dom i s' e1
      cases i with
      | zero => exact ⟨_, rfl, by simp, o3⟩
      | succ i => exact ⟨o, by simpa using o1, o2, o3⟩
    · obtain ⟨s', e1, e2, e3⟩ := hsome hp
      obtain ⟨t', f1, f2, f3⟩ := hsome hq
      exact hw.inj p q s' t' e1 f1 (by omega) (by omega) (by omega)
    · obtain ⟨s', e1, e2, e3⟩ := hsome hs
      obtain ⟨o', f1, f2⟩ := hst h1
      rw [e2]; exact hw.live i s' o' e1 f1 (by omega) (by omega)
    · obtain ⟨s', e1, e2, e3⟩ := hsome hs
      obtain ⟨o', f1, f2⟩ := hst h1
      rw [e2]; exact hw.frz i s' o' e1 f1 (by omega) (by omega)
    · obtain ⟨s', e1, e2, e3⟩ := hsome hs
      rw [e2]; exact hw.x.own i s' e1 (by omega)
  have hv1 : aV w (st.room c) (.sl 0 0 n k (some c)) (.slice a n c) := aV_sl.2 ⟨a, c, rfl, a1, a2, a3, a4, fun c' h => by cases h; rfl, fun s hs => by
    rw [hρ] at hs; cases hs
    exact ⟨r1, r2, r3, fun h => by cases h⟩⟩
  obtain ⟨us1, u11, u12⟩ := hv1
  obtain ⟨q, hrun⟩ := hr c a3
  have hgood := hrun B W w (st.room c) (.slice a n c :: vr) hw1 (by
    simp only [aVs]
    exact ⟨_, _, us1, rfl, u11, u12, aVs_room ha hvr⟩)
  refine Good.mono (fun v w' hp => ?_) hgood
  obtain ⟨st', p1, p2, p3, p4⟩ := hp
  refine ⟨st', p1, ?_, ⟨p3.n, fun i hi hg s hs => ?_, p3.S, p3.G, p3.U⟩, p4⟩
  · obtain ⟨o, o1, o2, o3⟩ := hj
    obtain ⟨a', c', rfl, b1, b2, b3, b4, b5, b6⟩ := aV_sl.1 p2
    refine aV_sl.2 ⟨a', c', rfl, b1, b2, b3, b4, (fun _ h => by cases h), fun s hs => ?_⟩
    obtain ⟨s1, s2, s3, s4⟩ := b6 s hs
    obtain ⟨s', t1, t2⟩ := p1.obj (j + 1) o (by simpa using o1) o3 b2
    rw [hs] at t1; cases t1
    have := t2.n
    exact ⟨s1, s2, s3, fun _ => by omega⟩
  · have h := p3.ρ i hi hg s hs
    by_cases h0 : i = 0
    · subst h0
      obtain ⟨o, o1, o2, o3⟩ := p1.dom 0 s hs
      simp at o1
      subst o1
      omega
    · rwa [hne h0] at h

/-- slices.overlaps of two own rows. -/
theorem run_overlaps {P : Program} {f tS tR e k : Nat} (ht : P.underlying tS = some (.slice e)) (hz : ∀ w, (Go.sizeOf e).run P w = .ok k w)
    (hcall : ∀ (vs : Array Value) (w : World), (callFunc f vs).run P w = ((Extern.SlicesOverlaps.overlaps #[tS, tS] #[tR] vs).run P w).andThen fun v w' => .ok (.value v) w')
    {h : Heap} {i1 s1 l1 i2 s2 l2 : Nat} {c1 c2 : Option Nat} (o1 o2 : AO) (h1 : h[i1]? = some o1) (h2 : h[i2]? = some o2) (t1 : o1.st < 2) (t2 : o2.st < 2) (hne : i1 ≠ i2) (hk : k ≠ 1) (p1 : 0 < l1) (p2 : 0 < l2) :
    Run P f [.sl i1 s1 l1 k c1, .sl i2 s2 l2 k c2] h (.d (.bool false)) h := by
  intro B W w st vs hw hv
  simp only [aVs] at hv
  obtain ⟨v1, r1, us1, rfl, x1, y1, v2, r2, us2, rfl, x2, y2, rfl⟩ := hv
  have g1 : aV w st (.sl i1 s1 l1 k c1) v1 := ⟨us1, x1, y1⟩
  have g2 : aV w st (.sl i2 s2 l2 k c2) v2 := ⟨us2, x2, y2⟩
  obtain ⟨a, ca, rfl, a1, a2, a3, a4, a5, a6⟩ := aV_sl.1 g1
  obtain ⟨b, cb, rfl, b1, b2, b3, b4, b5, b6⟩ := aV_sl.1 g2
  obtain ⟨r, hr, hobj⟩ := hw.obj i1 o1 h1 t1 a2
  obtain ⟨q, hq, hob2⟩ := hw.obj i2 o2 h2 t2 b2
  obtain ⟨e1, e2, e3, e4⟩ := a6 r hr
  obtain ⟨f1, f2, f3, f4⟩ := b6 q hq
  have hm1 : r.m ≠ 0 := by omega
  have hm2 : q.m ≠ 0 := by omega
  obtain ⟨_, cs, el, fr, m1, m2, m3, m4⟩ := hobj.mem hm1
  obtain ⟨_, cs2, el2, fr2, n1, n2, n3, n4⟩ := hob2.mem hm2
  have ha := e3 (by omega)
  have hb := f3 (by omega)
  subst ha; subst hb
  have hkp := hob2.k0
  have hq0 : 0 < q.m * q.k := Nat.mul_pos (by omega) hkp
  have hin : (s1 + 1) * r.k ≤ r.m * r.k := Nat.mul_le_mul_right _ (by omega)
  rw [Nat.add_mul, Nat.one_mul] at hin
  have hk1 := hobj.k0
  have hblk : r.b ≠ q.b := fun h => hne (hw.inj i1 i2 r q hr hq hm1 hm2 h)
  rw [hcall]
  have := Go.Lib.run_overlaps_apart (P := P) w tS tR e ht k hz ⟨r.b, r.o + s1 * r.k, none⟩ ⟨q.b, q.o + s2 * q.k, none⟩ l1 ca l2 cb hblk el el2 cs.size cs2.size
    (by simp [World.shape?, m1]) (by simp [World.shape?, n1]) (by omega) (frozen_blk m1 _ (m3 _ (by omega) (.inl (by omega)))) (frozen_blk m1 _ (m3 _ (by omega) (.inr ⟨by omega, rfl⟩)))
  rw [this]
  exact ⟨st, hw, aV_bool.2 rfl, Ext.refl _ _, rfl⟩
end Dw

/-! DwZzc -/

namespace Dw
open Go Go.RowKit
set_option linter.unusedVariables false

end Dw

/-! DwZze -/
namespace Dw
open Go Go.RowKit
set_option linter.unusedVariables false

/-- A new row that a contract of the shelf hands back; nil where it is empty. -/
theorem wr_row {B : Nat} {W w w' : World} {st : St} {h : Heap} {e : Nat} {v : Value} {ks : List Int} (hw : WR B W w st h) (hb : Below w.heap.size w w')
    (hr : w'.ownsRow w.heap.size e 1 v ks.length (ks.map (Value.int .i64))) :
    ∃ st', WR B W w' st' (h ++ [⟨ks.map (fun n => .d (.int .i64 n)), 1, 0⟩]) ∧ aV w' st' (.sl h.length 0 ks.length 1 none) v ∧ Ext w st w' st' ∧ st'.G = st.G := by
  obtain ⟨_, hv⟩ := hr
  rcases hv with ⟨rfl, hz⟩ | ⟨g, cap, cur, rfl, hg, hgc, h1, h2, h3, h4⟩
  · have hk : ks = [] := List.eq_nil_of_length_eq_zero hz
    subst hk
    obtain ⟨w1, x1⟩ := (wr_below hw hb).void 1 (by decide)
    refine ⟨_, w1, ?_, (ext_below hw hb).trans x1, rfl⟩
    refine aV_sl.2 ⟨none, 0, rfl, by simp [St.push, hw.len], hw.gn, Nat.le_refl _, fun h => absurd rfl h, (fun _ h => nomatch h), fun r hr => ?_⟩
    rw [St.push_at hw.len.symm] at hr
    cases hr
    exact ⟨rfl, Nat.le_refl _, fun h => absurd rfl h, fun _ => ⟨Nat.le_refl _, Nat.le_refl _⟩⟩
  · simp only [Nat.mul_one] at h3 h4
    have hne : ∀ {i}, i < w.heap.size → i ≠ g := fun hi => by omega
    obtain ⟨w1, x1⟩ := hw.core (r := ⟨g, 0, 1, ks.length, cap⟩) (o := ⟨ks.map (fun n => .d (.int .i64 n)), 1, 0⟩) (hw.below.trans (hb.mono hw.base)) hb.size (fun i hi _ => hb.block i hi)
      (fun hS => absurd rfl (hne (hw.stab _ hS))) (fun hU => absurd rfl (hne (hw.x.ub _ hU))) (fun id s hs hm => hne (hw.blk_lt hs hm))
      ⟨by simp, h1, rfl, Nat.zero_lt_one, fun _ => ⟨Nat.le_trans hw.base hg, cur, e, (0, 0), hgc, by simp; omega, fun j _ _ hj => by simp at hj, fun i x hx => by
        rw [List.getElem?_map] at hx
        obtain ⟨n, hn, rfl⟩ := Option.map_eq_some_iff.1 hx
        refine ⟨[.int .i64 n], rfl, by simp [aC, cC], (memAt_iff _ _).2 fun j u hj => ?_⟩
        cases j with
        | succ j => simp at hj
        | zero =>
          cases hj
          rw [cell_blk hgc]
          have hil : i < ks.length := (List.getElem?_eq_some_iff.1 hn).1
          have : (cur.toList.take ks.length)[i]? = some (.int .i64 n) := by rw [h4, List.getElem?_map, hn]; rfl
          rw [List.getElem?_take, if_pos hil, Array.getElem?_toList] at this
          simpa using this⟩⟩ rfl
    refine ⟨_, w1, ?_, x1, rfl⟩
    refine aV_sl.2 ⟨some ⟨g, 0, none⟩, cap, rfl, by simp [St.push, hw.len], hw.gn, h1, fun _ => ⟨g, 0, rfl⟩, (fun _ h => nomatch h), fun r hr => ?_⟩
    rw [St.push_at hw.len.symm] at hr
    cases hr
    exact ⟨rfl, by simp, fun _ => rfl, fun _ => ⟨by simp, by simp; omega⟩⟩

theorem run_sortedKeys {P : Program} {f g e : Nat} {L : List (Int × D)} (hL : ∀ p ∈ L, scalD p.2 = true) (ks : List Int)
    (he : ∀ vs w, (callFunc f vs).run P w = .ok (.enter f vs) w)
    (hc : ∀ (w : World) (Bm Bo b : Nat) (es : Array MapEntry), w.heap[b]? = some (.map es es.size) → EntsAt .i64 es.toList L → (∀ (i : Nat) (x : MapEntry), es[i]? = some x → x.born = i) → Bm < w.heap.size → w.cell? ⟨Bm, Bo, none⟩ = some (.map (some b)) →
      Calls P f #[.func (.func g) #[] #[.pointer (some ⟨Bm, Bo, none⟩)]] w fun ex w' => ∃ v, ex = .returned v ∧ w'.ownsRow w.heap.size e 1 v ks.length (ks.map (Value.int .i64)) ∧ Below w.heap.size w w') :
    Run P f [.fn g [] [.ptr 0 0 0]] [⟨[.mp 1], 1, 0⟩, ⟨L.map (entA .i64), 1, 3⟩] (.sl 2 0 ks.length 1 none) [⟨[.mp 1], 1, 0⟩, ⟨L.map (entA .i64), 1, 3⟩, ⟨ks.map (fun n => .d (.int .i64 n)), 1, 0⟩] := by
  intro B W w st vs hw ha
  simp only [aVs] at ha
  obtain ⟨v, rr, us, rfl, h2, h3, rfl⟩ := ha
  simp [AV.isAgg] at h2
  subst h2
  simp only [aC] at h3
  obtain ⟨as1, ts, h4, h5, h6⟩ := h3
  cases h4
  simp only [aVs] at h5 h6
  subst h5
  obtain ⟨v1, rr1, us1, rfl, g2, g3, rfl⟩ := h6
  obtain ⟨bm, bo, rfl, p1, p2, p3⟩ := aV_ptr.1 ⟨us1, g2, g3⟩
  obtain ⟨r0, hr0, ho⟩ := hw.obj 0 _ rfl (by decide) p2
  obtain ⟨rfl, rfl⟩ := p3 r0 hr0
  have hm0 : r0.m ≠ 0 := by have := ho.n; have := ho.m; simp at *; omega
  obtain ⟨q1, cs, e0, fr, m1, m2, m3, m4⟩ := ho.mem hm0
  obtain ⟨us0, u1, u2, u3⟩ := m4 0 (.mp 1) rfl
  obtain ⟨bp, rfl, n1, n2, n3⟩ := u2
  obtain ⟨r1, hr1, hm1⟩ := hw.mobj 1 _ rfl rfl n2
  have := n3 r1 hr1
  subst this
  obtain ⟨es, e1, e2, e3⟩ := ents_at hm1.at_ (entsOf_map L hL)
  have hcell := (memAt_iff _ _).1 u3 0 _ rfl
  simp only [Nat.zero_mul, Nat.add_zero] at hcell
  have hcl := hc w r0.b r0.o r1.b es e1 e2 e3 (heap_lt m1) hcell
  show Good P _ ((callFunc f #[.func (.func g) #[] #[.pointer (some ⟨r0.b, r0.o + 0 * r0.k + 0, none⟩)]]).run P w)
  rw [Nat.zero_mul, Nat.add_zero, he]
  refine Calls.mono hcl fun ex w' ⟨v, h1, h2, h3⟩ => ⟨v, h1, ?_⟩
  exact wr_row hw h3 h2
end Dw
