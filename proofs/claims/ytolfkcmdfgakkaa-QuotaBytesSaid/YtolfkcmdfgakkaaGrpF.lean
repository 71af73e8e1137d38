/-
  Own lemmas, no conditions: Ka, Kb, Pd, Wk, Wl, Wm, Sh.
-/
import Derived.Test.YtolfkcmdfgakkaaGrpE
import Derived.Shelf.SlIterI.Nil
import Derived.Shelf.SortM.Plain
import Derived.Shelf.SortM.SortNone
import Derived.Test.YtolfkcmdfgakkaaRows
set_option linter.unusedVariables false
set_option linter.unusedSimpArgs false

/-! Ka -/
namespace Go.Proofs.Ytolfkcmdfgakkaa
open Go Dw Go.Proofs Go.RowKit Go.Maps Go.Sort Go.Shelf
def sortedA_ren : Go.Shelf.Ren := ⟨fun | 6 => 72 | 8 => 92 | 9 => 93 | 11 => 103 | 13 => 105 | 12 => 104 | 23 => 117 | 24 => 118 | 14 => 108 | 15 => 109 | 16 => 110 | 17 => 111 | 18 => 112 | 19 => 113 | 20 => 114 | 21 => 115 | 22 => 116 | 25 => 121 | 26 => 122 | 27 => 123 | 28 => 124 | 29 => 125 | 30 => 106 | 31 => 127 | n => n, fun | 26 => 3 | 28 => 116 | 24 => 54 | 0 => 0 | 3 => 3 | 37 => 144 | 48 => 124 | 50 => 164 | 4 => 4 | 40 => 156 | 39 => 155 | 45 => 136 | 5 => 5 | 9 => 9 | 51 => 167 | 55 => 171 | 57 => 173 | 58 => 33 | 33 => 99 | n => n, fun | n => n⟩
theorem sortedA : SlLaysZI.n6 Try.prog sortedA_ren := {
  mixed := by kernel_rfl
  f6 := ⟨"slices.Sorted[int]", by decide, Try.func72.trans (congrArg some (by kernel_rfl))⟩
  f8 := ⟨"slices.Collect[int]", by decide, Try.func92.trans (congrArg some (by kernel_rfl))⟩
  f11 := ⟨"slices.AppendSeq[[]int,int]", by decide, Try.func103.trans (congrArg some (by kernel_rfl))⟩
  t0 := Try.underlying0
  a0 := Try.isAgg0
  z0 := Try.sizeOf0
  v0 := Try.zeroValue0
  t24 := Try.underlying54
  a24 := Try.isAgg54
  z24 := Try.sizeOf54
  v24 := Try.zeroValue54
  t26 := Try.underlying3
  a26 := Try.isAgg3
  z26 := Try.sizeOf3
  v26 := Try.zeroValue3
  t28 := Try.underlying116
  a28 := Try.isAgg116
  z28 := Try.sizeOf116
  v28 := Try.zeroValue116
  i26 := by kernel_rfl }
def sortA_ren : Go.Shelf.Ren := ⟨fun | 5 => 93 | 8 => 105 | 7 => 104 | 19 => 117 | 20 => 118 | 10 => 108 | 11 => 109 | 12 => 110 | 13 => 111 | 14 => 112 | 15 => 113 | 16 => 114 | 17 => 115 | 18 => 116 | 30 => 121 | 31 => 122 | 32 => 123 | 33 => 124 | 34 => 125 | 35 => 106 | 40 => 127 | n => n, fun | 23 => 54 | 25 => 3 | 3 => 3 | 32 => 144 | 22 => 54 | 0 => 0 | 44 => 124 | 46 => 164 | 4 => 4 | 36 => 156 | 35 => 155 | 41 => 136 | 5 => 5 | 9 => 9 | 53 => 167 | 57 => 171 | 63 => 173 | 64 => 33 | n => n, fun | n => n⟩
theorem sortA : SlLaysM.n5 Try.prog sortA_ren := {
  mixed := by kernel_rfl
  f5 := ⟨"slices.Sort[[]int,int]", by decide, Try.func93.trans (congrArg some (by kernel_rfl))⟩
  f7 := ⟨"slices.pdqsortOrdered[int]", by decide, Try.func104.trans (congrArg some (by kernel_rfl))⟩
  f8 := Try.func105.trans (congrArg some (by kernel_rfl))
  f10 := ⟨"slices.insertionSortOrdered[int]", by decide, Try.func108.trans (congrArg some (by kernel_rfl))⟩
  f11 := ⟨"slices.heapSortOrdered[int]", by decide, Try.func109.trans (congrArg some (by kernel_rfl))⟩
  f12 := ⟨"slices.breakPatternsOrdered[int]", by decide, Try.func110.trans (congrArg some (by kernel_rfl))⟩
  f13 := ⟨"slices.choosePivotOrdered[int]", by decide, Try.func111.trans (congrArg some (by kernel_rfl))⟩
  f14 := ⟨"slices.reverseRangeOrdered[int]", by decide, Try.func112.trans (congrArg some (by kernel_rfl))⟩
  f15 := ⟨"slices.partialInsertionSortOrdered[int]", by decide, Try.func113.trans (congrArg some (by kernel_rfl))⟩
  f16 := ⟨"cmp.Less[int]", by decide, Try.func114.trans (congrArg some (by kernel_rfl))⟩
  f17 := ⟨"slices.partitionEqualOrdered[int]", by decide, Try.func115.trans (congrArg some (by kernel_rfl))⟩
  f18 := ⟨"slices.partitionOrdered[int]", by decide, Try.func116.trans (congrArg some (by kernel_rfl))⟩
  f19 := Try.func117.trans (congrArg some (by kernel_rfl))
  f20 := Try.func118.trans (congrArg some (by kernel_rfl))
  f30 := ⟨"slices.siftDownOrdered[int]", by decide, Try.func121.trans (congrArg some (by kernel_rfl))⟩
  f31 := Try.func122.trans (congrArg some (by kernel_rfl))
  f32 := Try.func123.trans (congrArg some (by kernel_rfl))
  f33 := ⟨"slices.medianAdjacentOrdered[int]", by decide, Try.func124.trans (congrArg some (by kernel_rfl))⟩
  f34 := ⟨"slices.medianOrdered[int]", by decide, Try.func125.trans (congrArg some (by kernel_rfl))⟩
  f35 := ⟨"cmp.isNaN[int]", by decide, Try.func106.trans (congrArg some (by kernel_rfl))⟩
  f40 := ⟨"slices.order2Ordered[int]", by decide, Try.func127.trans (congrArg some (by kernel_rfl))⟩
  t0 := Try.underlying0
  a0 := Try.isAgg0
  z0 := Try.sizeOf0
  v0 := Try.zeroValue0
  t3 := Try.underlying3
  a3 := Try.isAgg3
  z3 := Try.sizeOf3
  v3 := Try.zeroValue3
  t4 := Try.underlying4
  a4 := Try.isAgg4
  z4 := Try.sizeOf4
  v4 := Try.zeroValue4
  t5 := Try.underlying5
  a5 := Try.isAgg5
  z5 := Try.sizeOf5
  v5 := Try.zeroValue5
  t9 := Try.underlying9
  a9 := Try.isAgg9
  z9 := Try.sizeOf9
  v9 := Try.zeroValue9
  t22 := Try.underlying54
  a22 := Try.isAgg54
  z22 := Try.sizeOf54
  v22 := Try.zeroValue54
  t23 := Try.underlying54
  a23 := Try.isAgg54
  z23 := Try.sizeOf54
  v23 := Try.zeroValue54
  t25 := Try.underlying3
  a25 := Try.isAgg3
  z25 := Try.sizeOf3
  v25 := Try.zeroValue3
  t32 := Try.underlying144
  a32 := Try.isAgg144
  z32 := Try.sizeOf144
  v32 := Try.zeroValue144
  t35 := Try.underlying155
  a35 := Try.isAgg155
  z35 := Try.sizeOf155
  v35 := Try.zeroValue155
  t36 := Try.underlying156
  a36 := Try.isAgg156
  z36 := Try.sizeOf156
  v36 := Try.zeroValue156
  t41 := Try.underlying136
  a41 := Try.isAgg136
  z41 := Try.sizeOf136
  v41 := Try.zeroValue136
  t44 := Try.underlying124
  a44 := Try.isAgg124
  z44 := Try.sizeOf124
  v44 := Try.zeroValue124
  t46 := Try.underlying164
  a46 := Try.isAgg164
  z46 := Try.sizeOf164
  v46 := Try.zeroValue164
  t53 := Try.underlying167
  a53 := Try.isAgg167
  z53 := Try.sizeOf167
  v53 := Try.zeroValue167
  t57 := Try.underlying171
  a57 := Try.isAgg171
  z57 := Try.sizeOf171
  v57 := Try.zeroValue171
  t63 := Try.underlying173
  a63 := Try.isAgg173
  z63 := Try.sizeOf173
  v63 := Try.zeroValue173
  t64 := Try.underlying33
  a64 := Try.isAgg33
  z64 := Try.sizeOf33
  v64 := Try.zeroValue33 }
theorem sortsA (m : Nat) : AnyZI.SortsIn Try.prog sortedA_ren Fence.wide m :=
  ⟨fun blk off cap ss W hH hblk hsz => callsIn_wide.2 (AnyM.slices_Sort_int sortA blk off cap ss W hH hblk hsz),
   fun p cap W => callsIn_wide.2 (AnyM.slices_Sort_int_none sortA p cap W)⟩
end Go.Proofs.Ytolfkcmdfgakkaa

/-! Kb -/
namespace Go.Proofs.Ytolfkcmdfgakkaa
open Go Dw Go.Proofs Go.RowKit Go.Maps Go.Sort Go.Shelf
set_option maxRecDepth 100000 in
set_option maxHeartbeats 1000000 in
/-- The keys of a map that a box anywhere holds. -/
theorem keysIn94 {H : Type} (n : Nat) (hn : 1 ≤ n) (l Bm Bo b nn : Nat) (D0 : DataW H) {R : Value → Option (DataW H × List MemPlace)} (J : List Int → World → Prop)
    (hY : ∀ pre x W, J pre W → pre.length < Maps.size D0 → YieldAt Fence.wide (n - 1) Try.prog l #[encZ x] W fun e W' => e = .returned (.bool true) ∧ J (pre ++ [x]) W' ∧ KeepsWalks W W')
    (W : World) (hJ : AbidesFrom W.heap.size J) (hm : W.cell? ⟨Bm, Bo, none⟩ = some (.map (some b))) (hown : W.ownsMap Try.prog 3 R b nn D0) (h0 : J [] W) :
    CallsIn Fence.wide n Try.prog 94 #[.func (.yield l) #[] #[], .pointer (some ⟨Bm, Bo, none⟩)] W fun e W' => (∃ v, e = .returned v) ∧ ∃ ss : List Int, ss.Perm (intKeys D0) ∧ J ss W' := by
  have hfF : Fence.wide.fn 94 := trivial
  have k3 := int_keyed Try.underlying3
  refine callsIn_of_wp Try.func94 rfl trivial ?_ rfl
  simp only [Try.ntmps94, List.size_toArray, List.length_cons, List.length_nil, Nat.reduceAdd, Nat.reduceSub, Array.replicate_succ, Array.replicate_zero, List.push_toArray, List.append_toArray, List.nil_append, List.cons_append]
  gi_wp2_with (first
    | (gi_at_range; refine wpListIn_range_own _ rfl _ 111 rfl 3 3 k3 Try.underlying111 _ b nn _ rfl hown ?_; intro w0 hrg0 hg0 hs0)
    | gi_in)
  go_frame
  gi_loopw [3] (fun _ wr => ∃ (left : Lit → Bool) (cnt : Nat) (ss : List Int), wr.ranges Try.prog 3 R b W.heap.size nn D0 left cnt ∧ ss.length + cnt ≤ Maps.size D0 ∧ CollectedI D0 left ss ∧ J ss wr)
    (fun _ wr => wr.rangeLeft b W.heap.size)
  case atStart =>
    exact ⟨_, _, [], hrg0, by simp, CollectedI.start D0, hJ [] W w0 none h0 hg0 (fun r e => by cases e)⟩
  case round =>
    obtain ⟨left, cnt, ss, hrg, hcs, hC, hJs⟩ := hrel
    gi_wp2_with (first
      | (gi_at_next; refine wpListIn_next_ranges _ rfl _ rfl 3 k3 R encZ id (fun key kl hk => by obtain ⟨x, hx, _⟩ := Maps.keyOf_i64 Try.underlying3 hk; exact ⟨x, hx⟩) (fun v _ _ => ⟨v, rfl⟩) b W.heap.size nn _ _ _ rfl hrg ?_ ?_)
      | gi_in)
    · intro hc0 hl0
      gi_wp2
      go_end0
      exact ⟨⟨_, rfl⟩, ss, hC.perm hown k3 Try.underlying3 hl0, hJs⟩
    · intro x c kl yd yp w2 cnt2 hkey hlk hv hat hrg2 hlt hg2 hs2 hen
      obtain ⟨x', ex, rfl, _⟩ := Maps.keyOf_i64 Try.underlying3 hkey
      obtain rfl : x = x' := encZ_inj ex
      have hJ2 : J ss w2 := hJ ss wr w2 (some W.heap.size) hJs hg2 (fun r e => by cases e; exact ⟨Nat.le_refl _, hrg.iter_walk⟩)
      obtain ⟨fn, tmps, assign, body, hy, hR⟩ := hY ss x w2 hJ2 (by omega)
      clear hs2
      gi_wp2
      refine hR.mono ?_
      rintro e W3 ⟨rfl, hJ3, hk3⟩
      gi_wp2
      have hrg3 := hrg2.of_walks hk3
      go_roundw
      case rel => exact ⟨_, cnt2, ss ++ [x], hrg3, by simp; omega, hC.step hlk hat, hJ3⟩
      case measure => rw [hrg3.left_eq, hrg.left_eq]; exact hlt

set_option maxRecDepth 100000 in
set_option maxHeartbeats 1000000 in
/-- The keys of a map that a box anywhere holds. -/
theorem keysIn96 {H : Type} (n : Nat) (hn : 1 ≤ n) (l Bm Bo b nn : Nat) (D0 : DataW H) {R : Value → Option (DataW H × List MemPlace)} (J : List Int → World → Prop)
    (hY : ∀ pre x W, J pre W → pre.length < Maps.size D0 → YieldAt Fence.wide (n - 1) Try.prog l #[encZ x] W fun e W' => e = .returned (.bool true) ∧ J (pre ++ [x]) W' ∧ KeepsWalks W W')
    (W : World) (hJ : AbidesFrom W.heap.size J) (hm : W.cell? ⟨Bm, Bo, none⟩ = some (.map (some b))) (hown : W.ownsMap Try.prog 3 R b nn D0) (h0 : J [] W) :
    CallsIn Fence.wide n Try.prog 96 #[.func (.yield l) #[] #[], .pointer (some ⟨Bm, Bo, none⟩)] W fun e W' => (∃ v, e = .returned v) ∧ ∃ ss : List Int, ss.Perm (intKeys D0) ∧ J ss W' := by
  have hfF : Fence.wide.fn 96 := trivial
  have k3 := int_keyed Try.underlying3
  refine callsIn_of_wp Try.func96 rfl trivial ?_ rfl
  simp only [Try.ntmps96, List.size_toArray, List.length_cons, List.length_nil, Nat.reduceAdd, Nat.reduceSub, Array.replicate_succ, Array.replicate_zero, List.push_toArray, List.append_toArray, List.nil_append, List.cons_append]
  gi_wp2_with (first
    | (gi_at_range; refine wpListIn_range_own _ rfl _ 118 rfl 3 4 k3 Try.underlying118 _ b nn _ rfl hown ?_; intro w0 hrg0 hg0 hs0)
    | gi_in)
  go_frame
  gi_loopw [3] (fun _ wr => ∃ (left : Lit → Bool) (cnt : Nat) (ss : List Int), wr.ranges Try.prog 3 R b W.heap.size nn D0 left cnt ∧ ss.length + cnt ≤ Maps.size D0 ∧ CollectedI D0 left ss ∧ J ss wr)
    (fun _ wr => wr.rangeLeft b W.heap.size)
  case atStart =>
    exact ⟨_, _, [], hrg0, by simp, CollectedI.start D0, hJ [] W w0 none h0 hg0 (fun r e => by cases e)⟩
  case round =>
    obtain ⟨left, cnt, ss, hrg, hcs, hC, hJs⟩ := hrel
    gi_wp2_with (first
      | (gi_at_next; refine wpListIn_next_ranges _ rfl _ rfl 3 k3 R encZ id (fun key kl hk => by obtain ⟨x, hx, _⟩ := Maps.keyOf_i64 Try.underlying3 hk; exact ⟨x, hx⟩) (fun v _ _ => ⟨v, rfl⟩) b W.heap.size nn _ _ _ rfl hrg ?_ ?_)
      | gi_in)
    · intro hc0 hl0
      gi_wp2
      go_end0
      exact ⟨⟨_, rfl⟩, ss, hC.perm hown k3 Try.underlying3 hl0, hJs⟩
    · intro x c kl yd yp w2 cnt2 hkey hlk hv hat hrg2 hlt hg2 hs2 hen
      obtain ⟨x', ex, rfl, _⟩ := Maps.keyOf_i64 Try.underlying3 hkey
      obtain rfl : x = x' := encZ_inj ex
      have hJ2 : J ss w2 := hJ ss wr w2 (some W.heap.size) hJs hg2 (fun r e => by cases e; exact ⟨Nat.le_refl _, hrg.iter_walk⟩)
      obtain ⟨fn, tmps, assign, body, hy, hR⟩ := hY ss x w2 hJ2 (by omega)
      clear hs2
      gi_wp2
      refine hR.mono ?_
      rintro e W3 ⟨rfl, hJ3, hk3⟩
      gi_wp2
      have hrg3 := hrg2.of_walks hk3
      go_roundw
      case rel => exact ⟨_, cnt2, ss ++ [x], hrg3, by simp; omega, hC.step hlk hat, hJ3⟩
      case measure => rw [hrg3.left_eq, hrg.left_eq]; exact hlt

/-- Whole numbers, sorted. -/
def srt (l : List Int) : List Int := l.mergeSort (fun x y => decide (x ≤ y))
theorem srt_perm {l m : List Int} (h : l.Perm m) : srt l = srt m := by
  have p : (srt l).Perm (srt m) := ((List.mergeSort_perm l _).trans h).trans (List.mergeSort_perm m _).symm
  refine List.Perm.eq_of_pairwise (le := fun a b => a ≤ b) (fun a b _ _ h1 h2 => Int.le_antisymm h1 h2) ?_ ?_ p
  · have := List.pairwise_mergeSort (le := fun x y : Int => decide (x ≤ y)) (fun a b c h1 h2 => by simp at *; omega) (fun a b => by simp; omega) l
    exact this.imp (fun h => by simpa using h)
  · have := List.pairwise_mergeSort (le := fun x y : Int => decide (x ≤ y)) (fun a b c h1 h2 => by simp at *; omega) (fun a b => by simp; omega) m
    exact this.imp (fun h => by simpa using h)
theorem srt_length (l : List Int) : (srt l).length = l.length := List.length_mergeSort l

/-- How an element reads, of which nobody asks. -/
def anyElem (H : Type) : Value → Option (DataW H × List MemPlace) := fun _ => some (.agg [], [])

theorem owns_of {P : Program} {w : World} {b : Nat} {es : Array MapEntry} {L : List (Int × D)} (u3 : P.underlying 3 = some (.int .i64)) (hb : w.heap[b]? = some (.map es es.size)) (hE : EntsAt .i64 es.toList L) (hbn : ∀ (i : Nat) (x : MapEntry), es[i]? = some x → x.born = i)
    (hn : (L.map (·.1)).Nodup) (hwf : ∀ p ∈ L, (Lit.int .i64 p.1).wf = true) (hl : L.length ≤ maxLen) :
    ∃ D0 : DataW Unit, w.ownsMap P 3 (anyElem Unit) b es.size D0 ∧ (intKeys D0).Perm (L.map (·.1)) ∧ Maps.size D0 = L.length := by
  have hsz : es.size = L.length := by rw [← hE.1, Array.length_toList]
  have hkeys : es.toList.map (·.key) = (L.map (·.1)).map (Value.int .i64) := by
    refine List.ext_getElem? fun i => ?_
    rw [List.getElem?_map, List.getElem?_map, List.getElem?_map]
    rcases Nat.lt_or_ge i es.toList.length with hi | hi
    · have hi2 : i < L.length := by rw [← hE.1]; exact hi
      rw [List.getElem?_eq_getElem hi, List.getElem?_eq_getElem hi2]
      obtain ⟨h1, _⟩ := hE.2 i _ _ (List.getElem?_eq_getElem hi) (List.getElem?_eq_getElem hi2)
      rw [Option.map_some, Option.map_some, Option.map_some, h1]
    · rw [List.getElem?_eq_none hi, List.getElem?_eq_none (by rw [← hE.1]; exact hi)]; rfl
  have hborn : es.toList.map (·.born) = List.range es.size := by
    refine List.ext_getElem? fun i => ?_
    rw [List.getElem?_map]
    rcases Nat.lt_or_ge i es.size with hi | hi
    · rw [Array.getElem?_toList, Array.getElem?_eq_getElem hi, List.getElem?_range hi, Option.map_some, hbn i _ (Array.getElem?_eq_getElem hi)]
    · rw [Array.getElem?_toList, Array.getElem?_eq_none hi, List.getElem?_eq_none (by simpa using hi)]; rfl
  have hst : Go.MapKept.Stamped es es.size := by
    refine ⟨fun x hx => ?_, by rw [hborn]; exact List.nodup_range, ?_⟩
    · have : x.born ∈ es.toList.map (·.born) := List.mem_map.2 ⟨x, hx, rfl⟩
      rw [hborn] at this
      exact List.mem_range.1 this
    · rw [hkeys]
      exact (List.pairwise_map.2 (List.Pairwise.imp (fun h e => h (by simpa using e)) hn))
  have hrd : ∀ x ∈ es.toList, ∃ y : Lit × DataW Unit, Go.WideElems.rd P 3 (anyElem Unit) x = some y ∧ Go.intOf y.1 = (match x.key with | .int _ n => n | _ => 0) := by
    intro x hx
    obtain ⟨i, hi⟩ := List.mem_iff_getElem?.1 hx
    have hi2 : i < L.length := by rw [← hE.1]; exact (List.getElem?_eq_some_iff.1 hi).1
    obtain ⟨h1, _⟩ := hE.2 i x _ hi (List.getElem?_eq_getElem hi2)
    have hk := Go.Maps.keyOf_int_mk u3 (hwf _ (List.getElem_mem hi2))
    refine ⟨(.int .i64 L[i].1, .agg []), ?_, ?_⟩
    · simp [Go.WideElems.rd, h1, hk, anyElem]
    · simp [h1, Go.intOf]
  have hF : Go.WideElems.Fit P 3 (anyElem Unit) es es.size := ⟨by omega, hst, fun x hx => by obtain ⟨y, h, _⟩ := hrd x hx; exact ⟨y, h⟩⟩
  refine ⟨_, ⟨es, es.size, hb, hF, Nat.le_refl _, rfl⟩, ?_, ?_⟩
  · simp only [intKeys]
    refine ((Go.WideShapes.sorted_perm _).map _).trans ?_
    rw [List.map_map]
    have : es.toList.map ((fun p : Lit × DataW Unit => Go.intOf p.1) ∘ Go.WideElems.rg P 3 (anyElem Unit)) = L.map (·.1) := by
      have e1 : es.toList.map ((fun p : Lit × DataW Unit => Go.intOf p.1) ∘ Go.WideElems.rg P 3 (anyElem Unit)) = (es.toList.map (·.key)).map (fun k => match k with | .int _ n => n | _ => 0) := by
        rw [List.map_map]
        refine List.map_congr_left fun x hx => ?_
        obtain ⟨y, h, h2⟩ := hrd x hx
        simp only [Function.comp]
        rw [Go.WideElems.rg_of h, h2]
      rw [e1, hkeys, List.map_map]
      exact List.map_id' _ |>.symm ▸ (by simp [Function.comp_def])
    rw [this]
  · simp only [Maps.size]
    rw [(Go.WideShapes.sorted_perm _).length_eq, List.length_map, Array.length_toList, hsz]

set_option maxRecDepth 100000
theorem enters72 : ∀ vs w, (callFunc 72 vs).run Try.prog w = .ok (.enter 72 vs) w := enters_of Try.func72 (by kernel_rfl) rfl
theorem enters93 : ∀ vs w, (callFunc 93 vs).run Try.prog w = .ok (.enter 93 vs) w := enters_of Try.func93 (by kernel_rfl) rfl
theorem enters94 : ∀ vs w, (callFunc 94 vs).run Try.prog w = .ok (.enter 94 vs) w := enters_of Try.func94 (by kernel_rfl) rfl
theorem enters96 : ∀ vs w, (callFunc 96 vs).run Try.prog w = .ok (.enter 96 vs) w := enters_of Try.func96 (by kernel_rfl) rfl
/-- slices.Sorted(maps.Keys(m)). -/
theorem run_keys {g : Nat} (hk : ∀ (l Bm Bo b nn : Nat) (D0 : DataW Unit) (J : List Int → World → Prop), (∀ pre x W, J pre W → pre.length < Maps.size D0 → YieldAt Fence.wide 1 Try.prog l #[encZ x] W fun e W' => e = .returned (.bool true) ∧ J (pre ++ [x]) W' ∧ KeepsWalks W W') →
      ∀ (W : World), AbidesFrom W.heap.size J → W.cell? ⟨Bm, Bo, none⟩ = some (.map (some b)) → W.ownsMap Try.prog 3 (anyElem Unit) b nn D0 → J [] W →
      CallsIn Fence.wide 2 Try.prog g #[.func (.yield l) #[] #[], .pointer (some ⟨Bm, Bo, none⟩)] W fun e W' => (∃ v, e = .returned v) ∧ ∃ ss : List Int, ss.Perm (intKeys D0) ∧ J ss W')
    (he : ∀ args w, (callFunc g args).run Try.prog w = .ok (.enter g args) w) (L : List (Int × D)) (hL : ∀ p ∈ L, scalD p.2 = true) (hn : (L.map (·.1)).Nodup) (hwf : ∀ p ∈ L, (Lit.int .i64 p.1).wf = true) (hl : L.length ≤ 1000000) :
    Run Try.prog 72 [.fn g [] [.ptr 0 0 0]] [⟨[.mp 1], 1, 0⟩, ⟨L.map (entA .i64), 1, 3⟩] (.sl 2 0 L.length 1 none) [⟨[.mp 1], 1, 0⟩, ⟨L.map (entA .i64), 1, 3⟩, ⟨(srt (L.map (·.1))).map (fun n => .d (.int .i64 n)), 1, 0⟩] := by
  have hlen : L.length = (srt (L.map (·.1))).length := by rw [srt_length, List.length_map]
  rw [hlen]
  refine run_sortedKeys (e := 3) hL (srt (L.map (·.1))) enters72 (fun w Bm Bo b es h1 h2 h3 h4 h5 => ?_)
  obtain ⟨D0, d1, d2, d3⟩ := owns_of Try.underlying3 h1 h2 h3 hn hwf (show L.length ≤ maxLen by unfold maxLen; omega)
  refine (callsIn_wide (n := 5)).1 ?_
  have hbl := d1.lt
  have hseq : SeqGives Fence.wide 2 Try.prog g #[.pointer (some ⟨Bm, Bo, none⟩)] encZ (fun ss => ss.Perm (intKeys D0)) (Maps.size D0) w := fun l J W hW hJ hY h0 => by
    refine hk l Bm Bo b es.size D0 J hY W hJ ((hW.cell (p := ⟨Bm, Bo, none⟩) h4).trans h5) ?_ h0
    obtain ⟨es', clock, hb, Ft, hs, hD⟩ := d1
    exact ⟨es', clock, (hW.block b hbl).trans hb, Ft, hs, hD⟩
  have cS := AnyZI.sorted_in sortedA Fence.wide 5 trivial trivial trivial trivial rfl (by omega) (sortsA _) enters93 g #[.pointer (some ⟨Bm, Bo, none⟩)] trivial he _ (Maps.size D0) (by rw [d3]; unfold maxLen; omega) (by rw [d3]; omega) w hseq
  refine cS.mono ?_
  rintro e w' ⟨v, ss, rfl, hp, hrow, _, hb⟩
  have hss : ss.mergeSort (fun x y => decide (x ≤ y)) = srt (L.map (·.1)) := srt_perm (hp.trans d2)
  have hll : ss.length = (srt (L.map (·.1))).length := by rw [← hss, List.length_mergeSort]
  rw [hss, hll] at hrow
  exact ⟨v, rfl, hrow, hb⟩
theorem run_keys94 (L : List (Int × D)) (hL : ∀ p ∈ L, scalD p.2 = true) (hn : (L.map (·.1)).Nodup) (hwf : ∀ p ∈ L, (Lit.int .i64 p.1).wf = true) (hl : L.length ≤ 1000000) :
    Run Try.prog 72 [.fn 94 [] [.ptr 0 0 0]] [⟨[.mp 1], 1, 0⟩, ⟨L.map (entA .i64), 1, 3⟩] (.sl 2 0 L.length 1 none) [⟨[.mp 1], 1, 0⟩, ⟨L.map (entA .i64), 1, 3⟩, ⟨(srt (L.map (·.1))).map (fun n => .d (.int .i64 n)), 1, 0⟩] :=
  run_keys (fun l Bm Bo b nn D0 J hY W hJ hm ho h0 => keysIn94 2 (by omega) l Bm Bo b nn D0 J hY W hJ hm ho h0) enters94 L hL hn hwf hl
theorem run_keys96 (L : List (Int × D)) (hL : ∀ p ∈ L, scalD p.2 = true) (hn : (L.map (·.1)).Nodup) (hwf : ∀ p ∈ L, (Lit.int .i64 p.1).wf = true) (hl : L.length ≤ 1000000) :
    Run Try.prog 72 [.fn 96 [] [.ptr 0 0 0]] [⟨[.mp 1], 1, 0⟩, ⟨L.map (entA .i64), 1, 3⟩] (.sl 2 0 L.length 1 none) [⟨[.mp 1], 1, 0⟩, ⟨L.map (entA .i64), 1, 3⟩, ⟨(srt (L.map (·.1))).map (fun n => .d (.int .i64 n)), 1, 0⟩] :=
  run_keys (fun l Bm Bo b nn D0 J hY W hJ hm ho h0 => keysIn96 2 (by omega) l Bm Bo b nn D0 J hY W hJ hm ho h0) enters96 L hL hn hwf hl
#print axioms run_keys96
end Go.Proofs.Ytolfkcmdfgakkaa

/-! Pd -/
namespace Go.Proofs.Ytolfkcmdfgakkaa
open Go Dw
set_option maxRecDepth 100000

/-- What a map holds for a key. -/
def iget : List (Int × Int) → Int → Int
  | [], _ => 0
  | p :: l, n => if n = p.1 then p.2 else iget l n
def iput : List (Int × Int) → Int → Int → List (Int × Int)
  | [], n, v => [(n, v)]
  | p :: l, n, v => if n = p.1 then (n, v) :: l else p :: iput l n v
def jmap (L : List (Int × Int)) : List (Int × D) := L.map (fun p => (p.1, i p.2))
def eD (p : Int × Int) : D := .agg [i p.1, i p.2]
def imap (L : List (Int × Int)) : List AV := (L.map eD).map .d
def mO (L : List (Int × Int)) : AO := ⟨imap L, 1, 3⟩
def bO (b : Nat) : AO := ⟨[.mp b], 1, 0⟩
theorem jmap_ent (L : List (Int × Int)) : (jmap L).map (entA .i64) = imap L := by
  unfold jmap imap
  rw [List.map_map, List.map_map]; rfl
theorem jmap_scal (L : List (Int × Int)) : ∀ p ∈ jmap L, scalD p.2 = true := by
  intro p hp
  obtain ⟨q, _, rfl⟩ := List.mem_map.1 hp
  rfl
theorem mget_j (n : Int) : ∀ (L : List (Int × Int)), mget (D.int .i64 0) (jmap L) n = D.int .i64 (iget L n)
  | [] => rfl
  | p :: L => by
    show (if n = p.1 then i p.2 else mget (i 0) (jmap L) n) = i (if n = p.1 then p.2 else iget L n)
    rw [mget_j n L]; split <;> rfl
theorem mput_j (n v : Int) : ∀ (L : List (Int × Int)), mput (jmap L) n (i v) = jmap (iput L n v)
  | [] => rfl
  | p :: L => by
    show (if n = p.1 then (n, i v) :: jmap L else (p.1, i p.2) :: mput (jmap L) n (i v)) = jmap (if n = p.1 then (n, v) :: L else p :: iput L n v)
    rw [mput_j n v L]; split <;> rfl
theorem ents_go {l : List AV} {L : List (Int × Int)} {K : List (Int × D) → Prop} (hl : l = imap L) (h : K (jmap L)) : entsK .i64 l K := by
  subst hl
  rw [← jmap_ent]
  exact entsK_of (jmap_scal L) h
theorem mput_i (L : List (Int × Int)) (n v : Int) : (mput (jmap L) n (i v)).map (entA .i64) = imap (iput L n v) := by rw [mput_j, jmap_ent]
theorem mput_d (L : List (Int × Int)) (n v : Int) : (mput (jmap L) n (D.int .i64 v)).map (entA .i64) = ((iput L n v).map eD).map .d := mput_i L n v
theorem wrap_any {k : IntKind} {x : Int} {K : Int → Prop} (h : K (k.wrap x)) : wrapK k x K := by rw [wrapK_eq]; exact h

def filE (f : Fil) : Int := firstE [whoE f.who, numE f.bytes]
def addW (L : List (Int × Int)) (f : Fil) : List (Int × Int) := iput L f.who (IntKind.i64.wrap (iget L f.who + f.bytes))
def eF : List Fil → Nat → Int × Int
  | [], _ => (0, 0)
  | f :: l, k => if filE f = 0 then eF l (k + 1) else (k, filE f)
def upto : List Fil → List (Int × Int) → List (Int × Int)
  | [], L => L
  | f :: l, L => if filE f = 0 then upto l (addW L f) else addW L f
theorem eF_drop {l : List Fil} {k : Nat} (h : k < l.length) : eF (l.drop k) k = if filE l[k] = 0 then eF (l.drop (k + 1)) (k + 1) else (k, filE l[k]) := by
  rw [List.drop_eq_getElem_cons h]; rfl
theorem eF_end {l : List Fil} {k : Nat} (h : ¬ k < l.length) : eF (l.drop k) k = (0, 0) := by
  rw [List.drop_eq_nil_of_le (by omega)]; rfl
theorem upto_drop {l : List Fil} {k : Nat} (h : k < l.length) (L : List (Int × Int)) : upto (l.drop k) L = if filE l[k] = 0 then upto (l.drop (k + 1)) (addW L l[k]) else addW L l[k] := by
  rw [List.drop_eq_getElem_cons h]; rfl
theorem upto_end {l : List Fil} {k : Nat} (h : ¬ k < l.length) (L : List (Int × Int)) : upto (l.drop k) L = L := by
  rw [List.drop_eq_nil_of_le (by omega)]; rfl
def ikeys (L : List (Int × Int)) : List Int := L.map (·.1)
def mkO (L : List (Int × Int)) (w : Int) : Own := { newO w with used := iget L w }
def bigK (L : List (Int × Int)) (l : List Int) : Bool := l.any (fun w => decide (2147483647 < iget L w))
/-- The sums of files. -/
def sumsQ (l : List Fil) : Quo × Int :=
  if 100 < l.length then (emp, 8)
  else if ¬ (eF l 0).2 = 0 then (emp, (eF l 0).2)
  else if 30 < (upto l []).length then (emp, 16)
  else if bigK (upto l []) (srt (ikeys (upto l []))) = true then (emp, 8)
  else (⟨(srt (ikeys (upto l []))).map (mkO (upto l [])), true⟩, 0)
theorem iput_keys (n v : Int) : ∀ (L : List (Int × Int)), ikeys (iput L n v) = if n ∈ ikeys L then ikeys L else ikeys L ++ [n]
  | [] => by simp [iput, ikeys]
  | p :: L => by
    have ih := iput_keys n v L
    unfold ikeys at *
    simp only [iput]
    by_cases h : n = p.1
    · simp [h]
    · rw [if_neg h, List.map_cons, ih]
      by_cases h2 : n ∈ L.map (·.1)
      · rw [if_pos h2, if_pos (by simp only [List.map_cons, List.mem_cons]; exact .inr h2)]; rfl
      · rw [if_neg h2, if_neg (by simp only [List.map_cons, List.mem_cons, not_or]; exact ⟨h, h2⟩)]; rfl
theorem iput_nodup {n v : Int} {L : List (Int × Int)} (h : (ikeys L).Nodup) : (ikeys (iput L n v)).Nodup := by
  rw [iput_keys]
  split
  · exact h
  · rename_i hn
    refine List.nodup_append.2 ⟨h, by simp, fun a ha b hb e => ?_⟩
    simp only [List.mem_singleton] at hb
    subst hb; subst e; exact hn ha
theorem iput_len (n v : Int) (L : List (Int × Int)) : (iput L n v).length ≤ L.length + 1 := by
  have h := congrArg List.length (iput_keys n v L)
  unfold ikeys at h
  rw [List.length_map] at h
  rw [h]; split <;> simp
theorem upto_nodup : ∀ (l : List Fil) (L : List (Int × Int)), (ikeys L).Nodup → (ikeys (upto l L)).Nodup
  | [], L, h => h
  | f :: l, L, h => by
    simp only [upto]; split
    · exact upto_nodup l _ (iput_nodup h)
    · exact iput_nodup h
theorem upto_len : ∀ (l : List Fil) (L : List (Int × Int)), (upto l L).length ≤ L.length + l.length
  | [], L => Nat.le_refl _
  | f :: l, L => by
    have h1 := iput_len f.who (IntKind.i64.wrap (iget L f.who + f.bytes)) L
    simp only [upto]; split
    · have := upto_len l (addW L f)
      simp only [List.length_cons]
      unfold addW at *
      omega
    · simp only [List.length_cons]; unfold addW; omega
theorem whoE_0 {n : Int} (h : whoE n = 0) : 0 ≤ n ∧ n ≤ 999 := by
  unfold whoE within at h
  simp at h
  omega
theorem filE_0 {f : Fil} (h : filE f = 0) : whoE f.who = 0 ∧ 0 ≤ f.bytes ∧ f.bytes ≤ 2147483647 := by
  unfold filE at h
  rw [firstE_z] at h
  exact ⟨h _ (by simp), numE_iff.1 (h (numE f.bytes) (by simp))⟩
theorem eF_ok : ∀ (l : List Fil) (k : Nat), (eF l k).2 = 0 → ∀ f ∈ l, filE f = 0
  | [], _, _, f, hf => by cases hf
  | g :: l, k, h, f, hf => by
    simp only [eF] at h
    split at h
    · rename_i h0
      rcases List.mem_cons.1 hf with rfl | hf
      · exact h0
      · exact eF_ok l _ h f hf
    · rename_i h0; exact absurd h h0
theorem upto_keys : ∀ (l : List Fil) (L : List (Int × Int)), (∀ f ∈ l, filE f = 0) → ∀ n ∈ ikeys (upto l L), n ∈ ikeys L ∨ ∃ f ∈ l, f.who = n
  | [], L, _, n, hn => .inl hn
  | f :: l, L, h, n, hn => by
    simp only [upto, h f (by simp), if_true] at hn
    rcases upto_keys l _ (fun g hg => h g (by simp [hg])) n hn with hn | ⟨g, hg, e⟩
    · unfold addW at hn
      rw [iput_keys] at hn
      split at hn
      · exact .inl hn
      · rcases List.mem_append.1 hn with hn | hn
        · exact .inl hn
        · exact .inr ⟨f, by simp, by simpa using (List.mem_singleton.1 hn).symm⟩
    · exact .inr ⟨g, by simp [hg], e⟩
theorem jmap_keys (L : List (Int × Int)) : (jmap L).map (·.1) = ikeys L := by
  unfold jmap ikeys
  rw [List.map_map]; rfl
/-- slices.Sorted(maps.Keys(m)) at sums that are right. -/
theorem c72_94 (l : List Fil) (hl : l.length ≤ 1000) (h : (eF l 0).2 = 0) :
    Run Try.prog 72 [.fn 94 [] [.ptr 0 0 0]] [bO 1, mO (upto l [])] (.sl 2 0 (upto l []).length 1 none) [bO 1, mO (upto l []), ⟨((srt (ikeys (upto l []))).map i).map .d, 1, 0⟩] := by
  have hr := run_keys94 (jmap (upto l [])) (jmap_scal _) (by rw [jmap_keys]; exact upto_nodup l [] (by simp [ikeys])) (fun p hp => by
    have hk : p.1 ∈ ikeys (upto l []) := by rw [← jmap_keys]; exact List.mem_map.2 ⟨p, hp, rfl⟩
    rcases upto_keys l [] (eF_ok l 0 h) _ hk with hk | ⟨f, hf, e⟩
    · simp [ikeys] at hk
    · have := whoE_0 (filE_0 (eF_ok l 0 h f hf)).1
      rw [e] at this
      simp only [Lit.wf]
      simp [IntKind.min, IntKind.max, IntKind.bits, IntKind.signed]
      omega) (by unfold jmap; rw [List.length_map]; have := upto_len l []; simp at this; omega)
  rw [jmap_ent, jmap_keys] at hr
  unfold jmap at hr
  rw [List.length_map] at hr
  unfold mO bO
  rw [List.map_map]
  exact hr
end Go.Proofs.Ytolfkcmdfgakkaa

/-! Wk -/
namespace Go.Proofs.Ytolfkcmdfgakkaa
open Go Dw
set_option maxRecDepth 10000
set_option linter.unusedVariables false
set_option linter.unusedSimpArgs false
attribute [local irreducible] Run
set_option maxHeartbeats 4000000

attribute [local irreducible] oE checkQ cnt isR ownR withR bsR fullQ put1 chg rls mov limErr limF actE doA resQ aftQ whoE limE numE goMin actErr movErr filE iget iput upto eF srt mget mput

theorem c71 (L : List (Int × Int)) (k : Nat) (f : Fil) : Run Try.prog 71 [.d (i k), .d f.enc, .ptr 0 0 0] [bO 1, mO L] (.d (i (filE f))) [bO 1, mO (addW L f)] := by
  refine run_walkV eok Try.func71 rfl (by kernel_rfl) [0, 1] (by rfl) [] ?_
  conv => whnf
  repeat' (first
    | ((with_reducible refine on_dec_t (by assumption) ?_); conv => whnf)
    | ((with_reducible refine on_dec_f (by assumption) ?_); conv => whnf)
    | ((with_reducible refine onBool_t (by assumption) ?_); conv => whnf)
    | ((with_reducible refine onBool_f (by assumption) ?_); conv => whnf)
    | ((with_reducible refine on_nt (by assumption) ?_); conv => whnf)
    | ((with_reducible refine on_nf (by assumption) ?_); conv => whnf)
    | ((with_reducible refine on_ndec_t (by first | assumption | rfl) ?_); conv => whnf)
    | ((with_reducible refine on_ndec_f (by assumption) ?_); conv => whnf)
    | ((with_reducible refine on_dec_t rfl ?_); conv => whnf)
    | ((refine ents_go (by first | rfl | exact mput_i _ _ _) ?_); conv => whnf)
    | (refine wrap_any ?_; conv => whnf)
    | (rw [mget_j]; conv => whnf)
    | ((with_reducible refine on_dec_f ?_ ?_); (focus ((try simp only [List.length_map, List.length_cons, List.length_nil, List.length_append]); omega)); conv => whnf)
    | ((with_reducible refine on_dec_t ?_ ?_); (focus ((try simp only [List.length_map, List.length_cons, List.length_nil, List.length_append]); omega)); conv => whnf)
    | ((with_reducible refine on_dec (fun h => ?_) (fun h => ?_)) <;> (try simp only [List.length_map] at h) <;> conv => whnf)
    | ((with_reducible refine on_ndec (fun h => ?_) (fun h => ?_)) <;> (try simp only [List.length_map] at h) <;> conv => whnf)
    | ((with_reducible refine on_not (fun h => ?_) (fun h => ?_)) <;> conv => whnf)
    | ((with_reducible refine onBool_split (fun h => ?_) (fun h => ?_)) <;> conv => whnf)
    | ((with_reducible refine call_go ?_); (first | refine call_step (run_view (c51 _) rfl rfl) ?_ | refine call_step (run_view (c53 _) rfl rfl) ?_ | refine call_step (run_view (c50 [_, _] (by simp)) rfl rfl) ?_ | refine call_step (run_view (c50 [_, _, _, _, _] (by simp)) rfl rfl) ?_ | refine call_step (run_view (c50 [_, _, _, _, _, _] (by simp)) rfl rfl) ?_); conv => whnf)
    | (refine ⟨[], [(4, 2)], (by decide +kernel), ?_⟩; conv => whnf)
    | (refine ⟨⟨(by first | rfl | (simp; done)), cap_ok (by simp only [List.length_map, List.length_cons, List.length_nil, List.length_append]; omega) rfl⟩, ?_⟩; conv => whnf)
    | (refine ⟨mem_one ⟨rfl, rfl⟩, ?_⟩; conv => whnf)
    | (refine ⟨(by intro y hy; obtain ⟨x, _, rfl⟩ := List.mem_map.1 hy; first | rfl | exact ⟨rfl, rfl⟩), ?_⟩; conv => whnf)
    | (refine ⟨cap_ok (by first | omega | (simp only [List.length_map]; omega)) rfl, ?_⟩; conv => whnf)
    | (refine ix_map (by omega) ?_; conv => whnf)
    | (refine ix_str (by omega) ?_; conv => whnf)
    | (refine wrap64 (by omega) ?_; conv => whnf)
    | (exfalso; simp only [List.length_map, List.length_cons, List.length_nil, List.length_append] at h; omega)
    | ((with_reducible refine endx_go ?_); first | (refine endX_of (.inl ⟨[.old 0, .old 1], rfl, rfl, ⟨(by show (_ : D) = _; unfold filE; rfl), trivial⟩, ⟨⟨rfl, rfl, .inr ⟨rfl, trivial⟩⟩, ⟨rfl, rfl, .inl ⟨_, mput_d _ _ _, rfl⟩⟩, trivial⟩⟩); done))
    | (refine ⟨rfl, ?_⟩; conv => whnf)
    | fail
    )

theorem c71at (L : List (Int × Int)) (k : Nat) (f : Fil) {H : Heap} {a b : Nat} (h1 : H[a]? = some (bO b)) (h2 : H[b]? = some (mO L)) (hab : a ≠ b) {x : AV} (hv : view 8 H x = some f.enc) (hr : reach 8 H x = []) :
    Run Try.prog 71 [.d (i k), x, .ptr a 0 0] H (.d (i (filE f))) (H.set b (mO (addW L f))) := by
  refine run_at (σ := [a, b]) (F := []) (fl := true) (c71 L k f) ?_ (fun _ h => by cases h) ⟨⟨rfl, fun id hid => by simp [reach] at hid⟩, ⟨hv, fun id hid => by rw [hr] at hid; cases hid⟩, ⟨rfl, rfl, rfl⟩, trivial⟩ ?_ (fun _ => ⟨rfl, fun o ho => ?_⟩) rfl ?_
  · simp [hab]
  · refine ⟨(nthK_iff _ _).2 ⟨_, h1, rfl, rfl, .inr ⟨rfl, trivial⟩⟩, (nthK_iff _ _).2 ⟨_, h2, rfl, rfl, .inl ⟨_, rfl, rfl⟩⟩, trivial⟩
  · simp only [List.mem_cons, List.not_mem_nil, or_false] at ho
    rcases ho with rfl | rfl
    · exact ⟨rfl, Nat.zero_ne_one⟩
    · exact ⟨flats_map _ (fun x hx => by obtain ⟨p, _, rfl⟩ := List.mem_map.1 hx; rfl), by show (3 : Nat) ≠ 1; omega⟩
  · have e1 : renO (tau [a, b] H.length) (bO 1) = bO b := rfl
    have e2 : renO (tau [a, b] H.length) (mO (addW L f)) = mO (addW L f) := by show AO.mk _ _ _ = _; rw [show rens (tau [a, b] H.length) (mO (addW L f)).elems = (mO (addW L f)).elems from rens_D _ _]
    simp only [outH, List.map_cons, List.map_nil, e1, e2, setAll, List.length_cons, List.length_nil, List.drop_succ_cons, List.drop_zero, List.append_nil, if_true]
    have e3 : H.set a (bO b) = H := by
      obtain ⟨hl, he⟩ := List.getElem?_eq_some_iff.1 h1
      rw [← he]; exact List.set_getElem_self hl
    rw [e3]

theorem c70 (l : List Fil) (hl : l.length < 1000) : Run Try.prog 70 [.d (.fs (l.map Fil.enc)), .fn 71 [] [.ptr 0 0 0]] [bO 1, mO []] (.tup [.d (i (eF l 0).1), .d (i (eF l 0).2)]) [bO 1, mO (upto l [])] := by
  refine run_walkV eok Try.func70 rfl (by kernel_rfl) [0, 1] (by rfl) [] ?_
  conv => whnf
  repeat' (first
    | ((with_reducible refine on_dec_t (by assumption) ?_); conv => whnf)
    | ((with_reducible refine on_dec_f (by assumption) ?_); conv => whnf)
    | ((with_reducible refine onBool_t (by assumption) ?_); conv => whnf)
    | ((with_reducible refine onBool_f (by assumption) ?_); conv => whnf)
    | ((with_reducible refine on_nt (by assumption) ?_); conv => whnf)
    | ((with_reducible refine on_nf (by assumption) ?_); conv => whnf)
    | ((with_reducible refine on_ndec_t (by first | assumption | rfl) ?_); conv => whnf)
    | ((with_reducible refine on_ndec_f (by assumption) ?_); conv => whnf)
    | ((with_reducible refine on_dec_t rfl ?_); conv => whnf)
    | ((with_reducible refine on_dec_f ?_ ?_); (focus ((try simp only [List.length_map, List.length_cons, List.length_nil, List.length_append]); omega)); conv => whnf)
    | ((with_reducible refine on_dec_t ?_ ?_); (focus ((try simp only [List.length_map, List.length_cons, List.length_nil, List.length_append]); omega)); conv => whnf)
    | ((with_reducible refine on_dec (fun h => ?_) (fun h => ?_)) <;> (try simp only [List.length_map] at h) <;> conv => whnf)
    | ((with_reducible refine on_ndec (fun h => ?_) (fun h => ?_)) <;> (try simp only [List.length_map] at h) <;> conv => whnf)
    | ((with_reducible refine on_not (fun h => ?_) (fun h => ?_)) <;> conv => whnf)
    | ((with_reducible refine onBool_split (fun h => ?_) (fun h => ?_)) <;> conv => whnf)
    | ((with_reducible refine call_go ?_); (first | refine call_step (c71at L k l[k] rfl rfl (Nat.ne_of_beq_eq_false rfl) rfl rfl) ?_); conv => whnf)
    | ((with_reducible refine loop_go ?_); first | (refine loop2 (fun (k : Nat) (L : List (Int × Int)) => l.length - k) (fun (k : Nat) (L : List (Int × Int)) => k ≤ l.length ∧ eF l 0 = eF (l.drop k) k ∧ upto l [] = upto (l.drop k) L) (fun (k : Nat) (L : List (Int × Int)) => [(1, .fn 71 [] [.ptr 0 0 0]), (9, .d (.fs (l.map Fil.enc))), (10, .d (i l.length)), (11, .d (i k))]) (fun (k : Nat) (L : List (Int × Int)) => [bO 1, mO L]) (0) ([]) (by exact ⟨Nat.zero_le _, rfl, rfl⟩) ?_ (fun k L C hI hC => ?_); (exact ⟨[.old 0, .old 1], rfl, rfl, ⟨⟨rfl, trivial, ⟨⟨rfl, rfl, rfl⟩, trivial⟩⟩, (by first | (show (_ : D) = _; with_reducible rfl) | exact rfl), (by first | (show (_ : D) = _; with_reducible rfl) | exact congrArg (D.int .i64) (by omega) | exact congrArg (D.int .i64) (by simp only [List.length_map]) | exact rfl), (by first | (show (_ : D) = _; with_reducible rfl) | exact congrArg (D.int .i64) (by omega) | exact congrArg (D.int .i64) (by simp only [List.length_map]) | exact rfl), trivial⟩, ⟨⟨rfl, rfl, .inr ⟨rfl, trivial⟩⟩, ⟨rfl, rfl, .inl ⟨_, rfl, rfl⟩⟩, trivial⟩⟩); all_goals (conv => whnf)))
    | ((with_reducible show C _ _); first | (refine hC (k + 1) (addW L l[k]) _ _ ?_ (by omega) ?_; clear hC; rotate_left; (exact ⟨[.old 0, .old 1], rfl, rfl, ⟨⟨rfl, trivial, ⟨⟨rfl, rfl, rfl⟩, trivial⟩⟩, (by first | (show (_ : D) = _; with_reducible rfl) | exact rfl), (by first | (show (_ : D) = _; with_reducible rfl) | exact congrArg (D.int .i64) (by omega) | exact congrArg (D.int .i64) (by simp only [List.length_map]) | exact rfl), (by first | (show (_ : D) = _; with_reducible rfl) | exact congrArg (D.int .i64) (by omega) | exact congrArg (D.int .i64) (by simp only [List.length_map]) | exact rfl), trivial⟩, ⟨⟨rfl, rfl, .inr ⟨rfl, trivial⟩⟩, ⟨rfl, rfl, .inl ⟨_, rfl, rfl⟩⟩, trivial⟩⟩); (exact ⟨by omega, by rw [hI.2.1, eF_drop (by omega), if_pos h], by rw [hI.2.2, upto_drop (by omega), if_pos h]⟩)))
    | (refine ⟨⟨(by first | rfl | (simp; done)), cap_ok (by simp only [List.length_map, List.length_cons, List.length_nil, List.length_append]; omega) rfl⟩, ?_⟩; conv => whnf)
    | (refine ⟨mem_one ⟨rfl, rfl⟩, ?_⟩; conv => whnf)
    | (refine ⟨(by intro y hy; obtain ⟨x, _, rfl⟩ := List.mem_map.1 hy; first | rfl | exact ⟨rfl, rfl⟩), ?_⟩; conv => whnf)
    | (refine ⟨cap_ok (by first | omega | (simp only [List.length_map]; omega)) rfl, ?_⟩; conv => whnf)
    | (refine ix_map (by omega) ?_; conv => whnf)
    | (refine ix_str (by omega) ?_; conv => whnf)
    | (refine wrap64 (by omega) ?_; conv => whnf)
    | (refine wrap64 (by omega) ?_; conv => whnf)
    | (exfalso; simp only [List.length_map, List.length_cons, List.length_nil, List.length_append] at h; omega)
    | ((with_reducible refine endx_go ?_); first | (refine cut_ (eF l 0 = ((k : Int), filE l[k]) ∧ upto l [] = addW L l[k]) ?_ (fun hE => ?_); (focus (exact ⟨by rw [hI.2.1, eF_drop (by omega), if_neg h], by rw [hI.2.2, upto_drop (by omega), if_neg h]⟩)); rw [hE.1, hE.2]; refine endX_of (.inl ⟨[.old 0, .old 1], rfl, rfl, ⟨⟨rfl, rfl, trivial⟩, trivial⟩, ⟨⟨rfl, rfl, .inr ⟨rfl, trivial⟩⟩, ⟨rfl, rfl, .inl ⟨_, rfl, rfl⟩⟩, trivial⟩⟩); done) | (refine cut_ (eF l 0 = (0, 0) ∧ upto l [] = L) ?_ (fun hE => ?_); (focus (exact ⟨by rw [hI.2.1, eF_end (by omega)], by rw [hI.2.2, upto_end (by omega)]⟩)); rw [hE.1, hE.2]; refine endX_of (.inl ⟨[.old 0, .old 1], rfl, rfl, ⟨⟨rfl, rfl, trivial⟩, trivial⟩, ⟨⟨rfl, rfl, .inr ⟨rfl, trivial⟩⟩, ⟨rfl, rfl, .inl ⟨_, rfl, rfl⟩⟩, trivial⟩⟩); done))
    | (refine ⟨rfl, ?_⟩; conv => whnf)
    | fail
    )

theorem c73 (L : List (Int × Int)) : Run Try.prog 73 [.mp 0] [mO L] (.fn 94 [] [.ptr 1 0 0]) [mO L, bO 0] := by
  refine run_walkV eok Try.func73 rfl (by kernel_rfl) [0] (by rfl) [] ?_
  conv => whnf
  repeat' (first
    | ((with_reducible refine on_dec_t (by assumption) ?_); conv => whnf)
    | ((with_reducible refine on_dec_f (by assumption) ?_); conv => whnf)
    | ((with_reducible refine onBool_t (by assumption) ?_); conv => whnf)
    | ((with_reducible refine onBool_f (by assumption) ?_); conv => whnf)
    | ((with_reducible refine on_nt (by assumption) ?_); conv => whnf)
    | ((with_reducible refine on_nf (by assumption) ?_); conv => whnf)
    | ((with_reducible refine on_ndec_t (by first | assumption | rfl) ?_); conv => whnf)
    | ((with_reducible refine on_ndec_f (by assumption) ?_); conv => whnf)
    | ((with_reducible refine on_dec_t rfl ?_); conv => whnf)
    | ((with_reducible refine on_dec_f ?_ ?_); (focus ((try simp only [List.length_map, List.length_cons, List.length_nil, List.length_append]); omega)); conv => whnf)
    | ((with_reducible refine on_dec_t ?_ ?_); (focus ((try simp only [List.length_map, List.length_cons, List.length_nil, List.length_append]); omega)); conv => whnf)
    | ((with_reducible refine on_dec (fun h => ?_) (fun h => ?_)) <;> (try simp only [List.length_map] at h) <;> conv => whnf)
    | ((with_reducible refine on_ndec (fun h => ?_) (fun h => ?_)) <;> (try simp only [List.length_map] at h) <;> conv => whnf)
    | ((with_reducible refine on_not (fun h => ?_) (fun h => ?_)) <;> conv => whnf)
    | ((with_reducible refine onBool_split (fun h => ?_) (fun h => ?_)) <;> conv => whnf)
    | (refine ⟨⟨(by first | rfl | (simp; done)), cap_ok (by simp only [List.length_map, List.length_cons, List.length_nil, List.length_append]; omega) rfl⟩, ?_⟩; conv => whnf)
    | (refine ⟨mem_one ⟨rfl, rfl⟩, ?_⟩; conv => whnf)
    | (refine ⟨(by intro y hy; obtain ⟨x, _, rfl⟩ := List.mem_map.1 hy; first | rfl | exact ⟨rfl, rfl⟩), ?_⟩; conv => whnf)
    | (refine ⟨cap_ok (by first | omega | (simp only [List.length_map]; omega)) rfl, ?_⟩; conv => whnf)
    | (refine ix_map (by omega) ?_; conv => whnf)
    | (refine ix_str (by omega) ?_; conv => whnf)
    | (refine wrap64 (by omega) ?_; conv => whnf)
    | (exfalso; simp only [List.length_map, List.length_cons, List.length_nil, List.length_append] at h; omega)
    | ((with_reducible refine endx_go ?_); first | (refine endX_of (.inl ⟨[.old 0, .old 1], rfl, rfl, ⟨⟨rfl, trivial, ⟨⟨rfl, rfl, rfl⟩, trivial⟩⟩, trivial⟩, ⟨⟨rfl, rfl, .inl ⟨_, rfl, rfl⟩⟩, ⟨rfl, rfl, .inr ⟨rfl, trivial⟩⟩, trivial⟩⟩); done))
    | (refine ⟨rfl, ?_⟩; conv => whnf)
    | fail
    )

theorem flat_mO (L : List (Int × Int)) : AV.flats (mO L).elems = true ∧ (mO L).st ≠ 1 := ⟨flats_map _ (fun x hx => by obtain ⟨p, _, rfl⟩ := List.mem_map.1 hx; rfl), by show (3 : Nat) ≠ 1; omega⟩
theorem ren_mO (τ : Nat → Nat) (L : List (Int × Int)) : renO τ (mO L) = mO L := by show AO.mk _ _ _ = _; rw [show rens τ (mO L).elems = (mO L).elems from rens_D _ _]
theorem set_same {H : Heap} {a : Nat} {o : AO} (h : H[a]? = some o) : H.set a o = H := by
  obtain ⟨hl, he⟩ := List.getElem?_eq_some_iff.1 h
  rw [← he]; exact List.set_getElem_self hl
theorem c70at (l : List Fil) (hl : l.length < 1000) {H : Heap} {a b : Nat} (h1 : H[a]? = some (bO b)) (h2 : H[b]? = some (mO [])) (hab : a ≠ b) :
    Run Try.prog 70 [.d (.fs (l.map Fil.enc)), .fn 71 [] [.ptr a 0 0]] H (.tup [.d (i (eF l 0).1), .d (i (eF l 0).2)]) (H.set b (mO (upto l []))) := by
  refine run_at (σ := [a, b]) (F := []) (fl := true) (c70 l hl) ?_ (fun _ h => by cases h) ⟨⟨rfl, fun id hid => by simp [reach] at hid⟩, ⟨rfl, trivial, ⟨⟨rfl, rfl, rfl⟩, trivial⟩⟩, trivial⟩ ?_ (fun _ => ⟨rfl, fun o ho => ?_⟩) rfl ?_
  · simp [hab]
  · refine ⟨(nthK_iff _ _).2 ⟨_, h1, rfl, rfl, .inr ⟨rfl, trivial⟩⟩, (nthK_iff _ _).2 ⟨_, h2, rfl, rfl, .inl ⟨_, rfl, rfl⟩⟩, trivial⟩
  · simp only [List.mem_cons, List.not_mem_nil, or_false] at ho
    rcases ho with rfl | rfl
    · exact ⟨rfl, Nat.zero_ne_one⟩
    · exact flat_mO _
  · have e1 : renO (tau [a, b] H.length) (bO 1) = bO b := rfl
    simp only [outH, List.map_cons, List.map_nil, e1, ren_mO, setAll, List.length_cons, List.length_nil, List.drop_succ_cons, List.drop_zero, List.append_nil, if_true]
    rw [set_same h1]
theorem c73at (L : List (Int × Int)) {H : Heap} {b : Nat} (h2 : H[b]? = some (mO L)) : Run Try.prog 73 [.mp b] H (.fn 94 [] [.ptr H.length 0 0]) (H ++ [bO b]) := by
  refine run_at (σ := [b]) (F := []) (fl := true) (c73 L) (by simp) (fun _ h => by cases h) ⟨rfl, trivial⟩ ?_ (fun _ => ⟨rfl, fun o ho => ?_⟩) ?_ ?_
  · refine ⟨(nthK_iff _ _).2 ⟨_, h2, rfl, rfl, .inl ⟨_, rfl, rfl⟩⟩, trivial⟩
  · simp only [List.mem_cons, List.not_mem_nil, or_false] at ho
    rcases ho with rfl | rfl
    · exact flat_mO _
    · exact ⟨rfl, Nat.zero_ne_one⟩
  · simp [ren, rens, tau]
  · have e1 : renO (tau [b] H.length) (bO 0) = bO b := rfl
    simp only [outH, List.map_cons, List.map_nil, e1, ren_mO, setAll, List.length_cons, List.length_nil, List.drop_succ_cons, List.drop_zero, if_true]
    rw [set_same h2]
theorem c72at {g : Nat} {L : List (Int × Int)} {ks : List Int} (hf : Run Try.prog 72 [.fn g [] [.ptr 0 0 0]] [bO 1, mO L] (.sl 2 0 L.length 1 none) [bO 1, mO L, ⟨(ks.map i).map .d, 1, 0⟩]) {H : Heap} {a b : Nat} (h1 : H[a]? = some (bO b)) (h2 : H[b]? = some (mO L)) (hab : a ≠ b) :
    Run Try.prog 72 [.fn g [] [.ptr a 0 0]] H (.sl H.length 0 L.length 1 none) (H ++ [⟨(ks.map i).map .d, 1, 0⟩]) := by
  refine run_at (σ := [a, b]) (F := []) (fl := true) hf ?_ (fun _ h => by cases h) ⟨⟨rfl, trivial, ⟨⟨rfl, rfl, rfl⟩, trivial⟩⟩, trivial⟩ ?_ (fun _ => ⟨rfl, fun o ho => ?_⟩) ?_ ?_
  · simp [hab]
  · refine ⟨(nthK_iff _ _).2 ⟨_, h1, rfl, rfl, .inr ⟨rfl, trivial⟩⟩, (nthK_iff _ _).2 ⟨_, h2, rfl, rfl, .inl ⟨_, rfl, rfl⟩⟩, trivial⟩
  · simp only [List.mem_cons, List.not_mem_nil, or_false] at ho
    rcases ho with rfl | rfl | rfl
    · exact ⟨rfl, Nat.zero_ne_one⟩
    · exact flat_mO _
    · exact ⟨flats_map _ (fun x hx => by obtain ⟨p, _, rfl⟩ := List.mem_map.1 hx; rfl), Nat.zero_ne_one⟩
  · simp [ren, tau]
  · have e1 : renO (tau [a, b] H.length) (bO 1) = bO b := rfl
    have e3 : renO (tau [a, b] H.length) (⟨(ks.map i).map .d, 1, 0⟩ : AO) = ⟨(ks.map i).map .d, 1, 0⟩ := by show AO.mk _ _ _ = _; rw [rens_D]
    simp only [outH, List.map_cons, List.map_nil, e1, e3, ren_mO, setAll, List.length_cons, List.length_nil, List.drop_succ_cons, List.drop_zero, if_true]
    rw [set_same h1, set_same h2]

end Go.Proofs.Ytolfkcmdfgakkaa

/-! Wl -/
namespace Go.Proofs.Ytolfkcmdfgakkaa
open Go Dw
set_option maxRecDepth 10000
set_option linter.unusedVariables false
set_option linter.unusedSimpArgs false
attribute [local irreducible] Run
set_option maxHeartbeats 4000000

attribute [local irreducible] oE checkQ cnt isR ownR withR bsR fullQ put1 chg rls mov limErr limF actE doA resQ aftQ whoE limE numE goMin actErr movErr filE iget iput upto eF srt mget mput

theorem c39e (l : List Fil) (hl : l.length < 1000) (h0 : ¬ (eF l 0).2 = 0) : Fn 39 [.fs (l.map Fil.enc)] (.tup [(sumsQ l).1.enc, i (sumsQ l).2]) := by
  refine run_walkF eok Try.func39 rfl (by kernel_rfl) ?_
  conv => whnf
  repeat' (first
    | ((with_reducible refine on_dec_t (by assumption) ?_); conv => whnf)
    | ((with_reducible refine on_dec_f (by assumption) ?_); conv => whnf)
    | ((with_reducible refine onBool_t (by assumption) ?_); conv => whnf)
    | ((with_reducible refine onBool_f (by assumption) ?_); conv => whnf)
    | ((with_reducible refine on_nt (by assumption) ?_); conv => whnf)
    | ((with_reducible refine on_nf (by assumption) ?_); conv => whnf)
    | ((with_reducible refine on_ndec_t (by first | assumption | rfl) ?_); conv => whnf)
    | ((with_reducible refine on_ndec_f (by assumption) ?_); conv => whnf)
    | ((with_reducible refine on_dec_t rfl ?_); conv => whnf)
    | ((with_reducible refine on_dec_f ?_ ?_); (focus ((try simp only [List.length_map, List.length_cons, List.length_nil, List.length_append]); omega)); conv => whnf)
    | ((with_reducible refine on_dec_t ?_ ?_); (focus ((try simp only [List.length_map, List.length_cons, List.length_nil, List.length_append]); omega)); conv => whnf)
    | ((with_reducible refine on_dec (fun h => ?_) (fun h => ?_)) <;> (try simp only [List.length_map] at h) <;> conv => whnf)
    | ((with_reducible refine on_ndec (fun h => ?_) (fun h => ?_)) <;> (try simp only [List.length_map] at h) <;> conv => whnf)
    | ((with_reducible refine on_not (fun h => ?_) (fun h => ?_)) <;> conv => whnf)
    | ((with_reducible refine onBool_split (fun h => ?_) (fun h => ?_)) <;> conv => whnf)
    | ((with_reducible refine call_go ?_); (first | refine call_step (c70at l (by omega) rfl rfl (Nat.ne_of_beq_eq_false rfl)) ?_ | refine call_step (c73at _ rfl) ?_ | refine call_step (c72at (c72_94 l (by omega) h0) rfl rfl (Nat.ne_of_beq_eq_false rfl)) ?_); conv => whnf)
    | (refine ⟨⟨(by first | rfl | (simp; done)), cap_ok (by simp only [List.length_map, List.length_cons, List.length_nil, List.length_append]; omega) rfl⟩, ?_⟩; conv => whnf)
    | (refine ⟨mem_one ⟨rfl, rfl⟩, ?_⟩; conv => whnf)
    | (refine ⟨(by intro y hy; obtain ⟨x, _, rfl⟩ := List.mem_map.1 hy; first | rfl | exact ⟨rfl, rfl⟩), ?_⟩; conv => whnf)
    | (refine ⟨cap_ok (by first | omega | (simp only [List.length_map]; omega)) rfl, ?_⟩; conv => whnf)
    | (refine ix_map (by omega) ?_; conv => whnf)
    | (refine ix_str (by omega) ?_; conv => whnf)
    | (refine wrap64 (by omega) ?_; conv => whnf)
    | (exfalso; simp only [List.length_map, List.length_cons, List.length_nil, List.length_append] at h; omega)
    | ((with_reducible refine endx_go ?_); first | (refine cut_ (sumsQ l = (emp, 8)) ?_ (fun hE => ?_); (focus ((unfold sumsQ; rw [if_pos (by omega)]))); refine endxv (view_tup (vlc (view_agg (vlc rfl (vlc rfl vln))) (vlc rfl vln))) ?_; rw [hE]; rfl; done) | (refine cut_ (sumsQ l = (emp, (eF l 0).2)) ?_ (fun hE => ?_); (focus (unfold sumsQ; rw [if_neg (by omega), if_pos h0])); refine endxv (view_tup (vlc (view_agg (vlc rfl (vlc rfl vln))) (vlc rfl vln))) ?_; rw [hE]; rfl; done))
    | (refine ⟨rfl, ?_⟩; conv => whnf)
    | fail
    )

theorem ks_len (l : List Fil) : (srt (ikeys (upto l []))).length = (upto l []).length := by rw [srt_length]; unfold ikeys; rw [List.length_map]
theorem mO_len (L : List (Int × Int)) : (mO L).elems.length = L.length := by unfold mO imap; simp
theorem bigK_t {L : List (Int × Int)} {l : List Int} {k : Nat} (h : k < l.length) (hb : 2147483647 < iget L l[k]) : bigK L l = true := by
  unfold bigK; rw [List.any_eq_true]; exact ⟨l[k], List.getElem_mem h, decide_eq_true hb⟩
theorem bigK_take {L : List (Int × Int)} {l : List Int} {k : Nat} (h : k < l.length) (hb : ¬ 2147483647 < iget L l[k]) (h2 : bigK L (l.take k) = false) : bigK L (l.take (k + 1)) = false := by
  unfold bigK at *
  rw [List.take_succ_eq_append_getElem h, List.any_append, h2]; simp; omega
theorem out_take {l : List Int} {k : Nat} (f : Int → Own) {out : List Own} (h : k < l.length) (ho : out = (l.take k).map f) : out ++ [f l[k]] = (l.take (k + 1)).map f := by
  rw [List.take_succ_eq_append_getElem h, ho, List.map_append]; rfl
theorem nth_i {ks : List Int} {k j : Nat} {K : AV → Prop} (hj : j = k) (h : k < ks.length) (hk : K (.d (i ks[k]))) : nthK ((ks.map i).map .d) j K := by
  subst hj
  exact (nthK_iff _ _).2 ⟨_, by rw [List.getElem?_map, List.getElem?_map, List.getElem?_eq_getElem h]; rfl, hk⟩

theorem c39o (l : List Fil) (hl : l.length < 1000) (h0 : (eF l 0).2 = 0) : Fn 39 [.fs (l.map Fil.enc)] (.tup [(sumsQ l).1.enc, i (sumsQ l).2]) := by
  refine run_walkF eok Try.func39 rfl (by kernel_rfl) ?_
  conv => whnf
  repeat' (first
    | ((with_reducible refine on_dec_t (by assumption) ?_); conv => whnf)
    | ((with_reducible refine on_dec_f (by assumption) ?_); conv => whnf)
    | ((with_reducible refine onBool_t (by assumption) ?_); conv => whnf)
    | ((with_reducible refine onBool_f (by assumption) ?_); conv => whnf)
    | ((with_reducible refine on_nt (by assumption) ?_); conv => whnf)
    | ((with_reducible refine on_nf (by assumption) ?_); conv => whnf)
    | ((with_reducible refine on_ndec_t (by first | assumption | rfl) ?_); conv => whnf)
    | ((with_reducible refine on_ndec_f (by assumption) ?_); conv => whnf)
    | ((with_reducible refine on_dec_t rfl ?_); conv => whnf)
    | ((refine ents_go (by first | rfl | exact mput_i _ _ _) ?_); conv => whnf)
    | (rw [mget_j]; conv => whnf)
    | ((with_reducible refine on_dec_f ?_ ?_); (focus ((try simp only [List.length_map, List.length_cons, List.length_nil, List.length_append]); omega)); conv => whnf)
    | ((with_reducible refine on_dec_t ?_ ?_); (focus ((try simp only [List.length_map, List.length_cons, List.length_nil, List.length_append]); omega)); conv => whnf)
    | ((with_reducible refine on_dec (fun h => ?_) (fun h => ?_)) <;> (try simp only [List.length_map] at h) <;> conv => whnf)
    | ((with_reducible refine on_ndec (fun h => ?_) (fun h => ?_)) <;> (try simp only [List.length_map] at h) <;> conv => whnf)
    | ((with_reducible refine on_not (fun h => ?_) (fun h => ?_)) <;> conv => whnf)
    | ((with_reducible refine onBool_split (fun h => ?_) (fun h => ?_)) <;> conv => whnf)
    | ((with_reducible refine call_go ?_); (first | refine call_step (c70at l (by omega) rfl rfl (Nat.ne_of_beq_eq_false rfl)) ?_ | refine call_step (c73at _ rfl) ?_ | refine call_step (c72at (c72_94 l (by omega) h0) rfl rfl (Nat.ne_of_beq_eq_false rfl)) ?_); conv => whnf)
    | ((with_reducible refine loop_go ?_); first | (refine loop2 (fun (k : Nat) (out : List Own) => (upto l []).length - k) (fun (k : Nat) (out : List Own) => k ≤ (upto l []).length ∧ out.length = k ∧ out = ((srt (ikeys (upto l []))).take k).map (mkO (upto l [])) ∧ bigK (upto l []) ((srt (ikeys (upto l []))).take k) = false) (fun (k : Nat) (out : List Own) => [(2, .ptr 0 0 0), (4, .ptr 2 0 0), (7, .ptr 3 0 0), (32, .sl 4 0 (upto l []).length 1 none), (33, .d (i (upto l []).length)), (34, .d (i k))]) (fun (k : Nat) (out : List Own) => [⟨[.junk], 2, 0⟩, mO (upto l []), bO 1, ⟨[.agg [.sl 5 0 out.length 5 none, .d (.bool true)]], 2, 0⟩, ⟨((srt (ikeys (upto l []))).map i).map .d, 1, 0⟩, ⟨(out.map Own.enc).map .d, 5, 0⟩]) (0) ([]) (by exact ⟨Nat.zero_le _, rfl, rfl, rfl⟩) ?_ (fun k out C hI hC => ?_); (exact ⟨[.old 0, .old 1, .old 2, .old 3, .old 5, .void 5], rfl, rfl, ⟨⟨rfl, rfl, rfl⟩, ⟨rfl, rfl, rfl⟩, ⟨rfl, rfl, rfl⟩, (by first | exact congrArg (D.int .i64) (by omega) | exact ⟨rfl, rfl, rfl⟩ | exact ⟨rfl, rfl, rfl, rfl, rfl⟩ | (show (_ : D) = _; with_reducible rfl)), (by first | (show (_ : D) = _; with_reducible rfl) | exact congrArg (D.int .i64) (by omega) | exact congrArg (D.int .i64) (by simp only [List.length_map]) | exact rfl), (by first | (show (_ : D) = _; with_reducible rfl) | exact congrArg (D.int .i64) (by omega) | exact congrArg (D.int .i64) (by simp only [List.length_map]) | exact rfl), trivial⟩, ⟨⟨rfl, rfl, .inr ⟨trivial, trivial⟩⟩, ⟨rfl, rfl, .inl ⟨_, rfl, rfl⟩⟩, ⟨rfl, rfl, .inr ⟨rfl, trivial⟩⟩, ⟨rfl, rfl, .inr ⟨⟨⟨rfl, rfl, rfl, rfl⟩, rfl, trivial⟩, trivial⟩⟩, ⟨rfl, rfl, .inl ⟨_, rfl, rfl⟩⟩, ⟨rfl, rfl, (by decide), rfl⟩, trivial⟩⟩); all_goals (conv => whnf)))
    | ((with_reducible show C _ _); first | (refine hC (k + 1) (out ++ [mkO (upto l []) ((srt (ikeys (upto l [])))[k]'(by rw [ks_len]; omega))]) _ _ ?_ (by omega) ?_; clear hC; rotate_left; (exact ⟨[.old 0, .old 1, .old 2, .old 3, .old 4, .old 7], rfl, rfl, ⟨⟨rfl, rfl, rfl⟩, ⟨rfl, rfl, rfl⟩, ⟨rfl, rfl, rfl⟩, (by first | exact congrArg (D.int .i64) (by omega) | exact ⟨rfl, rfl, rfl⟩ | exact ⟨rfl, rfl, rfl, rfl, rfl⟩ | (show (_ : D) = _; with_reducible rfl)), (by first | (show (_ : D) = _; with_reducible rfl) | exact congrArg (D.int .i64) (by omega) | exact congrArg (D.int .i64) (by simp only [List.length_map]) | exact rfl), (by first | (show (_ : D) = _; with_reducible rfl) | exact congrArg (D.int .i64) (by omega) | exact congrArg (D.int .i64) (by simp only [List.length_map]) | exact rfl), trivial⟩, ⟨⟨rfl, rfl, .inr ⟨trivial, trivial⟩⟩, ⟨rfl, rfl, .inl ⟨_, rfl, rfl⟩⟩, ⟨rfl, rfl, .inr ⟨rfl, trivial⟩⟩, ⟨rfl, rfl, .inr ⟨⟨⟨rfl, rfl, (by simp), rfl, rfl⟩, rfl, trivial⟩, trivial⟩⟩, ⟨rfl, rfl, .inl ⟨_, rfl, rfl⟩⟩, ⟨rfl, rfl, .inr (wks_add (wksd _ _) ⟨rfl, rfl, rfl, rfl, rfl, rfl, trivial⟩)⟩, trivial⟩⟩); (exact ⟨by omega, by simp [hI.2.1], out_take _ (by rw [ks_len]; omega) hI.2.2.1, bigK_take (by rw [ks_len]; omega) (by assumption) hI.2.2.2⟩)))
    | (refine ⟨⟨(by first | rfl | (simp; done)), cap_ok (by simp only [List.length_map, List.length_cons, List.length_nil, List.length_append]; omega) rfl⟩, ?_⟩; conv => whnf)
    | (refine ⟨mem_one ⟨rfl, rfl⟩, ?_⟩; conv => whnf)
    | (refine ⟨(by intro y hy; obtain ⟨x, _, rfl⟩ := List.mem_map.1 hy; first | rfl | exact ⟨rfl, rfl⟩), ?_⟩; conv => whnf)
    | (refine ⟨cap_ok (by first | omega | (simp only [List.length_map]; omega)) rfl, ?_⟩; conv => whnf)
    | (refine ix_map (by omega) ?_; conv => whnf)
    | (refine ix_str (by omega) ?_; conv => whnf)
    | (refine wrap64 (by omega) ?_; conv => whnf)
    | (refine wrap64 (by obtain ⟨hI1, hI2, hI3, hI4⟩ := hI; have hu := upto_len l []; simp only [List.length_nil] at hu; omega) ?_; conv => whnf)
    | (refine ⟨⟨by omega, by omega⟩, ?_⟩; conv => whnf)
    | (refine nth_i (k := k) (by omega) (by rw [ks_len]; omega) ?_; conv => whnf)
    | (refine ⟨Nat.le_refl _, ?_⟩; conv => whnf)
    | (refine ⟨⟨(by simp only [List.length_map, List.length_append]; omega), cap_ok (by obtain ⟨hI1, hI2, hI3, hI4⟩ := hI; have hu := upto_len l []; simp only [List.length_nil] at hu; simp only [List.length_map, List.length_cons, List.length_nil, List.length_append]; omega) rfl⟩, ?_⟩; conv => whnf)
    | (refine ⟨cap_ok (by obtain ⟨hI1, hI2, hI3, hI4⟩ := hI; have hu := upto_len l []; simp only [List.length_nil] at hu; simp only [List.length_map, List.length_cons, List.length_nil, List.length_append]; omega) rfl, ?_⟩; conv => whnf)
    | (exfalso; simp only [List.length_map, List.length_cons, List.length_nil, List.length_append] at h; omega)
    | ((with_reducible refine endx_go ?_); first | (refine cut_ (sumsQ l = (emp, 8)) ?_ (fun hE => ?_); (focus ((unfold sumsQ; rw [if_pos (by omega)]))); refine endxv (view_tup (vlc (view_agg (vlc rfl (vlc rfl vln))) (vlc rfl vln))) ?_; rw [hE]; rfl; done) | (refine cut_ (sumsQ l = (emp, 16)) ?_ (fun hE => ?_); (focus (have hn100 : ¬ 100 < l.length := (by omega); have hm : 30 < (upto l []).length := (by rw [mO_len] at h; omega); unfold sumsQ; rw [if_neg hn100, if_neg (by simp [h0]), if_pos hm])); refine endxv (view_tup (vlc (view_agg (vlc rfl (vlc rfl vln))) (vlc rfl vln))) ?_; rw [hE]; rfl; done) | (refine cut_ (sumsQ l = (emp, 8)) ?_ (fun hE => ?_); (focus (have hn100 : ¬ 100 < l.length := (by omega); have hn30 : ¬ 30 < (upto l []).length := (by have hh : ¬ (30 : Int) < ↑(mO (upto l [])).elems.length := (by assumption); rw [mO_len] at hh; omega); unfold sumsQ; rw [if_neg hn100, if_neg (by simp [h0]), if_neg hn30, if_pos (bigK_t (k := k) (by rw [ks_len]; omega) (by assumption))])); refine endxv (view_tup (vlc (view_agg (vlc rfl (vlc rfl vln))) (vlc rfl vln))) ?_; rw [hE]; rfl; done) | (refine cut_ (sumsQ l = (⟨out, true⟩, 0)) ?_ (fun hE => ?_); (focus (have hn100 : ¬ 100 < l.length := (by omega); have hn30 : ¬ 30 < (upto l []).length := (by have hh : ¬ (30 : Int) < ↑(mO (upto l [])).elems.length := (by assumption); rw [mO_len] at hh; omega); obtain ⟨hI1, hI2, hI3, hI4⟩ := hI; rw [List.take_of_length_le (by rw [ks_len]; omega)] at hI3 hI4; unfold sumsQ; rw [if_neg hn100, if_neg (by simp [h0]), if_neg hn30, hI4, if_neg (by decide), hI3])); refine endxv (view_tup (vlc (view_agg (vlc (view_map rfl Nat.two_pos) (vlc rfl vln))) (vlc rfl vln))) ?_; (rw [hE]) <;> rfl; done))
    | (refine ⟨rfl, ?_⟩; conv => whnf)
    | fail
    )

theorem c39 (l : List Fil) (hl : l.length < 1000) : Fn 39 [.fs (l.map Fil.enc)] (.tup [(sumsQ l).1.enc, i (sumsQ l).2]) := by
  by_cases h0 : (eF l 0).2 = 0
  · exact c39o l hl h0
  · exact c39e l hl h0

end Go.Proofs.Ytolfkcmdfgakkaa

/-! Wm -/
namespace Go.Proofs.Ytolfkcmdfgakkaa
open Go Dw
set_option maxRecDepth 10000
set_option linter.unusedVariables false
set_option linter.unusedSimpArgs false
attribute [local irreducible] Run
set_option maxHeartbeats 4000000

theorem srt_1210 : srt [12, 10] = [10, 12] := by
  rw [show srt [12, 10] = srt [10, 12] from srt_perm (List.Perm.swap _ _ _)]
  exact List.mergeSort_of_pairwise (by simp)
def exF : List Fil := [⟨12, 5⟩, ⟨10, 1⟩, ⟨12, 6⟩]
theorem ex_16a : aftQ exQ (actC 10 60) = (⟨[⟨10, 160, 150, 200, 0⟩], true⟩, 0) := by decide +kernel
theorem ex_16b : aftQ exQ (actC 10 101) = (⟨[⟨10, 100, 150, 200, 1⟩], true⟩, 33) := by decide +kernel
theorem ex_25 : aftQ exQ (actM 10 11 100) = (⟨[⟨10, 0, 150, 200, 0⟩, ⟨11, 100, -1, -1, 0⟩], true⟩, 0) := by decide +kernel
theorem ex_39 : sumsQ exF = (⟨[⟨10, 1, -1, -1, 0⟩, ⟨12, 11, -1, -1, 0⟩], true⟩, 0) := by
  have hu : upto exF [] = [(12, 11), (10, 1)] := by decide +kernel
  have he : (eF exF 0).2 = 0 := by decide +kernel
  unfold sumsQ
  rw [hu, if_neg (by decide), if_neg (by simp [he]), if_neg (by decide), show ikeys [(12, 11), (10, 1)] = [12, 10] from rfl, srt_1210, if_neg (by decide +kernel)]
  decide +kernel
theorem ex_29 : roomE exQ 10 = (100, 0) := by decide +kernel
theorem a16a : Fn 16 [exQ.enc, i 10, i 60] (.tup [.agg [.fs [.agg [i 10, i 160, i 150, i 200, i 0]], .bool true], i 0]) := by
  have := c16 exQ (by decide) 10 60; rw [ex_16a] at this; exact this
theorem a16b : Fn 16 [exQ.enc, i 10, i 101] (.tup [.agg [.fs [.agg [i 10, i 100, i 150, i 200, i 1]], .bool true], i 33]) := by
  have := c16 exQ (by decide) 10 101; rw [ex_16b] at this; exact this
theorem a25 : Fn 25 [exQ.enc, i 10, i 11, i 100] (.tup [.agg [.fs [.agg [i 10, i 0, i 150, i 200, i 0], .agg [i 11, i 100, i (-1), i (-1), i 0]], .bool true], i 0]) := by
  have := c25 exQ (by decide) 10 11 100; rw [ex_25] at this; exact this
theorem a39 : Fn 39 [.fs (exF.map Fil.enc)] (.tup [.agg [.fs [.agg [i 10, i 1, i (-1), i (-1), i 0], .agg [i 12, i 11, i (-1), i (-1), i 0]], .bool true], i 0]) := by
  have := c39 exF (by decide); rw [ex_39] at this; exact this
theorem a29 : Fn 29 [exQ.enc, i 10] (.tup [i 100, i 0]) := by
  have := c29 exQ (by decide) 10; rw [ex_29] at this; exact this

theorem c12 : Fn 12 [] (.bool true) := by
  refine run_walkF eok Try.func12 rfl (by kernel_rfl) ?_
  conv => whnf
  repeat' (first
    | ((with_reducible refine on_dec_f ?_ ?_); (focus ((try simp only [List.length_map, List.length_cons, List.length_nil, List.length_append]); omega)); conv => whnf)
    | ((with_reducible refine on_dec_t ?_ ?_); (focus ((try simp only [List.length_map, List.length_cons, List.length_nil, List.length_append]); omega)); conv => whnf)
    | ((with_reducible refine on_dec (fun h => ?_) (fun h => ?_)) <;> (try simp only [List.length_map] at h) <;> conv => whnf)
    | ((with_reducible refine on_ndec (fun h => ?_) (fun h => ?_)) <;> (try simp only [List.length_map] at h) <;> conv => whnf)
    | ((with_reducible refine on_not (fun h => ?_) (fun h => ?_)) <;> conv => whnf)
    | ((with_reducible refine onBool_split (fun h => ?_) (fun h => ?_)) <;> conv => whnf)
    | ((with_reducible refine call_go ?_); (first | refine call_step (run_data c47 _) ?_ | refine call_step (run_data a16a _) ?_ | refine call_step (run_data a16b _) ?_ | refine call_step (run_data a25 _) ?_ | refine call_step (run_viewF a39 rfl) ?_ | refine call_step (run_data a29 _) ?_); conv => whnf)
    | (refine ⟨⟨(by first | rfl | (simp; done)), cap_ok (by simp only [List.length_map, List.length_cons, List.length_nil, List.length_append]; omega) rfl⟩, ?_⟩; conv => whnf)
    | (refine ⟨mem_one ⟨rfl, rfl⟩, ?_⟩; conv => whnf)
    | (refine ⟨(by intro y hy; obtain ⟨x, _, rfl⟩ := List.mem_map.1 hy; first | rfl | exact ⟨rfl, rfl⟩), ?_⟩; conv => whnf)
    | (refine ⟨cap_ok (by first | omega | (simp only [List.length_map]; omega)) rfl, ?_⟩; conv => whnf)
    | (refine ix_map (by omega) ?_; conv => whnf)
    | (refine ix_str (by omega) ?_; conv => whnf)
    | (refine wrap64 (by omega) ?_; conv => whnf)
    | (refine ⟨by decide, ?_⟩; conv => whnf)
    | (exfalso; simp only [List.length_map, List.length_cons, List.length_nil, List.length_append] at h; omega)
    | ((with_reducible refine endx_go ?_); first | (exact endx rfl; done))
    | (refine ⟨rfl, ?_⟩; conv => whnf)
    | fail
    )

end Go.Proofs.Ytolfkcmdfgakkaa

/-! Sh -/
namespace Go.Proofs.Ytolfkcmdfgakkaa
open Go Dw
theorem map_of {α : Type} {f : α → D} : ∀ (l : List D), (∀ y ∈ l, ∃ a, y = f a) → ∃ r : List α, l = r.map f
  | [], _ => ⟨[], rfl⟩
  | x :: l, h => by
    obtain ⟨a, rfl⟩ := h x (by simp)
    obtain ⟨r, rfl⟩ := map_of l fun y hy => h y (by simp [hy])
    exact ⟨a :: r, rfl⟩
theorem shpOwn {n : Nat} {x : D} (h : shp E (n + 2) 42 x) : ∃ o : Own, x = o.enc := by
  obtain ⟨cs, rfl, y1, r1, ⟨k1, rfl, _⟩, rfl, y2, r2, ⟨k2, rfl, _⟩, rfl, y3, r3, ⟨k3, rfl, _⟩, rfl, y4, r4, ⟨k4, rfl, _⟩, rfl, y5, r5, ⟨k5, rfl, _⟩, rfl, rfl⟩ := h
  exact ⟨⟨k1, k2, k3, k4, k5⟩, rfl⟩
theorem shpQuo {n : Nat} {x : D} (h : shp E (n + 4) 24 x) : ∃ q : Quo, x = q.enc := by
  obtain ⟨cs, rfl, y1, r1, ⟨l, rfl, _, h1⟩, rfl, y2, r2, ⟨b, rfl⟩, rfl, rfl⟩ := h
  obtain ⟨a, rfl⟩ := map_of l fun y hy => shpOwn (h1 y hy)
  exact ⟨⟨a, b⟩, rfl⟩
end Go.Proofs.Ytolfkcmdfgakkaa
