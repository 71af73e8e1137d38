/-
  Own lemmas, no conditions: Jn, Wh, Wi, Wj, Wk, Wl, Wm, Wn, Wo.
-/
import Derived.Test.YtpblmdolgocpaaaDoorGrpD
import Derived.Shelf.Strings.OnBuilder
set_option linter.unusedVariables false
set_option linter.unusedSimpArgs false

/-! Jn -/
namespace Go.Proofs.YtpblmdolgocpaaaDoor
open Go Go.Shelf
def lays156_ren : Go.Shelf.Ren := ⟨fun | 156 => 90 | 165 => 101 | 166 => 102 | 169 => 103 | 240 => 108 | 241 => 109 | 276 => 113 | 277 => 114 | n => n, fun | 31 => 99 | 9 => 9 | 3 => 3 | 4 => 4 | 0 => 0 | 20 => 20 | 72 => 140 | 76 => 144 | 70 => 138 | 37 => 117 | 75 => 143 | 127 => 150 | 164 => 152 | 5 => 5 | 80 => 103 | n => n, fun | n => n⟩
theorem lays156 : Go.Proofs.Lays.n156 Tryd.prog lays156_ren := {
  mixed := by kernel_rfl
  f156 := Tryd.func90.trans (congrArg some (by kernel_rfl))
  f165 := Tryd.func101.trans (congrArg some (by kernel_rfl))
  f166 := Tryd.func102.trans (congrArg some (by kernel_rfl))
  f169 := Tryd.func103.trans (congrArg some (by kernel_rfl))
  f240 := Tryd.func108.trans (congrArg some (by kernel_rfl))
  f241 := Tryd.func109.trans (congrArg some (by kernel_rfl))
  f276 := Tryd.func113.trans (congrArg some (by kernel_rfl))
  f277 := Tryd.func114.trans (congrArg some (by kernel_rfl))
  t0 := Tryd.underlying0
  a0 := Tryd.isAgg0
  z0 := Tryd.sizeOf0
  v0 := Tryd.zeroValue0
  t3 := Tryd.underlying3
  a3 := Tryd.isAgg3
  z3 := Tryd.sizeOf3
  v3 := Tryd.zeroValue3
  t4 := Tryd.underlying4
  a4 := Tryd.isAgg4
  z4 := Tryd.sizeOf4
  v4 := Tryd.zeroValue4
  t9 := Tryd.underlying9
  a9 := Tryd.isAgg9
  z9 := Tryd.sizeOf9
  v9 := Tryd.zeroValue9
  t20 := Tryd.underlying20
  a20 := Tryd.isAgg20
  z20 := Tryd.sizeOf20
  v20 := Tryd.zeroValue20
  t31 := Tryd.underlying99
  a31 := Tryd.isAgg99
  z31 := Tryd.sizeOf99
  v31 := Tryd.zeroValue99
  t37 := Tryd.underlying117
  a37 := Tryd.isAgg117
  z37 := Tryd.sizeOf117
  v37 := Tryd.zeroValue117
  t70 := Tryd.underlying138
  a70 := Tryd.isAgg138
  z70 := Tryd.sizeOf138
  v70 := Tryd.zeroValue138
  t72 := Tryd.underlying140
  a72 := Tryd.isAgg140
  z72 := Tryd.sizeOf140
  v72 := Tryd.zeroValue140
  t75 := Tryd.underlying143
  a75 := Tryd.isAgg143
  z75 := Tryd.sizeOf143
  v75 := Tryd.zeroValue143
  t76 := Tryd.underlying144
  a76 := Tryd.isAgg144
  z76 := Tryd.sizeOf144
  v76 := Tryd.zeroValue144
  t127 := Tryd.underlying150
  a127 := Tryd.isAgg150
  z127 := Tryd.sizeOf150
  v127 := Tryd.zeroValue150
  t164 := Tryd.underlying152
  a164 := Tryd.isAgg152
  z164 := Tryd.sizeOf152
  v164 := Tryd.zeroValue152 }
theorem builder156 : Builder.Extra Tryd.prog lays156_ren := {
  sizeBuilder := by kernel_rfl
  liesBuilder := by kernel_rfl
  t5 := Tryd.underlying5
  a5 := Tryd.isAgg5
  z5 := Tryd.sizeOf5
  v5 := Tryd.zeroValue5
  infoByte := by kernel_rfl
  cellsByte := by kernel_rfl
  sizeByte := by kernel_rfl
  neB5 := by decide }

open Dw Go.RowKit
set_option maxRecDepth 100000
theorem enters90 : ∀ vs w, (callFunc 90 vs).run Tryd.prog w = .ok (.enter 90 vs) w := enters_of Tryd.func90 (by kernel_rfl) rfl
theorem join_flat (xs : List (List UInt8)) : Lib.join xs [] = xs.flatten := by
  cases xs with
  | nil => rfl
  | cons x r => rw [Lib.join_cons, Lib.joinTail]; simp

theorem c90 (st : List Bs) (h1 : st.length ≤ 1000000) (h2 : st.flatten.length ≤ 100000000) : Fn 90 [.fs (st.map .str), .str []] (.str st.flatten) := by
  refine run_calls enters90 fun B W w s vs hw ha => ?_
  simp only [List.map_cons, List.map_nil, aVs, aC, cC, AV.isAgg] at ha
  obtain ⟨v, r, us, rfl, hv, ⟨a, c, rfl, hc, hmem⟩, v2, r2, us2, rfl, hv2, rfl, rfl⟩ := ha
  simp only [Bool.false_eq_true, if_false, List.cons.injEq, and_true] at hv hv2
  subst hv; subst hv2
  refine ⟨.string ⟨st.flatten.toArray⟩, fun w' => ⟨[.string ⟨st.flatten.toArray⟩], rfl, rfl⟩, ?_⟩
  rw [List.length_map] at hc ⊢
  cases hst : st with
  | nil =>
    subst hst
    refine (Any.strings_Join_none lays156 builder156 a c ⟨#[]⟩ w).mono ?_
    rintro e w' ⟨h, rfl⟩
    exact ⟨h, Below.refl _ _⟩
  | cons x0 r0 =>
    obtain ⟨b, o, k, rfl, hS, hk, hels⟩ := hmem (by rw [hst]; simp)
    rw [cEls_iff] at hels
    have hk1 : k = 1 := by
      obtain ⟨us, e1, e2, _⟩ := hels 0 (.str x0) (by rw [hst]; rfl)
      simp only [cC] at e2
      rw [e2] at e1; simp at e1; exact e1.symm
    subst hk1
    have hxs : (st.map fun s => (⟨s.toArray⟩ : ByteArray)).map (fun z => z.data.toList) = st := by
      rw [List.map_map]; simp [Function.comp_def]
    have := Any.strings_Join lays156 builder156 b o c (st.map fun s => (⟨s.toArray⟩ : ByteArray)) ⟨#[]⟩ w (fun j x hx => by
      rw [List.getElem?_map] at hx
      cases hj : st[j]? with
      | none => rw [hj] at hx; cases hx
      | some y =>
        rw [hj] at hx; cases hx
        obtain ⟨us, _, e2, e3⟩ := hels j (.str y) (by rw [List.getElem?_map, hj]; rfl)
        simp only [cC] at e2
        subst e2
        rw [Nat.mul_one] at e3
        exact e3.1) (hw.stab b hS) (by rw [List.length_map]; omega) (by rw [List.length_map]; exact hc) (by
          rw [hxs]
          have : (⟨#[]⟩ : ByteArray).data.toList = [] := rfl
          rw [this, join_flat]; omega)
    rw [hxs, List.length_map] at this
    have e0 : (⟨#[]⟩ : ByteArray).data.toList = [] := rfl
    rw [e0, join_flat] at this
    rw [← hst]
    exact this
end Go.Proofs.YtpblmdolgocpaaaDoor

/-! Wh -/
namespace Go.Proofs.YtpblmdolgocpaaaDoor
open Go Dw
set_option maxRecDepth 10000
set_option linter.unusedVariables false
set_option linter.unusedSimpArgs false
attribute [local irreducible] Run
set_option maxHeartbeats 4000000

attribute [local irreducible] sec stK put patch wrote pat wr

theorem c66 (st : List Bs) (h1 : st.length ≤ 1000000) (h2 : st.flatten.length ≤ 100000000) : Fn 66 [.fs (st.map D.str)] (.str st.flatten) := by
  refine run_walkF eok Tryd.func66 rfl (by kernel_rfl) ?_
  conv => whnf
  repeat' (first
    | ((with_reducible refine on_dec_f ?_ ?_); (focus ((try simp only [List.length_map, List.length_cons, List.length_nil, List.length_append]); omega)); conv => whnf)
    | ((with_reducible refine on_dec_t ?_ ?_); (focus ((try simp only [List.length_map, List.length_cons, List.length_nil, List.length_append]); omega)); conv => whnf)
    | ((with_reducible refine on_dec (fun h => ?_) (fun h => ?_)) <;> (try simp only [List.length_map] at h) <;> conv => whnf)
    | ((with_reducible refine on_ndec (fun h => ?_) (fun h => ?_)) <;> (try simp only [List.length_map] at h) <;> conv => whnf)
    | ((with_reducible refine on_not (fun h => ?_) (fun h => ?_)) <;> conv => whnf)
    | ((with_reducible refine onBool_split (fun h => ?_) (fun h => ?_)) <;> conv => whnf)
    | ((with_reducible refine call_go ?_); (first | refine call_step (run_view (c90 st h1 h2) rfl rfl) ?_); conv => whnf)
    | (refine ⟨⟨(by first | rfl | (simp; done)), cap_ok (by simp only [List.length_map, List.length_cons, List.length_nil, List.length_append]; omega) rfl⟩, ?_⟩; conv => whnf)
    | (refine ⟨mem_one ⟨rfl, rfl⟩, ?_⟩; conv => whnf)
    | (refine ⟨(by intro y hy; obtain ⟨x, _, rfl⟩ := List.mem_map.1 hy; first | rfl | exact ⟨rfl, rfl⟩), ?_⟩; conv => whnf)
    | (refine ⟨cap_ok (by first | omega | (simp only [List.length_map]; omega)) rfl, ?_⟩; conv => whnf)
    | (refine ix_map (by omega) ?_; conv => whnf)
    | (refine ix_str (by omega) ?_; conv => whnf)
    | (refine wrap64 (by omega) ?_; conv => whnf)
    | (exfalso; simp only [List.length_map, List.length_cons, List.length_nil, List.length_append] at h; omega)
    | ((with_reducible refine endx_go ?_); first | (exact endx rfl; done))
    | (refine ⟨rfl, ?_⟩; conv => whnf)
    | fail
    )

theorem c66q (st : List Bs) (h : All64 st) (h1 : st.length ≤ 1000000) : Fn 66 [.fs (st.map D.str)] (.str st.flatten) := c66 st h1 (by rw [flat_len h]; omega)
theorem wr_in {s : Bs} {l : List Wr} (h : (evsErr s l).2 = 0) : ∀ x ∈ l, x.In (s.length / 64) := (evsErr_ok h).2.2.1
theorem wrS_end {s : Bs} {l : List Wr} (h : (evsErr s l).2 = 0) {k : Nat} (hk : l.length ≤ k) : (wrS s l k).flatten = wrote s l := by
  have := (wrS_ok (wr_in h) k).1
  rw [this, stOf_flat (diskErr_ok (evsErr_ok h).1).2.1, List.take_of_length_le hk]
theorem written_ok {s : Bs} {l : List Wr} (h : (evsErr s l).2 = 0) : written s l = (wrote s l, 0) := by
  unfold written; rw [if_neg (fun c => c h)]
theorem written_err {s : Bs} {l : List Wr} (h : ¬ (evsErr s l).2 = 0) : written s l = ([], (evsErr s l).2) := by
  unfold written; rw [if_pos h]
attribute [local irreducible] wrS written

theorem c15m (s : Bs) (l : List Wr) (hs : s.length < 1000000) (hl : l.length < 1000000) (hb : ∀ x ∈ l, x.bytes.length < 1000000) (h0 : (evsErr s l).2 = 0) : Fn 15 [.str s, .fs (l.map Wr.enc)] (.tup [.str (written s l).1, i (written s l).2]) := by
  have hi := wr_in h0
  refine run_walkF eok Tryd.func15 rfl (by kernel_rfl) ?_
  conv => whnf
  repeat' (first
    | ((with_reducible refine on_ndec_f (by assumption) ?_); conv => whnf)
    | ((with_reducible refine on_dec_f ?_ ?_); (focus ((try simp only [List.length_map, List.length_cons, List.length_nil, List.length_append]); omega)); conv => whnf)
    | ((with_reducible refine on_dec_t ?_ ?_); (focus ((try simp only [List.length_map, List.length_cons, List.length_nil, List.length_append]); omega)); conv => whnf)
    | ((with_reducible refine on_dec (fun h => ?_) (fun h => ?_)) <;> (try simp only [List.length_map] at h) <;> conv => whnf)
    | ((with_reducible refine on_ndec (fun h => ?_) (fun h => ?_)) <;> (try simp only [List.length_map] at h) <;> conv => whnf)
    | ((with_reducible refine on_not (fun h => ?_) (fun h => ?_)) <;> conv => whnf)
    | ((with_reducible refine onBool_split (fun h => ?_) (fun h => ?_)) <;> conv => whnf)
    | ((with_reducible refine call_go ?_); (first | refine call_step (run_view (c13 s l hs hl hb) rfl rfl) ?_ | refine call_step (run_new (c64 s hs) (fun _ => rfl) rfl) ?_ | refine call_step (run_mut0 (c65 (wrS s l k) (l[k]'(by omega)) (by rw [wrS_len hi]; exact hi _ (List.getElem_mem _)) (hb _ (List.getElem_mem _)) (by rw [wrS_len hi]; omega)) (fun _ => rfl) rfl rfl (fun _ h => by cases h) rfl) ?_ | refine call_step (run_view (c66q (wrS s l k) (wrS_ok hi k).2.1 (by rw [wrS_len hi]; omega)) rfl (vlc (view_map rfl Nat.two_pos) vln)) ?_); conv => whnf)
    | ((with_reducible refine loop_go ?_); first | (refine loop1 (fun (k : Nat) => l.length - k) (fun (k : Nat) => k ≤ l.length) (fun (k : Nat) => [(8, .sl 0 0 (wrS s l k).length 1 none), (22, .d (.fs (l.map Wr.enc))), (23, .d (i l.length)), (24, .d (i k))]) (fun (k : Nat) => [⟨((wrS s l k).map D.str).map .d, 1, 0⟩]) (0) (by exact Nat.zero_le _) ?_ (fun k C hI hC => ?_); (exact ⟨[.old 0], rfl, rfl, ⟨⟨rfl, rfl, (by rw [wrS_zero]), rfl, rfl⟩, rfl, (by first | (show (_ : D) = _; with_reducible rfl) | exact congrArg (D.int .i64) (by simp only [List.length_map])), rfl, trivial⟩, ⟨⟨rfl, rfl, .inl ⟨_, rfl, (by rw [wrS_zero])⟩⟩, trivial⟩⟩); all_goals (conv => whnf)))
    | ((with_reducible show C _ _); first | (refine hC (k + 1) _ _ ?_ (by omega) ?_; clear hC; rotate_left; (exact ⟨[.old 0], rfl, rfl, ⟨⟨rfl, rfl, (by rw [wrS_len hi, wrS_len hi]), rfl, rfl⟩, (by first | (show (_ : D) = _; with_reducible rfl) | exact rfl), (by first | (show (_ : D) = _; with_reducible rfl) | exact congrArg (D.int .i64) (by omega) | exact congrArg (D.int .i64) (by simp only [List.length_map]) | exact rfl), (by first | (show (_ : D) = _; with_reducible rfl) | exact congrArg (D.int .i64) (by omega) | exact congrArg (D.int .i64) (by simp only [List.length_map]) | exact rfl), trivial⟩, ⟨⟨rfl, rfl, .inl ⟨_, rfl, (by rw [wrS_succ (by omega)])⟩⟩, trivial⟩⟩); (exact (by omega : k + 1 ≤ l.length))))
    | (refine ⟨⟨(by first | rfl | (simp; done)), cap_ok (by simp only [List.length_map, List.length_cons, List.length_nil, List.length_append]; omega) rfl⟩, ?_⟩; conv => whnf)
    | (refine ⟨mem_one ⟨rfl, rfl⟩, ?_⟩; conv => whnf)
    | (refine ⟨(by intro y hy; obtain ⟨x, _, rfl⟩ := List.mem_map.1 hy; first | rfl | exact ⟨rfl, rfl⟩), ?_⟩; conv => whnf)
    | (refine ⟨cap_ok (by first | omega | (simp only [List.length_map]; omega)) rfl, ?_⟩; conv => whnf)
    | (refine ix_map (by omega) ?_; conv => whnf)
    | (refine ix_str (by omega) ?_; conv => whnf)
    | (refine wrap64 (by omega) ?_; conv => whnf)
    | (refine wrap64 (by omega) ?_; conv => whnf)
    | (exact absurd h0 (by assumption))
    | (exfalso; simp only [List.length_map, List.length_cons, List.length_nil, List.length_append] at h; omega)
    | ((with_reducible refine endx_go ?_); first | (refine endx2 ?_; rw [written_ok h0, wrS_end h0 (by omega)]; done))
    | (refine ⟨rfl, ?_⟩; conv => whnf)
    | fail
    )

theorem c15e (s : Bs) (l : List Wr) (hs : s.length < 1000000) (hl : l.length < 1000000) (hb : ∀ x ∈ l, x.bytes.length < 1000000) (h0 : ¬ (evsErr s l).2 = 0) : Fn 15 [.str s, .fs (l.map Wr.enc)] (.tup [.str (written s l).1, i (written s l).2]) := by
  refine run_walkF eok Tryd.func15 rfl (by kernel_rfl) ?_
  conv => whnf
  repeat' (first
    | ((with_reducible refine on_ndec_t (by assumption) ?_); conv => whnf)
    | ((with_reducible refine on_dec_f ?_ ?_); (focus ((try simp only [List.length_map, List.length_cons, List.length_nil, List.length_append]); omega)); conv => whnf)
    | ((with_reducible refine on_dec_t ?_ ?_); (focus ((try simp only [List.length_map, List.length_cons, List.length_nil, List.length_append]); omega)); conv => whnf)
    | ((with_reducible refine on_dec (fun h => ?_) (fun h => ?_)) <;> (try simp only [List.length_map] at h) <;> conv => whnf)
    | ((with_reducible refine on_ndec (fun h => ?_) (fun h => ?_)) <;> (try simp only [List.length_map] at h) <;> conv => whnf)
    | ((with_reducible refine on_not (fun h => ?_) (fun h => ?_)) <;> conv => whnf)
    | ((with_reducible refine onBool_split (fun h => ?_) (fun h => ?_)) <;> conv => whnf)
    | ((with_reducible refine call_go ?_); (first | refine call_step (run_view (c13 s l hs hl hb) rfl rfl) ?_ | refine call_step (run_new (c64 s hs) (fun _ => rfl) rfl) ?_ | refine call_step (run_mut0 (c65 (wrS s l k) (l[k]'(by omega)) (by rw [wrS_len hi]; exact hi _ (List.getElem_mem _)) (hb _ (List.getElem_mem _)) (by rw [wrS_len hi]; omega)) (fun _ => rfl) rfl rfl (fun _ h => by cases h) rfl) ?_ | refine call_step (run_view (c66q (wrS s l k) (wrS_ok hi k).2.1 (by rw [wrS_len hi]; omega)) rfl (vlc (view_map rfl Nat.two_pos) vln)) ?_); conv => whnf)
    | (refine ⟨⟨(by first | rfl | (simp; done)), cap_ok (by simp only [List.length_map, List.length_cons, List.length_nil, List.length_append]; omega) rfl⟩, ?_⟩; conv => whnf)
    | (refine ⟨mem_one ⟨rfl, rfl⟩, ?_⟩; conv => whnf)
    | (refine ⟨(by intro y hy; obtain ⟨x, _, rfl⟩ := List.mem_map.1 hy; first | rfl | exact ⟨rfl, rfl⟩), ?_⟩; conv => whnf)
    | (refine ⟨cap_ok (by first | omega | (simp only [List.length_map]; omega)) rfl, ?_⟩; conv => whnf)
    | (refine ix_map (by omega) ?_; conv => whnf)
    | (refine ix_str (by omega) ?_; conv => whnf)
    | (refine wrap64 (by omega) ?_; conv => whnf)
    | (exact absurd (by assumption) h0)
    | (exfalso; simp only [List.length_map, List.length_cons, List.length_nil, List.length_append] at h; omega)
    | ((with_reducible refine endx_go ?_); first | (refine endx2 ?_; rw [written_err h0]; done))
    | (refine ⟨rfl, ?_⟩; conv => whnf)
    | fail
    )

theorem c15 (s : Bs) (l : List Wr) (hs : s.length < 1000000) (hl : l.length < 1000000) (hb : ∀ x ∈ l, x.bytes.length < 1000000) : Fn 15 [.str s, .fs (l.map Wr.enc)] (.tup [.str (written s l).1, i (written s l).2]) := by
  by_cases h0 : (evsErr s l).2 = 0
  · exact c15m s l hs hl hb h0
  · exact c15e s l hs hl hb h0
def idxS : List Bs → Bs → Nat → Int
  | [], _, _ => -1
  | x :: l, v, k => if v = x then (k : Int) else idxS l v (k + 1)
theorem idxS_drop {l : List Bs} {v : Bs} {k : Nat} (h : k < l.length) : idxS (l.drop k) v k = if v = l[k] then (k : Int) else idxS (l.drop (k + 1)) v (k + 1) := by
  rw [List.drop_eq_getElem_cons h]; rfl
theorem idxS_end {l : List Bs} {v : Bs} {k : Nat} (h : l.length ≤ k) : idxS (l.drop k) v k = -1 := by
  rw [List.drop_eq_nil_of_le h]; rfl
theorem idxS_in : ∀ (l : List Bs) (v : Bs) (k : Nat), decide (0 ≤ idxS l v k) = l.any (fun x => decide (v = x))
  | [], v, k => rfl
  | x :: l, v, k => by
    by_cases h : v = x
    · rw [show idxS (x :: l) v k = k from if_pos h, List.any_cons]; simp [h]
    · rw [show idxS (x :: l) v k = idxS l v (k + 1) from if_neg h, idxS_in l v (k + 1), List.any_cons]; simp [h]

theorem c91 (l : List Bs) (v : Bs) (hl : l.length < 1000000) : Fn 91 [.fs (l.map D.str), .str v] (i (idxS l v 0)) := by
  refine run_walkF eok Tryd.func91 rfl (by kernel_rfl) ?_
  conv => whnf
  repeat' (first
    | ((with_reducible refine on_dec_f ?_ ?_); (focus ((try simp only [List.length_map, List.length_cons, List.length_nil, List.length_append]); omega)); conv => whnf)
    | ((with_reducible refine on_dec_t ?_ ?_); (focus ((try simp only [List.length_map, List.length_cons, List.length_nil, List.length_append]); omega)); conv => whnf)
    | ((with_reducible refine on_dec (fun h => ?_) (fun h => ?_)) <;> (try simp only [List.length_map] at h) <;> conv => whnf)
    | ((with_reducible refine on_ndec (fun h => ?_) (fun h => ?_)) <;> (try simp only [List.length_map] at h) <;> conv => whnf)
    | ((with_reducible refine on_not (fun h => ?_) (fun h => ?_)) <;> conv => whnf)
    | ((with_reducible refine onBool_split (fun h => ?_) (fun h => ?_)) <;> conv => whnf)
    | ((with_reducible refine loop_go ?_); first | (refine loop1 (fun (k : Nat) => l.length - k) (fun (k : Nat) => k ≤ l.length ∧ idxS l v 0 = idxS (l.drop k) v k) (fun (k : Nat) => [(0, .d (.fs (l.map D.str))), (1, .d (.str v)), (7, .d (i l.length)), (8, .d (i k))]) (fun (k : Nat) => []) (0) (by first | (simp; done) | (constructor <;> simp; done) | omega) ?_ (fun k C hI hC => ?_); (exact ⟨[], rfl, rfl, ⟨(by first | (show (_ : D) = _; with_reducible rfl) | exact rfl), (by first | (show (_ : D) = _; with_reducible rfl) | exact rfl), (by first | (show (_ : D) = _; with_reducible rfl) | exact congrArg (D.int .i64) (by omega) | exact congrArg (D.int .i64) (by simp only [List.length_map]) | exact rfl), (by first | (show (_ : D) = _; with_reducible rfl) | exact congrArg (D.int .i64) (by omega) | exact congrArg (D.int .i64) (by simp only [List.length_map]) | exact rfl), trivial⟩, trivial⟩); all_goals (conv => whnf)))
    | ((with_reducible show C _ _); first | (refine hC (k + 1) _ _ ?_ (by omega) ?_; clear hC; rotate_left; (exact ⟨[], rfl, rfl, ⟨(by first | (show (_ : D) = _; with_reducible rfl) | exact rfl), (by first | (show (_ : D) = _; with_reducible rfl) | exact rfl), (by first | (show (_ : D) = _; with_reducible rfl) | exact congrArg (D.int .i64) (by omega) | exact congrArg (D.int .i64) (by simp only [List.length_map]) | exact rfl), (by first | (show (_ : D) = _; with_reducible rfl) | exact congrArg (D.int .i64) (by omega) | exact congrArg (D.int .i64) (by simp only [List.length_map]) | exact rfl), trivial⟩, trivial⟩); (exact ⟨by omega, by rw [hI.2, idxS_drop (by omega), if_neg h]⟩)))
    | (refine ⟨⟨(by first | rfl | (simp; done)), cap_ok (by simp only [List.length_map, List.length_cons, List.length_nil, List.length_append]; omega) rfl⟩, ?_⟩; conv => whnf)
    | (refine ⟨mem_one ⟨rfl, rfl⟩, ?_⟩; conv => whnf)
    | (refine ⟨(by intro y hy; obtain ⟨x, _, rfl⟩ := List.mem_map.1 hy; first | rfl | exact ⟨rfl, rfl⟩), ?_⟩; conv => whnf)
    | (refine ⟨cap_ok (by first | omega | (simp only [List.length_map]; omega)) rfl, ?_⟩; conv => whnf)
    | (refine ix_map (by omega) ?_; conv => whnf)
    | (refine ix_str (by omega) ?_; conv => whnf)
    | (refine wrap64 (by omega) ?_; conv => whnf)
    | (refine wrap64 (by omega) ?_; conv => whnf)
    | (exfalso; simp only [List.length_map, List.length_cons, List.length_nil, List.length_append] at h; omega)
    | ((with_reducible refine endx_go ?_); first | (exact endx (congrArg i (by rw [hI.2, idxS_drop (by omega), if_pos h])); done) | (exact endx (congrArg i (by rw [hI.2, idxS_end (by omega)])); done))
    | (refine ⟨rfl, ?_⟩; conv => whnf)
    | fail
    )

theorem c71 (l : List Bs) (v : Bs) (hl : l.length < 1000000) : Fn 71 [.fs (l.map D.str), .str v] (.bool (l.any (fun x => decide (v = x)))) := by
  refine run_walkF eok Tryd.func71 rfl (by kernel_rfl) ?_
  conv => whnf
  repeat' (first
    | ((with_reducible refine on_dec_f ?_ ?_); (focus ((try simp only [List.length_map, List.length_cons, List.length_nil, List.length_append]); omega)); conv => whnf)
    | ((with_reducible refine on_dec_t ?_ ?_); (focus ((try simp only [List.length_map, List.length_cons, List.length_nil, List.length_append]); omega)); conv => whnf)
    | ((with_reducible refine on_dec (fun h => ?_) (fun h => ?_)) <;> (try simp only [List.length_map] at h) <;> conv => whnf)
    | ((with_reducible refine on_ndec (fun h => ?_) (fun h => ?_)) <;> (try simp only [List.length_map] at h) <;> conv => whnf)
    | ((with_reducible refine on_not (fun h => ?_) (fun h => ?_)) <;> conv => whnf)
    | ((with_reducible refine onBool_split (fun h => ?_) (fun h => ?_)) <;> conv => whnf)
    | ((with_reducible refine call_go ?_); (first | refine call_step (run_view (c91 l v hl) rfl rfl) ?_); conv => whnf)
    | (refine ⟨⟨(by first | rfl | (simp; done)), cap_ok (by simp only [List.length_map, List.length_cons, List.length_nil, List.length_append]; omega) rfl⟩, ?_⟩; conv => whnf)
    | (refine ⟨mem_one ⟨rfl, rfl⟩, ?_⟩; conv => whnf)
    | (refine ⟨(by intro y hy; obtain ⟨x, _, rfl⟩ := List.mem_map.1 hy; first | rfl | exact ⟨rfl, rfl⟩), ?_⟩; conv => whnf)
    | (refine ⟨cap_ok (by first | omega | (simp only [List.length_map]; omega)) rfl, ?_⟩; conv => whnf)
    | (refine ix_map (by omega) ?_; conv => whnf)
    | (refine ix_str (by omega) ?_; conv => whnf)
    | (refine wrap64 (by omega) ?_; conv => whnf)
    | (exfalso; simp only [List.length_map, List.length_cons, List.length_nil, List.length_append] at h; omega)
    | ((with_reducible refine endx_go ?_); first | (exact endx (congrArg D.bool (idxS_in l v 0)); done))
    | (refine ⟨rfl, ?_⟩; conv => whnf)
    | fail
    )

/-- What a failing disk looks like. -/
def flD (st : List Bs) (lo : List Lo) (l : List Wr) : D := .agg [.fs (st.map D.str), .fs (lo.map Lo.enc), .fs (l.map Wr.enc)]

theorem c70 (st : List Bs) (lo : List Lo) (l : List Wr) (x : Lo) (n : Nat) (hx : LoOk l n x) (hb : ∀ x ∈ l, x.bytes.length < 1000000) (ha : (l[x.ev.toNat]'hx.evn).at_ ≥ 0) (hn : x.sec < 1000000) : Fn 70 [.fp (flD st lo l) 0, x.enc] (.str (gotS l x)) := by
  have h0 := hx.at0 _ (List.getElem?_eq_getElem hx.evn); have hs0 := hx.sec0; have hev := hx.ev0; have hevn := hx.evn
  refine run_walkF eok Tryd.func70 rfl (by kernel_rfl) ?_
  conv => whnf
  repeat' (first
    | ((with_reducible refine on_dec_f ?_ ?_); (focus ((try simp only [List.length_map, List.length_cons, List.length_nil, List.length_append]); omega)); conv => whnf)
    | ((with_reducible refine on_dec_t ?_ ?_); (focus ((try simp only [List.length_map, List.length_cons, List.length_nil, List.length_append]); omega)); conv => whnf)
    | ((with_reducible refine on_dec (fun h => ?_) (fun h => ?_)) <;> (try simp only [List.length_map] at h) <;> conv => whnf)
    | ((with_reducible refine on_ndec (fun h => ?_) (fun h => ?_)) <;> (try simp only [List.length_map] at h) <;> conv => whnf)
    | ((with_reducible refine on_not (fun h => ?_) (fun h => ?_)) <;> conv => whnf)
    | ((with_reducible refine onBool_split (fun h => ?_) (fun h => ?_)) <;> conv => whnf)
    | ((with_reducible refine call_go ?_); (first | refine call_step (run_view (c77q (l[x.ev.toNat]'hx.evn).bytes _ (x.sec - (l[x.ev.toNat]'hx.evn).at_).toNat (by omega) (by omega) (hb _ (List.getElem_mem _))) rfl rfl) ?_); conv => whnf)
    | (refine ⟨[], [], (by decide +kernel), ?_⟩; conv => whnf)
    | (refine ⟨⟨(by first | rfl | (simp; done)), cap_ok (by simp only [List.length_map, List.length_cons, List.length_nil, List.length_append]; omega) rfl⟩, ?_⟩; conv => whnf)
    | (refine ⟨mem_one ⟨rfl, rfl⟩, ?_⟩; conv => whnf)
    | (refine ⟨(by intro y hy; obtain ⟨x, _, rfl⟩ := List.mem_map.1 hy; first | rfl | exact ⟨rfl, rfl⟩), ?_⟩; conv => whnf)
    | (refine ⟨cap_ok (by first | omega | (simp only [List.length_map]; omega)) rfl, ?_⟩; conv => whnf)
    | (refine ix_map (by omega) ?_; conv => whnf)
    | (refine ix_str (by omega) ?_; conv => whnf)
    | (refine wrap64 (by omega) ?_; conv => whnf)
    | (refine ix_at x.ev.toNat (by omega) hx.evn ?_; conv => whnf)
    | (refine wrap64 (by omega) ?_; conv => whnf)
    | (exfalso; simp only [List.length_map, List.length_cons, List.length_nil, List.length_append] at h; omega)
    | ((with_reducible refine endx_go ?_); first | (exact endx (congrArg D.str (by simp only [gotS, List.getElem?_eq_getElem hx.evn])); done))
    | (refine ⟨rfl, ?_⟩; conv => whnf)
    | fail
    )

end Go.Proofs.YtpblmdolgocpaaaDoor

/-! Wi -/
namespace Go.Proofs.YtpblmdolgocpaaaDoor
open Go Dw
set_option maxRecDepth 10000
set_option linter.unusedVariables false
set_option linter.unusedSimpArgs false
attribute [local irreducible] Run
set_option maxHeartbeats 4000000

attribute [local irreducible] sec stK put patch wrote pat wr

theorem settled_stop {l : List Wr} {b : Nat} (h : b ≤ l.length) (c : b = 0 ∨ ∃ hb : b - 1 < l.length, (l[b - 1]).bytes = []) : settled l b = b := by
  cases b with
  | zero => rfl
  | succ b =>
    rcases c with c | ⟨hb, c⟩
    · omega
    · rw [settled_at (by omega)]
      simp only [Nat.add_sub_cancel] at c
      rw [if_pos c]
theorem settled_go {l : List Wr} {b : Nat} (h : 0 < b) (hb : b - 1 < l.length) (c : ¬ (l[b - 1]).bytes = []) : settled l b = settled l (b - 1) := by
  cases b with
  | zero => omega
  | succ b =>
    rw [settled_at (by omega)]
    simp only [Nat.add_sub_cancel] at c ⊢
    rw [if_neg c]
theorem loK_pre {l : List Wr} {a b : Nat} (h : b ≤ a) : loK l a b = [] := by
  have : b - a = 0 := by omega
  simp [loK, this]
def flO (st : List Bs) (lo : List Lo) (l : List Wr) (a b : Nat) : AO := ⟨[.agg [.sl a 0 st.length 1 none, .sl b 0 lo.length 2 none, .d (.fs (l.map Wr.enc))]], 3, 0⟩
theorem wrS_min {s : Bs} {l : List Wr} {k t : Nat} (h : k < t) (hk : k < l.length) : wrS s l (min (k + 1) t) = wr (wrS s l (min k t)) l[k] := by
  rw [show min (k + 1) t = k + 1 by omega, show min k t = k by omega, wrS_succ hk]
attribute [local irreducible] loK settled wrS

theorem c69m (s : Bs) (l : List Wr) (r : Int) (hsm : smallB s l = true) (hr : reachErr s l r = 0) : Run Tryd.prog 69 [.d (.str s), .d (.fs (l.map Wr.enc)), .d (i r)] [] (.tup [.ptr 0 0 0, .d (i 0)]) [flO (wrS s l (settled l r.toNat)) (loose l r.toNat) l 1 2, ⟨((wrS s l (settled l r.toNat)).map D.str).map .d, 1, 0⟩, ⟨((loose l r.toNat).map Lo.enc).map .d, 2, 0⟩] := by
  have hro := reachErr_ok hr; have hE := ev_of hsm hro.1; have hi := hE.hi; have hss := hE.hs; have hll := hE.hl; have hset := settled_le l r.toNat; have hb6 : ∀ x ∈ l, x.bytes.length < 1000000 := fun x hx => (by have := hE.hb x hx; omega); have hw : within r 0 l.length = true := (by simp only [within, Bool.and_eq_true, decide_eq_true_eq]; exact ⟨hro.2.1, hro.2.2⟩); have hevs := hro.1; have hw2 : within r 0 ((l.map Wr.enc).length : Int) = true := (by rw [List.length_map]; exact hw); have loK_bd2 := fun (k : Nat) (h : k ≤ l.length) => (Nat.le_trans (loK_bd hE.hb (a := settled l r.toNat) k h) (by omega : 12 * k ≤ 240)); have htl : (l.take r.toNat).length = r.toNat := (by rw [List.length_take]; omega)
  refine run_walkV eok Tryd.func69 rfl (by kernel_rfl) [] (by rfl) [] ?_
  conv => whnf
  repeat' (first
    | ((with_reducible refine on_ndec_t (by assumption) ?_); conv => whnf)
    | ((with_reducible refine on_nt (by assumption) ?_); conv => whnf)
    | ((with_reducible refine onBool_f (by assumption) ?_); conv => whnf)
    | ((with_reducible refine on_dec_f ?_ ?_); (focus ((try simp only [List.length_map, List.length_cons, List.length_nil, List.length_append]); omega)); conv => whnf)
    | ((with_reducible refine on_dec_t ?_ ?_); (focus ((try simp only [List.length_map, List.length_cons, List.length_nil, List.length_append]); omega)); conv => whnf)
    | ((with_reducible refine on_dec (fun h => ?_) (fun h => ?_)) <;> (try simp only [List.length_map] at h) <;> conv => whnf)
    | ((with_reducible refine on_ndec (fun h => ?_) (fun h => ?_)) <;> (try simp only [List.length_map] at h) <;> conv => whnf)
    | ((with_reducible refine on_not (fun h => ?_) (fun h => ?_)) <;> conv => whnf)
    | ((with_reducible refine onBool_split (fun h => ?_) (fun h => ?_)) <;> conv => whnf)
    | ((with_reducible refine call_go ?_); (first | refine call_step (run_view (c13 s l (by omega) (by omega) hb6) rfl rfl) ?_ | refine call_step (run_view (c85 _ _ _) rfl rfl) ?_ | refine call_step (run_new (c64 s (by omega)) (fun _ => rfl) rfl) ?_ | refine call_step (run_view (c62 _) rfl rfl) ?_ | refine call_step (run_mut0 (c65 (wrS s l (min k (settled l r.toNat))) ((l.take r.toNat)[k]'(by omega)) (by rw [wrS_len hi]; exact hi _ (List.mem_of_mem_take (List.getElem_mem _))) (hb6 _ (List.mem_of_mem_take (List.getElem_mem _))) (by rw [wrS_len hi]; omega)) (fun _ => rfl) rfl rfl (fun _ h => by cases h) rfl) ?_ | refine call_step (run_view (c63 _ (hb6 _ (List.mem_of_mem_take (List.getElem_mem _)))) rfl rfl) ?_); conv => whnf)
    | (refine ⟨[], [], (by decide +kernel), ?_⟩; conv => whnf)
    | (refine ⟨[], [(4, 11)], (by decide +kernel), ?_⟩; conv => whnf)
    | ((with_reducible refine loop_go ?_); first | (refine loop1 (fun (b : Nat) => b) (fun (b : Nat) => b ≤ r.toNat ∧ settled l r.toNat = settled l b) (fun (b : Nat) => [(1, .d (.fs (l.map Wr.enc))), (2, .d (i r)), (10, .ptr 1 0 0), (11, .d (i b))]) (fun (b : Nat) => [⟨((stOf s).map D.str).map .d, 1, 0⟩, ⟨[.agg [.sl 0 0 (stOf s).length 1 none, .nilS, .d (.fs (l.map Wr.enc))]], 3, 0⟩]) (r.toNat) (by exact ⟨Nat.le_refl _, rfl⟩) ?_ (fun b C0 hI0 hC0 => ?_); (exact ⟨[.old 0, .old 1], rfl, rfl, ⟨rfl, rfl, ⟨rfl, rfl, rfl⟩, (congrArg (D.int .i64) (by omega)), trivial⟩, ⟨⟨rfl, rfl, .inl ⟨_, rfl, rfl⟩⟩, ⟨rfl, rfl, .inr ⟨⟨⟨rfl, rfl, rfl, rfl, rfl⟩, trivial, rfl, trivial⟩, trivial⟩⟩, trivial⟩⟩); all_goals (conv => whnf)) | (refine loop1 (fun (k : Nat) => r.toNat - k) (fun (k : Nat) => k ≤ r.toNat) (fun (k : Nat) => [(10, .ptr 1 0 0), (11, .d (i (settled l r.toNat))), (50, .d (.fs ((l.take r.toNat).map Wr.enc))), (51, .d (i (l.take r.toNat).length)), (52, .d (i k))]) (fun (k : Nat) => [⟨((wrS s l (min k (settled l r.toNat))).map D.str).map .d, 1, 0⟩, ⟨[.agg [.sl 0 0 (wrS s l (min k (settled l r.toNat))).length 1 none, .sl 2 0 (loK l (settled l r.toNat) k).length 2 none, .d (.fs (l.map Wr.enc))]], 3, 0⟩, ⟨((loK l (settled l r.toNat) k).map Lo.enc).map .d, 2, 0⟩]) (0) (by exact Nat.zero_le _) ?_ (fun k C hI hC => ?_); (exact ⟨[.old 0, .old 1, .void 2], rfl, rfl, ⟨⟨rfl, rfl, rfl⟩, (congrArg (D.int .i64) (congrArg Int.ofNat ((hI0.2.trans (settled_stop (by omega) (by first | exact .inl (by omega) | exact .inr ⟨by omega, by assumption⟩))).symm))), rfl, (congrArg (D.int .i64) (by (rw [List.length_map]) <;> rfl)), rfl, trivial⟩, ⟨⟨rfl, rfl, .inl ⟨_, rfl, (by rw [show min 0 (settled l r.toNat) = 0 by omega, wrS_zero])⟩⟩, ⟨rfl, rfl, .inr ⟨⟨⟨rfl, rfl, (by rw [show min 0 (settled l r.toNat) = 0 by omega, wrS_zero]), rfl, rfl⟩, ⟨rfl, rfl, (by rw [loK_pre (by omega)]; rfl), rfl⟩, rfl, trivial⟩, trivial⟩⟩, ⟨(by rw [loK_pre (by omega)]; rfl), rfl, (by decide), rfl⟩, trivial⟩⟩); have hgt : ∀ (h : k < (l.take r.toNat).length), (l.take r.toNat)[k] = l[k]'(by omega) := fun h => List.getElem_take; have hmin : (settled l r.toNat) ≤ k → wrS s l (min (k + 1) (settled l r.toNat)) = wrS s l (min k (settled l r.toNat)) := fun h => (by rw [show min (k + 1) (settled l r.toNat) = (settled l r.toNat) by omega, show min k (settled l r.toNat) = (settled l r.toNat) by omega]); all_goals (conv => whnf)) | (refine loop1 (fun (j : Nat) => ((l.take r.toNat)[k]'(by omega)).bytes.length / 64 - j) (fun (j : Nat) => j ≤ ((l.take r.toNat)[k]'(by omega)).bytes.length / 64) (fun (j : Nat) => [(10, .ptr 1 0 0), (11, .d (i (settled l r.toNat))), (12, .d (i k)), (13, .ptr 3 0 0), (50, .d (.fs ((l.take r.toNat).map Wr.enc))), (51, .d (i (l.take r.toNat).length)), (52, .d (i k)), (68, .d (i (sc ((l.take r.toNat)[k]'(by omega)).bytes))), (69, .d (i j))]) (fun (j : Nat) => [⟨((wrS s l (min k (settled l r.toNat))).map D.str).map .d, 1, 0⟩, ⟨[.agg [.sl 0 0 (wrS s l (min k (settled l r.toNat))).length 1 none, .sl 2 0 ((loK l (settled l r.toNat) k) ++ lo1 k ((l.take r.toNat)[k]'(by omega)) j).length 2 none, .d (.fs (l.map Wr.enc))]], 3, 0⟩, ⟨(((loK l (settled l r.toNat) k) ++ lo1 k ((l.take r.toNat)[k]'(by omega)) j).map Lo.enc).map .d, 2, 0⟩, ⟨[.d (Wr.enc ((l.take r.toNat)[k]'(by omega)))], 2, 0⟩]) (0) (by exact Nat.zero_le _) ?_ (fun j C2 hI2 hC2 => ?_); (exact ⟨[.old 0, .old 1, .old 2, .old 3], rfl, rfl, ⟨⟨rfl, rfl, rfl⟩, rfl, rfl, ⟨rfl, rfl, rfl⟩, rfl, rfl, rfl, rfl, rfl, trivial⟩, ⟨⟨rfl, rfl, .inl ⟨_, rfl, rfl⟩⟩, ⟨rfl, rfl, .inr ⟨⟨⟨rfl, rfl, rfl, rfl, rfl⟩, ⟨rfl, rfl, (by rw [lo1_zero, List.append_nil]), rfl, rfl⟩, rfl, trivial⟩, trivial⟩⟩, ⟨rfl, rfl, .inl ⟨_, rfl, (by rw [lo1_zero, List.append_nil])⟩⟩, ⟨rfl, rfl, .inl ⟨[_], rfl, rfl⟩⟩, trivial⟩⟩); have hek := hgt (by omega); have hln : (loK l (settled l r.toNat) k).length ≤ 240 := loK_bd2 k (by omega); have hle : j = ((l.take r.toNat)[k]'(by omega)).bytes.length / 64 → k < l.length → ((loK l (settled l r.toNat) k) ++ lo1 k ((l.take r.toNat)[k]'(by omega)) j) = loK l (settled l r.toNat) (k + 1) := fun hj hk => (by rw [hj, hek]; exact loK_end (by omega) hk rfl); have hsk : sc ((l.take r.toNat)[k]'(by omega)).bytes = ((((l.take r.toNat)[k]'(by omega)).bytes.length / 64 : Nat) : Int) := rfl; have hbk := hE.hb _ (List.getElem_mem (l := l) (n := k) (by omega)); have hak := hE.at_ _ (List.getElem_mem (l := l) (n := k) (by omega)); rw [← hek] at hbk hak; all_goals (conv => whnf)))
    | ((with_reducible show C _ _); first | (refine hC (k + 1) _ _ ?_ (by omega) ?_; clear hC; rotate_left; (exact ⟨[.old 0, .old 1, .old 2], rfl, rfl, ⟨⟨rfl, rfl, rfl⟩, (by first | (show (_ : D) = _; with_reducible rfl) | exact congrArg (D.int .i64) (by omega) | exact congrArg (D.int .i64) (by simp only [List.length_map]) | exact rfl), (by first | (show (_ : D) = _; with_reducible rfl) | exact rfl), (by first | (show (_ : D) = _; with_reducible rfl) | exact congrArg (D.int .i64) (by omega) | exact congrArg (D.int .i64) (by simp only [List.length_map]) | exact rfl), (by first | (show (_ : D) = _; with_reducible rfl) | exact congrArg (D.int .i64) (by omega) | exact congrArg (D.int .i64) (by simp only [List.length_map]) | exact rfl), trivial⟩, ⟨⟨rfl, rfl, .inl ⟨_, rfl, (by rw [wrS_min (by omega) (by omega), hgt (by omega)])⟩⟩, ⟨rfl, rfl, .inr ⟨⟨⟨rfl, rfl, (by rw [wrS_len hi, wrS_len hi]), rfl, rfl⟩, ⟨rfl, rfl, (by rw [loK_pre (by omega), loK_pre (by omega)]), rfl, rfl⟩, rfl, trivial⟩, trivial⟩⟩, ⟨rfl, rfl, .inl ⟨_, rfl, (by rw [loK_pre (by omega), loK_pre (by omega)])⟩⟩, trivial⟩⟩); (exact (by omega : k + 1 ≤ r.toNat))) | (refine hC (k + 1) _ _ ?_ (by omega) ?_; clear hC; rotate_left; (exact ⟨[.old 0, .old 1, .old 2], rfl, rfl, ⟨⟨rfl, rfl, rfl⟩, (by first | (show (_ : D) = _; with_reducible rfl) | exact congrArg (D.int .i64) (by omega) | exact congrArg (D.int .i64) (by simp only [List.length_map]) | exact rfl), (by first | (show (_ : D) = _; with_reducible rfl) | exact rfl), (by first | (show (_ : D) = _; with_reducible rfl) | exact congrArg (D.int .i64) (by omega) | exact congrArg (D.int .i64) (by simp only [List.length_map]) | exact rfl), (by first | (show (_ : D) = _; with_reducible rfl) | exact congrArg (D.int .i64) (by omega) | exact congrArg (D.int .i64) (by simp only [List.length_map]) | exact rfl), trivial⟩, ⟨⟨rfl, rfl, .inl ⟨_, rfl, (by rw [hmin (by omega)])⟩⟩, ⟨rfl, rfl, .inr ⟨⟨⟨rfl, rfl, (by rw [wrS_len hi, wrS_len hi]), rfl, rfl⟩, ⟨rfl, rfl, (by rw [hle (by omega) (by omega)]), rfl, rfl⟩, rfl, trivial⟩, trivial⟩⟩, ⟨rfl, rfl, .inl ⟨_, rfl, (by rw [hle (by omega) (by omega)])⟩⟩, trivial⟩⟩); (exact (by omega : k + 1 ≤ r.toNat))))
    | ((with_reducible show C0 _ _); first | (refine hC0 (b - 1) _ _ ?_ (by omega) ?_; clear hC0; rotate_left; (exact ⟨[.old 0, .old 1], rfl, rfl, ⟨(by first | (show (_ : D) = _; with_reducible rfl) | exact rfl), (by first | (show (_ : D) = _; with_reducible rfl) | exact congrArg (D.int .i64) (by omega) | exact congrArg (D.int .i64) (by simp only [List.length_map]) | exact rfl), ⟨rfl, rfl, rfl⟩, (by first | (show (_ : D) = _; with_reducible rfl) | exact congrArg (D.int .i64) (by omega) | exact congrArg (D.int .i64) (by simp only [List.length_map]) | exact rfl), trivial⟩, ⟨⟨rfl, rfl, .inl ⟨_, rfl, rfl⟩⟩, ⟨rfl, rfl, .inr ⟨⟨⟨rfl, rfl, rfl, rfl, rfl⟩, trivial, rfl, trivial⟩, trivial⟩⟩, trivial⟩⟩); (exact ⟨by omega, by rw [hI0.2]; exact settled_go (by omega) (by omega) (by assumption)⟩)))
    | ((with_reducible show C2 _ _); first | (refine hC2 (j + 1) _ _ ?_ (by omega) ?_; clear hC2; rotate_left; (exact ⟨[.old 0, .old 1, .old 5, .old 3], rfl, rfl, ⟨⟨rfl, rfl, rfl⟩, (by first | (show (_ : D) = _; with_reducible rfl) | exact congrArg (D.int .i64) (by omega) | exact congrArg (D.int .i64) (by simp only [List.length_map]) | exact rfl), (by first | (show (_ : D) = _; with_reducible rfl) | exact congrArg (D.int .i64) (by omega) | exact congrArg (D.int .i64) (by simp only [List.length_map]) | exact rfl), ⟨rfl, rfl, rfl⟩, (by first | (show (_ : D) = _; with_reducible rfl) | exact rfl), (by first | (show (_ : D) = _; with_reducible rfl) | exact congrArg (D.int .i64) (by omega) | exact congrArg (D.int .i64) (by simp only [List.length_map]) | exact rfl), (by first | (show (_ : D) = _; with_reducible rfl) | exact congrArg (D.int .i64) (by omega) | exact congrArg (D.int .i64) (by simp only [List.length_map]) | exact rfl), (by first | (show (_ : D) = _; with_reducible rfl) | exact congrArg (D.int .i64) (by omega) | exact congrArg (D.int .i64) (by simp only [List.length_map]) | exact rfl), (by first | (show (_ : D) = _; with_reducible rfl) | exact congrArg (D.int .i64) (by omega) | exact congrArg (D.int .i64) (by simp only [List.length_map]) | exact rfl), trivial⟩, ⟨⟨rfl, rfl, .inl ⟨_, rfl, rfl⟩⟩, ⟨rfl, rfl, .inr ⟨⟨⟨rfl, rfl, rfl, rfl, rfl⟩, ⟨rfl, rfl, (by simp only [List.length_append, lo1_len, List.length_cons, List.length_nil]; omega), rfl, rfl⟩, rfl, trivial⟩, trivial⟩⟩, ⟨rfl, rfl, .inr (by rw [lo1_succ, ← List.append_assoc]; exact wks_add (wksd _ _) ⟨rfl, rfl, rfl, trivial⟩)⟩, ⟨rfl, rfl, .inl ⟨[_], rfl, rfl⟩⟩, trivial⟩⟩); (exact (by omega : j + 1 ≤ ((l.take r.toNat)[k]'(by omega)).bytes.length / 64))))
    | (refine ⟨⟨(by first | rfl | (simp; done)), cap_ok (by simp only [List.length_map, List.length_cons, List.length_nil, List.length_append]; omega) rfl⟩, ?_⟩; conv => whnf)
    | (refine ⟨mem_one ⟨rfl, rfl⟩, ?_⟩; conv => whnf)
    | (refine ⟨(by intro y hy; obtain ⟨x, _, rfl⟩ := List.mem_map.1 hy; first | rfl | exact ⟨rfl, rfl⟩), ?_⟩; conv => whnf)
    | (refine ⟨cap_ok (by first | omega | (simp only [List.length_map]; omega)) rfl, ?_⟩; conv => whnf)
    | (refine ix_map (by omega) ?_; conv => whnf)
    | (refine ix_str (by omega) ?_; conv => whnf)
    | (refine wrap64 (by omega) ?_; conv => whnf)
    | ((with_reducible refine on_nt (by assumption) ?_); conv => whnf)
    | (refine sl_map (f := Wr.enc) (l := l) 0 r.toNat (by omega) (by omega) (by omega) (fun x => rfl) ?_; conv => whnf)
    | (refine ix_at (b - 1) (by omega) (by omega) ?_; conv => whnf)
    | (refine ⟨⟨by omega, by omega⟩, ?_⟩; conv => whnf)
    | (refine ⟨Nat.le_refl _, ?_⟩; conv => whnf)
    | (refine ⟨⟨(by simp only [List.length_map, List.length_append]; omega), cap_ok (by have hl1 := lo1_len k ((l.take r.toNat)[k]'(by omega)) j; simp only [List.length_map, List.length_cons, List.length_nil, List.length_append]; omega) rfl⟩, ?_⟩; conv => whnf)
    | (refine ⟨cap_ok (by have hl1 := lo1_len k ((l.take r.toNat)[k]'(by omega)) j; simp only [List.length_map, List.length_cons, List.length_nil, List.length_append]; omega) rfl, ?_⟩; conv => whnf)
    | (refine wrap64 (by omega) ?_; conv => whnf)
    | (exfalso; simp only [List.length_map, List.length_cons, List.length_nil, List.length_append] at h; omega)
    | ((with_reducible refine endx_go ?_); first | (have hk : k = r.toNat := (by omega); subst hk; have hm : min r.toNat (settled l r.toNat) = (settled l r.toNat) := (by omega); rw [hm]; refine endX_of (.inl ⟨[.old 1, .old 0, .old 2], rfl, rfl, ⟨⟨⟨rfl, rfl, rfl⟩, rfl, trivial⟩, trivial⟩, ⟨⟨rfl, rfl, .inr ⟨⟨⟨rfl, rfl, rfl, rfl, rfl⟩, ⟨rfl, rfl, rfl, rfl, rfl⟩, rfl, trivial⟩, trivial⟩⟩, ⟨rfl, rfl, .inl ⟨_, rfl, rfl⟩⟩, ⟨rfl, rfl, .inl ⟨_, rfl, rfl⟩⟩, trivial⟩⟩); done))
    | (refine ⟨rfl, ?_⟩; conv => whnf)
    | fail
    )

end Go.Proofs.YtpblmdolgocpaaaDoor

/-! Wj -/
namespace Go.Proofs.YtpblmdolgocpaaaDoor
open Go Dw
set_option maxRecDepth 10000
set_option linter.unusedVariables false
set_option linter.unusedSimpArgs false
attribute [local irreducible] Run
set_option maxHeartbeats 4000000

attribute [local irreducible] sec stK put patch wrote pat wr

theorem c69a (s : Bs) (l : List Wr) (r : Int) (hsm : smallB s l = true) (h0 : ¬ (evsErr s l).2 = 0) : Run Tryd.prog 69 [.d (.str s), .d (.fs (l.map Wr.enc)), .d (i r)] [] (.tup [.raw (.pointer none), .d (i (reachErr s l r))]) [] := by
  obtain ⟨hs1, hs2, hs3⟩ := smallB_ok hsm; have hb6 : ∀ x ∈ l, x.bytes.length < 1000000 := fun x hx => (by have := hs3 x hx; omega)
  refine run_walkV eok Tryd.func69 rfl (by kernel_rfl) [] (by rfl) [] ?_
  conv => whnf
  repeat' (first
    | ((with_reducible refine on_ndec_t (by assumption) ?_); conv => whnf)
    | ((with_reducible refine on_ndec_f (by assumption) ?_); conv => whnf)
    | ((with_reducible refine on_nt (by assumption) ?_); conv => whnf)
    | ((with_reducible refine on_nf (by assumption) ?_); conv => whnf)
    | ((with_reducible refine on_dec_f ?_ ?_); (focus ((try simp only [List.length_map, List.length_cons, List.length_nil, List.length_append]); omega)); conv => whnf)
    | ((with_reducible refine on_dec_t ?_ ?_); (focus ((try simp only [List.length_map, List.length_cons, List.length_nil, List.length_append]); omega)); conv => whnf)
    | ((with_reducible refine on_dec (fun h => ?_) (fun h => ?_)) <;> (try simp only [List.length_map] at h) <;> conv => whnf)
    | ((with_reducible refine on_ndec (fun h => ?_) (fun h => ?_)) <;> (try simp only [List.length_map] at h) <;> conv => whnf)
    | ((with_reducible refine on_not (fun h => ?_) (fun h => ?_)) <;> conv => whnf)
    | ((with_reducible refine onBool_split (fun h => ?_) (fun h => ?_)) <;> conv => whnf)
    | ((with_reducible refine call_go ?_); (first | refine call_step (run_view (c13 s l (by omega) (by omega) hb6) rfl rfl) ?_ | refine call_step (run_view (c85 _ _ _) rfl rfl) ?_ | refine call_step (run_view (c62 _) rfl rfl) ?_ | refine call_step (run_view (c63 _ (by omega)) rfl rfl) ?_); conv => whnf)
    | (refine ⟨[], [], (by decide +kernel), ?_⟩; conv => whnf)
    | (refine ⟨[], [(4, 11)], (by decide +kernel), ?_⟩; conv => whnf)
    | (refine ⟨⟨(by first | rfl | (simp; done)), cap_ok (by simp only [List.length_map, List.length_cons, List.length_nil, List.length_append]; omega) rfl⟩, ?_⟩; conv => whnf)
    | (refine ⟨mem_one ⟨rfl, rfl⟩, ?_⟩; conv => whnf)
    | (refine ⟨(by intro y hy; obtain ⟨x, _, rfl⟩ := List.mem_map.1 hy; first | rfl | exact ⟨rfl, rfl⟩), ?_⟩; conv => whnf)
    | (refine ⟨cap_ok (by first | omega | (simp only [List.length_map]; omega)) rfl, ?_⟩; conv => whnf)
    | (refine ix_map (by omega) ?_; conv => whnf)
    | (refine ix_str (by omega) ?_; conv => whnf)
    | (refine wrap64 (by omega) ?_; conv => whnf)
    | (exfalso; simp only [List.length_map, List.length_cons, List.length_nil, List.length_append] at h; omega)
    | ((with_reducible refine endx_go ?_); first | (refine endX_of (.inl ⟨[], rfl, rfl, ⟨⟨rfl, (congrArg (D.int .i64) (by unfold reachErr; rw [if_pos h0])), trivial⟩, trivial⟩, trivial⟩); done))
    | (refine ⟨rfl, ?_⟩; conv => whnf)
    | fail
    )

theorem c69b (s : Bs) (l : List Wr) (r : Int) (hsm : smallB s l = true) (h0 : (evsErr s l).2 = 0) (h1 : within r 0 ((l.map Wr.enc).length : Int) = false) : Run Tryd.prog 69 [.d (.str s), .d (.fs (l.map Wr.enc)), .d (i r)] [] (.tup [.raw (.pointer none), .d (i (reachErr s l r))]) [] := by
  obtain ⟨hs1, hs2, hs3⟩ := smallB_ok hsm; have hb6 : ∀ x ∈ l, x.bytes.length < 1000000 := fun x hx => (by have := hs3 x hx; omega)
  refine run_walkV eok Tryd.func69 rfl (by kernel_rfl) [] (by rfl) [] ?_
  conv => whnf
  repeat' (first
    | ((with_reducible refine on_ndec_t (by assumption) ?_); conv => whnf)
    | ((with_reducible refine on_ndec_f (by assumption) ?_); conv => whnf)
    | ((with_reducible refine on_nt (by assumption) ?_); conv => whnf)
    | ((with_reducible refine on_nf (by assumption) ?_); conv => whnf)
    | ((with_reducible refine on_dec_f ?_ ?_); (focus ((try simp only [List.length_map, List.length_cons, List.length_nil, List.length_append]); omega)); conv => whnf)
    | ((with_reducible refine on_dec_t ?_ ?_); (focus ((try simp only [List.length_map, List.length_cons, List.length_nil, List.length_append]); omega)); conv => whnf)
    | ((with_reducible refine on_dec (fun h => ?_) (fun h => ?_)) <;> (try simp only [List.length_map] at h) <;> conv => whnf)
    | ((with_reducible refine on_ndec (fun h => ?_) (fun h => ?_)) <;> (try simp only [List.length_map] at h) <;> conv => whnf)
    | ((with_reducible refine on_not (fun h => ?_) (fun h => ?_)) <;> conv => whnf)
    | ((with_reducible refine onBool_split (fun h => ?_) (fun h => ?_)) <;> conv => whnf)
    | ((with_reducible refine call_go ?_); (first | refine call_step (run_view (c13 s l (by omega) (by omega) hb6) rfl rfl) ?_ | refine call_step (run_view (c85 _ _ _) rfl rfl) ?_ | refine call_step (run_view (c62 _) rfl rfl) ?_ | refine call_step (run_view (c63 _ (by omega)) rfl rfl) ?_); conv => whnf)
    | (refine ⟨[], [], (by decide +kernel), ?_⟩; conv => whnf)
    | (refine ⟨[], [(4, 11)], (by decide +kernel), ?_⟩; conv => whnf)
    | (refine ⟨⟨(by first | rfl | (simp; done)), cap_ok (by simp only [List.length_map, List.length_cons, List.length_nil, List.length_append]; omega) rfl⟩, ?_⟩; conv => whnf)
    | (refine ⟨mem_one ⟨rfl, rfl⟩, ?_⟩; conv => whnf)
    | (refine ⟨(by intro y hy; obtain ⟨x, _, rfl⟩ := List.mem_map.1 hy; first | rfl | exact ⟨rfl, rfl⟩), ?_⟩; conv => whnf)
    | (refine ⟨cap_ok (by first | omega | (simp only [List.length_map]; omega)) rfl, ?_⟩; conv => whnf)
    | (refine ix_map (by omega) ?_; conv => whnf)
    | (refine ix_str (by omega) ?_; conv => whnf)
    | (refine wrap64 (by omega) ?_; conv => whnf)
    | (exfalso; simp only [List.length_map, List.length_cons, List.length_nil, List.length_append] at h; omega)
    | ((with_reducible refine endx_go ?_); first | (refine endX_of (.inl ⟨[], rfl, rfl, ⟨⟨rfl, (congrArg (D.int .i64) (by unfold reachErr; rw [List.length_map] at h1; rw [if_neg (fun c => c h0), h1]; rfl)), trivial⟩, trivial⟩, trivial⟩); done))
    | (refine ⟨rfl, ?_⟩; conv => whnf)
    | fail
    )

theorem c69e (s : Bs) (l : List Wr) (r : Int) (hsm : smallB s l = true) (hr : ¬ reachErr s l r = 0) : Run Tryd.prog 69 [.d (.str s), .d (.fs (l.map Wr.enc)), .d (i r)] [] (.tup [.raw (.pointer none), .d (i (reachErr s l r))]) [] := by
  by_cases h0 : (evsErr s l).2 = 0
  · refine c69b s l r hsm h0 ?_
    rw [List.length_map]
    cases hw : within r 0 (l.length : Int) with
    | false => rfl
    | true => exact absurd (by unfold reachErr; rw [if_neg (fun c => c h0), hw]; rfl) hr
  · exact c69a s l r hsm h0
theorem c69eq (s : Bs) (l : List Wr) (r : Int) (hsm : smallB s l = true) (hr : ¬ reachErr s l r = 0) (H : Heap) : Run Tryd.prog 69 [.d (.str s), .d (.fs (l.map Wr.enc)), .d (i r)] H (.tup [.raw (.pointer none), .d (i (reachErr s l r))]) H := by
  refine run_at (σ := []) (F := []) (fl := true) (c69e s l r hsm hr) List.nodup_nil (fun _ _ h => by cases h) ⟨⟨rfl, fun _ h => by cases h⟩, ⟨rfl, fun _ h => by cases h⟩, ⟨rfl, fun _ h => by cases h⟩, trivial⟩ (by simp [embH]) (fun _ => ⟨rfl, fun o ho => by cases ho⟩) rfl ?_
  simp [outH, setAll]
theorem c69q (s : Bs) (l : List Wr) (r : Int) (hsm : smallB s l = true) (hr : reachErr s l r = 0) (H : Heap) : Run Tryd.prog 69 [.d (.str s), .d (.fs (l.map Wr.enc)), .d (i r)] H (.tup [.ptr H.length 0 0, .d (i 0)]) (H ++ [flO (wrS s l (settled l r.toNat)) (loose l r.toNat) l (H.length + 1) (H.length + 2), ⟨((wrS s l (settled l r.toNat)).map D.str).map .d, 1, 0⟩, ⟨((loose l r.toNat).map Lo.enc).map .d, 2, 0⟩]) := by
  refine run_at (σ := []) (F := []) (fl := false) (c69m s l r hsm hr) List.nodup_nil (fun _ _ h => by cases h) ⟨⟨rfl, fun _ h => by cases h⟩, ⟨rfl, fun _ h => by cases h⟩, ⟨rfl, fun _ h => by cases h⟩, trivial⟩ (by simp [embH]) (fun h => by cases h) ?_ ?_
  · simp [ren, rens, tau]
  · simp only [outH, setAll, freeze, List.length_nil, List.drop_zero, List.map_cons, List.map_nil, renO, rens_D, flO, rens, ren, tau, List.getElem?_nil, Nat.sub_zero, Bool.false_eq_true, if_false]
    rfl
def looseR (s : Bs) (l : List Wr) (r : Int) : List Lo := if reachErr s l r = 0 then loose l r.toNat else []
attribute [local irreducible] reachErr

theorem c29m (s : Bs) (l : List Wr) (r : Int) (hsm : smallB s l = true) (h0 : reachErr s l r = 0) : Fn 29 [.str s, .fs (l.map Wr.enc), i r] (.tup [.fs ((looseR s l r).map Lo.enc), i (reachErr s l r)]) := by
  refine run_walkF eok Tryd.func29 rfl (by kernel_rfl) ?_
  conv => whnf
  repeat' (first
    | ((with_reducible refine on_ndec_t (by assumption) ?_); conv => whnf)
    | ((with_reducible refine on_ndec_f (by assumption) ?_); conv => whnf)
    | ((with_reducible refine on_nt (by assumption) ?_); conv => whnf)
    | ((with_reducible refine on_nf (by assumption) ?_); conv => whnf)
    | ((with_reducible refine on_dec_f ?_ ?_); (focus ((try simp only [List.length_map, List.length_cons, List.length_nil, List.length_append]); omega)); conv => whnf)
    | ((with_reducible refine on_dec_t ?_ ?_); (focus ((try simp only [List.length_map, List.length_cons, List.length_nil, List.length_append]); omega)); conv => whnf)
    | ((with_reducible refine on_dec (fun h => ?_) (fun h => ?_)) <;> (try simp only [List.length_map] at h) <;> conv => whnf)
    | ((with_reducible refine on_ndec (fun h => ?_) (fun h => ?_)) <;> (try simp only [List.length_map] at h) <;> conv => whnf)
    | ((with_reducible refine on_not (fun h => ?_) (fun h => ?_)) <;> conv => whnf)
    | ((with_reducible refine onBool_split (fun h => ?_) (fun h => ?_)) <;> conv => whnf)
    | ((with_reducible refine call_go ?_); (first | refine call_step (c69q s l r hsm h0 _) ?_); conv => whnf)
    | (refine ⟨⟨(by first | rfl | (simp; done)), cap_ok (by simp only [List.length_map, List.length_cons, List.length_nil, List.length_append]; omega) rfl⟩, ?_⟩; conv => whnf)
    | (refine ⟨mem_one ⟨rfl, rfl⟩, ?_⟩; conv => whnf)
    | (refine ⟨(by intro y hy; obtain ⟨x, _, rfl⟩ := List.mem_map.1 hy; first | rfl | exact ⟨rfl, rfl⟩), ?_⟩; conv => whnf)
    | (refine ⟨cap_ok (by first | omega | (simp only [List.length_map]; omega)) rfl, ?_⟩; conv => whnf)
    | (refine ix_map (by omega) ?_; conv => whnf)
    | (refine ix_str (by omega) ?_; conv => whnf)
    | (refine wrap64 (by omega) ?_; conv => whnf)
    | (exfalso; simp only [List.length_map, List.length_cons, List.length_nil, List.length_append] at h; omega)
    | ((with_reducible refine endx_go ?_); first | (refine endxv (view_tup (vlc (view_map rfl Nat.two_pos) (vlc rfl vln))) ?_; rw [looseR, if_pos h0, h0]; done))
    | (refine ⟨rfl, ?_⟩; conv => whnf)
    | fail
    )

theorem c29e (s : Bs) (l : List Wr) (r : Int) (hsm : smallB s l = true) (h0 : ¬ reachErr s l r = 0) : Fn 29 [.str s, .fs (l.map Wr.enc), i r] (.tup [.fs ((looseR s l r).map Lo.enc), i (reachErr s l r)]) := by
  refine run_walkF eok Tryd.func29 rfl (by kernel_rfl) ?_
  conv => whnf
  repeat' (first
    | ((with_reducible refine on_ndec_t (by assumption) ?_); conv => whnf)
    | ((with_reducible refine on_ndec_f (by assumption) ?_); conv => whnf)
    | ((with_reducible refine on_nt (by assumption) ?_); conv => whnf)
    | ((with_reducible refine on_nf (by assumption) ?_); conv => whnf)
    | ((with_reducible refine on_dec_f ?_ ?_); (focus ((try simp only [List.length_map, List.length_cons, List.length_nil, List.length_append]); omega)); conv => whnf)
    | ((with_reducible refine on_dec_t ?_ ?_); (focus ((try simp only [List.length_map, List.length_cons, List.length_nil, List.length_append]); omega)); conv => whnf)
    | ((with_reducible refine on_dec (fun h => ?_) (fun h => ?_)) <;> (try simp only [List.length_map] at h) <;> conv => whnf)
    | ((with_reducible refine on_ndec (fun h => ?_) (fun h => ?_)) <;> (try simp only [List.length_map] at h) <;> conv => whnf)
    | ((with_reducible refine on_not (fun h => ?_) (fun h => ?_)) <;> conv => whnf)
    | ((with_reducible refine onBool_split (fun h => ?_) (fun h => ?_)) <;> conv => whnf)
    | ((with_reducible refine call_go ?_); (first | refine call_step (c69eq s l r hsm h0 _) ?_); conv => whnf)
    | (refine ⟨⟨(by first | rfl | (simp; done)), cap_ok (by simp only [List.length_map, List.length_cons, List.length_nil, List.length_append]; omega) rfl⟩, ?_⟩; conv => whnf)
    | (refine ⟨mem_one ⟨rfl, rfl⟩, ?_⟩; conv => whnf)
    | (refine ⟨(by intro y hy; obtain ⟨x, _, rfl⟩ := List.mem_map.1 hy; first | rfl | exact ⟨rfl, rfl⟩), ?_⟩; conv => whnf)
    | (refine ⟨cap_ok (by first | omega | (simp only [List.length_map]; omega)) rfl, ?_⟩; conv => whnf)
    | (refine ix_map (by omega) ?_; conv => whnf)
    | (refine ix_str (by omega) ?_; conv => whnf)
    | (refine wrap64 (by omega) ?_; conv => whnf)
    | (exfalso; simp only [List.length_map, List.length_cons, List.length_nil, List.length_append] at h; omega)
    | ((with_reducible refine endx_go ?_); first | (refine endxv (view_tup (vlc rfl (vlc rfl vln))) ?_; (rw [looseR, if_neg h0]) <;> rfl; done))
    | (refine ⟨rfl, ?_⟩; conv => whnf)
    | fail
    )

theorem c29 (s : Bs) (l : List Wr) (r : Int) (hsm : smallB s l = true) : Fn 29 [.str s, .fs (l.map Wr.enc), i r] (.tup [.fs ((looseR s l r).map Lo.enc), i (reachErr s l r)]) := by
  by_cases h0 : reachErr s l r = 0
  · exact c29m s l r hsm h0
  · exact c29e s l r hsm h0
/-- The sectors after the first k kept ones. -/
def fS (s : Bs) (l : List Wr) (x : Fl) (k : Nat) : List Bs := failS l (loose l x.reached.toNat) (x.kept.take k) (wrS s l (settled l x.reached.toNat))
theorem fS_zero (s : Bs) (l : List Wr) (x : Fl) : fS s l x 0 = wrS s l (settled l x.reached.toNat) := rfl
theorem fS_ok {s : Bs} {l : List Wr} {x : Fl} (hE : Ev s l) (h64 : s.length % 64 = 0) (k : Nat) : (fS s l x k).flatten = failP l (loose l x.reached.toNat) (x.kept.take k) (wrote s (l.take (settled l x.reached.toNat))) ∧ All64 (fS s l x k) ∧ (fS s l x k).length = s.length / 64 := by
  have hw := wrS_ok hE.hi (settled l x.reached.toNat)
  have := fail_ok (kept := x.kept.take k) (l := l) (lo := loose l x.reached.toNat) hw.2.1 (by rw [hw.2.2]; exact lo_okE hE)
  rw [hw.1, stOf_flat h64] at this
  exact ⟨this.1, this.2.1, this.2.2.trans hw.2.2⟩
theorem fS_len {s : Bs} {l : List Wr} {x : Fl} (hE : Ev s l) (h64 : s.length % 64 = 0) (k : Nat) : (fS s l x k).length = s.length / 64 := (fS_ok hE h64 k).2.2
theorem fS_succ {s : Bs} {l : List Wr} {x : Fl} (hE : Ev s l) (h64 : s.length % 64 = 0) {k : Nat} (h : k < x.kept.length) (h2 : x.kept[k].toNat < (loose l x.reached.toNat).length) :
    fS s l x (k + 1) = (fS s l x k).set ((loose l x.reached.toNat)[x.kept[k].toNat]).sec.toNat (gotS l (loose l x.reached.toNat)[x.kept[k].toNat]) := by
  have hl := fS_len hE h64 (x := x) k
  have hx := (lo_okE hE _ (List.getElem_mem h2)).secn
  have e : fS s l x (k + 1) = keepS l (fS s l x k) (loose l x.reached.toNat)[x.kept[k].toNat] := by
    unfold fS failS
    rw [List.take_succ_eq_append_getElem h, List.foldl_append, List.foldl_cons, List.foldl_nil, stepS, List.getElem?_eq_getElem h2]
  rw [e, keepS, put_one (by rw [hl]; exact hx)]
def failR (s : Bs) (l : List Wr) (x : Fl) : Bs := if failErr s l x = 0 then failP l (loose l x.reached.toNat) x.kept (wrote s (l.take (settled l x.reached.toNat))) else []
theorem failErr_r {s : Bs} {l : List Wr} {x : Fl} (h : ¬ reachErr s l x.reached = 0) : failErr s l x = reachErr s l x.reached := by unfold failErr; rw [if_pos h]
theorem failErr_a {s : Bs} {l : List Wr} {x : Fl} (h : reachErr s l x.reached = 0) : failErr s l x = asc (loose l x.reached.toNat).length x.kept := by unfold failErr; rw [if_neg (fun c => c h)]
theorem c70q {s : Bs} {l : List Wr} (h : Ev s l) (st : List Bs) (lo : List Lo) (x : Lo) (hx : LoOk l (s.length / 64) x) : Fn 70 [.fp (flD st lo l) 0, x.enc] (.str (gotS l x)) :=
  c70 st lo l x _ hx (fun x hx => by have := h.hb x hx; omega) (h.at_ _ (List.getElem_mem hx.evn)).1 (by have := hx.secn; have := h.hs; omega)
attribute [local irreducible] fS failErr loose settled wrS gotS asc failP

theorem c30e (s : Bs) (l : List Wr) (x : Fl) (hsm : smallB s l = true) (h0 : ¬ reachErr s l x.reached = 0) : Fn 30 [.str s, .fs (l.map Wr.enc), x.enc] (.tup [.str (failR s l x), i (failErr s l x)]) := by
  refine run_walkF eok Tryd.func30 rfl (by kernel_rfl) ?_
  conv => whnf
  repeat' (first
    | ((with_reducible refine on_ndec_t (by assumption) ?_); conv => whnf)
    | ((with_reducible refine on_ndec_f (by assumption) ?_); conv => whnf)
    | ((with_reducible refine on_nt (by assumption) ?_); conv => whnf)
    | ((with_reducible refine on_nf (by assumption) ?_); conv => whnf)
    | ((with_reducible refine on_dec_f ?_ ?_); (focus ((try simp only [List.length_map, List.length_cons, List.length_nil, List.length_append]); omega)); conv => whnf)
    | ((with_reducible refine on_dec_t ?_ ?_); (focus ((try simp only [List.length_map, List.length_cons, List.length_nil, List.length_append]); omega)); conv => whnf)
    | ((with_reducible refine on_dec (fun h => ?_) (fun h => ?_)) <;> (try simp only [List.length_map] at h) <;> conv => whnf)
    | ((with_reducible refine on_ndec (fun h => ?_) (fun h => ?_)) <;> (try simp only [List.length_map] at h) <;> conv => whnf)
    | ((with_reducible refine on_not (fun h => ?_) (fun h => ?_)) <;> conv => whnf)
    | ((with_reducible refine onBool_split (fun h => ?_) (fun h => ?_)) <;> conv => whnf)
    | ((with_reducible refine call_go ?_); (first | refine call_step (c69eq s l x.reached hsm h0 _) ?_); conv => whnf)
    | (refine ⟨[], [], (by decide +kernel), ?_⟩; conv => whnf)
    | (refine ⟨[], [(3, 20), (7, 20), (11, 20)], (by decide +kernel), ?_⟩; conv => whnf)
    | (refine ⟨⟨(by first | rfl | (simp; done)), cap_ok (by simp only [List.length_map, List.length_cons, List.length_nil, List.length_append]; omega) rfl⟩, ?_⟩; conv => whnf)
    | (refine ⟨mem_one ⟨rfl, rfl⟩, ?_⟩; conv => whnf)
    | (refine ⟨(by intro y hy; obtain ⟨x, _, rfl⟩ := List.mem_map.1 hy; first | rfl | exact ⟨rfl, rfl⟩), ?_⟩; conv => whnf)
    | (refine ⟨cap_ok (by first | omega | (simp only [List.length_map]; omega)) rfl, ?_⟩; conv => whnf)
    | (refine ix_map (by omega) ?_; conv => whnf)
    | (refine ix_str (by omega) ?_; conv => whnf)
    | (refine wrap64 (by omega) ?_; conv => whnf)
    | (exfalso; simp only [List.length_map, List.length_cons, List.length_nil, List.length_append] at h; omega)
    | ((with_reducible refine endx_go ?_); first | (refine endx2 ?_; (rw [failR, failErr_r h0, if_neg h0]); done))
    | (refine ⟨rfl, ?_⟩; conv => whnf)
    | fail
    )

theorem c30a (s : Bs) (l : List Wr) (x : Fl) (hsm : smallB s l = true) (h0 : reachErr s l x.reached = 0) (hk : x.kept.length < 1000000) (h1 : ¬ asc (loose l x.reached.toNat).length x.kept = 0) : Fn 30 [.str s, .fs (l.map Wr.enc), x.enc] (.tup [.str (failR s l x), i (failErr s l x)]) := by
  have hro := reachErr_ok h0; have hE := ev_of hsm hro.1; have hlb := loose_bd hE.hb hE.hl (r := x.reached.toNat) (by omega)
  refine run_walkF eok Tryd.func30 rfl (by kernel_rfl) ?_
  conv => whnf
  repeat' (first
    | ((with_reducible refine on_ndec_t (by assumption) ?_); conv => whnf)
    | ((with_reducible refine on_ndec_f (by assumption) ?_); conv => whnf)
    | ((with_reducible refine on_nt (by assumption) ?_); conv => whnf)
    | ((with_reducible refine on_nf (by assumption) ?_); conv => whnf)
    | ((with_reducible refine on_dec_f ?_ ?_); (focus ((try simp only [List.length_map, List.length_cons, List.length_nil, List.length_append]); omega)); conv => whnf)
    | ((with_reducible refine on_dec_t ?_ ?_); (focus ((try simp only [List.length_map, List.length_cons, List.length_nil, List.length_append]); omega)); conv => whnf)
    | ((with_reducible refine on_dec (fun h => ?_) (fun h => ?_)) <;> (try simp only [List.length_map] at h) <;> conv => whnf)
    | ((with_reducible refine on_ndec (fun h => ?_) (fun h => ?_)) <;> (try simp only [List.length_map] at h) <;> conv => whnf)
    | ((with_reducible refine on_not (fun h => ?_) (fun h => ?_)) <;> conv => whnf)
    | ((with_reducible refine onBool_split (fun h => ?_) (fun h => ?_)) <;> conv => whnf)
    | ((with_reducible refine call_go ?_); (first | refine call_step (c69q s l x.reached hsm h0 _) ?_ | refine call_step (run_view (c78 (loose l x.reached.toNat).length x.kept hk (by omega)) rfl rfl) ?_); conv => whnf)
    | (refine ⟨[], [], (by decide +kernel), ?_⟩; conv => whnf)
    | (refine ⟨[], [(3, 20), (7, 20), (11, 20)], (by decide +kernel), ?_⟩; conv => whnf)
    | (refine ⟨⟨(by first | rfl | (simp; done)), cap_ok (by simp only [List.length_map, List.length_cons, List.length_nil, List.length_append]; omega) rfl⟩, ?_⟩; conv => whnf)
    | (refine ⟨mem_one ⟨rfl, rfl⟩, ?_⟩; conv => whnf)
    | (refine ⟨(by intro y hy; obtain ⟨x, _, rfl⟩ := List.mem_map.1 hy; first | rfl | exact ⟨rfl, rfl⟩), ?_⟩; conv => whnf)
    | (refine ⟨cap_ok (by first | omega | (simp only [List.length_map]; omega)) rfl, ?_⟩; conv => whnf)
    | (refine ix_map (by omega) ?_; conv => whnf)
    | (refine ix_str (by omega) ?_; conv => whnf)
    | (refine wrap64 (by omega) ?_; conv => whnf)
    | (exfalso; simp only [List.length_map, List.length_cons, List.length_nil, List.length_append] at h; omega)
    | ((with_reducible refine endx_go ?_); first | (refine endx2 ?_; (rw [failR, failErr_a h0, if_neg h1]); done))
    | (refine ⟨rfl, ?_⟩; conv => whnf)
    | fail
    )

theorem c30m (s : Bs) (l : List Wr) (x : Fl) (hsm : smallB s l = true) (h0 : reachErr s l x.reached = 0) (hk : x.kept.length < 1000000) (h1 : asc (loose l x.reached.toNat).length x.kept = 0) : Fn 30 [.str s, .fs (l.map Wr.enc), x.enc] (.tup [.str (failR s l x), i (failErr s l x)]) := by
  have hro := reachErr_ok h0; have hE := ev_of hsm hro.1; have hlb := loose_bd hE.hb hE.hl (r := x.reached.toNat) (by omega); have hkk := (asc_ok h1).1; have hlo := lo_okE hE (r := x.reached.toNat); have h64 := (diskErr_ok (evsErr_ok hro.1).1).2.1; have hss := hE.hs
  refine run_walkF eok Tryd.func30 rfl (by kernel_rfl) ?_
  conv => whnf
  repeat' (first
    | ((with_reducible refine on_ndec_t (by assumption) ?_); conv => whnf)
    | ((with_reducible refine on_ndec_f (by assumption) ?_); conv => whnf)
    | ((with_reducible refine on_nt (by assumption) ?_); conv => whnf)
    | ((with_reducible refine on_nf (by assumption) ?_); conv => whnf)
    | ((with_reducible refine on_dec_f ?_ ?_); (focus ((try simp only [List.length_map, List.length_cons, List.length_nil, List.length_append]); omega)); conv => whnf)
    | ((with_reducible refine on_dec_t ?_ ?_); (focus ((try simp only [List.length_map, List.length_cons, List.length_nil, List.length_append]); omega)); conv => whnf)
    | ((with_reducible refine on_dec (fun h => ?_) (fun h => ?_)) <;> (try simp only [List.length_map] at h) <;> conv => whnf)
    | ((with_reducible refine on_ndec (fun h => ?_) (fun h => ?_)) <;> (try simp only [List.length_map] at h) <;> conv => whnf)
    | ((with_reducible refine on_not (fun h => ?_) (fun h => ?_)) <;> conv => whnf)
    | ((with_reducible refine onBool_split (fun h => ?_) (fun h => ?_)) <;> conv => whnf)
    | ((with_reducible refine call_go ?_); (first | refine call_step (c69q s l x.reached hsm h0 _) ?_ | refine call_step (run_view (c78 (loose l x.reached.toNat).length x.kept hk (by omega)) rfl rfl) ?_ | refine call_step (run_view (c70q hE (fS s l x k) (loose l x.reached.toNat) ((loose l x.reached.toNat)[(x.kept[k]'(by omega)).toNat]'(by have := hka (by omega); omega)) (hlo2 (by omega))) rfl (vlc (view_ptr rfl Nat.two_pos rfl (view_agg (vlc (view_map rfl Nat.two_pos) (vlc (view_map rfl Nat.two_pos) (vlc rfl vln))))) (vlc rfl vln))) ?_ | refine call_step (run_view (c66q (fS s l x k) (fS_ok hE h64 k).2.1 (by rw [fS_len hE h64]; omega)) rfl (vlc (view_map rfl Nat.two_pos) vln)) ?_); conv => whnf)
    | (refine ⟨[], [], (by decide +kernel), ?_⟩; conv => whnf)
    | (refine ⟨[], [(3, 20), (7, 20), (11, 20)], (by decide +kernel), ?_⟩; conv => whnf)
    | ((with_reducible refine loop_go ?_); first | (refine loop1 (fun (k : Nat) => x.kept.length - k) (fun (k : Nat) => k ≤ x.kept.length) (fun (k : Nat) => [(8, .ptr 1 0 0), (36, .d (.fs (x.kept.map i))), (37, .d (i x.kept.length)), (38, .d (i k))]) (fun (k : Nat) => [⟨[.d x.enc], 2, 0⟩, ⟨[.agg [.sl 2 0 (fS s l x k).length 1 none, .sl 3 0 (loose l x.reached.toNat).length 2 none, .d (.fs (l.map Wr.enc))]], 3, 0⟩, ⟨((fS s l x k).map D.str).map .d, 1, 0⟩, ⟨((loose l x.reached.toNat).map Lo.enc).map .d, 2, 0⟩]) (0) (by exact Nat.zero_le _) ?_ (fun k C hI hC => ?_); (exact ⟨[.old 0, .old 1, .old 2, .old 3], rfl, rfl, ⟨⟨rfl, rfl, rfl⟩, rfl, (congrArg (D.int .i64) (by (rw [List.length_map]) <;> rfl)), rfl, trivial⟩, ⟨⟨rfl, rfl, .inl ⟨[_], rfl, rfl⟩⟩, ⟨rfl, rfl, .inr ⟨⟨⟨rfl, rfl, (by rw [fS_zero]), rfl, rfl⟩, ⟨rfl, rfl, rfl, rfl, rfl⟩, rfl, trivial⟩, trivial⟩⟩, ⟨rfl, rfl, .inl ⟨_, (by rw [fS_zero]), rfl⟩⟩, ⟨rfl, rfl, .inl ⟨_, rfl, rfl⟩⟩, trivial⟩⟩); have hka := fun (h : k < x.kept.length) => hkk _ (List.getElem_mem h); have hlo2 := fun (h : k < x.kept.length) => hlo _ (List.getElem_mem (l := (loose l x.reached.toNat)) (n := (x.kept[k]).toNat) (by have := hka h; omega)); have hix := fun (h : k < x.kept.length) => (Nat.zero_add ((loose l x.reached.toNat)[(x.kept[k]).toNat]'(by have := hka h; omega)).sec.toNat); all_goals (conv => whnf)))
    | ((with_reducible show C _ _); first | (refine hC (k + 1) _ _ ?_ (by omega) ?_; clear hC; rotate_left; (exact ⟨[.old 0, .old 1, .old 2, .old 3], rfl, rfl, ⟨⟨rfl, rfl, rfl⟩, (by first | (show (_ : D) = _; with_reducible rfl) | exact rfl), (by first | (show (_ : D) = _; with_reducible rfl) | exact congrArg (D.int .i64) (by omega) | exact congrArg (D.int .i64) (by simp only [List.length_map]) | exact rfl), (by first | (show (_ : D) = _; with_reducible rfl) | exact congrArg (D.int .i64) (by omega) | exact congrArg (D.int .i64) (by simp only [List.length_map]) | exact rfl), trivial⟩, ⟨⟨rfl, rfl, .inl ⟨[_], rfl, rfl⟩⟩, ⟨rfl, rfl, .inr ⟨⟨⟨rfl, rfl, (by rw [fS_len hE h64, fS_len hE h64]), rfl, rfl⟩, ⟨rfl, rfl, rfl, rfl, rfl⟩, rfl, trivial⟩, trivial⟩⟩, ⟨rfl, rfl, .inl ⟨_, (by rw [hix, set_row, fS_succ hE h64 (by omega) (by have := hka (by omega); omega)]), rfl⟩⟩, ⟨rfl, rfl, .inl ⟨_, rfl, rfl⟩⟩, trivial⟩⟩); (exact (by omega : k + 1 ≤ x.kept.length))))
    | (refine ⟨⟨(by first | rfl | (simp; done)), cap_ok (by simp only [List.length_map, List.length_cons, List.length_nil, List.length_append]; omega) rfl⟩, ?_⟩; conv => whnf)
    | (refine ⟨mem_one ⟨rfl, rfl⟩, ?_⟩; conv => whnf)
    | (refine ⟨(by intro y hy; obtain ⟨x, _, rfl⟩ := List.mem_map.1 hy; first | rfl | exact ⟨rfl, rfl⟩), ?_⟩; conv => whnf)
    | (refine ⟨cap_ok (by first | omega | (simp only [List.length_map]; omega)) rfl, ?_⟩; conv => whnf)
    | (refine ix_map (by omega) ?_; conv => whnf)
    | (refine ix_str (by omega) ?_; conv => whnf)
    | (refine wrap64 (by omega) ?_; conv => whnf)
    | (refine ix_at (x.kept[k]'(by omega)).toNat (by have := hka (by omega); omega) (by have := hka (by omega); omega) ?_; conv => whnf)
    | (refine ⟨⟨by have := hka (by omega); omega, by have := hka (by omega); omega⟩, ?_⟩; conv => whnf)
    | (refine nthK_row0 (l := (loose l x.reached.toNat)) (by have := hka (by omega); omega) ?_; conv => whnf)
    | (refine ⟨⟨(hlo2 (by omega)).sec0, by have h9 := (hlo2 (by omega)).secn; have h8 := (hlo2 (by omega)).sec0; rw [fS_len hE h64]; omega⟩, ?_⟩; conv => whnf)
    | (refine nthK_row (by rw [hix (by omega), fS_len hE h64]; exact (hlo2 (by omega)).secn) ?_; conv => whnf)
    | (refine setK_of ?_; conv => whnf)
    | (refine wrap64 (by omega) ?_; conv => whnf)
    | (exfalso; simp only [List.length_map, List.length_cons, List.length_nil, List.length_append] at h; omega)
    | ((with_reducible refine endx_go ?_); first | (refine endx2 ?_; rw [failR, failErr_a h0, if_pos h1, h1, (fS_ok hE h64 k).1, List.take_of_length_le (by omega)]; done))
    | (refine ⟨rfl, ?_⟩; conv => whnf)
    | fail
    )

end Go.Proofs.YtpblmdolgocpaaaDoor

/-! Wk -/
namespace Go.Proofs.YtpblmdolgocpaaaDoor
open Go Dw
set_option maxRecDepth 10000
set_option linter.unusedVariables false
set_option linter.unusedSimpArgs false
attribute [local irreducible] Run
set_option maxHeartbeats 4000000

attribute [local irreducible] sec stK put patch wrote pat wr

def wrR (a b : Bs) : List Wr := if pairErr a b = 0 then wf a b (a.length / 64) else []
theorem wf_last {a b : Bs} {m : Nat} (h : m < (uN a b).length) (h0 : 0 < (wfM a b m).length) : wfM a b (m + 1) = if ((wfM a b m)[(wfM a b m).length - 1]'(by omega)).stop = (uN a b)[m] then (wfM a b m).set ((wfM a b m).length - 1) ⟨((wfM a b m)[(wfM a b m).length - 1]'(by omega)).at_, ((wfM a b m)[(wfM a b m).length - 1]'(by omega)).bytes ++ sec b (uN a b)[m]⟩ else wfM a b m ++ [⟨(uN a b)[m], sec b (uN a b)[m]⟩] := by
  rw [wfM_succ h, wfStep_last h0]
theorem wf_first {a b : Bs} {m : Nat} (h : m < (uN a b).length) (h0 : (wfM a b m).length = 0) : wfM a b (m + 1) = wfM a b m ++ [⟨(uN a b)[m], sec b (uN a b)[m]⟩] := by
  rw [wfM_succ h, List.length_eq_zero_iff.1 h0]; rfl
theorem c76u (a b : Bs) (ha : a.length < 1000000) (hab : a.length = b.length) : Fn 76 [.str a, .str b] (.fs ((uN a b).map natD)) := c76 a b ha hab
theorem c26u (a b : Bs) (ha : a.length < 1000000) (hab : a.length = b.length) : Fn 26 [.str a, .str b] (.fs ((uN a b).map natD)) := c26 a b ha hab
attribute [local irreducible] uN wfM unl

theorem c23m (a b : Bs) (ha : a.length < 1000000) (hb : b.length < 1000000) (h0 : pairErr a b = 0) : Fn 23 [.str a, .str b] (.tup [.fs ((wrR a b).map Wr.enc), i (pairErr a b)]) := by
  obtain ⟨hda, hdb, hab⟩ := pairErr_ok h0; have hul0 := uN_le a b; have hsa : sc a = ((a.length / 64 : Nat) : Int) := rfl
  refine run_walkF eok Tryd.func23 rfl (by kernel_rfl) ?_
  conv => whnf
  repeat' (first
    | ((with_reducible refine on_ndec_t (by assumption) ?_); conv => whnf)
    | ((with_reducible refine on_dec_f ?_ ?_); (focus ((try simp only [List.length_map, List.length_cons, List.length_nil, List.length_append]); omega)); conv => whnf)
    | ((with_reducible refine on_dec_t ?_ ?_); (focus ((try simp only [List.length_map, List.length_cons, List.length_nil, List.length_append]); omega)); conv => whnf)
    | ((with_reducible refine on_dec (fun h => ?_) (fun h => ?_)) <;> (try simp only [List.length_map] at h) <;> conv => whnf)
    | ((with_reducible refine on_ndec (fun h => ?_) (fun h => ?_)) <;> (try simp only [List.length_map] at h) <;> conv => whnf)
    | ((with_reducible refine on_not (fun h => ?_) (fun h => ?_)) <;> conv => whnf)
    | ((with_reducible refine onBool_split (fun h => ?_) (fun h => ?_)) <;> conv => whnf)
    | ((with_reducible refine call_go ?_); (first | refine call_step (run_view (c75 a b ha hb) rfl rfl) ?_ | refine call_step (run_viewF (c76u a b ha hab) rfl) ?_ | refine call_step (run_view (c63 _ (by have := hin _ (List.getElem_mem (l := (wfM a b m)) (n := (wfM a b m).length - 1) (by omega)); omega)) rfl rfl) ?_ | refine call_step (run_view (c77 b ((uN a b)[m]'(by omega)) (by have := hul (by omega); omega) (by omega)) rfl rfl) ?_); conv => whnf)
    | (refine ⟨[], [(7, 13)], (by decide +kernel), ?_⟩; conv => whnf)
    | (refine ⟨[], [(4, 7)], (by decide +kernel), ?_⟩; conv => whnf)
    | ((with_reducible refine loop_go ?_); first | (refine loop1 (fun (m : Nat) => (uN a b).length - m) (fun (m : Nat) => m ≤ (uN a b).length) (fun (m : Nat) => [(1, .d (.str b)), (7, .sl 0 0 (wfM a b m).length 2 none), (19, .d (.fs ((uN a b).map natD))), (20, .d (i (uN a b).length)), (21, .d (i m))]) (fun (m : Nat) => [⟨((wfM a b m).map Wr.enc).map .d, 2, 0⟩]) (0) (by exact Nat.zero_le _) ?_ (fun m C hI hC => ?_); (exact ⟨[.void 2], rfl, rfl, ⟨rfl, ⟨rfl, rfl, (by rw [wfM_zero]; rfl), rfl⟩, rfl, (congrArg (D.int .i64) (by (rw [List.length_map]) <;> rfl)), rfl, trivial⟩, ⟨⟨(by rw [wfM_zero]; rfl), rfl, (by decide), rfl⟩, trivial⟩⟩); have hI9 := wfM_inv hab hI; have hin := hI9.at0; have hln := hI9.len; have hul := fun (h : m < (uN a b).length) => uN_lt h; have hsb := fun (h : m < (uN a b).length) => sec_len (s := b) (k := (uN a b)[m]) (by have := hul h; omega); all_goals (conv => whnf)))
    | ((with_reducible show C _ _); first | (refine hC (m + 1) _ _ ?_ (by omega) ?_; clear hC; rotate_left; (exact ⟨[.old 0], rfl, rfl, ⟨(by first | (show (_ : D) = _; with_reducible rfl) | exact rfl), ⟨rfl, rfl, (by rw [((wf_last (by omega) (by omega)).trans (if_pos (show ((wfM a b m)[(wfM a b m).length - 1]'(by omega)).at_ + ((((wfM a b m)[(wfM a b m).length - 1]'(by omega)).bytes.length / 64 : Nat) : Int) = (((uN a b)[m]'(by omega)) : Nat) by first | assumption | omega))), List.length_set]), rfl, rfl⟩, (by first | (show (_ : D) = _; with_reducible rfl) | exact rfl), (by first | (show (_ : D) = _; with_reducible rfl) | exact congrArg (D.int .i64) (by omega) | exact congrArg (D.int .i64) (by simp only [List.length_map]) | exact rfl), (by first | (show (_ : D) = _; with_reducible rfl) | exact congrArg (D.int .i64) (by omega) | exact congrArg (D.int .i64) (by simp only [List.length_map]) | exact rfl), trivial⟩, ⟨⟨rfl, rfl, .inr (by rw [((wf_last (by omega) (by omega)).trans (if_pos (show ((wfM a b m)[(wfM a b m).length - 1]'(by omega)).at_ + ((((wfM a b m)[(wfM a b m).length - 1]'(by omega)).bytes.length / 64 : Nat) : Int) = (((uN a b)[m]'(by omega)) : Nat) by first | assumption | omega))), show 0 + (((wfM a b m).length : Int) - 1).toNat = (wfM a b m).length - 1 by omega]; refine wks_set ?_ _ _; exact ⟨rfl, rfl, rfl, trivial⟩)⟩, trivial⟩⟩); (exact (by omega : m + 1 ≤ (uN a b).length))) | (refine hC (m + 1) _ _ ?_ (by omega) ?_; clear hC; rotate_left; (exact ⟨[.old 2], rfl, rfl, ⟨(by first | (show (_ : D) = _; with_reducible rfl) | exact rfl), ⟨rfl, rfl, (by rw [((wf_last (by omega) (by omega)).trans (if_neg (show ¬ ((wfM a b m)[(wfM a b m).length - 1]'(by omega)).at_ + ((((wfM a b m)[(wfM a b m).length - 1]'(by omega)).bytes.length / 64 : Nat) : Int) = (((uN a b)[m]'(by omega)) : Nat) by first | assumption | omega))), List.length_append]; rfl), rfl, rfl⟩, (by first | (show (_ : D) = _; with_reducible rfl) | exact rfl), (by first | (show (_ : D) = _; with_reducible rfl) | exact congrArg (D.int .i64) (by omega) | exact congrArg (D.int .i64) (by simp only [List.length_map]) | exact rfl), (by first | (show (_ : D) = _; with_reducible rfl) | exact congrArg (D.int .i64) (by omega) | exact congrArg (D.int .i64) (by simp only [List.length_map]) | exact rfl), trivial⟩, ⟨⟨rfl, rfl, .inr (by rw [((wf_last (by omega) (by omega)).trans (if_neg (show ¬ ((wfM a b m)[(wfM a b m).length - 1]'(by omega)).at_ + ((((wfM a b m)[(wfM a b m).length - 1]'(by omega)).bytes.length / 64 : Nat) : Int) = (((uN a b)[m]'(by omega)) : Nat) by first | assumption | omega)))]; exact wks_add (wksd _ _) ⟨rfl, rfl, rfl, trivial⟩)⟩, trivial⟩⟩); (exact (by omega : m + 1 ≤ (uN a b).length))) | (refine hC (m + 1) _ _ ?_ (by omega) ?_; clear hC; rotate_left; (exact ⟨[.old 2], rfl, rfl, ⟨(by first | (show (_ : D) = _; with_reducible rfl) | exact rfl), ⟨rfl, rfl, (by rw [(wf_first (by omega) (by omega)), List.length_append]; rfl), rfl, rfl⟩, (by first | (show (_ : D) = _; with_reducible rfl) | exact rfl), (by first | (show (_ : D) = _; with_reducible rfl) | exact congrArg (D.int .i64) (by omega) | exact congrArg (D.int .i64) (by simp only [List.length_map]) | exact rfl), (by first | (show (_ : D) = _; with_reducible rfl) | exact congrArg (D.int .i64) (by omega) | exact congrArg (D.int .i64) (by simp only [List.length_map]) | exact rfl), trivial⟩, ⟨⟨rfl, rfl, .inr (by rw [(wf_first (by omega) (by omega))]; exact wks_add (wksd _ _) ⟨rfl, rfl, rfl, trivial⟩)⟩, trivial⟩⟩); (exact (by omega : m + 1 ≤ (uN a b).length))))
    | (refine ⟨⟨(by first | rfl | (simp; done)), cap_ok (by simp only [List.length_map, List.length_cons, List.length_nil, List.length_append]; omega) rfl⟩, ?_⟩; conv => whnf)
    | (refine ⟨mem_one ⟨rfl, rfl⟩, ?_⟩; conv => whnf)
    | (refine ⟨(by intro y hy; obtain ⟨x, _, rfl⟩ := List.mem_map.1 hy; first | rfl | exact ⟨rfl, rfl⟩), ?_⟩; conv => whnf)
    | (refine ⟨cap_ok (by first | omega | (simp only [List.length_map]; omega)) rfl, ?_⟩; conv => whnf)
    | (refine ix_map (by omega) ?_; conv => whnf)
    | (refine ix_str (by omega) ?_; conv => whnf)
    | (refine wrap64 (by omega) ?_; conv => whnf)
    | (refine ⟨⟨by omega, by omega⟩, ?_⟩; conv => whnf)
    | (refine nthK_rowi (l := (wfM a b m)) ((wfM a b m).length - 1) (by omega) (by omega) ?_; conv => whnf)
    | (refine setK_of ?_; conv => whnf)
    | (refine ix_map (l := uN a b) (f := natD) (by omega) ?_; conv => whnf)
    | (refine wrap64 (by have hlast := hin _ (List.getElem_mem (l := (wfM a b m)) (n := (wfM a b m).length - 1) (by omega)); have hq : sc ((wfM a b m)[(wfM a b m).length - 1]'(by omega)).bytes = ((((wfM a b m)[(wfM a b m).length - 1]'(by omega)).bytes.length / 64 : Nat) : Int) := rfl; omega) ?_; conv => whnf)
    | (refine str_add (by have hlast := hin _ (List.getElem_mem (l := (wfM a b m)) (n := (wfM a b m).length - 1) (by omega)); have := hsb (by omega); omega) ?_; conv => whnf)
    | (refine ⟨Nat.le_refl _, ?_⟩; conv => whnf)
    | (refine ⟨⟨(by simp only [List.length_map, List.length_append]; omega), cap_ok (by have := hln; have := uN_le a b; simp only [List.length_map, List.length_cons, List.length_nil, List.length_append]; omega) rfl⟩, ?_⟩; conv => whnf)
    | (refine ⟨cap_ok (by have := hln; have := uN_le a b; simp only [List.length_map, List.length_cons, List.length_nil, List.length_append]; omega) rfl, ?_⟩; conv => whnf)
    | (refine wrap64 (by omega) ?_; conv => whnf)
    | (exfalso; simp only [List.length_map, List.length_cons, List.length_nil, List.length_append] at h; omega)
    | ((with_reducible refine endx_go ?_); first | (refine endxv (view_tup (vlc (view_map rfl Nat.two_pos) (vlc rfl vln))) ?_; rw [wrR, if_pos h0, h0, wfM_end (by omega)]; done))
    | (refine ⟨rfl, ?_⟩; conv => whnf)
    | fail
    )

theorem c23e (a b : Bs) (ha : a.length < 1000000) (hb : b.length < 1000000) (h0 : ¬ pairErr a b = 0) : Fn 23 [.str a, .str b] (.tup [.fs ((wrR a b).map Wr.enc), i (pairErr a b)]) := by
  refine run_walkF eok Tryd.func23 rfl (by kernel_rfl) ?_
  conv => whnf
  repeat' (first
    | ((with_reducible refine on_ndec_f (by assumption) ?_); conv => whnf)
    | ((with_reducible refine on_dec_f ?_ ?_); (focus ((try simp only [List.length_map, List.length_cons, List.length_nil, List.length_append]); omega)); conv => whnf)
    | ((with_reducible refine on_dec_t ?_ ?_); (focus ((try simp only [List.length_map, List.length_cons, List.length_nil, List.length_append]); omega)); conv => whnf)
    | ((with_reducible refine on_dec (fun h => ?_) (fun h => ?_)) <;> (try simp only [List.length_map] at h) <;> conv => whnf)
    | ((with_reducible refine on_ndec (fun h => ?_) (fun h => ?_)) <;> (try simp only [List.length_map] at h) <;> conv => whnf)
    | ((with_reducible refine on_not (fun h => ?_) (fun h => ?_)) <;> conv => whnf)
    | ((with_reducible refine onBool_split (fun h => ?_) (fun h => ?_)) <;> conv => whnf)
    | ((with_reducible refine call_go ?_); (first | refine call_step (run_view (c75 a b ha hb) rfl rfl) ?_ | refine call_step (run_viewF (c76u a b ha hab) rfl) ?_ | refine call_step (run_view (c63 _ (by have := hin _ (List.getElem_mem (l := (wfM a b m)) (n := (wfM a b m).length - 1) (by omega)); omega)) rfl rfl) ?_ | refine call_step (run_view (c77 b ((uN a b)[m]'(by omega)) (by have := hul (by omega); omega) (by omega)) rfl rfl) ?_); conv => whnf)
    | (refine ⟨[], [(7, 13)], (by decide +kernel), ?_⟩; conv => whnf)
    | (refine ⟨[], [(4, 7)], (by decide +kernel), ?_⟩; conv => whnf)
    | (refine ⟨⟨(by first | rfl | (simp; done)), cap_ok (by simp only [List.length_map, List.length_cons, List.length_nil, List.length_append]; omega) rfl⟩, ?_⟩; conv => whnf)
    | (refine ⟨mem_one ⟨rfl, rfl⟩, ?_⟩; conv => whnf)
    | (refine ⟨(by intro y hy; obtain ⟨x, _, rfl⟩ := List.mem_map.1 hy; first | rfl | exact ⟨rfl, rfl⟩), ?_⟩; conv => whnf)
    | (refine ⟨cap_ok (by first | omega | (simp only [List.length_map]; omega)) rfl, ?_⟩; conv => whnf)
    | (refine ix_map (by omega) ?_; conv => whnf)
    | (refine ix_str (by omega) ?_; conv => whnf)
    | (refine wrap64 (by omega) ?_; conv => whnf)
    | (exfalso; simp only [List.length_map, List.length_cons, List.length_nil, List.length_append] at h; omega)
    | ((with_reducible refine endx_go ?_); first | (refine endxv (view_tup (vlc rfl (vlc rfl vln))) ?_; (rw [wrR, if_neg h0]) <;> rfl; done))
    | (refine ⟨rfl, ?_⟩; conv => whnf)
    | fail
    )

theorem c23 (a b : Bs) (ha : a.length < 1000000) (hb : b.length < 1000000) : Fn 23 [.str a, .str b] (.tup [.fs ((wrR a b).map Wr.enc), i (pairErr a b)]) := by
  by_cases h0 : pairErr a b = 0
  · exact c23m a b ha hb h0
  · exact c23e a b ha hb h0

end Go.Proofs.YtpblmdolgocpaaaDoor

/-! Wl -/
namespace Go.Proofs.YtpblmdolgocpaaaDoor
open Go Dw
set_option maxRecDepth 10000
set_option linter.unusedVariables false
set_option linter.unusedSimpArgs false
attribute [local irreducible] Run
set_option maxHeartbeats 4000000

attribute [local irreducible] sec stK put patch wrote pat wr

theorem wfM_lastm {a b : Bs} (hab : a.length = b.length) {m : Nat} (h0 : 0 < m) (h : m - 1 < (uN a b).length) : ∃ h : 0 < (wfM a b m).length, ((wfM a b m)[(wfM a b m).length - 1]'(by omega)).stop = ((uN a b)[m - 1] : Nat) + 1 := by
  cases m with
  | zero => omega
  | succ m => exact wfM_last hab h
attribute [local irreducible] uN wfM unl

theorem c28 (a b : Bs) (ha : a.length < 1000000) (hab : a.length = b.length) : Fn 28 [.str a, .str b] (.fs ((wf a b (a.length / 64)).map Wr.enc)) := by
  have hul0 := uN_le a b
  refine run_walkF eok Tryd.func28 rfl (by kernel_rfl) ?_
  conv => whnf
  repeat' (first
    | ((with_reducible refine on_dec_f ?_ ?_); (focus ((try simp only [List.length_map, List.length_cons, List.length_nil, List.length_append]); omega)); conv => whnf)
    | ((with_reducible refine on_dec_t ?_ ?_); (focus ((try simp only [List.length_map, List.length_cons, List.length_nil, List.length_append]); omega)); conv => whnf)
    | ((with_reducible refine on_dec (fun h => ?_) (fun h => ?_)) <;> (try simp only [List.length_map] at h) <;> conv => whnf)
    | ((with_reducible refine on_ndec (fun h => ?_) (fun h => ?_)) <;> (try simp only [List.length_map] at h) <;> conv => whnf)
    | ((with_reducible refine on_not (fun h => ?_) (fun h => ?_)) <;> conv => whnf)
    | ((with_reducible refine onBool_split (fun h => ?_) (fun h => ?_)) <;> conv => whnf)
    | ((with_reducible refine call_go ?_); (first | refine call_step (run_viewF (c26u a b ha hab) rfl) ?_ | refine call_step (run_view (c73 b ((uN a b)[m]'(by omega)) (by have := hul (by omega); omega) (by omega)) rfl rfl) ?_); conv => whnf)
    | (refine ⟨[], [], (by decide +kernel), ?_⟩; conv => whnf)
    | (refine ⟨[], [(6, 12)], (by decide +kernel), ?_⟩; conv => whnf)
    | (refine ⟨[], [(4, 10)], (by decide +kernel), ?_⟩; conv => whnf)
    | ((with_reducible refine loop_go ?_); first | (refine loop1 (fun (m : Nat) => (uN a b).length - m) (fun (m : Nat) => m ≤ (uN a b).length) (fun (m : Nat) => [(1, .d (.str b)), (5, .sl 0 0 (wfM a b m).length 2 none), (6, .d (.fs ((uN a b).map natD))), (7, .d (i m))]) (fun (m : Nat) => [⟨((wfM a b m).map Wr.enc).map .d, 2, 0⟩]) (0) (by exact Nat.zero_le _) ?_ (fun m C hI hC => ?_); (exact ⟨[.void 2], rfl, rfl, ⟨rfl, ⟨rfl, rfl, (by rw [wfM_zero]; rfl), rfl⟩, rfl, rfl, trivial⟩, ⟨⟨(by rw [wfM_zero]; rfl), rfl, (by decide), rfl⟩, trivial⟩⟩); have hI9 := wfM_inv hab hI; have hin := hI9.at0; have hln := hI9.len; have hul := fun (h : m < (uN a b).length) => uN_lt h; have hul1 := fun (h : m - 1 < (uN a b).length) => uN_lt h; have hsb := fun (h : m < (uN a b).length) => sec_len (s := b) (k := (uN a b)[m]) (by have := hul h; omega); have hq := fun (h0 : 0 < m) => wfM_lastm hab h0 (m := m) (by omega); all_goals (conv => whnf)))
    | ((with_reducible show C _ _); first | (refine hC (m + 1) _ _ ?_ (by omega) ?_; clear hC; rotate_left; (exact ⟨[.old 0], rfl, rfl, ⟨(by first | (show (_ : D) = _; with_reducible rfl) | exact rfl), ⟨rfl, rfl, (by rw [((wf_last (by omega) (hq (by omega)).1).trans (if_pos ((hq (by omega)).2.trans (show ((((uN a b)[m - 1]'(by omega) : Nat) : Int) + 1 = (((uN a b)[m]'(by omega)) : Nat)) by first | assumption | omega)))), List.length_set]), rfl, rfl⟩, (by first | (show (_ : D) = _; with_reducible rfl) | exact rfl), (by first | (show (_ : D) = _; with_reducible rfl) | exact congrArg (D.int .i64) (by omega) | exact congrArg (D.int .i64) (by simp only [List.length_map]) | exact rfl), trivial⟩, ⟨⟨rfl, rfl, .inr (by obtain ⟨hp9, hs9⟩ := hq (by omega); rw [((wf_last (by omega) (hq (by omega)).1).trans (if_pos ((hq (by omega)).2.trans (show ((((uN a b)[m - 1]'(by omega) : Nat) : Int) + 1 = (((uN a b)[m]'(by omega)) : Nat)) by first | assumption | omega)))), show 0 + (((wfM a b m).length : Int) - 1).toNat = (wfM a b m).length - 1 by omega]; refine wks_set ?_ _ _; exact ⟨rfl, rfl, rfl, trivial⟩)⟩, trivial⟩⟩); (exact (by omega : m + 1 ≤ (uN a b).length))) | (refine hC (m + 1) _ _ ?_ (by omega) ?_; clear hC; rotate_left; (exact ⟨[.old 2], rfl, rfl, ⟨(by first | (show (_ : D) = _; with_reducible rfl) | exact rfl), ⟨rfl, rfl, (by rw [((wf_last (by omega) (hq (by omega)).1).trans (if_neg (by intro e; have := (hq (by omega)).2; omega))), List.length_append]; rfl), rfl, rfl⟩, (by first | (show (_ : D) = _; with_reducible rfl) | exact rfl), (by first | (show (_ : D) = _; with_reducible rfl) | exact congrArg (D.int .i64) (by omega) | exact congrArg (D.int .i64) (by simp only [List.length_map]) | exact rfl), trivial⟩, ⟨⟨rfl, rfl, .inr (by rw [((wf_last (by omega) (hq (by omega)).1).trans (if_neg (by intro e; have := (hq (by omega)).2; omega)))]; exact wks_add (wksd _ _) ⟨rfl, rfl, rfl, trivial⟩)⟩, trivial⟩⟩); (exact (by omega : m + 1 ≤ (uN a b).length))) | (refine hC (m + 1) _ _ ?_ (by omega) ?_; clear hC; rotate_left; (exact ⟨[.old 2], rfl, rfl, ⟨(by first | (show (_ : D) = _; with_reducible rfl) | exact rfl), ⟨rfl, rfl, (by rw [(wf_first (by omega) (by have hm : m = 0 := (by omega); subst hm; rw [wfM_zero]; rfl)), List.length_append]; rfl), rfl, rfl⟩, (by first | (show (_ : D) = _; with_reducible rfl) | exact rfl), (by first | (show (_ : D) = _; with_reducible rfl) | exact congrArg (D.int .i64) (by omega) | exact congrArg (D.int .i64) (by simp only [List.length_map]) | exact rfl), trivial⟩, ⟨⟨rfl, rfl, .inr (by rw [(wf_first (by omega) (by have hm : m = 0 := (by omega); subst hm; rw [wfM_zero]; rfl))]; exact wks_add (wksd _ _) ⟨rfl, rfl, rfl, trivial⟩)⟩, trivial⟩⟩); (exact (by omega : m + 1 ≤ (uN a b).length))))
    | (refine ⟨⟨(by first | rfl | (simp; done)), cap_ok (by simp only [List.length_map, List.length_cons, List.length_nil, List.length_append]; omega) rfl⟩, ?_⟩; conv => whnf)
    | (refine ⟨mem_one ⟨rfl, rfl⟩, ?_⟩; conv => whnf)
    | (refine ⟨(by intro y hy; obtain ⟨x, _, rfl⟩ := List.mem_map.1 hy; first | rfl | exact ⟨rfl, rfl⟩), ?_⟩; conv => whnf)
    | (refine ⟨cap_ok (by first | omega | (simp only [List.length_map]; omega)) rfl, ?_⟩; conv => whnf)
    | (refine ix_map (by omega) ?_; conv => whnf)
    | (refine ix_str (by omega) ?_; conv => whnf)
    | (refine wrap64 (by omega) ?_; conv => whnf)
    | (refine ⟨⟨by obtain ⟨hp9, hs9⟩ := hq (by omega); omega, by obtain ⟨hp9, hs9⟩ := hq (by omega); omega⟩, ?_⟩; conv => whnf)
    | (refine nthK_rowi (l := (wfM a b m)) ((wfM a b m).length - 1) (by obtain ⟨hp9, hs9⟩ := hq (by omega); omega) (by obtain ⟨hp9, hs9⟩ := hq (by omega); omega) ?_; conv => whnf)
    | (refine setK_of ?_; conv => whnf)
    | (refine ix_map (l := uN a b) (f := natD) (by omega) ?_; conv => whnf)
    | (refine ix_at (l := uN a b) (f := natD) (m - 1) (by omega) (by omega) ?_; conv => whnf)
    | (refine wrap64 (by have := hul1 (by omega); omega) ?_; conv => whnf)
    | (refine str_add (by obtain ⟨hp9, hs9⟩ := hq (by omega); have hlast := hin _ (List.getElem_mem (l := (wfM a b m)) (n := (wfM a b m).length - 1) (by omega)); have := hsb (by omega); omega) ?_; conv => whnf)
    | (refine ⟨Nat.le_refl _, ?_⟩; conv => whnf)
    | (refine ⟨⟨(by simp only [List.length_map, List.length_append]; omega), cap_ok (by have := hln; have := uN_le a b; simp only [List.length_map, List.length_cons, List.length_nil, List.length_append]; omega) rfl⟩, ?_⟩; conv => whnf)
    | (refine ⟨cap_ok (by have := hln; have := uN_le a b; simp only [List.length_map, List.length_cons, List.length_nil, List.length_append]; omega) rfl, ?_⟩; conv => whnf)
    | (refine wrap64 (by omega) ?_; conv => whnf)
    | (exfalso; simp only [List.length_map, List.length_cons, List.length_nil, List.length_append] at h; omega)
    | ((with_reducible refine endx_go ?_); first | (refine endxv (view_map rfl Nat.two_pos) ?_; rw [wfM_end (by omega)]; done))
    | (refine ⟨rfl, ?_⟩; conv => whnf)
    | fail
    )

def mS (a b : Bs) (l : List Int) (k : Nat) : List Bs := mixS b (stOf a) ((l.take k).map Int.toNat)
theorem mS_zero (a b : Bs) (l : List Int) : mS a b l 0 = stOf a := rfl
theorem mS_ok {a b : Bs} {l : List Int} (ha : a.length = 512) (hb : b.length = 512) (hl : ∀ x ∈ l, 0 ≤ x ∧ x < 8) (k : Nat) : (mS a b l k).flatten = mixI b a (l.take k) ∧ (mS a b l k).length = 8 ∧ All64 (mS a b l k) := by
  have h8 : (stOf a).length = 8 := by rw [stOf_len]; omega
  have hi : ∀ x ∈ (l.take k).map Int.toNat, x < 8 := fun x hx => by obtain ⟨y, hy, rfl⟩ := List.mem_map.1 hx; have := hl y (List.mem_of_mem_take hy); omega
  have h := mix_flat hb (stOf_all a) h8 hi
  have key : ∀ (l : List Nat) (st : List Bs), All64 st → (∀ x ∈ l, x < 8) → All64 (mixS b st l) := by
    intro l
    induction l with
    | nil => intro st h _; exact h
    | cons x l ih =>
      intro st h hx
      refine ih _ (put_all h fun y hy => ?_) fun y hy => hx y (List.mem_cons_of_mem _ hy)
      rw [List.mem_singleton] at hy; subst hy
      exact sec_len (by have := hx x (List.mem_cons_self ..); omega)
  rw [stOf_flat (by omega)] at h
  exact ⟨h.1, h.2, key _ _ (stOf_all a) hi⟩
theorem mS_succ {a b : Bs} {l : List Int} (ha : a.length = 512) (hb : b.length = 512) (hl : ∀ x ∈ l, 0 ≤ x ∧ x < 8) {k : Nat} (h : k < l.length) : mS a b l (k + 1) = (mS a b l k).set l[k].toNat (sec b l[k].toNat) := by
  have h8 := (mS_ok ha hb hl k).2.1
  have hk := hl _ (List.getElem_mem h)
  rw [put_one (by omega)]
  unfold mS mixS
  rw [List.take_succ_eq_append_getElem h, List.map_append, List.foldl_append]; rfl
def mixR (a b : Bs) (l : List Int) : Bs := if mixErr a b l = 0 then mixI b a l else []
theorem mixErr_no {a b : Bs} {l : List Int} : mixErr a b l = first [blockErr a, blockErr b, asc 8 l] := rfl
attribute [local irreducible] mS mixI asc

theorem c39m (a b : Bs) (l : List Int) (hl : l.length < 1000000) (h0 : first [blockErr a, blockErr b, asc 8 l] = 0) : Fn 39 [.str a, .str b, .fs (l.map i)] (.tup [.str (mixR a b l), i (mixErr a b l)]) := by
  obtain ⟨ha8, hb8, has⟩ := mixErr_ok h0; have hkk := (asc_ok has).1; have hms := fun k => mS_ok ha8 hb8 hkk k
  refine run_walkF eok Tryd.func39 rfl (by kernel_rfl) ?_
  conv => whnf
  repeat' (first
    | ((with_reducible refine on_ndec_t (by assumption) ?_); conv => whnf)
    | ((with_reducible refine on_dec_f ?_ ?_); (focus ((try simp only [List.length_map, List.length_cons, List.length_nil, List.length_append]); omega)); conv => whnf)
    | ((with_reducible refine on_dec_t ?_ ?_); (focus ((try simp only [List.length_map, List.length_cons, List.length_nil, List.length_append]); omega)); conv => whnf)
    | ((with_reducible refine on_dec (fun h => ?_) (fun h => ?_)) <;> (try simp only [List.length_map] at h) <;> conv => whnf)
    | ((with_reducible refine on_ndec (fun h => ?_) (fun h => ?_)) <;> (try simp only [List.length_map] at h) <;> conv => whnf)
    | ((with_reducible refine on_not (fun h => ?_) (fun h => ?_)) <;> conv => whnf)
    | ((with_reducible refine onBool_split (fun h => ?_) (fun h => ?_)) <;> conv => whnf)
    | ((with_reducible refine call_go ?_); (first | refine call_step (run_view (c48 _) rfl rfl) ?_ | refine call_step (run_view (c78 8 l hl (by omega)) rfl rfl) ?_ | refine call_step (run_view (c58 [_, _] (by simp)) rfl rfl) ?_ | refine call_step (run_view (c58 [_, _, _] (by simp)) rfl rfl) ?_ | refine call_step (run_view (c58 [_, _, _, _] (by simp)) rfl rfl) ?_ | refine call_step (run_new (c64 a (by omega)) (fun _ => rfl) rfl) ?_ | refine call_step (run_view (c77q b _ (l[k]'(by omega)).toNat (by have := hka (by omega); omega) (by have := hka (by omega); omega) (by omega)) rfl rfl) ?_ | refine call_step (run_view (c66q (mS a b l k) (hms k).2.2 (by rw [(hms k).2.1]; decide)) rfl (vlc (view_map rfl Nat.two_pos) vln)) ?_); conv => whnf)
    | ((with_reducible refine loop_go ?_); first | (refine loop1 (fun (k : Nat) => l.length - k) (fun (k : Nat) => k ≤ l.length) (fun (k : Nat) => [(1, .d (.str b)), (9, .sl 0 0 (mS a b l k).length 1 none), (25, .d (.fs (l.map i))), (26, .d (i l.length)), (27, .d (i k))]) (fun (k : Nat) => [⟨((mS a b l k).map D.str).map .d, 1, 0⟩]) (0) (by exact Nat.zero_le _) ?_ (fun k C hI hC => ?_); (exact ⟨[.old 1], rfl, rfl, ⟨rfl, ⟨rfl, rfl, (by rw [mS_zero]), rfl, rfl⟩, rfl, (congrArg (D.int .i64) (by (rw [List.length_map]) <;> rfl)), rfl, trivial⟩, ⟨⟨rfl, rfl, .inl ⟨_, rfl, (by rw [mS_zero])⟩⟩, trivial⟩⟩); have hka := fun (h : k < l.length) => hkk _ (List.getElem_mem h); all_goals (conv => whnf)))
    | ((with_reducible show C _ _); first | (refine hC (k + 1) _ _ ?_ (by omega) ?_; clear hC; rotate_left; (exact ⟨[.old 0], rfl, rfl, ⟨(by first | (show (_ : D) = _; with_reducible rfl) | exact rfl), ⟨rfl, rfl, (by rw [(hms _).2.1, (hms _).2.1]), rfl, rfl⟩, (by first | (show (_ : D) = _; with_reducible rfl) | exact rfl), (by first | (show (_ : D) = _; with_reducible rfl) | exact congrArg (D.int .i64) (by omega) | exact congrArg (D.int .i64) (by simp only [List.length_map]) | exact rfl), (by first | (show (_ : D) = _; with_reducible rfl) | exact congrArg (D.int .i64) (by omega) | exact congrArg (D.int .i64) (by simp only [List.length_map]) | exact rfl), trivial⟩, ⟨⟨rfl, rfl, .inl ⟨_, (by rw [Nat.zero_add, set_row, mS_succ ha8 hb8 hkk (by omega)]), rfl⟩⟩, trivial⟩⟩); (exact (by omega : k + 1 ≤ l.length))))
    | (refine ⟨⟨(by first | rfl | (simp; done)), cap_ok (by simp only [List.length_map, List.length_cons, List.length_nil, List.length_append]; omega) rfl⟩, ?_⟩; conv => whnf)
    | (refine ⟨mem_one ⟨rfl, rfl⟩, ?_⟩; conv => whnf)
    | (refine ⟨(by intro y hy; obtain ⟨x, _, rfl⟩ := List.mem_map.1 hy; first | rfl | exact ⟨rfl, rfl⟩), ?_⟩; conv => whnf)
    | (refine ⟨cap_ok (by first | omega | (simp only [List.length_map]; omega)) rfl, ?_⟩; conv => whnf)
    | (refine ix_map (by omega) ?_; conv => whnf)
    | (refine ix_str (by omega) ?_; conv => whnf)
    | (refine wrap64 (by omega) ?_; conv => whnf)
    | (refine ⟨⟨by have := hka (by omega); omega, by have := hka (by omega); rw [(hms k).2.1]; omega⟩, ?_⟩; conv => whnf)
    | (refine nthK_row (by have := hka (by omega); rw [(hms k).2.1]; omega) ?_; conv => whnf)
    | (refine setK_of ?_; conv => whnf)
    | (refine wrap64 (by omega) ?_; conv => whnf)
    | (exfalso; simp only [List.length_map, List.length_cons, List.length_nil, List.length_append] at h; omega)
    | ((with_reducible refine endx_go ?_); first | (refine endx2 ?_; rw [mixR, mixErr_no, if_pos h0, h0, (hms k).1, List.take_of_length_le (by omega)]; done))
    | (refine ⟨rfl, ?_⟩; conv => whnf)
    | fail
    )

theorem c39e (a b : Bs) (l : List Int) (hl : l.length < 1000000) (h0 : ¬ first [blockErr a, blockErr b, asc 8 l] = 0) : Fn 39 [.str a, .str b, .fs (l.map i)] (.tup [.str (mixR a b l), i (mixErr a b l)]) := by
  refine run_walkF eok Tryd.func39 rfl (by kernel_rfl) ?_
  conv => whnf
  repeat' (first
    | ((with_reducible refine on_ndec_f (by assumption) ?_); conv => whnf)
    | ((with_reducible refine on_dec_f ?_ ?_); (focus ((try simp only [List.length_map, List.length_cons, List.length_nil, List.length_append]); omega)); conv => whnf)
    | ((with_reducible refine on_dec_t ?_ ?_); (focus ((try simp only [List.length_map, List.length_cons, List.length_nil, List.length_append]); omega)); conv => whnf)
    | ((with_reducible refine on_dec (fun h => ?_) (fun h => ?_)) <;> (try simp only [List.length_map] at h) <;> conv => whnf)
    | ((with_reducible refine on_ndec (fun h => ?_) (fun h => ?_)) <;> (try simp only [List.length_map] at h) <;> conv => whnf)
    | ((with_reducible refine on_not (fun h => ?_) (fun h => ?_)) <;> conv => whnf)
    | ((with_reducible refine onBool_split (fun h => ?_) (fun h => ?_)) <;> conv => whnf)
    | ((with_reducible refine call_go ?_); (first | refine call_step (run_view (c48 _) rfl rfl) ?_ | refine call_step (run_view (c78 8 l hl (by omega)) rfl rfl) ?_ | refine call_step (run_view (c58 [_, _] (by simp)) rfl rfl) ?_ | refine call_step (run_view (c58 [_, _, _] (by simp)) rfl rfl) ?_ | refine call_step (run_view (c58 [_, _, _, _] (by simp)) rfl rfl) ?_ | refine call_step (run_new (c64 a (by omega)) (fun _ => rfl) rfl) ?_ | refine call_step (run_view (c77q b _ (l[k]'(by omega)).toNat (by have := hka (by omega); omega) (by have := hka (by omega); omega) (by omega)) rfl rfl) ?_ | refine call_step (run_view (c66q (mS a b l k) (hms k).2.2 (by rw [(hms k).2.1]; decide)) rfl (vlc (view_map rfl Nat.two_pos) vln)) ?_); conv => whnf)
    | (refine ⟨⟨(by first | rfl | (simp; done)), cap_ok (by simp only [List.length_map, List.length_cons, List.length_nil, List.length_append]; omega) rfl⟩, ?_⟩; conv => whnf)
    | (refine ⟨mem_one ⟨rfl, rfl⟩, ?_⟩; conv => whnf)
    | (refine ⟨(by intro y hy; obtain ⟨x, _, rfl⟩ := List.mem_map.1 hy; first | rfl | exact ⟨rfl, rfl⟩), ?_⟩; conv => whnf)
    | (refine ⟨cap_ok (by first | omega | (simp only [List.length_map]; omega)) rfl, ?_⟩; conv => whnf)
    | (refine ix_map (by omega) ?_; conv => whnf)
    | (refine ix_str (by omega) ?_; conv => whnf)
    | (refine wrap64 (by omega) ?_; conv => whnf)
    | (exfalso; simp only [List.length_map, List.length_cons, List.length_nil, List.length_append] at h; omega)
    | ((with_reducible refine endx_go ?_); first | (refine endx2 ?_; (rw [mixR, mixErr_no, if_neg h0]); done))
    | (refine ⟨rfl, ?_⟩; conv => whnf)
    | fail
    )

theorem c39 (a b : Bs) (l : List Int) (hl : l.length < 1000000) : Fn 39 [.str a, .str b, .fs (l.map i)] (.tup [.str (mixR a b l), i (mixErr a b l)]) := by
  by_cases h0 : first [blockErr a, blockErr b, asc 8 l] = 0
  · exact c39m a b l hl h0
  · exact c39e a b l hl h0

end Go.Proofs.YtpblmdolgocpaaaDoor

/-! Wm -/
namespace Go.Proofs.YtpblmdolgocpaaaDoor
open Go Dw
set_option maxRecDepth 10000
set_option linter.unusedVariables false
set_option linter.unusedSimpArgs false
attribute [local irreducible] Run
set_option maxHeartbeats 4000000

attribute [local irreducible] sec stK put patch wrote pat wr

theorem c83 (k : Nat) (h : k < 1000) : Fn 83 [i k] (i (tl k : Nat)) := by
  refine run_walkF eok Tryd.func83 rfl (by kernel_rfl) ?_
  conv => whnf
  repeat' (first
    | ((with_reducible refine on_dec_f ?_ ?_); (focus ((try simp only [List.length_map, List.length_cons, List.length_nil, List.length_append]); omega)); conv => whnf)
    | ((with_reducible refine on_dec_t ?_ ?_); (focus ((try simp only [List.length_map, List.length_cons, List.length_nil, List.length_append]); omega)); conv => whnf)
    | ((with_reducible refine on_dec (fun h => ?_) (fun h => ?_)) <;> (try simp only [List.length_map] at h) <;> conv => whnf)
    | ((with_reducible refine on_ndec (fun h => ?_) (fun h => ?_)) <;> (try simp only [List.length_map] at h) <;> conv => whnf)
    | ((with_reducible refine on_not (fun h => ?_) (fun h => ?_)) <;> conv => whnf)
    | ((with_reducible refine onBool_split (fun h => ?_) (fun h => ?_)) <;> conv => whnf)
    | (refine ⟨⟨(by first | rfl | (simp; done)), cap_ok (by simp only [List.length_map, List.length_cons, List.length_nil, List.length_append]; omega) rfl⟩, ?_⟩; conv => whnf)
    | (refine ⟨mem_one ⟨rfl, rfl⟩, ?_⟩; conv => whnf)
    | (refine ⟨(by intro y hy; obtain ⟨x, _, rfl⟩ := List.mem_map.1 hy; first | rfl | exact ⟨rfl, rfl⟩), ?_⟩; conv => whnf)
    | (refine ⟨cap_ok (by first | omega | (simp only [List.length_map]; omega)) rfl, ?_⟩; conv => whnf)
    | (refine ix_map (by omega) ?_; conv => whnf)
    | (refine ix_str (by omega) ?_; conv => whnf)
    | (refine wrap64 (by omega) ?_; conv => whnf)
    | (refine wrap64 (by omega) ?_; conv => whnf)
    | (exfalso; simp only [List.length_map, List.length_cons, List.length_nil, List.length_append] at h; omega)
    | ((with_reducible refine endx_go ?_); first | (exact endx (congrArg i (by simp only [tl]; omega)); done))
    | (refine ⟨rfl, ?_⟩; conv => whnf)
    | fail
    )

theorem c83q (a : Int) (k : Nat) (ha : a = k) (h : k < 1000) : Fn 83 [i a] (i (tl k : Nat)) := by subst ha; exact c83 k h
attribute [local irreducible] le2 at2 trRn trL isz num2

theorem c86 (n : Nat) (h : n < 1000000) : Fn 86 [i n] (.str (le2 n)) := by
  refine run_walkF eok Tryd.func86 rfl (by kernel_rfl) ?_
  conv => whnf
  repeat' (first
    | ((with_reducible refine on_dec_f ?_ ?_); (focus ((try simp only [List.length_map, List.length_cons, List.length_nil, List.length_append]); omega)); conv => whnf)
    | ((with_reducible refine on_dec_t ?_ ?_); (focus ((try simp only [List.length_map, List.length_cons, List.length_nil, List.length_append]); omega)); conv => whnf)
    | ((with_reducible refine on_dec (fun h => ?_) (fun h => ?_)) <;> (try simp only [List.length_map] at h) <;> conv => whnf)
    | ((with_reducible refine on_ndec (fun h => ?_) (fun h => ?_)) <;> (try simp only [List.length_map] at h) <;> conv => whnf)
    | ((with_reducible refine on_not (fun h => ?_) (fun h => ?_)) <;> conv => whnf)
    | ((with_reducible refine onBool_split (fun h => ?_) (fun h => ?_)) <;> conv => whnf)
    | (refine ⟨⟨(by first | rfl | (simp; done)), cap_ok (by simp only [List.length_map, List.length_cons, List.length_nil, List.length_append]; omega) rfl⟩, ?_⟩; conv => whnf)
    | (refine ⟨mem_one ⟨rfl, rfl⟩, ?_⟩; conv => whnf)
    | (refine ⟨(by intro y hy; obtain ⟨x, _, rfl⟩ := List.mem_map.1 hy; first | rfl | exact ⟨rfl, rfl⟩), ?_⟩; conv => whnf)
    | (refine ⟨cap_ok (by first | omega | (simp only [List.length_map]; omega)) rfl, ?_⟩; conv => whnf)
    | (refine ix_map (by omega) ?_; conv => whnf)
    | (refine ix_str (by omega) ?_; conv => whnf)
    | (refine wrap64 (by omega) ?_; conv => whnf)
    | (refine wrapU8n ?_; conv => whnf)
    | (refine shr_n 256 rfl rfl ?_; conv => whnf)
    | (refine ⟨le2 n, ⟨Nat.le_refl _, (le2_map n).symm⟩, ?_⟩; conv => whnf)
    | (refine wrap64 (by omega) ?_; conv => whnf)
    | (exfalso; simp only [List.length_map, List.length_cons, List.length_nil, List.length_append] at h; omega)
    | ((with_reducible refine endx_go ?_); first | (exact endx rfl; done))
    | (refine ⟨rfl, ?_⟩; conv => whnf)
    | fail
    )

theorem c80 (a b : UInt8) : Fn 80 [.str [a, b]] (i (num2 [a, b])) := by
  refine run_walkF eok Tryd.func80 rfl (by kernel_rfl) ?_
  conv => whnf
  repeat' (first
    | ((with_reducible refine on_dec_f ?_ ?_); (focus ((try simp only [List.length_map, List.length_cons, List.length_nil, List.length_append]); omega)); conv => whnf)
    | ((with_reducible refine on_dec_t ?_ ?_); (focus ((try simp only [List.length_map, List.length_cons, List.length_nil, List.length_append]); omega)); conv => whnf)
    | ((with_reducible refine on_dec (fun h => ?_) (fun h => ?_)) <;> (try simp only [List.length_map] at h) <;> conv => whnf)
    | ((with_reducible refine on_ndec (fun h => ?_) (fun h => ?_)) <;> (try simp only [List.length_map] at h) <;> conv => whnf)
    | ((with_reducible refine on_not (fun h => ?_) (fun h => ?_)) <;> conv => whnf)
    | ((with_reducible refine onBool_split (fun h => ?_) (fun h => ?_)) <;> conv => whnf)
    | (refine ⟨[], [], (by decide +kernel), ?_⟩; conv => whnf)
    | (refine ⟨⟨(by first | rfl | (simp; done)), cap_ok (by simp only [List.length_map, List.length_cons, List.length_nil, List.length_append]; omega) rfl⟩, ?_⟩; conv => whnf)
    | (refine ⟨mem_one ⟨rfl, rfl⟩, ?_⟩; conv => whnf)
    | (refine ⟨(by intro y hy; obtain ⟨x, _, rfl⟩ := List.mem_map.1 hy; first | rfl | exact ⟨rfl, rfl⟩), ?_⟩; conv => whnf)
    | (refine ⟨cap_ok (by first | omega | (simp only [List.length_map]; omega)) rfl, ?_⟩; conv => whnf)
    | (refine ix_map (by omega) ?_; conv => whnf)
    | (refine ix_str (by omega) ?_; conv => whnf)
    | (refine wrap64 (by omega) ?_; conv => whnf)
    | (refine ⟨by decide, ?_⟩; conv => whnf)
    | (refine wrap64u8 ?_; conv => whnf)
    | (refine shl_at 256 rfl rfl ?_; conv => whnf)
    | (refine wrap64 (by have := b.toNat_lt; omega) ?_; conv => whnf)
    | (refine bit_or (by have := a.toNat_lt; have := b.toNat_lt; omega) ?_; conv => whnf)
    | (exfalso; simp only [List.length_map, List.length_cons, List.length_nil, List.length_append] at h; omega)
    | ((with_reducible refine endx_go ?_); first | (exact endx (congrArg i (congrArg Int.ofNat num2_or)); done))
    | (refine ⟨rfl, ?_⟩; conv => whnf)
    | fail
    )

theorem c80q (s : Bs) (h : s.length = 2) : Fn 80 [.str s] (i (num2 s)) := by
  obtain ⟨a, b, rfl⟩ := two_of h
  exact c80 a b

theorem c81 (s : Bs) (k : Nat) (h : k + 2 ≤ s.length) (hs : s.length < 1000000) : Fn 81 [.fs (s.map u8D), i k] (.str (at2 s k)) := by
  refine run_walkF eok Tryd.func81 rfl (by kernel_rfl) ?_
  conv => whnf
  repeat' (first
    | ((with_reducible refine on_dec_f ?_ ?_); (focus ((try simp only [List.length_map, List.length_cons, List.length_nil, List.length_append]); omega)); conv => whnf)
    | ((with_reducible refine on_dec_t ?_ ?_); (focus ((try simp only [List.length_map, List.length_cons, List.length_nil, List.length_append]); omega)); conv => whnf)
    | ((with_reducible refine on_dec (fun h => ?_) (fun h => ?_)) <;> (try simp only [List.length_map] at h) <;> conv => whnf)
    | ((with_reducible refine on_ndec (fun h => ?_) (fun h => ?_)) <;> (try simp only [List.length_map] at h) <;> conv => whnf)
    | ((with_reducible refine on_not (fun h => ?_) (fun h => ?_)) <;> conv => whnf)
    | ((with_reducible refine onBool_split (fun h => ?_) (fun h => ?_)) <;> conv => whnf)
    | (refine ⟨⟨(by first | rfl | (simp; done)), cap_ok (by simp only [List.length_map, List.length_cons, List.length_nil, List.length_append]; omega) rfl⟩, ?_⟩; conv => whnf)
    | (refine ⟨mem_one ⟨rfl, rfl⟩, ?_⟩; conv => whnf)
    | (refine ⟨(by intro y hy; obtain ⟨x, _, rfl⟩ := List.mem_map.1 hy; first | rfl | exact ⟨rfl, rfl⟩), ?_⟩; conv => whnf)
    | (refine ⟨cap_ok (by first | omega | (simp only [List.length_map]; omega)) rfl, ?_⟩; conv => whnf)
    | (refine ix_map (by omega) ?_; conv => whnf)
    | (refine ix_str (by omega) ?_; conv => whnf)
    | (refine wrap64 (by omega) ?_; conv => whnf)
    | (refine sl_map (f := u8D) (l := s) k (k + 2) (by omega) (by omega) (by omega) (fun x => rfl) ?_; conv => whnf)
    | (refine ⟨at2 s k, at2_map, ?_⟩; conv => whnf)
    | (refine wrap64 (by omega) ?_; conv => whnf)
    | (exfalso; simp only [List.length_map, List.length_cons, List.length_nil, List.length_append] at h; omega)
    | ((with_reducible refine endx_go ?_); first | (exact endx rfl; done))
    | (refine ⟨rfl, ?_⟩; conv => whnf)
    | fail
    )

theorem c81q (s : Bs) (a : Int) (k : Nat) (ha : a = k) (h : k + 2 ≤ s.length) (hs : s.length < 1000000) : Fn 81 [.fs (s.map u8D), i a] (.str (at2 s k)) := by subst ha; exact c81 s k h hs

theorem c82 (s t : Bs) (a : Int) (k : Nat) (ha : a = k) (h : k + t.length ≤ s.length) : Run Tryd.prog 82 [.sl 0 0 s.length 1 none, .d (i a), .d (.str t)] [⟨s.map byteV, 1, 0⟩] (.tup []) [⟨(patch s k t).map byteV, 1, 0⟩] := by
  refine run_walkV eok Tryd.func82 rfl (by kernel_rfl) [] (by rfl) [] ?_
  conv => whnf
  repeat' (first
    | ((with_reducible refine on_dec_f ?_ ?_); (focus ((try simp only [List.length_map, List.length_cons, List.length_nil, List.length_append]); omega)); conv => whnf)
    | ((with_reducible refine on_dec_t ?_ ?_); (focus ((try simp only [List.length_map, List.length_cons, List.length_nil, List.length_append]); omega)); conv => whnf)
    | ((with_reducible refine on_dec (fun h => ?_) (fun h => ?_)) <;> (try simp only [List.length_map] at h) <;> conv => whnf)
    | ((with_reducible refine on_ndec (fun h => ?_) (fun h => ?_)) <;> (try simp only [List.length_map] at h) <;> conv => whnf)
    | ((with_reducible refine on_not (fun h => ?_) (fun h => ?_)) <;> conv => whnf)
    | ((with_reducible refine onBool_split (fun h => ?_) (fun h => ?_)) <;> conv => whnf)
    | (refine ⟨⟨(by first | rfl | (simp; done)), cap_ok (by simp only [List.length_map, List.length_cons, List.length_nil, List.length_append]; omega) rfl⟩, ?_⟩; conv => whnf)
    | (refine ⟨mem_one ⟨rfl, rfl⟩, ?_⟩; conv => whnf)
    | (refine ⟨(by intro y hy; obtain ⟨x, _, rfl⟩ := List.mem_map.1 hy; first | rfl | exact ⟨rfl, rfl⟩), ?_⟩; conv => whnf)
    | (refine ⟨cap_ok (by first | omega | (simp only [List.length_map]; omega)) rfl, ?_⟩; conv => whnf)
    | (refine ix_map (by omega) ?_; conv => whnf)
    | (refine ix_str (by omega) ?_; conv => whnf)
    | (refine wrap64 (by omega) ?_; conv => whnf)
    | (refine own_sl k s.length (by omega) (by omega) (by omega) ?_; conv => whnf)
    | (refine ⟨(by rw [List.length_map]; omega), ?_⟩; conv => whnf)
    | (exfalso; simp only [List.length_map, List.length_cons, List.length_nil, List.length_append] at h; omega)
    | ((with_reducible refine endx_go ?_); first | (refine endX_of (.inl ⟨[.old 0], rfl, rfl, ⟨trivial, trivial⟩, ⟨⟨rfl, rfl, .inl ⟨(patch s k t).map u8D, (by rw [Nat.zero_add, patch_over h, byteV_map]), (byteV_map _)⟩⟩, trivial⟩⟩); done))
    | (refine ⟨rfl, ?_⟩; conv => whnf)
    | fail
    )

theorem z8 {b : UInt8} (h : (b.toNat : Int) = 0) : b = 0 := UInt8.toNat_inj.1 (by simpa using h)
theorem z8n {b : UInt8} (h : ¬ (b.toNat : Int) = 0) : ¬ b = 0 := fun e => h (by subst e; rfl)
theorem isz_no {s : Bs} {k : Nat} (h : k < s.length) (hz : ¬ s[k] = 0) : isz s = false := by
  cases c : isz s with
  | false => rfl
  | true =>
    have := isz_iff.1 c k h
    rw [List.getElem?_eq_getElem h] at this
    exact absurd (Option.some.inj this) hz

theorem c87 (s : Bs) (hs : s.length < 1000000) : Fn 87 [.str s] (.bool (isz s)) := by
  refine run_walkF eok Tryd.func87 rfl (by kernel_rfl) ?_
  conv => whnf
  repeat' (first
    | ((with_reducible refine on_dec_f ?_ ?_); (focus ((try simp only [List.length_map, List.length_cons, List.length_nil, List.length_append]); omega)); conv => whnf)
    | ((with_reducible refine on_dec_t ?_ ?_); (focus ((try simp only [List.length_map, List.length_cons, List.length_nil, List.length_append]); omega)); conv => whnf)
    | ((with_reducible refine on_dec (fun h => ?_) (fun h => ?_)) <;> (try simp only [List.length_map] at h) <;> conv => whnf)
    | ((with_reducible refine on_ndec (fun h => ?_) (fun h => ?_)) <;> (try simp only [List.length_map] at h) <;> conv => whnf)
    | ((with_reducible refine on_not (fun h => ?_) (fun h => ?_)) <;> conv => whnf)
    | ((with_reducible refine onBool_split (fun h => ?_) (fun h => ?_)) <;> conv => whnf)
    | ((with_reducible refine loop_go ?_); first | (refine loop1 (fun (k : Nat) => s.length - k) (fun (k : Nat) => k ≤ s.length ∧ isz (s.take k) = true) (fun (k : Nat) => [(0, .d (.str s)), (3, .d (i k))]) (fun (k : Nat) => []) (0) (by exact ⟨Nat.zero_le _, by unfold isz; rfl⟩) ?_ (fun k C hI hC => ?_); (exact ⟨[], rfl, rfl, ⟨(by first | (show (_ : D) = _; with_reducible rfl) | exact rfl), (by first | (show (_ : D) = _; with_reducible rfl) | exact congrArg (D.int .i64) (by omega) | exact congrArg (D.int .i64) (by simp only [List.length_map]) | exact rfl), trivial⟩, trivial⟩); all_goals (conv => whnf)))
    | ((with_reducible show C _ _); first | (refine hC (k + 1) _ _ ?_ (by omega) ?_; clear hC; rotate_left; (exact ⟨[], rfl, rfl, ⟨(by first | (show (_ : D) = _; with_reducible rfl) | exact rfl), (by first | (show (_ : D) = _; with_reducible rfl) | exact congrArg (D.int .i64) (by omega) | exact congrArg (D.int .i64) (by simp only [List.length_map]) | exact rfl), trivial⟩, trivial⟩); (exact ⟨by omega, by rw [isz_snoc (by omega), hI.2]; simp; exact z8 (by assumption)⟩)))
    | (refine ⟨⟨(by first | rfl | (simp; done)), cap_ok (by simp only [List.length_map, List.length_cons, List.length_nil, List.length_append]; omega) rfl⟩, ?_⟩; conv => whnf)
    | (refine ⟨mem_one ⟨rfl, rfl⟩, ?_⟩; conv => whnf)
    | (refine ⟨(by intro y hy; obtain ⟨x, _, rfl⟩ := List.mem_map.1 hy; first | rfl | exact ⟨rfl, rfl⟩), ?_⟩; conv => whnf)
    | (refine ⟨cap_ok (by first | omega | (simp only [List.length_map]; omega)) rfl, ?_⟩; conv => whnf)
    | (refine ix_map (by omega) ?_; conv => whnf)
    | (refine ix_str (by omega) ?_; conv => whnf)
    | (refine wrap64 (by omega) ?_; conv => whnf)
    | (refine wrap64 (by omega) ?_; conv => whnf)
    | (exfalso; simp only [List.length_map, List.length_cons, List.length_nil, List.length_append] at h; omega)
    | ((with_reducible refine endx_go ?_); first | (exact endx (congrArg D.bool (isz_no (k := k) (by omega) (z8n (by assumption))).symm); done) | (exact endx (congrArg D.bool (by rw [← hI.2, List.take_of_length_le (by omega)])); done))
    | (refine ⟨rfl, ?_⟩; conv => whnf)
    | fail
    )

theorem c57 (n : Nat) (h : n ≤ 200000) : Fn 57 [i n] (.str (zs n)) := by
  have h1 : goMin (n : Int) 200000 = n := (by unfold goMin; split <;> omega); have h2 : goMax 0 (n : Int) = n := (by unfold goMax; split <;> omega)
  refine run_walkF eok Tryd.func57 rfl (by kernel_rfl) ?_
  conv => whnf
  repeat' (first
    | ((with_reducible refine on_dec_f ?_ ?_); (focus ((try simp only [List.length_map, List.length_cons, List.length_nil, List.length_append]); omega)); conv => whnf)
    | ((with_reducible refine on_dec_t ?_ ?_); (focus ((try simp only [List.length_map, List.length_cons, List.length_nil, List.length_append]); omega)); conv => whnf)
    | ((with_reducible refine on_dec (fun h => ?_) (fun h => ?_)) <;> (try simp only [List.length_map] at h) <;> conv => whnf)
    | ((with_reducible refine on_ndec (fun h => ?_) (fun h => ?_)) <;> (try simp only [List.length_map] at h) <;> conv => whnf)
    | ((with_reducible refine on_not (fun h => ?_) (fun h => ?_)) <;> conv => whnf)
    | ((with_reducible refine onBool_split (fun h => ?_) (fun h => ?_)) <;> conv => whnf)
    | (refine ⟨⟨(by first | rfl | (simp; done)), cap_ok (by simp only [List.length_map, List.length_cons, List.length_nil, List.length_append]; omega) rfl⟩, ?_⟩; conv => whnf)
    | (refine ⟨mem_one ⟨rfl, rfl⟩, ?_⟩; conv => whnf)
    | (refine ⟨(by intro y hy; obtain ⟨x, _, rfl⟩ := List.mem_map.1 hy; first | rfl | exact ⟨rfl, rfl⟩), ?_⟩; conv => whnf)
    | (refine ⟨cap_ok (by first | omega | (simp only [List.length_map]; omega)) rfl, ?_⟩; conv => whnf)
    | (refine ix_map (by omega) ?_; conv => whnf)
    | (refine ix_str (by omega) ?_; conv => whnf)
    | (refine wrap64 (by omega) ?_; conv => whnf)
    | (refine ⟨(by rw [h1, h2]; exact ⟨by omega, Int.le_refl _, (capI ⟨by omega, by omega⟩ rfl).2⟩), ?_⟩; conv => whnf)
    | (refine ⟨zs n, ⟨(by rw [h1, h2, List.length_replicate]; omega), (by rw [h1, h2, zs_map, List.drop_zero, List.take_of_length_le (by rw [List.length_replicate]; exact Nat.le_refl _)]; rfl)⟩, ?_⟩; conv => whnf)
    | (exfalso; simp only [List.length_map, List.length_cons, List.length_nil, List.length_append] at h; omega)
    | ((with_reducible refine endx_go ?_); first | (exact endx rfl; done))
    | (refine ⟨rfl, ?_⟩; conv => whnf)
    | fail
    )

theorem c47 (n m : Int) (hm : 0 < m ∧ m < 1000000000) : Fn 47 [i n, i m] (i (n % m)) := by
  refine run_walkF eok Tryd.func47 rfl (by kernel_rfl) ?_
  conv => whnf
  repeat' (first
    | ((with_reducible refine on_dec_f ?_ ?_); (focus ((try simp only [List.length_map, List.length_cons, List.length_nil, List.length_append]); omega)); conv => whnf)
    | ((with_reducible refine on_dec_t ?_ ?_); (focus ((try simp only [List.length_map, List.length_cons, List.length_nil, List.length_append]); omega)); conv => whnf)
    | ((with_reducible refine on_dec (fun h => ?_) (fun h => ?_)) <;> (try simp only [List.length_map] at h) <;> conv => whnf)
    | ((with_reducible refine on_ndec (fun h => ?_) (fun h => ?_)) <;> (try simp only [List.length_map] at h) <;> conv => whnf)
    | ((with_reducible refine on_not (fun h => ?_) (fun h => ?_)) <;> conv => whnf)
    | ((with_reducible refine onBool_split (fun h => ?_) (fun h => ?_)) <;> conv => whnf)
    | (refine ⟨⟨(by first | rfl | (simp; done)), cap_ok (by simp only [List.length_map, List.length_cons, List.length_nil, List.length_append]; omega) rfl⟩, ?_⟩; conv => whnf)
    | (refine ⟨mem_one ⟨rfl, rfl⟩, ?_⟩; conv => whnf)
    | (refine ⟨(by intro y hy; obtain ⟨x, _, rfl⟩ := List.mem_map.1 hy; first | rfl | exact ⟨rfl, rfl⟩), ?_⟩; conv => whnf)
    | (refine ⟨cap_ok (by first | omega | (simp only [List.length_map]; omega)) rfl, ?_⟩; conv => whnf)
    | (refine ix_map (by omega) ?_; conv => whnf)
    | (refine ix_str (by omega) ?_; conv => whnf)
    | (refine wrap64 (by omega) ?_; conv => whnf)
    | (refine rem_any hm.1 ?_; conv => whnf)
    | (refine wrap64 (by have := Int.emod_nonneg n (b := m) (by omega); have := Int.emod_lt_of_pos n hm.1; have h9 := tmod_emod n hm.1; omega) ?_; conv => whnf)
    | (exfalso; simp only [List.length_map, List.length_cons, List.length_nil, List.length_append] at h; omega)
    | ((with_reducible refine endx_go ?_); first | (exact endx (congrArg i (by have := Int.tmod_eq_emod (a := n) (b := m); have := Int.emod_nonneg n (b := m) (by omega); have := Int.emod_lt_of_pos n hm.1; have h9 := tmod_emod n hm.1; omega)); done))
    | (refine ⟨rfl, ?_⟩; conv => whnf)
    | fail
    )

theorem c45 (n : Int) : Fn 45 [i n] (.tup [i (if within n 0 65535 then n % 65535 + 1 else 0), i (if within n 0 65535 then 0 else 2)]) := by
  refine run_walkF eok Tryd.func45 rfl (by kernel_rfl) ?_
  conv => whnf
  repeat' (first
    | ((with_reducible refine on_dec_f ?_ ?_); (focus ((try simp only [List.length_map, List.length_cons, List.length_nil, List.length_append]); omega)); conv => whnf)
    | ((with_reducible refine on_dec_t ?_ ?_); (focus ((try simp only [List.length_map, List.length_cons, List.length_nil, List.length_append]); omega)); conv => whnf)
    | ((with_reducible refine on_dec (fun h => ?_) (fun h => ?_)) <;> (try simp only [List.length_map] at h) <;> conv => whnf)
    | ((with_reducible refine on_ndec (fun h => ?_) (fun h => ?_)) <;> (try simp only [List.length_map] at h) <;> conv => whnf)
    | ((with_reducible refine on_not (fun h => ?_) (fun h => ?_)) <;> conv => whnf)
    | ((with_reducible refine onBool_split (fun h => ?_) (fun h => ?_)) <;> conv => whnf)
    | ((with_reducible refine call_go ?_); (first | refine call_step (run_view (c85 _ _ _) rfl rfl) ?_); conv => whnf)
    | (refine ⟨⟨(by first | rfl | (simp; done)), cap_ok (by simp only [List.length_map, List.length_cons, List.length_nil, List.length_append]; omega) rfl⟩, ?_⟩; conv => whnf)
    | (refine ⟨mem_one ⟨rfl, rfl⟩, ?_⟩; conv => whnf)
    | (refine ⟨(by intro y hy; obtain ⟨x, _, rfl⟩ := List.mem_map.1 hy; first | rfl | exact ⟨rfl, rfl⟩), ?_⟩; conv => whnf)
    | (refine ⟨cap_ok (by first | omega | (simp only [List.length_map]; omega)) rfl, ?_⟩; conv => whnf)
    | (refine ix_map (by omega) ?_; conv => whnf)
    | (refine ix_str (by omega) ?_; conv => whnf)
    | (refine wrap64 (by omega) ?_; conv => whnf)
    | (refine rem_nn (by simp_all [within]) ?_; conv => whnf)
    | (refine wrap64 (by omega) ?_; conv => whnf)
    | (exfalso; simp only [List.length_map, List.length_cons, List.length_nil, List.length_append] at h; omega)
    | ((with_reducible refine endx_go ?_); first | (refine endx2 ?_; simp [*]; done) | (refine endx2 ?_; simp_all; done))
    | (refine ⟨rfl, ?_⟩; conv => whnf)
    | fail
    )

end Go.Proofs.YtpblmdolgocpaaaDoor

/-! Wn -/
namespace Go.Proofs.YtpblmdolgocpaaaDoor
open Go Dw
set_option maxRecDepth 10000
set_option linter.unusedVariables false
set_option linter.unusedSimpArgs false
attribute [local irreducible] Run
set_option maxHeartbeats 4000000

attribute [local irreducible] sec stK put patch wrote pat wr

theorem u8eq {a b : UInt8} (h : (a.toNat : Int) = b.toNat) : a = b := UInt8.toNat_inj.1 (by omega)
theorem trL_cons0 {s : Bs} {x : UInt8} (h : x = 0) : trL (x :: s) = trL s := by unfold trL; rw [List.dropWhile_cons_of_pos (by simp [h])]
theorem trL_cons1 {s : Bs} {x : UInt8} (h : ¬ x = 0) : trL (x :: s) = x :: s := by unfold trL; rw [List.dropWhile_cons_of_neg (by simpa using h)]
theorem trL_nil0 : trL [] = [] := rfl
attribute [local irreducible] le2 at2 trRn trL isz num2 tl tornK torn

theorem ix_stri {s : List UInt8} {n : Int} (k : Nat) (hn : n = k) {K : UInt8 → Prop} (h : k < s.length) (hk : K s[k]) : 0 ≤ n ∧ nthK s n.toNat K := by
  subst hn; exact ix_str h hk

theorem c94 (s : Bs) (hs : s.length < 1000000) : Fn 94 [.str s, .int .u8 0] (.str (trL s)) := by
  refine run_walkF eok Tryd.func94 rfl (by kernel_rfl) ?_
  conv => whnf
  repeat' (first
    | ((with_reducible refine on_dec_f ?_ ?_); (focus ((try simp only [List.length_map, List.length_cons, List.length_nil, List.length_append]); omega)); conv => whnf)
    | ((with_reducible refine on_dec_t ?_ ?_); (focus ((try simp only [List.length_map, List.length_cons, List.length_nil, List.length_append]); omega)); conv => whnf)
    | ((with_reducible refine on_dec (fun h => ?_) (fun h => ?_)) <;> (try simp only [List.length_map] at h) <;> conv => whnf)
    | ((with_reducible refine on_ndec (fun h => ?_) (fun h => ?_)) <;> (try simp only [List.length_map] at h) <;> conv => whnf)
    | ((with_reducible refine on_not (fun h => ?_) (fun h => ?_)) <;> conv => whnf)
    | ((with_reducible refine onBool_split (fun h => ?_) (fun h => ?_)) <;> conv => whnf)
    | ((with_reducible refine loop_go ?_); first | (refine loop1 (fun (t : Bs) => t.length) (fun (t : Bs) => trL s = trL t ∧ t.length ≤ s.length) (fun (t : Bs) => [(0, .d (.str t)), (1, .d (.int .u8 0))]) (fun (t : Bs) => []) (s) (by exact ⟨rfl, Nat.le_refl _⟩) ?_ (fun t C hI hC => ?_); (exact ⟨[], rfl, rfl, ⟨(by first | (show (_ : D) = _; with_reducible rfl) | exact rfl), (by first | (show (_ : D) = _; with_reducible rfl) | exact rfl), trivial⟩, trivial⟩); rcases t with _ | ⟨x, t⟩; all_goals (conv => whnf)))
    | ((with_reducible show C _ _); first | (refine hC (t) _ _ ?_ (by simp) ?_; clear hC; rotate_left; (exact ⟨[], rfl, rfl, ⟨(congrArg D.str (by simp)), (by first | (show (_ : D) = _; with_reducible rfl) | exact rfl), trivial⟩, trivial⟩); (exact ⟨by rw [hI.1, trL_cons0 (z8 (by assumption))], by have := hI.2; simp only [List.length_cons] at this; omega⟩)))
    | (refine ⟨⟨(by first | rfl | (simp; done)), cap_ok (by simp only [List.length_map, List.length_cons, List.length_nil, List.length_append]; omega) rfl⟩, ?_⟩; conv => whnf)
    | (refine ⟨mem_one ⟨rfl, rfl⟩, ?_⟩; conv => whnf)
    | (refine ⟨(by intro y hy; obtain ⟨x, _, rfl⟩ := List.mem_map.1 hy; first | rfl | exact ⟨rfl, rfl⟩), ?_⟩; conv => whnf)
    | (refine ⟨cap_ok (by first | omega | (simp only [List.length_map]; omega)) rfl, ?_⟩; conv => whnf)
    | (refine ix_map (by omega) ?_; conv => whnf)
    | (refine ix_str (by omega) ?_; conv => whnf)
    | (refine wrap64 (by omega) ?_; conv => whnf)
    | (refine ⟨by decide, ?_⟩; conv => whnf)
    | (refine sl_str 1 (x :: t).length (by omega) (by omega) (by simp) ?_; conv => whnf)
    | (exfalso; simp at h; done)
    | (exfalso; simp at h; omega)
    | (exfalso; simp only [List.length_map, List.length_cons, List.length_nil, List.length_append] at h; omega)
    | ((with_reducible refine endx_go ?_); first | (exact endx (congrArg D.str (by rw [hI.1, trL_nil0])); done) | (exact endx (congrArg D.str (by rw [hI.1, trL_cons1 (z8n (by assumption))])); done))
    | (refine ⟨rfl, ?_⟩; conv => whnf)
    | fail
    )

theorem c95 (s : Bs) (hs : s.length < 1000000) : Fn 95 [.str s, .int .u8 0] (.str (trR s)) := by
  refine run_walkF eok Tryd.func95 rfl (by kernel_rfl) ?_
  conv => whnf
  repeat' (first
    | ((with_reducible refine on_dec_f ?_ ?_); (focus ((try simp only [List.length_map, List.length_cons, List.length_nil, List.length_append]); omega)); conv => whnf)
    | ((with_reducible refine on_dec_t ?_ ?_); (focus ((try simp only [List.length_map, List.length_cons, List.length_nil, List.length_append]); omega)); conv => whnf)
    | ((with_reducible refine on_dec (fun h => ?_) (fun h => ?_)) <;> (try simp only [List.length_map] at h) <;> conv => whnf)
    | ((with_reducible refine on_ndec (fun h => ?_) (fun h => ?_)) <;> (try simp only [List.length_map] at h) <;> conv => whnf)
    | ((with_reducible refine on_not (fun h => ?_) (fun h => ?_)) <;> conv => whnf)
    | ((with_reducible refine onBool_split (fun h => ?_) (fun h => ?_)) <;> conv => whnf)
    | ((with_reducible refine loop_go ?_); first | (refine loop1 (fun (n : Nat) => n) (fun (n : Nat) => n ≤ s.length ∧ trRn s s.length = trRn s n) (fun (n : Nat) => [(0, .d (.str (s.take n))), (1, .d (.int .u8 0))]) (fun (n : Nat) => []) (s.length) (by exact ⟨Nat.le_refl _, rfl⟩) ?_ (fun n C hI hC => ?_); (exact ⟨[], rfl, rfl, ⟨(congrArg D.str (List.take_length).symm), rfl, trivial⟩, trivial⟩); have hln : (s.take n).length = n := (by rw [List.length_take]; omega); have hz : ∀ (h : n - 1 < (s.take n).length), (s.take n)[n - 1] = s[n - 1]'(by omega) := fun h => List.getElem_take; all_goals (conv => whnf)))
    | ((with_reducible show C _ _); first | (refine hC (n - 1) _ _ ?_ (by omega) ?_; clear hC; rotate_left; (exact ⟨[], rfl, rfl, ⟨(congrArg D.str (by rw [List.drop_zero, List.take_take, Nat.min_eq_left (by omega)])), (by first | (show (_ : D) = _; with_reducible rfl) | exact rfl), trivial⟩, trivial⟩); (exact ⟨by omega, by rw [hI.2, show n = (n - 1) + 1 by omega, trRn_at (by omega), if_pos (by have := hz (by omega); rw [← this]; exact z8 (by assumption))]; rfl⟩)))
    | (refine ⟨⟨(by first | rfl | (simp; done)), cap_ok (by simp only [List.length_map, List.length_cons, List.length_nil, List.length_append]; omega) rfl⟩, ?_⟩; conv => whnf)
    | (refine ⟨mem_one ⟨rfl, rfl⟩, ?_⟩; conv => whnf)
    | (refine ⟨(by intro y hy; obtain ⟨x, _, rfl⟩ := List.mem_map.1 hy; first | rfl | exact ⟨rfl, rfl⟩), ?_⟩; conv => whnf)
    | (refine ⟨cap_ok (by first | omega | (simp only [List.length_map]; omega)) rfl, ?_⟩; conv => whnf)
    | (refine ix_map (by omega) ?_; conv => whnf)
    | (refine ix_str (by omega) ?_; conv => whnf)
    | (refine wrap64 (by omega) ?_; conv => whnf)
    | (refine ix_stri (n - 1) (by omega) (by omega) ?_; conv => whnf)
    | (refine sl_str 0 (n - 1) (by omega) (by omega) (by omega) ?_; conv => whnf)
    | (refine wrap64 (by omega) ?_; conv => whnf)
    | (exfalso; simp only [List.length_map, List.length_cons, List.length_nil, List.length_append] at h; omega)
    | ((with_reducible refine endx_go ?_); first | (have e9 : ¬ s[n - 1]'(by omega) = 0 := (by have h9 := hz (by omega); rw [← h9]; exact z8n (by assumption)); exact endx (congrArg D.str (by rw [trR, hI.2, trRn_stop hI.1 (.inr ⟨by omega, e9⟩)])); done) | (exact endx (congrArg D.str (by rw [trR, hI.2, trRn_stop hI.1 (.inl (by omega))])); done))
    | (refine ⟨rfl, ?_⟩; conv => whnf)
    | fail
    )

theorem c84 (s : Bs) (hs : s.length < 1000000) : Fn 84 [.str s, .str [0]] (.str (trL (trR s))) := by
  refine run_walkF eok Tryd.func84 rfl (by kernel_rfl) ?_
  conv => whnf
  repeat' (first
    | ((with_reducible refine on_dec_f ?_ ?_); (focus ((try simp only [List.length_map, List.length_cons, List.length_nil, List.length_append]); omega)); conv => whnf)
    | ((with_reducible refine on_dec_t ?_ ?_); (focus ((try simp only [List.length_map, List.length_cons, List.length_nil, List.length_append]); omega)); conv => whnf)
    | ((with_reducible refine on_dec (fun h => ?_) (fun h => ?_)) <;> (try simp only [List.length_map] at h) <;> conv => whnf)
    | ((with_reducible refine on_ndec (fun h => ?_) (fun h => ?_)) <;> (try simp only [List.length_map] at h) <;> conv => whnf)
    | ((with_reducible refine on_not (fun h => ?_) (fun h => ?_)) <;> conv => whnf)
    | ((with_reducible refine onBool_split (fun h => ?_) (fun h => ?_)) <;> conv => whnf)
    | ((with_reducible refine call_go ?_); (first | refine call_step (run_view (c95 s hs) rfl rfl) ?_ | refine call_step (run_view (c94 (trR s) (by unfold trR; rw [List.length_take]; omega)) rfl rfl) ?_); conv => whnf)
    | (refine ⟨[], [], (by decide +kernel), ?_⟩; conv => whnf)
    | (refine ⟨⟨(by first | rfl | (simp; done)), cap_ok (by simp only [List.length_map, List.length_cons, List.length_nil, List.length_append]; omega) rfl⟩, ?_⟩; conv => whnf)
    | (refine ⟨mem_one ⟨rfl, rfl⟩, ?_⟩; conv => whnf)
    | (refine ⟨(by intro y hy; obtain ⟨x, _, rfl⟩ := List.mem_map.1 hy; first | rfl | exact ⟨rfl, rfl⟩), ?_⟩; conv => whnf)
    | (refine ⟨cap_ok (by first | omega | (simp only [List.length_map]; omega)) rfl, ?_⟩; conv => whnf)
    | (refine ix_map (by omega) ?_; conv => whnf)
    | (refine ix_str (by omega) ?_; conv => whnf)
    | (refine wrap64 (by omega) ?_; conv => whnf)
    | (refine ⟨by decide, ?_⟩; conv => whnf)
    | (refine ⟨by simp, ?_⟩; conv => whnf)
    | (exfalso; simp only [List.length_map, List.length_cons, List.length_nil, List.length_append] at h; omega)
    | ((with_reducible refine endx_go ?_); first | (exact endx rfl; done) | (exact endx (congrArg D.str (by have e : s = [] := (by simpa using h); subst e; simp only [trR, List.take_nil]; exact trL_nil0.symm)); done))
    | (refine ⟨rfl, ?_⟩; conv => whnf)
    | fail
    )

def acc2 (s : Bs) (a : Nat) (h : a + 2 ≤ s.length) (k : Nat) : Int := if k = 0 then 0 else if k = 1 then (s[a + 1]).toNat else ((s[a + 1]).toNat : Int) * 256 + (s[a]).toNat
theorem u8b (b : UInt8) : 0 ≤ (b.toNat : Int) ∧ (b.toNat : Int) < 256 := by have := b.toNat_lt; omega

theorem c52 (s : Bs) (a : Nat) (h : a + 2 ≤ s.length) (hs : s.length < 1000000) : Fn 52 [.str s, i a, i 2] (i (num2 (at2 s a))) := by
  refine run_walkF eok Tryd.func52 rfl (by kernel_rfl) ?_
  conv => whnf
  repeat' (first
    | ((with_reducible refine on_dec_f ?_ ?_); (focus ((try simp only [List.length_map, List.length_cons, List.length_nil, List.length_append]); omega)); conv => whnf)
    | ((with_reducible refine on_dec_t ?_ ?_); (focus ((try simp only [List.length_map, List.length_cons, List.length_nil, List.length_append]); omega)); conv => whnf)
    | ((with_reducible refine on_dec (fun h => ?_) (fun h => ?_)) <;> (try simp only [List.length_map] at h) <;> conv => whnf)
    | ((with_reducible refine on_ndec (fun h => ?_) (fun h => ?_)) <;> (try simp only [List.length_map] at h) <;> conv => whnf)
    | ((with_reducible refine on_not (fun h => ?_) (fun h => ?_)) <;> conv => whnf)
    | ((with_reducible refine onBool_split (fun h => ?_) (fun h => ?_)) <;> conv => whnf)
    | ((with_reducible refine loop_go ?_); first | (refine loop1 (fun (k : Nat) => 2 - k) (fun (k : Nat) => k ≤ 2) (fun (k : Nat) => [(0, .d (.str s)), (1, .d (i a)), (7, .d (i (acc2 s a h k))), (8, .d (i (1 - (k : Int))))]) (fun (k : Nat) => []) (0) (by exact Nat.zero_le _) ?_ (fun k C hI hC => ?_); (exact ⟨[], rfl, rfl, ⟨rfl, rfl, rfl, rfl, trivial⟩, trivial⟩); rcases (by omega : k = 0 ∨ k = 1 ∨ k = 2) with rfl | rfl | rfl; all_goals (conv => whnf)))
    | ((with_reducible show C _ _); first | (refine hC (1) _ _ ?_ (by omega) ?_; clear hC; rotate_left; (exact ⟨[], rfl, rfl, ⟨(by first | (show (_ : D) = _; with_reducible rfl) | exact rfl), (by first | (show (_ : D) = _; with_reducible rfl) | exact congrArg (D.int .i64) (by omega) | exact congrArg (D.int .i64) (by simp only [List.length_map]) | exact rfl), (congrArg (D.int .i64) (by simp [acc2])), (by first | (show (_ : D) = _; with_reducible rfl) | exact congrArg (D.int .i64) (by omega) | exact congrArg (D.int .i64) (by simp only [List.length_map]) | exact rfl), trivial⟩, trivial⟩); (exact (by omega : 1 ≤ 2))) | (refine hC (2) _ _ ?_ (by omega) ?_; clear hC; rotate_left; (exact ⟨[], rfl, rfl, ⟨(by first | (show (_ : D) = _; with_reducible rfl) | exact rfl), (by first | (show (_ : D) = _; with_reducible rfl) | exact congrArg (D.int .i64) (by omega) | exact congrArg (D.int .i64) (by simp only [List.length_map]) | exact rfl), (congrArg (D.int .i64) (by simp [acc2])), (by first | (show (_ : D) = _; with_reducible rfl) | exact congrArg (D.int .i64) (by omega) | exact congrArg (D.int .i64) (by simp only [List.length_map]) | exact rfl), trivial⟩, trivial⟩); (exact (by omega : 2 ≤ 2))))
    | (refine ⟨⟨(by first | rfl | (simp; done)), cap_ok (by simp only [List.length_map, List.length_cons, List.length_nil, List.length_append]; omega) rfl⟩, ?_⟩; conv => whnf)
    | (refine ⟨mem_one ⟨rfl, rfl⟩, ?_⟩; conv => whnf)
    | (refine ⟨(by intro y hy; obtain ⟨x, _, rfl⟩ := List.mem_map.1 hy; first | rfl | exact ⟨rfl, rfl⟩), ?_⟩; conv => whnf)
    | (refine ⟨cap_ok (by first | omega | (simp only [List.length_map]; omega)) rfl, ?_⟩; conv => whnf)
    | (refine ix_map (by omega) ?_; conv => whnf)
    | (refine ix_str (by omega) ?_; conv => whnf)
    | (refine wrap64 (by omega) ?_; conv => whnf)
    | (exfalso; revert h; simp; done)
    | (refine ix_stri (a + 1) (by omega) (by omega) ?_; conv => whnf)
    | (refine ix_stri a (by omega) (by omega) ?_; conv => whnf)
    | (refine wrap64u8 ?_; conv => whnf)
    | (refine wrap64 (by have h1 := u8b (s[a + 1]'(by omega)); have h2 := u8b (s[a]'(by omega)); first | (simp [acc2]; done) | (simp [acc2]; omega)) ?_; conv => whnf)
    | (refine wrap64 (by omega) ?_; conv => whnf)
    | (exfalso; simp only [List.length_map, List.length_cons, List.length_nil, List.length_append] at h; omega)
    | ((with_reducible refine endx_go ?_); first | (exact endx (congrArg i (num2_at h).symm); done))
    | (refine ⟨rfl, ?_⟩; conv => whnf)
    | fail
    )

theorem c52q (s : Bs) (ai : Int) (a : Nat) (ha : ai = a) (h : a + 2 ≤ s.length) (hs : s.length < 1000000) : Fn 52 [.str s, i ai, i 2] (i (num2 (at2 s a))) := by subst ha; exact c52 s a h hs

end Go.Proofs.YtpblmdolgocpaaaDoor

/-! Wo -/
namespace Go.Proofs.YtpblmdolgocpaaaDoor
open Go Dw
set_option maxRecDepth 10000
set_option linter.unusedVariables false
set_option linter.unusedSimpArgs false
attribute [local irreducible] Run
set_option maxHeartbeats 4000000

attribute [local irreducible] sec stK put patch wrote pat wr

theorem le2_len (n : Nat) : (le2 n).length = 2 := rfl
theorem le2_cells (n : Nat) : le2 n = [UInt8.ofNat (n % 256), UInt8.ofNat (n / 256 % 256)] := rfl
/-- The first bytes of a number. -/
def lek (n k : Nat) : Bs := (le2 n).take k
theorem lek0 (n : Nat) : (lek n 0).map byteV = [] := rfl
theorem lek1 (n : Nat) : (lek n 1).map byteV = (lek n 0).map byteV ++ [.d (.int .u8 (n % 256 : Nat))] := by
  show [byteV (UInt8.ofNat (n % 256))] = _
  rw [byteV_ofNat (by omega)]; rfl
theorem lek2 (n : Nat) : (lek n 2).map byteV = (lek n 1).map byteV ++ [.d (.int .u8 (n / 256 % 256 : Nat))] := by
  show (le2 n).map byteV = [byteV (UInt8.ofNat (n % 256))] ++ _
  rw [le2_map, byteV_ofNat (by omega)]; rfl
theorem lek_len (n k : Nat) (h : k ≤ 2) : (lek n k).length = k := by unfold lek; rw [List.length_take, le2_len]; omega
theorem lek_end (n : Nat) : lek n 2 = le2 n := rfl
attribute [local irreducible] le2 at2 isz num2 tl tornK torn lek pbB pbL opR opG prG

theorem c88 (n : Nat) (hn : n < 1000000) : Fn 88 [i n, i 2] (.str (le2 n)) := by
  have e0 := lek_len n 0 (by omega); have e1 := lek_len n 1 (by omega); have e2 := lek_len n 2 (by omega)
  refine run_walkF eok Tryd.func88 rfl (by kernel_rfl) ?_
  conv => whnf
  repeat' (first
    | ((with_reducible refine on_dec_f ?_ ?_); (focus ((try simp only [List.length_map, List.length_cons, List.length_nil, List.length_append]); omega)); conv => whnf)
    | ((with_reducible refine on_dec_t ?_ ?_); (focus ((try simp only [List.length_map, List.length_cons, List.length_nil, List.length_append]); omega)); conv => whnf)
    | ((with_reducible refine on_dec (fun h => ?_) (fun h => ?_)) <;> (try simp only [List.length_map] at h) <;> conv => whnf)
    | ((with_reducible refine on_ndec (fun h => ?_) (fun h => ?_)) <;> (try simp only [List.length_map] at h) <;> conv => whnf)
    | ((with_reducible refine on_not (fun h => ?_) (fun h => ?_)) <;> conv => whnf)
    | ((with_reducible refine onBool_split (fun h => ?_) (fun h => ?_)) <;> conv => whnf)
    | ((with_reducible refine loop_go ?_); first | (refine loop1 (fun (k : Nat) => 2 - k) (fun (k : Nat) => k ≤ 2) (fun (k : Nat) => [(0, .d (i (n / 256 ^ k : Nat))), (1, .d (i 2)), (5, .sl 0 0 (lek n k).length 1 none), (6, .d (i k))]) (fun (k : Nat) => [⟨(lek n k).map byteV, 1, 0⟩]) (0) (by exact Nat.zero_le _) ?_ (fun k C hI hC => ?_); (exact ⟨[.void 1], rfl, rfl, ⟨(congrArg (D.int .i64) (by simp)), rfl, ⟨rfl, rfl, e0, rfl⟩, rfl, trivial⟩, ⟨⟨lek0 n, rfl, (by decide), rfl⟩, trivial⟩⟩); rcases (by omega : k = 0 ∨ k = 1 ∨ k = 2) with rfl | rfl | rfl; all_goals (conv => whnf)))
    | ((with_reducible show C _ _); first | (refine hC (1) _ _ ?_ (by omega) ?_; clear hC; rotate_left; (exact ⟨[.old 2], rfl, rfl, ⟨(congrArg (D.int .i64) (by simp)), (by first | (show (_ : D) = _; with_reducible rfl) | exact congrArg (D.int .i64) (by omega) | exact congrArg (D.int .i64) (by simp only [List.length_map]) | exact rfl), ⟨rfl, rfl, (by simp only [e0, e1, e2]; rfl), rfl, rfl⟩, (by first | (show (_ : D) = _; with_reducible rfl) | exact congrArg (D.int .i64) (by omega) | exact congrArg (D.int .i64) (by simp only [List.length_map]) | exact rfl), trivial⟩, ⟨wkO_bytes (lek n 1) rfl rfl rfl (by rw [lek1]; simp only [Nat.pow_zero, Nat.pow_one, Nat.div_one] <;> rfl) rfl, trivial⟩⟩); (exact (by omega : 1 ≤ 2))) | (refine hC (2) _ _ ?_ (by omega) ?_; clear hC; rotate_left; (exact ⟨[.old 2], rfl, rfl, ⟨(congrArg (D.int .i64) (by simp; omega)), (by first | (show (_ : D) = _; with_reducible rfl) | exact congrArg (D.int .i64) (by omega) | exact congrArg (D.int .i64) (by simp only [List.length_map]) | exact rfl), ⟨rfl, rfl, (by simp only [e0, e1, e2]; rfl), rfl, rfl⟩, (by first | (show (_ : D) = _; with_reducible rfl) | exact congrArg (D.int .i64) (by omega) | exact congrArg (D.int .i64) (by simp only [List.length_map]) | exact rfl), trivial⟩, ⟨wkO_bytes (lek n 2) rfl rfl rfl (by rw [lek2]; simp only [Nat.pow_zero, Nat.pow_one, Nat.div_one] <;> rfl) rfl, trivial⟩⟩); (exact (by omega : 2 ≤ 2))))
    | (refine ⟨⟨(by first | rfl | (simp; done)), cap_ok (by simp only [List.length_map, List.length_cons, List.length_nil, List.length_append]; omega) rfl⟩, ?_⟩; conv => whnf)
    | (refine ⟨mem_one ⟨rfl, rfl⟩, ?_⟩; conv => whnf)
    | (refine ⟨(by intro y hy; obtain ⟨x, _, rfl⟩ := List.mem_map.1 hy; first | rfl | exact ⟨rfl, rfl⟩), ?_⟩; conv => whnf)
    | (refine ⟨cap_ok (by first | omega | (simp only [List.length_map]; omega)) rfl, ?_⟩; conv => whnf)
    | (refine ix_map (by omega) ?_; conv => whnf)
    | (refine ix_str (by omega) ?_; conv => whnf)
    | (refine wrap64 (by omega) ?_; conv => whnf)
    | (exfalso; revert h; simp; done)
    | (refine rem_256 ?_; conv => whnf)
    | (refine div_256 (by simp; omega) ?_; conv => whnf)
    | (refine wrapU8 (by simp; omega) ?_; conv => whnf)
    | (refine ⟨lek n 2, ⟨(by simp only [List.length_map]; omega), by rw [List.drop_zero, List.take_of_length_le (by simp)]⟩, ?_⟩; conv => whnf)
    | (refine ⟨⟨(by simp only [List.length_map]; omega), cap_ok (by simp only [e0, e1, e2, List.length_cons, List.length_nil]; omega) rfl⟩, ?_⟩; conv => whnf)
    | (refine ⟨Nat.le_refl _, ?_⟩; conv => whnf)
    | (refine ⟨⟨(by simp only [List.length_map, List.length_append]; omega), cap_ok (by skip; simp only [List.length_map, List.length_cons, List.length_nil, List.length_append]; omega) rfl⟩, ?_⟩; conv => whnf)
    | (refine ⟨cap_ok (by skip; simp only [List.length_map, List.length_cons, List.length_nil, List.length_append]; omega) rfl, ?_⟩; conv => whnf)
    | (refine wrap64 (by omega) ?_; conv => whnf)
    | (exfalso; simp only [List.length_map, List.length_cons, List.length_nil, List.length_append] at h; omega)
    | ((with_reducible refine endx_go ?_); first | (exact endx (congrArg D.str (lek_end n)); done))
    | (refine ⟨rfl, ?_⟩; conv => whnf)
    | fail
    )

end Go.Proofs.YtpblmdolgocpaaaDoor
