/-
  Own lemmas, no conditions: Tr, Wm, Vb.
-/
import Derived.Test.YtbkmjpmgiaiacaaGreatDoorGrpJ
import Derived.Shelf.Strings.Trim
set_option linter.unusedVariables false
set_option linter.unusedSimpArgs false

/-! Tr -/
namespace Go.Proofs.YtbkmjpmgiaiacaaGreatDoor
open Go Go.Shelf
def lays160_ren : Go.Shelf.Ren := ⟨fun | 160 => 86 | 232 => 113 | 231 => 112 | 227 => 114 | 234 => 116 | 233 => 115 | 236 => 118 | 235 => 117 | 228 => 136 | 271 => 139 | 151 => 138 | 197 => 137 | 120 => 159 | 152 => 158 | 260 => 157 | 137 => 170 | 119 => 171 | 224 => 172 | 225 => 173 | 217 => 181 | 266 => 188 | n => n, fun | 9 => 9 | 4 => 4 | 3 => 3 | 5 => 5 | 117 => 175 | 116 => 174 | 0 => 0 | 124 => 178 | 21 => 21 | 105 => 203 | 46 => 145 | 119 => 224 | 139 => 227 | 138 => 226 | n => n, fun | 3 => 2 | 4 => 3 | n => n⟩
theorem lays160 : Go.Proofs.Lays.n160 Tryz.prog lays160_ren := {
  mixed := by kernel_rfl
  f119 := Tryz.func171.trans (congrArg some (by kernel_rfl))
  f120 := Tryz.func159.trans (congrArg some (by kernel_rfl))
  f137 := Tryz.func170.trans (congrArg some (by kernel_rfl))
  f151 := Tryz.func138.trans (congrArg some (by kernel_rfl))
  f152 := Tryz.func158.trans (congrArg some (by kernel_rfl))
  f160 := Tryz.func86.trans (congrArg some (by kernel_rfl))
  f197 := Tryz.func137.trans (congrArg some (by kernel_rfl))
  f217 := Tryz.func181.trans (congrArg some (by kernel_rfl))
  f224 := Tryz.func172.trans (congrArg some (by kernel_rfl))
  f225 := Tryz.func173.trans (congrArg some (by kernel_rfl))
  f227 := Tryz.func114.trans (congrArg some (by kernel_rfl))
  f228 := Tryz.func136.trans (congrArg some (by kernel_rfl))
  f231 := Tryz.func112.trans (congrArg some (by kernel_rfl))
  f232 := Tryz.func113.trans (congrArg some (by kernel_rfl))
  f233 := Tryz.func115.trans (congrArg some (by kernel_rfl))
  f234 := Tryz.func116.trans (congrArg some (by kernel_rfl))
  f235 := Tryz.func117.trans (congrArg some (by kernel_rfl))
  f236 := Tryz.func118.trans (congrArg some (by kernel_rfl))
  f260 := Tryz.func157.trans (congrArg some (by kernel_rfl))
  f266 := Tryz.func188.trans (congrArg some (by kernel_rfl))
  f271 := Tryz.func139.trans (congrArg some (by kernel_rfl))
  t0 := Tryz.underlying0
  a0 := Tryz.isAgg0
  z0 := Tryz.sizeOf0
  v0 := Tryz.zeroValue0
  t3 := Tryz.underlying3
  a3 := Tryz.isAgg3
  z3 := Tryz.sizeOf3
  v3 := Tryz.zeroValue3
  t4 := Tryz.underlying4
  a4 := Tryz.isAgg4
  z4 := Tryz.sizeOf4
  v4 := Tryz.zeroValue4
  t5 := Tryz.underlying5
  a5 := Tryz.isAgg5
  z5 := Tryz.sizeOf5
  v5 := Tryz.zeroValue5
  t9 := Tryz.underlying9
  a9 := Tryz.isAgg9
  z9 := Tryz.sizeOf9
  v9 := Tryz.zeroValue9
  t21 := Tryz.underlying21
  a21 := Tryz.isAgg21
  z21 := Tryz.sizeOf21
  v21 := Tryz.zeroValue21
  t46 := Tryz.underlying145
  a46 := Tryz.isAgg145
  z46 := Tryz.sizeOf145
  v46 := Tryz.zeroValue145
  t105 := Tryz.underlying203
  a105 := Tryz.isAgg203
  z105 := Tryz.sizeOf203
  v105 := Tryz.zeroValue203
  t116 := Tryz.underlying174
  a116 := Tryz.isAgg174
  z116 := Tryz.sizeOf174
  t117 := Tryz.underlying175
  a117 := Tryz.isAgg175
  z117 := Tryz.sizeOf175
  v117 := Tryz.zeroValue175
  t119 := Tryz.underlying224
  a119 := Tryz.isAgg224
  z119 := Tryz.sizeOf224
  t124 := Tryz.underlying178
  a124 := Tryz.isAgg178
  z124 := Tryz.sizeOf178
  v124 := Tryz.zeroValue178
  t138 := Tryz.underlying226
  a138 := Tryz.isAgg226
  z138 := Tryz.sizeOf226
  v138 := Tryz.zeroValue226
  t139 := Tryz.underlying227
  a139 := Tryz.isAgg227
  z139 := Tryz.sizeOf227
  v139 := Tryz.zeroValue227
  g3 := by kernel_rfl
  g4 := by kernel_rfl }

open Dw Go.RowKit
set_option maxRecDepth 100000
theorem enters86 : ∀ vs w, (callFunc 86 vs).run Tryz.prog w = .ok (.enter 86 vs) w := enters_of Tryz.func86 (by kernel_rfl) rfl
theorem c86 (s : Bs) (c : UInt8) (h1 : s.length ≤ 9223372036854775807) (hc : c.toNat < 128) : Fn 86 [.str s, .str [c]] (.str (Lib.trimB s c)) := by
  refine run_calls enters86 fun B W w st vs hw ha => ?_
  simp only [List.map_cons, List.map_nil, aVs, aC, cC, AV.isAgg] at ha
  obtain ⟨v, r, us, rfl, hv, rfl, v2, r2, us2, rfl, hv2, rfl, rfl⟩ := ha
  simp only [Bool.false_eq_true, if_false, List.cons.injEq, and_true] at hv hv2
  subst hv; subst hv2
  refine ⟨.string ⟨(Lib.trimB s c).toArray⟩, fun w' => ⟨[.string ⟨(Lib.trimB s c).toArray⟩], rfl, rfl⟩, ?_⟩
  refine (Any.strings_Trim_one lays160 ⟨s.toArray⟩ c hc w h1).mono ?_
  rintro e w' ⟨h, rfl | rfl⟩
  · exact ⟨h, Below.refl _ _⟩
  · exact ⟨h, (Below.refl _ w).drew⟩
end Go.Proofs.YtbkmjpmgiaiacaaGreatDoor

/-! Wm -/
namespace Go.Proofs.YtbkmjpmgiaiacaaGreatDoor
open Go Dw
set_option maxRecDepth 10000
set_option linter.unusedVariables false
set_option linter.unusedSimpArgs false
attribute [local irreducible] Run
set_option maxHeartbeats 4000000

open Paths
attribute [local irreducible] nameErr isAct hasBit
def szErr (x : Rec) : Int := if isAct x.act = true then (if 200 < x.path.length then 8 else if x.path = [] then 17 else 0) else 15
theorem sz_a {x : Rec} (h : isAct x.act = false) : szErr x = 15 := by unfold szErr; rw [if_neg (by rw [h]; decide)]
theorem sz_b {x : Rec} (h : isAct x.act = true) (h2 : (200 : Int) < x.path.length) : szErr x = 8 := by unfold szErr; rw [if_pos h, if_pos (by omega)]
theorem sz_c {x : Rec} (h : isAct x.act = true) (h2 : ¬ (200 : Int) < x.path.length) (h3 : x.path = []) : szErr x = 17 := by unfold szErr; rw [if_pos h, if_neg (by omega), if_pos h3]
theorem sz_d {x : Rec} (h : isAct x.act = true) (h2 : ¬ (200 : Int) < x.path.length) (h3 : ¬ x.path = []) : szErr x = 0 := by unfold szErr; rw [if_pos h, if_neg (by omega), if_neg h3]
theorem szErr_ok {x : Rec} (h : szErr x = 0) : isAct x.act = true ∧ x.path.length ≤ 200 ∧ x.path ≠ [] := by
  unfold szErr at h
  split at h
  · split at h
    · cases h
    · split at h
      · cases h
      · exact ⟨by assumption, by omega, by assumption⟩
  · cases h
theorem szErr_eq (x : Rec) : szErr x = firstE [if actB x.act 63 = true then 0 else 15, if decide ((x.path.length : Int) ≤ 200) = true then 0 else 8, if (!decide (x.path = [])) = true then 0 else 17] := by
  rw [act63]
  simp only [firstE_cons, firstE_nil]
  cases h : isAct x.act with
  | false => rw [sz_a h]; rfl
  | true =>
    by_cases h2 : (200 : Int) < x.path.length
    · rw [sz_b h h2, if_pos rfl, if_neg (show ¬ decide ((x.path.length : Int) ≤ 200) = true by simp; omega)]; rfl
    · rw [if_pos (show decide ((x.path.length : Int) ≤ 200) = true by simp; omega)]
      by_cases h3 : x.path = []
      · rw [sz_c h h2 h3, h3]; rfl
      · rw [sz_d h h2 h3, decide_eq_false h3]; rfl
def szOr (x : Rec) : Int := if szErr x = 0 then sz x else 0
def encErr : List Rec → Int
  | [] => 0
  | x :: l => if szErr x = 0 then encErr l else szErr x
theorem encErr_drop {l : List Rec} {k : Nat} (h : k < l.length) : encErr (l.drop k) = if szErr l[k] = 0 then encErr (l.drop (k + 1)) else szErr l[k] := by
  rw [List.drop_eq_getElem_cons h]; rfl
theorem encErr_end {l : List Rec} {k : Nat} (h : l.length ≤ k) : encErr (l.drop k) = 0 := by
  rw [List.drop_eq_nil_of_le h]; rfl

theorem c46 (x : Rec) : Fn 46 [x.enc] (i (szErr x)) := by
  refine run_walkF eok Tryz.func46 rfl (by kernel_rfl) ?_
  conv => whnf
  repeat' (first
    | ((with_reducible refine on_dec (fun h => ?_) (fun h => ?_)) <;> (try simp only [List.length_map] at h) <;> conv => whnf)
    | ((with_reducible refine on_not (fun h => ?_) (fun h => ?_)) <;> conv => whnf)
    | ((with_reducible refine onBool_split (fun h => ?_) (fun h => ?_)) <;> conv => whnf)
    | ((with_reducible refine call_go ?_); (first | refine call_step (run_view (c60 _) rfl rfl) ?_); conv => whnf)
    | ((with_reducible refine endx_go ?_); first | (exact endx (congrArg i (sz_a (by assumption)).symm); done) | (exact endx (congrArg i (sz_b (by assumption) (by assumption)).symm); done) | (exact endx (congrArg i (sz_c (by assumption) (by assumption) (of_decide_eq_true h)).symm); done) | (exact endx (congrArg i (sz_d (by assumption) (by assumption) (of_decide_eq_false h)).symm); done))
    | fail
    )

theorem c45 (x : Rec) (hx : x.act < 9223372036854775808) (hl : x.path.length < 1000000) : Fn 45 [x.enc] (.tup [i (szOr x), i (szErr x)]) := by
  refine run_walkF eok Tryz.func45 rfl (by kernel_rfl) ?_
  conv => whnf
  repeat' (first
    | ((with_reducible refine on_ndec (fun h => ?_) (fun h => ?_)) <;> (try simp only [List.length_map] at h) <;> conv => whnf)
    | ((with_reducible refine call_go ?_); (first | refine call_step (run_view (c59 x.act 63 hx (by decide)) rfl rfl) ?_ | refine call_step (run_view (c55 _ _) rfl rfl) ?_ | refine call_step (run_view (c54 [_, _, _] (by simp)) rfl rfl) ?_ | refine call_step (run_view (c84 x hl) rfl rfl) ?_); conv => whnf)
    | (refine ⟨[], [(5, 2), (10, 2), (5, 3), (10, 3), (10, 8)], (by decide +kernel), ?_⟩; conv => whnf)
    | ((with_reducible refine endx_go ?_); first | (refine endx2 ?_; unfold szOr; rw [← szErr_eq] at h; rw [if_neg h, ← szErr_eq]; done) | (refine endx2 ?_; unfold szOr; rw [← szErr_eq] at h; rw [if_pos h, h]; done))
    | (refine ⟨rfl, ?_⟩; conv => whnf)
    | fail
    )

attribute [local irreducible] szErr
theorem c50 (l : List Rec) (hl : l.length < 1000000) : Fn 50 [.fs (l.map Rec.enc)] (i (encErr l)) := by
  refine run_walkF eok Tryz.func50 rfl (by kernel_rfl) ?_
  conv => whnf
  repeat' (first
    | ((with_reducible refine on_dec (fun h => ?_) (fun h => ?_)) <;> (try simp only [List.length_map] at h) <;> conv => whnf)
    | ((with_reducible refine on_ndec (fun h => ?_) (fun h => ?_)) <;> (try simp only [List.length_map] at h) <;> conv => whnf)
    | ((with_reducible refine call_go ?_); (first | refine call_step (run_view (c46 _) rfl rfl) ?_); conv => whnf)
    | ((with_reducible refine loop_go ?_); first | (refine loop1 (fun (k : Nat) => l.length - k) (fun (k : Nat) => k ≤ l.length ∧ encErr l = encErr (l.drop k)) (fun (k : Nat) => [(0, .d (.fs (l.map Rec.enc))), (3, .d (i k))]) (fun (k : Nat) => []) (0) (by first | (simp; done) ) ?_ (fun k C hI hC => ?_); (exact ⟨[], rfl, rfl, ⟨(by first | (show (_ : D) = _; with_reducible rfl) ), (by first | exact congrArg (D.int .i64) (by omega) ), trivial⟩, trivial⟩); all_goals (conv => whnf)))
    | ((with_reducible show C _ _); first | (refine hC (k + 1) _ _ ?_ (by omega) ?_; clear hC; rotate_left; (exact ⟨[], rfl, rfl, ⟨(by first | (show (_ : D) = _; with_reducible rfl) ), (by first | exact congrArg (D.int .i64) (by omega) ), trivial⟩, trivial⟩); (exact ⟨by omega, by rw [hI.2, encErr_drop (by omega), if_pos h]⟩)))
    | (refine ix_map (by omega) ?_; conv => whnf)
    | (refine wrap64 (by omega) ?_; conv => whnf)
    | ((with_reducible refine endx_go ?_); first | (exact endx (congrArg i (by rw [hI.2, encErr_drop (by omega), if_neg (by assumption)])); done) | (exact endx (congrArg i (by rw [hI.2, encErr_end (by omega)])); done))
    | fail
    )

theorem c89 (n0 c : Nat) (hn : n0 < 9223372036854775808) (hc : c < 1000) : Fn 89 [i n0, i c] (.str (leB n0 c)) := by
  refine run_walkF eok Tryz.func89 rfl (by kernel_rfl) ?_
  conv => whnf
  repeat' (first
    | ((with_reducible refine on_dec_f ?_ ?_); (focus ((try simp only [List.length_map, List.length_cons, List.length_nil, List.length_append]); omega)); conv => whnf)
    | ((with_reducible refine on_dec (fun h => ?_) (fun h => ?_)) <;> (try simp only [List.length_map] at h) <;> conv => whnf)
    | ((with_reducible refine loop_go ?_); first | (refine loop3 (fun (k : Nat) (n : Nat) (acc : List UInt8) => c - k) (fun (k : Nat) (n : Nat) (acc : List UInt8) => k ≤ c ∧ acc.length = k ∧ n < 9223372036854775808 ∧ acc ++ leB n (c - k) = leB n0 c) (fun (k : Nat) (n : Nat) (acc : List UInt8) => [(0, .d (i n)), (1, .d (i c)), (5, .sl 0 0 acc.length 1 none), (6, .d (i k))]) (fun (k : Nat) (n : Nat) (acc : List UInt8) => [⟨acc.map byteV, 1, 0⟩]) (0) (n0) ([]) (by exact ⟨Nat.zero_le _, rfl, hn, rfl⟩) ?_ (fun k n acc C hI hC => ?_); (exact ⟨[.void 1], rfl, rfl, ⟨rfl, rfl, ⟨rfl, rfl, rfl, rfl⟩, rfl, trivial⟩, ⟨⟨rfl, rfl, (by decide), rfl⟩, trivial⟩⟩); all_goals (conv => whnf)))
    | ((with_reducible show C _ _); first | (refine hC (k + 1) (n / 256) (acc ++ [UInt8.ofNat (n % 256)]) _ _ ?_ (by omega) ?_; clear hC; rotate_left; (exact ⟨[.old 2], rfl, rfl, ⟨(by first | (show (_ : D) = _; with_reducible rfl) ), (by first | (show (_ : D) = _; with_reducible rfl) ), ⟨rfl, rfl, (by first | (simp only [List.length_append]; rfl)), rfl, rfl⟩, (by first | exact congrArg (D.int .i64) (by omega) ), trivial⟩, ⟨wkO_bytes (acc ++ [UInt8.ofNat (n % 256)]) rfl rfl rfl (by simp only [List.map_append, List.map_cons, List.map_nil, byteV_ofNat (Nat.mod_lt _ (by decide : 0 < 256))]; rfl) rfl, trivial⟩⟩); (exact ⟨by omega, by simp; omega, by omega, by rw [List.append_assoc, ← hI.2.2.2]; congr 1; rw [show c - k = (c - (k + 1)) + 1 by omega]; rfl⟩)))
    | (refine ⟨⟨(by first | (simp; done)), cap_ok (by simp only [List.length_map, List.length_cons, List.length_nil, List.length_append]; omega) rfl⟩, ?_⟩; conv => whnf)
    | (refine wrap64 (by omega) ?_; conv => whnf)
    | (refine rem_256 ?_; conv => whnf)
    | (refine div_256 hI.2.2.1 ?_; conv => whnf)
    | (refine wrapU8 (by omega) ?_; conv => whnf)
    | (refine ⟨Nat.le_refl _, ?_⟩; conv => whnf)
    | (refine ⟨acc, ⟨(by simp), (by rw [List.drop_zero]; exact List.take_of_length_le (by simp))⟩, ?_⟩; conv => whnf)
    | ((with_reducible refine endx_go ?_); first | (exact endx (congrArg D.str (by rw [← hI.2.2.2, show c - k = 0 by omega]; simp [leB])); done))
    | fail
    )

theorem c91 (n : Nat) (hn : n ≤ 200000) : Fn 91 [i n] (.str (List.replicate n 0)) := by
  have hG : goMax 0 (goMin (n : Int) 200000) = n := (by unfold goMax goMin; split <;> (try split) <;> omega)
  refine run_walkF eok Tryz.func91 rfl (by kernel_rfl) ?_
  conv => whnf
  repeat' (first
    | (rw [hG]; refine ⟨⟨(capI (b := 1) (by omega) rfl).1, Int.le_refl _, (capI (b := 1) (by omega) rfl).2.1, (capI (by omega) rfl).2.2⟩, ?_⟩; conv => whnf)
    | (refine ⟨List.replicate n 0, ⟨(by simp), (by rw [List.drop_zero, List.take_of_length_le (by simp), List.map_replicate]; rfl)⟩, ?_⟩; conv => whnf)
    | ((with_reducible refine endx_go ?_); first | (exact endx rfl; done))
    | fail
    )

theorem allz_take {s : Bs} {k : Nat} (h : (s.take k).all (· == 0) = true) (hk : k < s.length) (e : s[k] = 0) : (s.take (k + 1)).all (· == 0) = true := by
  rw [List.take_succ_eq_append_getElem hk, List.all_append, h, e]; rfl
theorem allz_no {s : Bs} {k : Nat} (hk : k < s.length) (e : ¬ s[k] = 0) : s.all (· == 0) = false := by
  rw [List.all_eq_false]; exact ⟨_, List.getElem_mem hk, by simpa using e⟩
theorem u8_0 {c : UInt8} (h : (c.toNat : Int) = 0) : c = 0 := by
  have : c.toNat = 0 := by omega
  exact UInt8.toNat.inj this
theorem u8_n0 {c : UInt8} (h : ¬ (c.toNat : Int) = 0) : ¬ c = 0 := by rintro rfl; exact h rfl

theorem c87 (s : Bs) (hs : s.length < 1000000) : Fn 87 [.str s] (.bool (s.all (· == 0))) := by
  refine run_walkF eok Tryz.func87 rfl (by kernel_rfl) ?_
  conv => whnf
  repeat' (first
    | ((with_reducible refine on_dec (fun h => ?_) (fun h => ?_)) <;> (try simp only [List.length_map] at h) <;> conv => whnf)
    | ((with_reducible refine on_ndec (fun h => ?_) (fun h => ?_)) <;> (try simp only [List.length_map] at h) <;> conv => whnf)
    | ((with_reducible refine loop_go ?_); first | (refine loop1 (fun (k : Nat) => s.length - k) (fun (k : Nat) => k ≤ s.length ∧ (s.take k).all (· == 0) = true) (fun (k : Nat) => [(0, .d (.str s)), (3, .d (i k))]) (fun (k : Nat) => []) (0) (by first | (simp; done) ) ?_ (fun k C hI hC => ?_); (exact ⟨[], rfl, rfl, ⟨(by first | (show (_ : D) = _; with_reducible rfl) ), (by first | exact congrArg (D.int .i64) (by omega) ), trivial⟩, trivial⟩); all_goals (conv => whnf)))
    | ((with_reducible show C _ _); first | (refine hC (k + 1) _ _ ?_ (by omega) ?_; clear hC; rotate_left; (exact ⟨[], rfl, rfl, ⟨(by first | (show (_ : D) = _; with_reducible rfl) ), (by first | exact congrArg (D.int .i64) (by omega) ), trivial⟩, trivial⟩); (exact ⟨by omega, allz_take hI.2 (by omega) (u8_0 h)⟩)))
    | (refine ix_str (by omega) ?_; conv => whnf)
    | (refine wrap64 (by omega) ?_; conv => whnf)
    | ((with_reducible refine endx_go ?_); first | (exact endx (congrArg D.bool (allz_no (k := k) (by omega) (u8_n0 (by assumption))).symm); done) | (exact endx (congrArg D.bool (by have h9 := hI.2; rw [List.take_of_length_le (by omega)] at h9; exact h9.symm)); done))
    | fail
    )

theorem sameR_take {a b : List Rec} {k : Nat} (h : a.take k = b.take k) (ha : k < a.length) (hb : k < b.length) (e : a[k] = b[k]) : a.take (k + 1) = b.take (k + 1) := by
  rw [List.take_succ_eq_append_getElem ha, List.take_succ_eq_append_getElem hb, h, e]
theorem sameR_no {a b : List Rec} {k : Nat} (ha : k < a.length) (hb : k < b.length) (e : ¬ a[k] = b[k]) : ¬ a = b := by rintro rfl; exact e rfl

theorem c29 (a b : List Rec) (ha : a.length < 1000000) (hb : b.length < 1000000) : Fn 29 [.fs (a.map Rec.enc), .fs (b.map Rec.enc)] (.bool (decide (a = b))) := by
  refine run_walkF eok Tryz.func29 rfl (by kernel_rfl) ?_
  conv => whnf
  repeat' (first
    | ((with_reducible refine on_dec (fun h => ?_) (fun h => ?_)) <;> (try simp only [List.length_map] at h) <;> conv => whnf)
    | ((with_reducible refine on_ndec (fun h => ?_) (fun h => ?_)) <;> (try simp only [List.length_map] at h) <;> conv => whnf)
    | ((with_reducible refine on_not (fun h => ?_) (fun h => ?_)) <;> conv => whnf)
    | (refine ⟨[], [], (by decide +kernel), ?_⟩; conv => whnf)
    | ((with_reducible refine loop_go ?_); first | (refine loop1 (fun (k : Nat) => a.length - k) (fun (k : Nat) => k ≤ a.length ∧ a.take k = b.take k) (fun (k : Nat) => [(0, .d (.fs (a.map Rec.enc))), (1, .d (.fs (b.map Rec.enc))), (5, .d (i k))]) (fun (k : Nat) => []) (0) (by first | (simp; done) ) ?_ (fun k C hI hC => ?_); (exact ⟨[], rfl, rfl, ⟨(by first | (show (_ : D) = _; with_reducible rfl) ), (by first | (show (_ : D) = _; with_reducible rfl) ), (by first | exact congrArg (D.int .i64) (by omega) ), trivial⟩, trivial⟩); all_goals (conv => whnf)))
    | ((with_reducible show C _ _); first | (refine hC (k + 1) _ _ ?_ (by omega) ?_; clear hC; rotate_left; (exact ⟨[], rfl, rfl, ⟨(by first | (show (_ : D) = _; with_reducible rfl) ), (by first | (show (_ : D) = _; with_reducible rfl) ), (by first | exact congrArg (D.int .i64) (by omega) ), trivial⟩, trivial⟩); (exact ⟨by omega, sameR_take hI.2 (by omega) (by omega) (of_decide_eq_true ((cellsRec _ _).symm.trans h))⟩)))
    | (refine ix_map (by omega) ?_; conv => whnf)
    | (refine wrap64 (by omega) ?_; conv => whnf)
    | ((with_reducible refine endx_go ?_); first | (exact endx (congrArg D.bool (by symm; rw [decide_eq_false_iff_not]; rintro rfl; omega)); done) | (exact endx (congrArg D.bool (by symm; exact decide_eq_false (sameR_no (k := k) (by omega) (by omega) (of_decide_eq_false ((cellsRec _ _).symm.trans h))))); done) | (exact endx (congrArg D.bool (by have h9 := hI.2; rw [List.take_of_length_le (by omega), List.take_of_length_le (by omega)] at h9; symm; exact decide_eq_true h9)); done))
    | fail
    )

end Go.Proofs.YtbkmjpmgiaiacaaGreatDoor

/-! Vb -/
namespace Go.Proofs.YtbkmjpmgiaiacaaGreatDoor
open Go Dw
set_option maxRecDepth 10000
set_option linter.unusedVariables false
set_option linter.unusedSimpArgs false
attribute [local irreducible] Run
set_option maxHeartbeats 4000000

open Paths
attribute [local irreducible] Own checkB addErr roomy bsR ixB dropB addB sz roomOf putB seesW belowI tellB told isAct
def fewW (x : BW) : Bool := decide (x.w.path.length ≤ 300) && (decide (x.recs.length ≤ 110) && x.recs.all (fun r => decide (r.path.length ≤ 300)))
def fewB (b : Bd) : Bool := decide (b.ws.length ≤ 10) && b.ws.all fewW
theorem all_takeF {α : Type} {p : α → Bool} {l : List α} {k : Nat} (hk : k < l.length) (h : (l.take k).all p = true) (h2 : p l[k] = true) : (l.take (k + 1)).all p = true := by
  rw [List.take_succ_eq_append_getElem hk, List.all_append, h]; simp [h2]
theorem all_not {α : Type} {p : α → Bool} {l : List α} {k : Nat} (hk : k < l.length) (h2 : p l[k] = false) : l.all p = false := by
  rw [List.all_eq_false]; exact ⟨_, List.getElem_mem hk, by simp [h2]⟩
theorem fewW_1 {x : BW} (h : (300 : Int) < x.w.path.length) : fewW x = false := by unfold fewW; rw [decide_eq_false (by omega)]; rfl
theorem fewW_2 {x : BW} (h : (110 : Int) < x.recs.length) : fewW x = false := by unfold fewW; rw [decide_eq_false (show ¬ x.recs.length ≤ 110 by omega)]; simp
theorem fewW_3 {x : BW} {j : Nat} (hj : j < x.recs.length) (h : (300 : Int) < x.recs[j].path.length) : fewW x = false := by
  unfold fewW; rw [all_not hj (decide_eq_false (by omega))]; simp
theorem fewW_ok {x : BW} (h1 : ¬ (300 : Int) < x.w.path.length) (h2 : ¬ (110 : Int) < x.recs.length) {j : Nat} (hj : ¬ (j : Int) < x.recs.length) (h : (x.recs.take j).all (fun r => decide (r.path.length ≤ 300)) = true) : fewW x = true := by
  rw [List.take_of_length_le (by omega)] at h
  unfold fewW; rw [h, decide_eq_true (show x.w.path.length ≤ 300 by omega), decide_eq_true (show x.recs.length ≤ 110 by omega)]; rfl
theorem few_no {b : Bd} {k : Nat} (hk : k < b.ws.length) (h : fewW b.ws[k] = false) : fewB b = false := by
  unfold fewB; rw [all_not hk h]; simp
theorem few_8 {b : Bd} (h : (10 : Int) < b.ws.length) : fewB b = false := by unfold fewB; rw [decide_eq_false (by omega)]; rfl
theorem few_ok {b : Bd} (h : ¬ (10 : Int) < b.ws.length) {k : Nat} (hk : ¬ (k : Int) < b.ws.length) (h2 : (b.ws.take k).all fewW = true) : fewB b = true := by
  rw [List.take_of_length_le (by omega)] at h2
  unfold fewB; rw [h2, decide_eq_true (by omega)]; rfl
theorem few_SB {b : Bd} (h : fewB b = true) (ha : ∀ w ∈ b.ws, ∀ r ∈ w.recs, r.act < 9223372036854775808) : SB b := by
  unfold fewB at h
  rw [Bool.and_eq_true, decide_eq_true_eq, List.all_eq_true] at h
  refine ⟨by omega, fun x hx => ?_⟩
  have h2 := h.2 x hx
  unfold fewW at h2
  simp only [Bool.and_eq_true, decide_eq_true_eq, List.all_eq_true] at h2
  exact ⟨by omega, fun r hr => ⟨by have := h2.2.2 r hr; omega, ha x hx r hr⟩⟩
theorem cells_wt (w : Wt) : cellsEq [D.str w.path, D.bool w.deep, i w.filter, i w.room] [D.str w.path, D.bool w.deep, i w.filter, i w.room] = true := by
  simp [cellsEq, cellEq, i]
attribute [local irreducible] fewW fewB

theorem c18 (b : Bd) : Fn 18 [b.enc] (.bool (fewB b)) := by
  refine run_walkF eok Tryz.func18 rfl (by kernel_rfl) ?_
  conv => whnf
  repeat' (first
    | ((with_reducible refine on_dec (fun h => ?_) (fun h => ?_)) <;> (try simp only [List.length_map] at h) <;> conv => whnf)
    | ((with_reducible refine loop_go ?_); first | (refine loop1 (fun (j : Nat) => (b.ws[k]'(by omega)).recs.length - j) (fun (j : Nat) => j ≤ (b.ws[k]'(by omega)).recs.length ∧ ((b.ws[k]'(by omega)).recs.take j).all (fun r => decide (r.path.length ≤ 300)) = true) (fun (j : Nat) => [(1, .ptr 0 0 0), (3, .d (i k)), (4, .d (i j))]) (fun (j : Nat) => [⟨[.d b.enc], 2, 0⟩]) (0) (by exact ⟨Nat.zero_le _, rfl⟩) ?_ (fun j C2 hI2 hC2 => ?_); (exact ⟨[.old 0], rfl, rfl, ⟨⟨rfl, rfl, rfl⟩, (by first | (show (_ : D) = _; with_reducible rfl) ), (by first | exact congrArg (D.int .i64) (by omega) ), trivial⟩, ⟨⟨rfl, rfl, .inl ⟨[_], rfl, rfl⟩⟩, trivial⟩⟩); all_goals (conv => whnf)) | (refine loop1 (fun (k : Nat) => b.ws.length - k) (fun (k : Nat) => k ≤ b.ws.length ∧ (b.ws.take k).all fewW = true) (fun (k : Nat) => [(1, .ptr 0 0 0), (3, .d (i k))]) (fun (k : Nat) => [⟨[.d b.enc], 2, 0⟩]) (0) (by exact ⟨Nat.zero_le _, rfl⟩) ?_ (fun k C hI hC => ?_); (exact ⟨[.old 0], rfl, rfl, ⟨⟨rfl, rfl, rfl⟩, (by first | exact congrArg (D.int .i64) (by omega) ), trivial⟩, ⟨⟨rfl, rfl, .inl ⟨[_], rfl, rfl⟩⟩, trivial⟩⟩); all_goals (conv => whnf)))
    | ((with_reducible show C _ _); first | (refine hC (k + 1) _ _ ?_ (by omega) ?_; clear hC; rotate_left; (exact ⟨[.old 0], rfl, rfl, ⟨⟨rfl, rfl, rfl⟩, (by first | exact congrArg (D.int .i64) (by omega) ), trivial⟩, ⟨⟨rfl, rfl, .inl ⟨[_], rfl, rfl⟩⟩, trivial⟩⟩); (exact ⟨by omega, all_takeF (by omega) hI.2 (fewW_ok (by assumption) (by assumption) (by assumption) hI2.2)⟩)))
    | ((with_reducible show C2 _ _); first | (refine hC2 (j + 1) _ _ ?_ (by omega) ?_; clear hC2; rotate_left; (exact ⟨[.old 0], rfl, rfl, ⟨⟨rfl, rfl, rfl⟩, (by first | (show (_ : D) = _; with_reducible rfl) ), (by first | exact congrArg (D.int .i64) (by omega) ), trivial⟩, ⟨⟨rfl, rfl, .inl ⟨[_], rfl, rfl⟩⟩, trivial⟩⟩); (exact ⟨by omega, all_takeF (by omega) hI2.2 (decide_eq_true (by omega))⟩)))
    | (refine ix_map (by omega) ?_; conv => whnf)
    | (refine wrap64 (by omega) ?_; conv => whnf)
    | ((with_reducible refine endx_go ?_); first | (exact endx (congrArg D.bool (few_8 (by assumption)).symm); done) | (exact endx (congrArg D.bool (few_no (k := k) (by omega) (fewW_1 (by assumption))).symm); done) | (exact endx (congrArg D.bool (few_no (k := k) (by omega) (fewW_2 (by assumption))).symm); done) | (exact endx (congrArg D.bool (few_no (k := k) (by omega) (fewW_3 (j := j) (by omega) (by assumption))).symm); done) | (exact endx (congrArg D.bool (few_ok (by assumption) (by assumption) hI.2).symm); done))
    | fail
    )

theorem c22 (b : Bd) (hb : SB b) : Fn 22 [b.enc, b.enc] (.bool true) := by
  have hbn := hb.n
  refine run_walkF eok Tryz.func22 rfl (by kernel_rfl) ?_
  conv => whnf
  repeat' (first
    | (refine onBool_f (by first | (rw [cells_wt]; rfl) | (rw [decide_eq_true rfl]; rfl) | rfl) ?_; conv => whnf)
    | ((with_reducible refine on_dec (fun h => ?_) (fun h => ?_)) <;> (try simp only [List.length_map] at h) <;> conv => whnf)
    | ((with_reducible refine on_not (fun h => ?_) (fun h => ?_)) <;> conv => whnf)
    | ((with_reducible refine call_go ?_); (first | refine call_step (run_view (c29 (b.ws[k]'(by omega)).recs (b.ws[k]'(by omega)).recs (by have := (hb.r _ (List.getElem_mem (l := b.ws) (n := k) (by omega))).1; omega) (by have := (hb.r _ (List.getElem_mem (l := b.ws) (n := k) (by omega))).1; omega)) rfl rfl) ?_); conv => whnf)
    | (refine ⟨[], [(6, 12), (9, 12)], (by decide +kernel), ?_⟩; conv => whnf)
    | ((with_reducible refine loop_go ?_); first | (refine loop1 (fun (k : Nat) => b.ws.length - k) (fun (k : Nat) => k ≤ b.ws.length) (fun (k : Nat) => [(2, .ptr 0 0 0), (3, .ptr 1 0 0), (5, .d (i k))]) (fun (k : Nat) => [⟨[.d b.enc], 2, 0⟩, ⟨[.d b.enc], 2, 0⟩]) (0) (by exact Nat.zero_le _) ?_ (fun k C hI hC => ?_); (exact ⟨[.old 0, .old 1], rfl, rfl, ⟨⟨rfl, rfl, rfl⟩, ⟨rfl, rfl, rfl⟩, (by first | exact congrArg (D.int .i64) (by omega) ), trivial⟩, ⟨⟨rfl, rfl, .inl ⟨[_], rfl, rfl⟩⟩, ⟨rfl, rfl, .inl ⟨[_], rfl, rfl⟩⟩, trivial⟩⟩); all_goals (conv => whnf)))
    | ((with_reducible show C _ _); first | (refine hC (k + 1) _ _ ?_ (by omega) ?_; clear hC; rotate_left; (exact ⟨[.old 0, .old 1], rfl, rfl, ⟨⟨rfl, rfl, rfl⟩, ⟨rfl, rfl, rfl⟩, (by first | exact congrArg (D.int .i64) (by omega) ), trivial⟩, ⟨⟨rfl, rfl, .inl ⟨[_], rfl, rfl⟩⟩, ⟨rfl, rfl, .inl ⟨[_], rfl, rfl⟩⟩, trivial⟩⟩); (exact (by omega : k + 1 ≤ b.ws.length))))
    | (refine ix_map (by omega) ?_; conv => whnf)
    | (refine wrap64 (by omega) ?_; conv => whnf)
    | ((with_reducible refine endx_go ?_); first | (exact endx rfl; done) | (exact absurd (beq_self_eq_true _) (by rw [h]; decide); done) )
    | (refine ⟨rfl, ?_⟩; conv => whnf)
    | fail
    )

theorem c24 (l : List Int) (hl : l.length < 1000000) : Fn 24 [.fs (l.map i), .fs (l.map i)] (.bool true) := by
  refine run_walkF eok Tryz.func24 rfl (by kernel_rfl) ?_
  conv => whnf
  repeat' (first
    | ((with_reducible refine on_dec (fun h => ?_) (fun h => ?_)) <;> (try simp only [List.length_map] at h) <;> conv => whnf)
    | ((with_reducible refine on_ndec (fun h => ?_) (fun h => ?_)) <;> (try simp only [List.length_map] at h) <;> conv => whnf)
    | (refine ⟨[], [], (by decide +kernel), ?_⟩; conv => whnf)
    | ((with_reducible refine loop_go ?_); first | (refine loop1 (fun (k : Nat) => l.length - k) (fun (k : Nat) => k ≤ l.length) (fun (k : Nat) => [(0, .d (.fs (l.map i))), (1, .d (.fs (l.map i))), (5, .d (i k))]) (fun (k : Nat) => []) (0) (by exact Nat.zero_le _) ?_ (fun k C hI hC => ?_); (exact ⟨[], rfl, rfl, ⟨(by first | (show (_ : D) = _; with_reducible rfl) ), (by first | (show (_ : D) = _; with_reducible rfl) ), (by first | exact congrArg (D.int .i64) (by omega) ), trivial⟩, trivial⟩); all_goals (conv => whnf)))
    | ((with_reducible show C _ _); first | (refine hC (k + 1) _ _ ?_ (by omega) ?_; clear hC; rotate_left; (exact ⟨[], rfl, rfl, ⟨(by first | (show (_ : D) = _; with_reducible rfl) ), (by first | (show (_ : D) = _; with_reducible rfl) ), (by first | exact congrArg (D.int .i64) (by omega) ), trivial⟩, trivial⟩); (exact (by omega : k + 1 ≤ l.length))))
    | (refine ix_map (by omega) ?_; conv => whnf)
    | (refine wrap64 (by omega) ?_; conv => whnf)
    | ((with_reducible refine endx_go ?_); first | (exact endx rfl; done) | (exact absurd trivial h; done) )
    | fail
    )

theorem c21 (b : Bd) (e : Rec) (hb : SB b) : Fn 21 [b.enc, e.enc] (i (tellErr b e)) := by
  refine run_walkF eok Tryz.func21 rfl (by kernel_rfl) ?_
  conv => whnf
  repeat' (first
    | ((with_reducible refine on_ndec (fun h => ?_) (fun h => ?_)) <;> (try simp only [List.length_map] at h) <;> conv => whnf)
    | ((with_reducible refine call_go ?_); (first | refine call_step (run_view (c25 b hb) rfl rfl) ?_ | refine call_step (run_view (c15 e) rfl rfl) ?_); conv => whnf)
    | ((with_reducible refine endx_go ?_); first | (refine endx (congrArg i ?_); first | exact (tellE_n (by assumption)).symm | exact (tellE_c (by assumption)).symm; done))
    | fail
    )

end Go.Proofs.YtbkmjpmgiaiacaaGreatDoor
