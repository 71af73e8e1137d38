/-
  Own lemmas, no conditions: Da, Wi, Wa, Wb, Pa, Pb, Wc, Wd.
-/
import Derived.Test.YtolfkcmdfgakkaaGrpI
set_option linter.unusedVariables false
set_option linter.unusedSimpArgs false

/-! Da -/
namespace Go.Proofs.Ytolfkcmdfgakkaa
open Go Dw
set_option maxRecDepth 10000
abbrev Bs := List UInt8
abbrev i (n : Int) : D := .int .i64 n
/-- A function of data. -/
def Fn (f : Nat) (xs : List D) (r : D) : Prop := Run Try.prog f (xs.map .d) [] (.d r) []

structure Own where
  who : Int
  used : Int
  warn : Int
  lim : Int
  ref : Int
  deriving DecidableEq
def Own.enc (x : Own) : D := .agg [i x.who, i x.used, i x.warn, i x.lim, i x.ref]
structure Quo where
  os : List Own
  enf : Bool
  deriving DecidableEq
def Quo.enc (x : Quo) : D := .agg [.fs (x.os.map Own.enc), .bool x.enf]
structure Lim where
  who : Int
  warn : Int
  lim : Int
  deriving DecidableEq
def Lim.enc (x : Lim) : D := .agg [i x.who, i x.warn, i x.lim]
structure Act where
  kind : Int
  who : Int
  to : Int
  bytes : Int
  lim : Lim
  deriving DecidableEq
def Act.enc (x : Act) : D := .agg [i x.kind, i x.who, i x.to, i x.bytes, i x.lim.who, i x.lim.warn, i x.lim.lim]
structure Fil where
  who : Int
  bytes : Int
  deriving DecidableEq
def Fil.enc (x : Fil) : D := .agg [i x.who, i x.bytes]
structure Gap where
  who : Int
  has : Int
  needs : Int
  deriving DecidableEq
def Gap.enc (x : Gap) : D := .agg [i x.who, i x.has, i x.needs]

attribute [local irreducible] Run
theorem cl86 : ClSpec Try.prog 86 5 := by
  refine clSpec_of (fun a c => ?_) (fun x l hl hk => ?_)
  · cases a <;> (refine run_walkF eok Try.func86 rfl (by kernel_rfl) ?_; conv => whnf)
    · refine endX_of (.inl ⟨[.void 5], rfl, rfl, ⟨⟨rfl, rfl, rfl, rfl⟩, trivial⟩, ⟨rfl, rfl, by decide, rfl⟩, trivial⟩)
    · refine ⟨by decide, ?_⟩; conv => whnf
      refine endX_of (.inl ⟨[.old 0], rfl, rfl, ⟨⟨rfl, rfl, rfl, rfl, rfl⟩, trivial⟩, ⟨rfl, rfl, .inr (wksd _ [])⟩, trivial⟩)
  · refine run_walkF eok Try.func86 rfl (by kernel_rfl) ?_
    conv => whnf
    refine ⟨hk, ?_⟩; conv => whnf
    refine ⟨cap_ok (by simp only [List.length_map]; omega) rfl, ?_⟩; conv => whnf
    refine endX_of (.inl ⟨[.old 0], rfl, rfl, ⟨⟨rfl, rfl, ?_, rfl, rfl⟩, trivial⟩, ⟨rfl, rfl, .inr (wksd _ _)⟩, trivial⟩)
    simp only [List.length_map]
end Go.Proofs.Ytolfkcmdfgakkaa

/-! Wi -/
namespace Go.Proofs.Ytolfkcmdfgakkaa
open Go Dw
set_option maxRecDepth 10000
set_option linter.unusedVariables false
set_option linter.unusedSimpArgs false
attribute [local irreducible] Run
set_option maxHeartbeats 4000000

theorem c119 {h : Heap} {s2 l2 : Nat} {c1 c2 : Option Nat} {o1 o2 : AO} (h1 : h[1]? = some o1) (h2 : h[0]? = some o2) (t1 : o1.st < 2) (t2 : o2.st < 2) (p2 : 0 < l2) : Run Try.prog 119 [.sl 1 0 1 5 c1, .sl 0 s2 l2 5 c2] h (.d (.bool false)) h :=
  run_overlaps (P := Try.prog) (f := 119) (tS := 22) (tR := 4) (e := 42) (k := 5) (by kernel_rfl) (fun w => Try.sizeOf42 w) (fun vs w => by
    rw [run_callFunc_extern Try.func119 (by kernel_rfl) (by kernel_rfl) (by kernel_rfl) (e := Extern.SlicesOverlaps.overlaps #[22, 22] #[4]) (by kernel_rfl)]) o1 o2 h1 h2 t1 t2 (by decide) (by decide) (by decide) p2
def insL (L : List D) (k : Nat) (y : D) : List D := L.take k ++ y :: L.drop k
theorem own_slc {h : Heap} {id s len k c : Nat} {lo hi : Int} {K : AV → Prop} (a b : Nat) (ha : lo = a) (hb : hi = b) (hab : a ≤ b ∧ b ≤ c) (hk : K (.sl id (s + a) (b - a) k (some (c - a)))) : ownSl h id s len k (some c) lo hi K := by
  subst ha; subst hb
  exact ⟨.mk, ⟨by omega, by omega, .inr (by show ((b : Nat) : Int) ≤ c; omega)⟩, hk⟩
theorem srcB {l : List AV} {s len : Nat} {K : List AV → Prop} {A : List AV → Prop} (Y : List D) (e : (l.drop s).take len = Y.map .d) (h1 : s + len < l.length) (hm : ∀ z ∈ Y, z.memOk = true) (hk : K (Y.map .d)) :
    s + len ≤ l.length ∧ dropK l s (fun r => onBool (r.length == len) (A r) (onOk ((r.take len).all AV.known) (takeK r len K))) := by
  refine ⟨by omega, ?_⟩
  rw [dropK_eq]
  refine onBool_f (by rw [List.length_drop, beq_eq_false_iff_ne]; omega) (onOk_of ?_ ?_)
  · rw [e]; exact known_d hm
  · rw [takeK_eq, e]; exact hk
theorem srcC {l : List AV} {s len : Nat} {K : List AV → Prop} {B : List AV → Prop} (Y : List D) (e : l.drop s = Y.map .d) (h1 : s + len = l.length) (hm : ∀ z ∈ Y, z.memOk = true) (hk : K (Y.map .d)) :
    s + len ≤ l.length ∧ dropK l s (fun r => onBool (r.length == len) (onOk (r.all AV.known) (K r)) (B r)) := by
  refine ⟨by omega, ?_⟩
  rw [dropK_eq]
  refine onBool_t ?_ (onOk_of ?_ ?_)
  · rw [List.length_drop, beq_iff_eq]; omega
  · rw [e]; exact known_d hm
  · rw [e]; exact hk
theorem ins_end {L : List D} {y : D} {k m n : Nat} (hk : k = L.length) (hn : n = L.length) (hm : 0 < m) {Z : List AV} (hZ : Z = [.d y]) : over (L.map AV.d ++ List.replicate m .junk) n Z = (insL L k y).map .d ++ List.replicate (m - 1) .junk := by
  subst hk; subst hn; subst hZ
  unfold over insL
  rw [List.take_left' (by simp), List.take_of_length_le (Nat.le_refl _), List.drop_of_length_le (Nat.le_refl _), List.map_append, List.length_singleton]
  have e : (L.map AV.d ++ List.replicate m AV.junk).drop (L.length + 1) = List.replicate (m - 1) .junk := by
    rw [List.drop_append, List.drop_of_length_le (by simp), List.nil_append, List.drop_replicate]
    congr 1; simp only [List.length_map]; omega
  rw [e]; rfl
theorem ins_new {L : List D} {y : D} {k n : Nat} (hk : k = L.length) (hn : n = L.length) {Z X : List AV} (hZ : Z = [.d y]) : ((L.map AV.d ++ X).drop 0).take n ++ Z = (insL L k y).map .d := by
  subst hk; subst hn; subst hZ
  unfold insL
  rw [List.drop_zero, List.take_left' (by simp), List.take_of_length_le (Nat.le_refl _), List.drop_of_length_le (Nat.le_refl _), List.map_append]; rfl
theorem ins_fill {L : List D} {y : D} {k a b : Nat} {X Y Z : List AV} (hk : k < L.length) (hX : X.length = L.length + 1) (hT : X.take k = (L.take k).map .d) (ha : a = k) (hb : b = k + 1) (hZ : Z = [.d y]) (hY : Y = (L.drop k).map .d) : over (over X a Z) b Y = (insL L k y).map .d := by
  subst ha; subst hb; subst hZ; subst hY
  have e1 : (over X a [.d y]).take (a + 1) = (L.take a).map .d ++ [.d y] := by
    unfold over
    rw [hT, List.take_left' (by simp; omega)]
  have e2 : (over X a [.d y]).length = L.length + 1 := by
    unfold over; simp; omega
  generalize over X a [.d y] = Z at e1 e2 ⊢
  have e3 : Z.drop (a + 1 + ((L.drop a).map AV.d).length) = [] := List.drop_eq_nil_of_le (by rw [e2]; simp only [List.length_map, List.length_drop]; omega)
  unfold over
  rw [e1, e3]
  unfold insL
  simp
theorem takeD {L : List D} {R : List AV} {s len k : Nat} (hs : s = k) (hl : len = L.length - k) (hk : k ≤ L.length) : ((L.map AV.d ++ R).drop s).take len = (L.drop k).map .d := by
  subst hs; subst hl
  rw [List.drop_append_of_le_length (by simp; omega), List.take_append_of_le_length (by simp), List.take_of_length_le (by simp), ← List.map_drop]
theorem icT {L : List D} {k : Nat} {R X : List AV} (hk : k ≤ L.length) : ((((L.map AV.d ++ R).drop (0 + 0)).take (k - 0)) ++ X).take k = (L.take k).map .d := by
  rw [Nat.sub_zero, List.drop_zero, List.take_append_of_le_length (by simp; omega), List.take_take, Nat.min_self, List.take_append_of_le_length (by simp; omega), List.map_take]
theorem ins_room {L : List D} {y : D} {k a b m : Nat} {Y Z : List AV} (hk : k < L.length) (hm : 0 < m) (ha : a = k + 1) (hb : b = k) (hZ : Z = [.d y]) (hY : Y = (L.drop k).map .d) : over (over (L.map AV.d ++ List.replicate m .junk) a Y) b Z = (insL L k y).map .d ++ List.replicate (m - 1) .junk := by
  subst ha; subst hb; subst hZ; subst hY
  have e0 : (L.map AV.d ++ List.replicate m AV.junk).drop (b + 1 + ((L.drop b).map AV.d).length) = List.replicate (m - 1) .junk := by
    rw [List.drop_append, List.drop_of_length_le (by simp; omega), List.nil_append, List.drop_replicate]
    congr 1; simp only [List.length_map, List.length_drop]; omega
  have e1 : over (L.map AV.d ++ List.replicate m .junk) (b + 1) ((L.drop b).map .d) = (L.take (b + 1)).map .d ++ ((L.drop b).map .d ++ List.replicate (m - 1) .junk) := by
    unfold over
    rw [e0, List.take_append_of_le_length (by simp; omega), ← List.map_take, List.append_assoc]
  rw [e1]
  have e2 : (L.take (b + 1)).map AV.d ++ ((L.drop b).map AV.d ++ List.replicate (m - 1) AV.junk) = (L.take b).map .d ++ (AV.d (L[b]'hk) :: ((L.drop b).map .d ++ List.replicate (m - 1) .junk)) := by
    rw [List.take_succ_eq_append_getElem hk, List.map_append, List.append_assoc]; rfl
  rw [e2]
  unfold over insL
  rw [List.take_left' (by simp; omega), List.drop_append, List.drop_of_length_le (by simp; omega), List.nil_append]
  have e3 : b + [AV.d y].length - ((L.take b).map AV.d).length = 1 := by simp; omega
  rw [e3]; simp

theorem ins_ia (L : List D) (y : D) (hk : ∀ z ∈ L, z.cells.length = 5 ∧ z.memOk = true) (hy : y.cells.length = 5 ∧ y.memOk = true) (hL : L.length < 1000000) (c : Nat) (hc : L.length ≤ c) (k : Nat) (hkn : k = L.length) (hr : L.length + 1 ≤ c) : Run Try.prog 107 [.sl 0 0 L.length 5 (some c), .d (i k), .sl 1 0 1 5 (some 1)] [⟨L.map .d ++ List.replicate (c - L.length) .junk, 5, 0⟩, ⟨[.d y], 5, 0⟩] (.sl 2 0 (L.length + 1) 5 (some c)) [⟨[], 5, 2⟩, ⟨[.d y], 5, 0⟩, ⟨(insL L k y).map .d, 5, 0⟩] := by
  refine run_walkV eok Try.func107 rfl (by kernel_rfl) [0] (by rfl) [] ?_
  conv => whnf
  repeat' (first
    | ((with_reducible refine on_dec_t (by assumption) ?_); conv => whnf)
    | ((with_reducible refine on_dec_f (by assumption) ?_); conv => whnf)
    | ((with_reducible refine onBool_t (by assumption) ?_); conv => whnf)
    | ((with_reducible refine onBool_f (by assumption) ?_); conv => whnf)
    | ((with_reducible refine on_nt (by assumption) ?_); conv => whnf)
    | ((with_reducible refine on_nf (by assumption) ?_); conv => whnf)
    | ((with_reducible refine on_ndec_t (by first | assumption | rfl) ?_); conv => whnf)
    | ((with_reducible refine on_ndec_f (by assumption) ?_); conv => whnf)
    | ((with_reducible refine on_dec_t rfl ?_); conv => whnf)
    | ((with_reducible refine on_dec_t ?_ ?_); (focus (simp only [List.length_drop, List.length_take, List.length_map, List.length_cons, List.length_nil, List.length_append, List.length_replicate, over]; omega)); conv => whnf)
    | ((with_reducible refine on_dec_f ?_ ?_); (focus (simp only [List.length_drop, List.length_take, List.length_map, List.length_cons, List.length_nil, List.length_append, List.length_replicate, over]; omega)); conv => whnf)
    | ((with_reducible refine on_dec_f ?_ ?_); (focus ((try simp only [List.length_map, List.length_cons, List.length_nil, List.length_append]); omega)); conv => whnf)
    | ((with_reducible refine on_dec_t ?_ ?_); (focus ((try simp only [List.length_map, List.length_cons, List.length_nil, List.length_append]); omega)); conv => whnf)
    | ((with_reducible refine on_dec (fun h => ?_) (fun h => ?_)) <;> (try simp only [List.length_map] at h) <;> conv => whnf)
    | ((with_reducible refine on_ndec (fun h => ?_) (fun h => ?_)) <;> (try simp only [List.length_map] at h) <;> conv => whnf)
    | ((with_reducible refine on_not (fun h => ?_) (fun h => ?_)) <;> conv => whnf)
    | ((with_reducible refine onBool_split (fun h => ?_) (fun h => ?_)) <;> conv => whnf)
    | ((with_reducible refine call_go ?_); (first | refine call_step (c119 (o1 := ⟨[.d y], 5, 0⟩) (o2 := ⟨L.map .d ++ List.replicate (c - L.length) .junk, 5, 0⟩) rfl rfl (Nat.zero_lt_succ 1) (Nat.zero_lt_succ 1) (by omega)) ?_); conv => whnf)
    | (refine ⟨[], [], (by decide +kernel), ?_⟩; conv => whnf)
    | (refine ⟨⟨(by first | rfl | (simp; done)), cap_ok (by simp only [List.length_map, List.length_cons, List.length_nil, List.length_append]; omega) rfl⟩, ?_⟩; conv => whnf)
    | (refine ⟨mem_one ⟨rfl, rfl⟩, ?_⟩; conv => whnf)
    | (refine ⟨(by intro y hy; obtain ⟨x, _, rfl⟩ := List.mem_map.1 hy; first | rfl | exact ⟨rfl, rfl⟩), ?_⟩; conv => whnf)
    | (refine ⟨cap_ok (by first | omega | (simp only [List.length_map]; omega)) rfl, ?_⟩; conv => whnf)
    | (refine ix_map (by omega) ?_; conv => whnf)
    | (refine ix_str (by omega) ?_; conv => whnf)
    | (refine wrap64 (by omega) ?_; conv => whnf)
    | (refine srcC (L.drop k) (by simp only [Nat.zero_add]; rw [show c - L.length = 0 by omega]; simp) (by simp only [List.length_drop, List.length_take, List.length_map, List.length_cons, List.length_nil, List.length_append, List.length_replicate, over]; omega) (fun z hz => (hk z (List.mem_of_mem_drop hz)).2) ?_; conv => whnf)
    | (refine srcB (L.drop k) (takeD (by omega) (by omega) (by omega)) (by simp only [List.length_drop, List.length_take, List.length_map, List.length_cons, List.length_nil, List.length_append, List.length_replicate, over]; omega) (fun z hz => (hk z (List.mem_of_mem_drop hz)).2) ?_; conv => whnf)
    | (refine own_slc 0 (L.length + 1) rfl (by omega) ⟨by omega, by omega⟩ ?_; conv => whnf)
    | (refine srcA (l := [.d y]) rfl (by simp [AV.known, hy.2]) ?_; conv => whnf)
    | (refine own_sl k L.length rfl rfl ⟨by omega, by omega⟩ ?_; conv => whnf)
    | (refine own_sl 0 k rfl rfl ⟨by omega, by omega⟩ ?_; conv => whnf)
    | (refine own_sl k _ rfl rfl ⟨by omega, (by (try simp only [List.length_drop, List.length_take, List.length_map, List.length_cons, List.length_nil, List.length_append, List.length_replicate, over]); omega)⟩ ?_; conv => whnf)
    | (refine own_sl (k + 1) _ (by omega) rfl ⟨(by (try simp only [List.length_drop, List.length_take, List.length_map, List.length_cons, List.length_nil, List.length_append, List.length_replicate, over]); omega), (by (try simp only [List.length_drop, List.length_take, List.length_map, List.length_cons, List.length_nil, List.length_append, List.length_replicate, over]); omega)⟩ ?_; conv => whnf)
    | (refine ⟨⟨(by simp only [List.length_drop, List.length_take, List.length_map, List.length_cons, List.length_nil, List.length_append, List.length_replicate, over]; omega), (by have e : (E (E 22).elem).bytes = 40 := rfl; rw [e]; (try simp only [List.length_drop, List.length_take, List.length_map, List.length_cons, List.length_nil, List.length_append, List.length_replicate, over]); omega)⟩, ?_⟩; conv => whnf)
    | (refine ⟨⟨by omega, by omega, (by have e : (E (E 22).elem).bytes = 40 := rfl; rw [e]; (try simp only [List.length_drop, List.length_take, List.length_map, List.length_cons, List.length_nil, List.length_append, List.length_replicate, over]); omega)⟩, ?_⟩; conv => whnf)
    | (refine ⟨(by simp only [List.length_drop, List.length_take, List.length_map, List.length_cons, List.length_nil, List.length_append, List.length_replicate, over]; omega), ?_⟩; conv => whnf)
    | (refine wrap64 (by omega) ?_; conv => whnf)
    | (exfalso; simp only [List.length_map, List.length_cons, List.length_nil, List.length_append] at h; omega)
    | ((with_reducible refine endx_go ?_); first | (refine endX_of (.inl ⟨[.dead, .old 1, .cut 0 (L.length + 1)], rfl, rfl, ⟨⟨⟨rfl, fun h => by cases h⟩, rfl, rfl, rfl, rfl⟩, trivial⟩, ⟨rfl, ⟨rfl, rfl, .inl ⟨[y], rfl, rfl⟩⟩, ⟨rfl, rfl, _, _, ins_end (k := k) hkn (by omega) (by omega) rfl, (by unfold insL; simp; omega), .inl ⟨_, rfl, rfl⟩⟩, trivial⟩⟩); done))
    | (refine ⟨rfl, ?_⟩; conv => whnf)
    | fail
    )

theorem ins_ib (L : List D) (y : D) (hk : ∀ z ∈ L, z.cells.length = 5 ∧ z.memOk = true) (hy : y.cells.length = 5 ∧ y.memOk = true) (hL : L.length < 1000000) (c : Nat) (hc : L.length ≤ c) (k : Nat) (hkn : k = L.length) (hr : ¬ L.length + 1 ≤ c) : Run Try.prog 107 [.sl 0 0 L.length 5 (some c), .d (i k), .sl 1 0 1 5 (some 1)] [⟨L.map .d ++ List.replicate (c - L.length) .junk, 5, 0⟩, ⟨[.d y], 5, 0⟩] (.sl 2 0 (L.length + 1) 5 none) [⟨[], 5, 2⟩, ⟨[.d y], 5, 0⟩, ⟨(insL L k y).map .d, 5, 0⟩] := by
  refine run_walkV eok Try.func107 rfl (by kernel_rfl) [0] (by rfl) [] ?_
  conv => whnf
  repeat' (first
    | ((with_reducible refine on_dec_t (by assumption) ?_); conv => whnf)
    | ((with_reducible refine on_dec_f (by assumption) ?_); conv => whnf)
    | ((with_reducible refine onBool_t (by assumption) ?_); conv => whnf)
    | ((with_reducible refine onBool_f (by assumption) ?_); conv => whnf)
    | ((with_reducible refine on_nt (by assumption) ?_); conv => whnf)
    | ((with_reducible refine on_nf (by assumption) ?_); conv => whnf)
    | ((with_reducible refine on_ndec_t (by first | assumption | rfl) ?_); conv => whnf)
    | ((with_reducible refine on_ndec_f (by assumption) ?_); conv => whnf)
    | ((with_reducible refine on_dec_t rfl ?_); conv => whnf)
    | ((with_reducible refine on_dec_t ?_ ?_); (focus (simp only [List.length_drop, List.length_take, List.length_map, List.length_cons, List.length_nil, List.length_append, List.length_replicate, over]; omega)); conv => whnf)
    | ((with_reducible refine on_dec_f ?_ ?_); (focus (simp only [List.length_drop, List.length_take, List.length_map, List.length_cons, List.length_nil, List.length_append, List.length_replicate, over]; omega)); conv => whnf)
    | ((with_reducible refine on_dec_f ?_ ?_); (focus ((try simp only [List.length_map, List.length_cons, List.length_nil, List.length_append]); omega)); conv => whnf)
    | ((with_reducible refine on_dec_t ?_ ?_); (focus ((try simp only [List.length_map, List.length_cons, List.length_nil, List.length_append]); omega)); conv => whnf)
    | ((with_reducible refine on_dec (fun h => ?_) (fun h => ?_)) <;> (try simp only [List.length_map] at h) <;> conv => whnf)
    | ((with_reducible refine on_ndec (fun h => ?_) (fun h => ?_)) <;> (try simp only [List.length_map] at h) <;> conv => whnf)
    | ((with_reducible refine on_not (fun h => ?_) (fun h => ?_)) <;> conv => whnf)
    | ((with_reducible refine onBool_split (fun h => ?_) (fun h => ?_)) <;> conv => whnf)
    | ((with_reducible refine call_go ?_); (first | refine call_step (c119 (o1 := ⟨[.d y], 5, 0⟩) (o2 := ⟨L.map .d ++ List.replicate (c - L.length) .junk, 5, 0⟩) rfl rfl (Nat.zero_lt_succ 1) (Nat.zero_lt_succ 1) (by omega)) ?_); conv => whnf)
    | (refine ⟨[], [], (by decide +kernel), ?_⟩; conv => whnf)
    | (refine ⟨⟨(by first | rfl | (simp; done)), cap_ok (by simp only [List.length_map, List.length_cons, List.length_nil, List.length_append]; omega) rfl⟩, ?_⟩; conv => whnf)
    | (refine ⟨mem_one ⟨rfl, rfl⟩, ?_⟩; conv => whnf)
    | (refine ⟨(by intro y hy; obtain ⟨x, _, rfl⟩ := List.mem_map.1 hy; first | rfl | exact ⟨rfl, rfl⟩), ?_⟩; conv => whnf)
    | (refine ⟨cap_ok (by first | omega | (simp only [List.length_map]; omega)) rfl, ?_⟩; conv => whnf)
    | (refine ix_map (by omega) ?_; conv => whnf)
    | (refine ix_str (by omega) ?_; conv => whnf)
    | (refine wrap64 (by omega) ?_; conv => whnf)
    | (refine srcC (L.drop k) (by simp only [Nat.zero_add]; rw [show c - L.length = 0 by omega]; simp) (by simp only [List.length_drop, List.length_take, List.length_map, List.length_cons, List.length_nil, List.length_append, List.length_replicate, over]; omega) (fun z hz => (hk z (List.mem_of_mem_drop hz)).2) ?_; conv => whnf)
    | (refine srcB (L.drop k) (takeD (by omega) (by omega) (by omega)) (by simp only [List.length_drop, List.length_take, List.length_map, List.length_cons, List.length_nil, List.length_append, List.length_replicate, over]; omega) (fun z hz => (hk z (List.mem_of_mem_drop hz)).2) ?_; conv => whnf)
    | (refine own_slc 0 (L.length + 1) rfl (by omega) ⟨by omega, by omega⟩ ?_; conv => whnf)
    | (refine srcA (l := [.d y]) rfl (by simp [AV.known, hy.2]) ?_; conv => whnf)
    | (refine own_sl k L.length rfl rfl ⟨by omega, by omega⟩ ?_; conv => whnf)
    | (refine own_sl 0 k rfl rfl ⟨by omega, by omega⟩ ?_; conv => whnf)
    | (refine own_sl k _ rfl rfl ⟨by omega, (by (try simp only [List.length_drop, List.length_take, List.length_map, List.length_cons, List.length_nil, List.length_append, List.length_replicate, over]); omega)⟩ ?_; conv => whnf)
    | (refine own_sl (k + 1) _ (by omega) rfl ⟨(by (try simp only [List.length_drop, List.length_take, List.length_map, List.length_cons, List.length_nil, List.length_append, List.length_replicate, over]); omega), (by (try simp only [List.length_drop, List.length_take, List.length_map, List.length_cons, List.length_nil, List.length_append, List.length_replicate, over]); omega)⟩ ?_; conv => whnf)
    | (refine ⟨⟨(by simp only [List.length_drop, List.length_take, List.length_map, List.length_cons, List.length_nil, List.length_append, List.length_replicate, over]; omega), (by have e : (E (E 22).elem).bytes = 40 := rfl; rw [e]; (try simp only [List.length_drop, List.length_take, List.length_map, List.length_cons, List.length_nil, List.length_append, List.length_replicate, over]); omega)⟩, ?_⟩; conv => whnf)
    | (refine ⟨⟨by omega, by omega, (by have e : (E (E 22).elem).bytes = 40 := rfl; rw [e]; (try simp only [List.length_drop, List.length_take, List.length_map, List.length_cons, List.length_nil, List.length_append, List.length_replicate, over]); omega)⟩, ?_⟩; conv => whnf)
    | (refine ⟨(by simp only [List.length_drop, List.length_take, List.length_map, List.length_cons, List.length_nil, List.length_append, List.length_replicate, over]; omega), ?_⟩; conv => whnf)
    | (refine wrap64 (by omega) ?_; conv => whnf)
    | (exfalso; simp only [List.length_map, List.length_cons, List.length_nil, List.length_append] at h; omega)
    | ((with_reducible refine endx_go ?_); first | (refine endX_of (.inl ⟨[.dead, .old 1, .old 2], rfl, rfl, ⟨⟨rfl, rfl, rfl, rfl, rfl⟩, trivial⟩, ⟨rfl, ⟨rfl, rfl, .inl ⟨[y], rfl, rfl⟩⟩, ⟨rfl, rfl, .inl ⟨_, ins_new (k := k) hkn rfl rfl, rfl⟩⟩, trivial⟩⟩); done))
    | (refine ⟨rfl, ?_⟩; conv => whnf)
    | fail
    )

theorem ins_ic (L : List D) (y : D) (hk : ∀ z ∈ L, z.cells.length = 5 ∧ z.memOk = true) (hy : y.cells.length = 5 ∧ y.memOk = true) (hL : L.length < 1000000) (c : Nat) (hc : L.length ≤ c) (k : Nat) (hkn : k < L.length) (hr : ¬ L.length + 1 ≤ c) : Run Try.prog 107 [.sl 0 0 L.length 5 (some c), .d (i k), .sl 1 0 1 5 (some 1)] [⟨L.map .d ++ List.replicate (c - L.length) .junk, 5, 0⟩, ⟨[.d y], 5, 0⟩] (.sl 2 0 (L.length + 1) 5 none) [⟨[], 5, 2⟩, ⟨[.d y], 5, 0⟩, ⟨(insL L k y).map .d, 5, 0⟩] := by
  refine run_walkV eok Try.func107 rfl (by kernel_rfl) [0] (by rfl) [] ?_
  conv => whnf
  repeat' (first
    | ((with_reducible refine on_dec_t (by assumption) ?_); conv => whnf)
    | ((with_reducible refine on_dec_f (by assumption) ?_); conv => whnf)
    | ((with_reducible refine onBool_t (by assumption) ?_); conv => whnf)
    | ((with_reducible refine onBool_f (by assumption) ?_); conv => whnf)
    | ((with_reducible refine on_nt (by assumption) ?_); conv => whnf)
    | ((with_reducible refine on_nf (by assumption) ?_); conv => whnf)
    | ((with_reducible refine on_ndec_t (by first | assumption | rfl) ?_); conv => whnf)
    | ((with_reducible refine on_ndec_f (by assumption) ?_); conv => whnf)
    | ((with_reducible refine on_dec_t rfl ?_); conv => whnf)
    | ((with_reducible refine on_dec_t ?_ ?_); (focus (simp only [List.length_drop, List.length_take, List.length_map, List.length_cons, List.length_nil, List.length_append, List.length_replicate, over]; omega)); conv => whnf)
    | ((with_reducible refine on_dec_f ?_ ?_); (focus (simp only [List.length_drop, List.length_take, List.length_map, List.length_cons, List.length_nil, List.length_append, List.length_replicate, over]; omega)); conv => whnf)
    | ((with_reducible refine on_dec_f ?_ ?_); (focus ((try simp only [List.length_map, List.length_cons, List.length_nil, List.length_append]); omega)); conv => whnf)
    | ((with_reducible refine on_dec_t ?_ ?_); (focus ((try simp only [List.length_map, List.length_cons, List.length_nil, List.length_append]); omega)); conv => whnf)
    | ((with_reducible refine on_dec (fun h => ?_) (fun h => ?_)) <;> (try simp only [List.length_map] at h) <;> conv => whnf)
    | ((with_reducible refine on_ndec (fun h => ?_) (fun h => ?_)) <;> (try simp only [List.length_map] at h) <;> conv => whnf)
    | ((with_reducible refine on_not (fun h => ?_) (fun h => ?_)) <;> conv => whnf)
    | ((with_reducible refine onBool_split (fun h => ?_) (fun h => ?_)) <;> conv => whnf)
    | ((with_reducible refine call_go ?_); (first | refine call_step (c119 (o1 := ⟨[.d y], 5, 0⟩) (o2 := ⟨L.map .d ++ List.replicate (c - L.length) .junk, 5, 0⟩) rfl rfl (Nat.zero_lt_succ 1) (Nat.zero_lt_succ 1) (by omega)) ?_); conv => whnf)
    | (refine ⟨[], [], (by decide +kernel), ?_⟩; conv => whnf)
    | (refine ⟨⟨(by first | rfl | (simp; done)), cap_ok (by simp only [List.length_map, List.length_cons, List.length_nil, List.length_append]; omega) rfl⟩, ?_⟩; conv => whnf)
    | (refine ⟨mem_one ⟨rfl, rfl⟩, ?_⟩; conv => whnf)
    | (refine ⟨(by intro y hy; obtain ⟨x, _, rfl⟩ := List.mem_map.1 hy; first | rfl | exact ⟨rfl, rfl⟩), ?_⟩; conv => whnf)
    | (refine ⟨cap_ok (by first | omega | (simp only [List.length_map]; omega)) rfl, ?_⟩; conv => whnf)
    | (refine ix_map (by omega) ?_; conv => whnf)
    | (refine ix_str (by omega) ?_; conv => whnf)
    | (refine wrap64 (by omega) ?_; conv => whnf)
    | (refine srcC (L.drop k) (by simp only [Nat.zero_add]; rw [show c - L.length = 0 by omega]; simp) (by simp only [List.length_drop, List.length_take, List.length_map, List.length_cons, List.length_nil, List.length_append, List.length_replicate, over]; omega) (fun z hz => (hk z (List.mem_of_mem_drop hz)).2) ?_; conv => whnf)
    | (refine srcB (L.drop k) (takeD (by omega) (by omega) (by omega)) (by simp only [List.length_drop, List.length_take, List.length_map, List.length_cons, List.length_nil, List.length_append, List.length_replicate, over]; omega) (fun z hz => (hk z (List.mem_of_mem_drop hz)).2) ?_; conv => whnf)
    | (refine own_slc 0 (L.length + 1) rfl (by omega) ⟨by omega, by omega⟩ ?_; conv => whnf)
    | (refine srcA (l := [.d y]) rfl (by simp [AV.known, hy.2]) ?_; conv => whnf)
    | (refine own_sl k L.length rfl rfl ⟨by omega, by omega⟩ ?_; conv => whnf)
    | (refine own_sl 0 k rfl rfl ⟨by omega, by omega⟩ ?_; conv => whnf)
    | (refine own_sl k _ rfl rfl ⟨by omega, (by (try simp only [List.length_drop, List.length_take, List.length_map, List.length_cons, List.length_nil, List.length_append, List.length_replicate, over]); omega)⟩ ?_; conv => whnf)
    | (refine own_sl (k + 1) _ (by omega) rfl ⟨(by (try simp only [List.length_drop, List.length_take, List.length_map, List.length_cons, List.length_nil, List.length_append, List.length_replicate, over]); omega), (by (try simp only [List.length_drop, List.length_take, List.length_map, List.length_cons, List.length_nil, List.length_append, List.length_replicate, over]); omega)⟩ ?_; conv => whnf)
    | (refine ⟨⟨(by simp only [List.length_drop, List.length_take, List.length_map, List.length_cons, List.length_nil, List.length_append, List.length_replicate, over]; omega), (by have e : (E (E 22).elem).bytes = 40 := rfl; rw [e]; (try simp only [List.length_drop, List.length_take, List.length_map, List.length_cons, List.length_nil, List.length_append, List.length_replicate, over]); omega)⟩, ?_⟩; conv => whnf)
    | (refine ⟨⟨by omega, by omega, (by have e : (E (E 22).elem).bytes = 40 := rfl; rw [e]; (try simp only [List.length_drop, List.length_take, List.length_map, List.length_cons, List.length_nil, List.length_append, List.length_replicate, over]); omega)⟩, ?_⟩; conv => whnf)
    | (refine ⟨(by simp only [List.length_drop, List.length_take, List.length_map, List.length_cons, List.length_nil, List.length_append, List.length_replicate, over]; omega), ?_⟩; conv => whnf)
    | (refine wrap64 (by omega) ?_; conv => whnf)
    | (exfalso; simp only [List.length_map, List.length_cons, List.length_nil, List.length_append] at h; omega)
    | ((with_reducible refine endx_go ?_); first | (refine endX_of (.inl ⟨[.dead, .old 1, .old 2], rfl, rfl, ⟨⟨rfl, rfl, (by simp only [List.length_drop, List.length_take, List.length_map, List.length_cons, List.length_nil, List.length_append, List.length_replicate, over]; omega), rfl, rfl⟩, trivial⟩, ⟨rfl, ⟨rfl, rfl, .inl ⟨[y], rfl, rfl⟩⟩, ⟨rfl, rfl, .inl ⟨_, ins_fill hkn (by simp only [List.length_drop, List.length_take, List.length_map, List.length_cons, List.length_nil, List.length_append, List.length_replicate, over]; omega) (icT (by omega)) (by omega) (by omega) (List.take_of_length_le (by simp only [List.length_drop, List.length_take, List.length_map, List.length_cons, List.length_nil, List.length_append, List.length_replicate, over]; omega)) (List.take_of_length_le (by simp only [List.length_drop, List.length_take, List.length_map, List.length_cons, List.length_nil, List.length_append, List.length_replicate, over]; omega)), rfl⟩⟩, trivial⟩⟩); done))
    | (refine ⟨rfl, ?_⟩; conv => whnf)
    | fail
    )

theorem ins_id (L : List D) (y : D) (hk : ∀ z ∈ L, z.cells.length = 5 ∧ z.memOk = true) (hy : y.cells.length = 5 ∧ y.memOk = true) (hL : L.length < 1000000) (c : Nat) (hc : L.length ≤ c) (k : Nat) (hkn : k < L.length) (hr : L.length + 1 ≤ c) : Run Try.prog 107 [.sl 0 0 L.length 5 (some c), .d (i k), .sl 1 0 1 5 (some 1)] [⟨L.map .d ++ List.replicate (c - L.length) .junk, 5, 0⟩, ⟨[.d y], 5, 0⟩] (.sl 2 0 (L.length + 1) 5 (some c)) [⟨[], 5, 2⟩, ⟨[.d y], 5, 0⟩, ⟨(insL L k y).map .d, 5, 0⟩] := by
  refine run_walkV eok Try.func107 rfl (by kernel_rfl) [0] (by rfl) [] ?_
  conv => whnf
  repeat' (first
    | ((with_reducible refine on_dec_t (by assumption) ?_); conv => whnf)
    | ((with_reducible refine on_dec_f (by assumption) ?_); conv => whnf)
    | ((with_reducible refine onBool_t (by assumption) ?_); conv => whnf)
    | ((with_reducible refine onBool_f (by assumption) ?_); conv => whnf)
    | ((with_reducible refine on_nt (by assumption) ?_); conv => whnf)
    | ((with_reducible refine on_nf (by assumption) ?_); conv => whnf)
    | ((with_reducible refine on_ndec_t (by first | assumption | rfl) ?_); conv => whnf)
    | ((with_reducible refine on_ndec_f (by assumption) ?_); conv => whnf)
    | ((with_reducible refine on_dec_t rfl ?_); conv => whnf)
    | ((with_reducible refine on_dec_t ?_ ?_); (focus (simp only [List.length_drop, List.length_take, List.length_map, List.length_cons, List.length_nil, List.length_append, List.length_replicate, over]; omega)); conv => whnf)
    | ((with_reducible refine on_dec_f ?_ ?_); (focus (simp only [List.length_drop, List.length_take, List.length_map, List.length_cons, List.length_nil, List.length_append, List.length_replicate, over]; omega)); conv => whnf)
    | ((with_reducible refine on_dec_f ?_ ?_); (focus ((try simp only [List.length_map, List.length_cons, List.length_nil, List.length_append]); omega)); conv => whnf)
    | ((with_reducible refine on_dec_t ?_ ?_); (focus ((try simp only [List.length_map, List.length_cons, List.length_nil, List.length_append]); omega)); conv => whnf)
    | ((with_reducible refine on_dec (fun h => ?_) (fun h => ?_)) <;> (try simp only [List.length_map] at h) <;> conv => whnf)
    | ((with_reducible refine on_ndec (fun h => ?_) (fun h => ?_)) <;> (try simp only [List.length_map] at h) <;> conv => whnf)
    | ((with_reducible refine on_not (fun h => ?_) (fun h => ?_)) <;> conv => whnf)
    | ((with_reducible refine onBool_split (fun h => ?_) (fun h => ?_)) <;> conv => whnf)
    | ((with_reducible refine call_go ?_); (first | refine call_step (c119 (o1 := ⟨[.d y], 5, 0⟩) (o2 := ⟨L.map .d ++ List.replicate (c - L.length) .junk, 5, 0⟩) rfl rfl (Nat.zero_lt_succ 1) (Nat.zero_lt_succ 1) (by omega)) ?_); conv => whnf)
    | (refine ⟨[], [], (by decide +kernel), ?_⟩; conv => whnf)
    | (refine ⟨⟨(by first | rfl | (simp; done)), cap_ok (by simp only [List.length_map, List.length_cons, List.length_nil, List.length_append]; omega) rfl⟩, ?_⟩; conv => whnf)
    | (refine ⟨mem_one ⟨rfl, rfl⟩, ?_⟩; conv => whnf)
    | (refine ⟨(by intro y hy; obtain ⟨x, _, rfl⟩ := List.mem_map.1 hy; first | rfl | exact ⟨rfl, rfl⟩), ?_⟩; conv => whnf)
    | (refine ⟨cap_ok (by first | omega | (simp only [List.length_map]; omega)) rfl, ?_⟩; conv => whnf)
    | (refine ix_map (by omega) ?_; conv => whnf)
    | (refine ix_str (by omega) ?_; conv => whnf)
    | (refine wrap64 (by omega) ?_; conv => whnf)
    | (refine srcC (L.drop k) (by simp only [Nat.zero_add]; rw [show c - L.length = 0 by omega]; simp) (by simp only [List.length_drop, List.length_take, List.length_map, List.length_cons, List.length_nil, List.length_append, List.length_replicate, over]; omega) (fun z hz => (hk z (List.mem_of_mem_drop hz)).2) ?_; conv => whnf)
    | (refine srcB (L.drop k) (takeD (by omega) (by omega) (by omega)) (by simp only [List.length_drop, List.length_take, List.length_map, List.length_cons, List.length_nil, List.length_append, List.length_replicate, over]; omega) (fun z hz => (hk z (List.mem_of_mem_drop hz)).2) ?_; conv => whnf)
    | (refine own_slc 0 (L.length + 1) rfl (by omega) ⟨by omega, by omega⟩ ?_; conv => whnf)
    | (refine srcA (l := [.d y]) rfl (by simp [AV.known, hy.2]) ?_; conv => whnf)
    | (refine own_sl k L.length rfl rfl ⟨by omega, by omega⟩ ?_; conv => whnf)
    | (refine own_sl 0 k rfl rfl ⟨by omega, by omega⟩ ?_; conv => whnf)
    | (refine own_sl k _ rfl rfl ⟨by omega, (by (try simp only [List.length_drop, List.length_take, List.length_map, List.length_cons, List.length_nil, List.length_append, List.length_replicate, over]); omega)⟩ ?_; conv => whnf)
    | (refine own_sl (k + 1) _ (by omega) rfl ⟨(by (try simp only [List.length_drop, List.length_take, List.length_map, List.length_cons, List.length_nil, List.length_append, List.length_replicate, over]); omega), (by (try simp only [List.length_drop, List.length_take, List.length_map, List.length_cons, List.length_nil, List.length_append, List.length_replicate, over]); omega)⟩ ?_; conv => whnf)
    | (refine ⟨⟨(by simp only [List.length_drop, List.length_take, List.length_map, List.length_cons, List.length_nil, List.length_append, List.length_replicate, over]; omega), (by have e : (E (E 22).elem).bytes = 40 := rfl; rw [e]; (try simp only [List.length_drop, List.length_take, List.length_map, List.length_cons, List.length_nil, List.length_append, List.length_replicate, over]); omega)⟩, ?_⟩; conv => whnf)
    | (refine ⟨⟨by omega, by omega, (by have e : (E (E 22).elem).bytes = 40 := rfl; rw [e]; (try simp only [List.length_drop, List.length_take, List.length_map, List.length_cons, List.length_nil, List.length_append, List.length_replicate, over]); omega)⟩, ?_⟩; conv => whnf)
    | (refine ⟨(by simp only [List.length_drop, List.length_take, List.length_map, List.length_cons, List.length_nil, List.length_append, List.length_replicate, over]; omega), ?_⟩; conv => whnf)
    | (refine wrap64 (by omega) ?_; conv => whnf)
    | (exfalso; simp only [List.length_map, List.length_cons, List.length_nil, List.length_append] at h; omega)
    | ((with_reducible refine endx_go ?_); first | (refine endX_of (.inl ⟨[.dead, .old 1, .cut 0 (L.length + 1)], rfl, rfl, ⟨⟨⟨rfl, fun h => by cases h⟩, rfl, rfl, rfl, rfl⟩, trivial⟩, ⟨rfl, ⟨rfl, rfl, .inl ⟨[y], rfl, rfl⟩⟩, ⟨rfl, rfl, _, _, ins_room hkn (by omega) (by omega) (by omega) (List.take_of_length_le (by simp only [List.length_drop, List.length_take, List.length_map, List.length_cons, List.length_nil, List.length_append, List.length_replicate, over]; omega)) (List.take_of_length_le (by simp only [List.length_drop, List.length_take, List.length_map, List.length_cons, List.length_nil, List.length_append, List.length_replicate, over]; omega)), (by unfold insL; simp; omega), .inl ⟨_, rfl, rfl⟩⟩, trivial⟩⟩); done))
    | (refine ⟨rfl, ?_⟩; conv => whnf)
    | fail
    )

theorem insL_len (L : List D) (k : Nat) (y : D) (h : k ≤ L.length) : (insL L k y).length = L.length + 1 := by
  unfold insL; simp; omega
theorem ins107 (L : List D) (y : D) (k : Nat) (hkn : k ≤ L.length) (hk : ∀ z ∈ L, z.cells.length = 5 ∧ z.memOk = true) (hy : y.cells.length = 5 ∧ y.memOk = true) (hL : L.length < 1000000) :
    Run Try.prog 107 [.sl 0 0 L.length 5 none, .d (i k), .sl 1 0 1 5 (some 1)] [⟨L.map .d, 5, 0⟩, ⟨[.d y], 5, 0⟩] (.sl 2 0 (L.length + 1) 5 none) [⟨[], 5, 2⟩, ⟨[.d y], 5, 0⟩, ⟨(insL L k y).map .d, 5, 0⟩] := by
  refine run_grow (j := 1) (D1 := ⟨[], 5, 2⟩) (H' := [⟨[.d y], 5, 0⟩, ⟨(insL L k y).map .d, 5, 0⟩]) (by simp) (fun x hx => ?_) (fun x hx => ?_) (fun o ho x hx => ?_) rfl ⟨_, rfl, by simp [insL_len L k y hkn], Nat.zero_lt_succ 1⟩ fun c hc => ?_
  · obtain ⟨z, _, rfl⟩ := List.mem_map.1 hx; rfl
  · simp only [List.mem_cons, List.not_mem_nil, or_false] at hx
    rcases hx with rfl | rfl <;> rfl
  · simp only [List.mem_singleton] at ho; subst ho
    simp only [List.mem_singleton] at hx; subst hx; rfl
  · rcases Nat.lt_or_ge k L.length with h | h
    · by_cases hr : L.length + 1 ≤ c
      · exact ⟨_, ins_id L y hk hy hL c hc k h hr⟩
      · exact ⟨_, ins_ic L y hk hy hL c hc k h hr⟩
    · by_cases hr : L.length + 1 ≤ c
      · exact ⟨_, ins_ia L y hk hy hL c hc k (by omega) hr⟩
      · exact ⟨_, ins_ib L y hk hy hL c hc k (by omega) hr⟩
theorem run_ins {L : List D} {y : D} {k n : Nat} {H : Heap} {a b : Nat} (h1 : H[a]? = some ⟨L.map .d, 5, 0⟩) (h2 : H[b]? = some ⟨[.d y], 5, 0⟩) (hab : a ≠ b) (hn : n = L.length) (hkn : k ≤ L.length) (hk : ∀ z ∈ L, z.cells.length = 5 ∧ z.memOk = true) (hf : ∀ z ∈ L, z.flat = true)
    (hy : y.cells.length = 5 ∧ y.memOk = true) (hyf : y.flat = true) (hL : L.length < 1000000) :
    Run Try.prog 107 [.sl a 0 n 5 none, .d (i k), .sl b 0 1 5 (some 1)] H (.sl H.length 0 (L.length + 1) 5 none) (((H.set a ⟨[], 5, 2⟩).set b ⟨[.d y], 5, 0⟩) ++ [⟨(insL L k y).map .d, 5, 0⟩]) := by
  subst hn
  refine run_at (σ := [a, b]) (F := []) (fl := true) (ins107 L y k hkn hk hy hL) (by simp [hab]) (fun j hj => by cases hj) ⟨⟨rfl, rfl, rfl, rfl, rfl⟩, ⟨rfl, fun id hid => by simp [reach] at hid⟩, ⟨rfl, rfl, rfl, rfl, rfl⟩, trivial⟩
    ⟨(nthK_iff _ _).2 ⟨_, h1, rfl, rfl, .inl ⟨_, rfl, rfl⟩⟩, (nthK_iff _ _).2 ⟨_, h2, rfl, rfl, .inl ⟨[y], rfl, rfl⟩⟩, trivial⟩ (fun _ => ⟨rfl, fun o ho => ?_⟩) ?_ ?_
  · simp only [List.mem_cons, List.not_mem_nil, or_false] at ho
    rcases ho with rfl | rfl | rfl
    · exact ⟨rfl, by decide⟩
    · exact ⟨flats_map [y] (by simpa using hyf), Nat.zero_ne_one⟩
    · refine ⟨flats_map _ fun z hz => ?_, Nat.zero_ne_one⟩
      unfold insL at hz
      rcases List.mem_append.1 hz with hz | hz
      · exact hf z (List.mem_of_mem_take hz)
      · rcases List.mem_cons.1 hz with rfl | hz
        · exact hyf
        · exact hf z (List.mem_of_mem_drop hz)
  · simp [ren, tau]
  · simp only [outH, setAll, List.map_cons, List.map_nil, List.length_cons, List.length_nil, List.drop_succ_cons, List.drop_zero, renO, rens_D, if_true]
    rfl
/-- A quota of the call's own, its owners in another row. -/
def qO (e : Bool) (n a : Nat) : AO := ⟨[.agg [.sl a 0 n 5 none, .d (.bool e)]], 2, 0⟩
def rO (l : List Own) : AO := ⟨(l.map Own.enc).map .d, 5, 0⟩
def deadO : AO := ⟨[], 5, 2⟩
theorem own_ok (l : List Own) : (∀ y ∈ l.map Own.enc, y.cells.length = 5 ∧ y.memOk = true) ∧ ∀ y ∈ l.map Own.enc, y.flat = true := by
  constructor <;> (intro y hy; obtain ⟨x, _, rfl⟩ := List.mem_map.1 hy; first | exact ⟨rfl, rfl⟩ | rfl)
/-- A function that changes a quota, anywhere. -/
theorem run_mv {f n : Nat} {xs : List D} {r : AV} {l l' : List Own} {e e' : Bool} (hf : Run Try.prog f (.ptr 0 0 0 :: xs.map .d) [qO e l.length 1, rO l] r [qO e' l'.length 2, deadO, rO l']) (hr : r.flat = true) (hrr : ∀ τ, ren τ r = r)
    {H : Heap} {a b : Nat} (h1 : H[a]? = some (qO e n b)) (h2 : H[b]? = some (rO l)) (hn : n = l.length) (hab : a ≠ b) {args : List AV} (hv : vl (view 8 H) args = some xs) (hd : ∀ j ∈ args.flatMap (reach 8 H), j ≠ a ∧ j ≠ b) :
    Run Try.prog f (.ptr a 0 0 :: args) H r (((H.set a (qO e' l'.length H.length)).set b deadO) ++ [rO l']) := by
  subst hn
  refine run_at (σ := [a, b]) (F := args.flatMap (reach 8 H)) (fl := true) hf (by simp [hab]) (fun j hj => by have := hd j hj; simp; omega) ⟨⟨rfl, rfl, rfl⟩, embs_views1 H args xs _ (fun _ h => h) hv⟩
    ⟨(nthK_iff _ _).2 ⟨_, h1, rfl, rfl, .inr ⟨⟨⟨rfl, rfl, rfl, rfl, rfl⟩, ⟨rfl, fun id hid => by simp [reach] at hid⟩, trivial⟩, trivial⟩⟩, (nthK_iff _ _).2 ⟨_, h2, rfl, rfl, .inl ⟨_, rfl, rfl⟩⟩, trivial⟩ (fun _ => ⟨hr, fun o ho => ?_⟩) (hrr _) ?_
  · simp only [List.mem_cons, List.not_mem_nil, or_false] at ho
    rcases ho with rfl | rfl | rfl
    · exact ⟨rfl, Nat.zero_ne_one⟩
    · exact ⟨rfl, by decide⟩
    · exact ⟨flats_map _ (own_ok l').2, Nat.zero_ne_one⟩
  · simp only [outH, setAll, List.map_cons, List.map_nil, List.length_cons, List.length_nil, List.drop_succ_cons, List.drop_zero, if_true]
    have e1 : renO (tau [a, b] H.length) (qO e' l'.length 2) = qO e' l'.length H.length := rfl
    have e2 : renO (tau [a, b] H.length) (rO l') = rO l' := by unfold renO rO; rw [rens_D]
    rw [e1, e2]; rfl

end Go.Proofs.Ytolfkcmdfgakkaa

/-! Wa -/
namespace Go.Proofs.Ytolfkcmdfgakkaa
open Go Dw
set_option maxRecDepth 10000
set_option linter.unusedVariables false
set_option linter.unusedSimpArgs false
attribute [local irreducible] Run
set_option maxHeartbeats 4000000

def within (n lo hi : Int) : Bool := decide (lo ≤ n) && decide (n ≤ hi)
def firstE : List Int → Int
  | [] => 0
  | e :: l => if e = 0 then firstE l else e
theorem firstE_nil : firstE [] = 0 := rfl
theorem firstE_cons (e : Int) (l : List Int) : firstE (e :: l) = if e = 0 then firstE l else e := rfl
theorem firstE_drop (l : List Int) (k : Nat) (h : k < l.length) : firstE (l.drop k) = if l[k] = 0 then firstE (l.drop (k + 1)) else l[k] := by
  rw [List.drop_eq_getElem_cons h]; rfl
def whoE (n : Int) : Int := if (decide (n = 4) || (decide (n = 5) || within n 10 999)) = true then 0 else 2
def numE (n : Int) : Int := if within n 0 2147483647 = true then 0 else 2
def limE (n : Int) : Int := if within n (-1) 2147483646 = true then 0 else 2
def refE (n : Int) : Int := if within n 0 65535 = true then 0 else 2

theorem c55 (n lo hi : Int) : Fn 55 [i n, i lo, i hi] (.bool (within n lo hi)) := by
  refine run_walkF eok Try.func55 rfl (by kernel_rfl) ?_
  conv => whnf
  repeat' (first
    | ((with_reducible refine on_dec_f ?_ ?_); (focus ((try simp only [List.length_map, List.length_cons, List.length_nil, List.length_append]); omega)); conv => whnf)
    | ((with_reducible refine on_dec_t ?_ ?_); (focus ((try simp only [List.length_map, List.length_cons, List.length_nil, List.length_append]); omega)); conv => whnf)
    | ((with_reducible refine on_dec (fun h => ?_) (fun h => ?_)) <;> (try simp only [List.length_map] at h) <;> conv => whnf)
    | ((with_reducible refine on_ndec (fun h => ?_) (fun h => ?_)) <;> (try simp only [List.length_map] at h) <;> conv => whnf)
    | ((with_reducible refine on_not (fun h => ?_) (fun h => ?_)) <;> conv => whnf)
    | ((with_reducible refine onBool_split (fun h => ?_) (fun h => ?_)) <;> conv => whnf)
    | (refine ⟨⟨(by first | rfl | (simp; done)), cap_ok (by simp only [List.length_map, List.length_cons, List.length_nil, List.length_append]; omega) rfl⟩, ?_⟩; conv => whnf)
    | (refine ⟨mem_one ⟨rfl, rfl⟩, ?_⟩; conv => whnf)
    | (refine ⟨(by intro y hy; obtain ⟨x, _, rfl⟩ := List.mem_map.1 hy; first | rfl | exact ⟨rfl, rfl⟩), ?_⟩; conv => whnf)
    | (refine ⟨cap_ok (by first | omega | (simp only [List.length_map]; omega)) rfl, ?_⟩; conv => whnf)
    | (refine ix_map (by omega) ?_; conv => whnf)
    | (refine ix_str (by omega) ?_; conv => whnf)
    | (refine wrap64 (by omega) ?_; conv => whnf)
    | (exfalso; simp only [List.length_map, List.length_cons, List.length_nil, List.length_append] at h; omega)
    | ((with_reducible refine endx_go ?_); first | (exact endx (congrArg D.bool (by simp [within, *])); done))
    | (refine ⟨rfl, ?_⟩; conv => whnf)
    | fail
    )

theorem c38 (n lo hi : Int) : Fn 38 [i n, i lo, i hi] (.bool (within n lo hi)) := by
  refine run_walkF eok Try.func38 rfl (by kernel_rfl) ?_
  conv => whnf
  repeat' (first
    | ((with_reducible refine on_dec_f ?_ ?_); (focus ((try simp only [List.length_map, List.length_cons, List.length_nil, List.length_append]); omega)); conv => whnf)
    | ((with_reducible refine on_dec_t ?_ ?_); (focus ((try simp only [List.length_map, List.length_cons, List.length_nil, List.length_append]); omega)); conv => whnf)
    | ((with_reducible refine on_dec (fun h => ?_) (fun h => ?_)) <;> (try simp only [List.length_map] at h) <;> conv => whnf)
    | ((with_reducible refine on_ndec (fun h => ?_) (fun h => ?_)) <;> (try simp only [List.length_map] at h) <;> conv => whnf)
    | ((with_reducible refine on_not (fun h => ?_) (fun h => ?_)) <;> conv => whnf)
    | ((with_reducible refine onBool_split (fun h => ?_) (fun h => ?_)) <;> conv => whnf)
    | (refine ⟨⟨(by first | rfl | (simp; done)), cap_ok (by simp only [List.length_map, List.length_cons, List.length_nil, List.length_append]; omega) rfl⟩, ?_⟩; conv => whnf)
    | (refine ⟨mem_one ⟨rfl, rfl⟩, ?_⟩; conv => whnf)
    | (refine ⟨(by intro y hy; obtain ⟨x, _, rfl⟩ := List.mem_map.1 hy; first | rfl | exact ⟨rfl, rfl⟩), ?_⟩; conv => whnf)
    | (refine ⟨cap_ok (by first | omega | (simp only [List.length_map]; omega)) rfl, ?_⟩; conv => whnf)
    | (refine ix_map (by omega) ?_; conv => whnf)
    | (refine ix_str (by omega) ?_; conv => whnf)
    | (refine wrap64 (by omega) ?_; conv => whnf)
    | (exfalso; simp only [List.length_map, List.length_cons, List.length_nil, List.length_append] at h; omega)
    | ((with_reducible refine endx_go ?_); first | (exact endx (congrArg D.bool (by simp [within, *])); done))
    | (refine ⟨rfl, ?_⟩; conv => whnf)
    | fail
    )

theorem c52 (a : Bool) (e : Int) : Fn 52 [.bool a, i e] (i (if a then 0 else e)) := by
  refine run_walkF eok Try.func52 rfl (by kernel_rfl) ?_
  conv => whnf
  repeat' (first
    | ((with_reducible refine on_dec_f ?_ ?_); (focus ((try simp only [List.length_map, List.length_cons, List.length_nil, List.length_append]); omega)); conv => whnf)
    | ((with_reducible refine on_dec_t ?_ ?_); (focus ((try simp only [List.length_map, List.length_cons, List.length_nil, List.length_append]); omega)); conv => whnf)
    | ((with_reducible refine on_dec (fun h => ?_) (fun h => ?_)) <;> (try simp only [List.length_map] at h) <;> conv => whnf)
    | ((with_reducible refine on_ndec (fun h => ?_) (fun h => ?_)) <;> (try simp only [List.length_map] at h) <;> conv => whnf)
    | ((with_reducible refine on_not (fun h => ?_) (fun h => ?_)) <;> conv => whnf)
    | ((with_reducible refine onBool_split (fun h => ?_) (fun h => ?_)) <;> conv => whnf)
    | (refine ⟨⟨(by first | rfl | (simp; done)), cap_ok (by simp only [List.length_map, List.length_cons, List.length_nil, List.length_append]; omega) rfl⟩, ?_⟩; conv => whnf)
    | (refine ⟨mem_one ⟨rfl, rfl⟩, ?_⟩; conv => whnf)
    | (refine ⟨(by intro y hy; obtain ⟨x, _, rfl⟩ := List.mem_map.1 hy; first | rfl | exact ⟨rfl, rfl⟩), ?_⟩; conv => whnf)
    | (refine ⟨cap_ok (by first | omega | (simp only [List.length_map]; omega)) rfl, ?_⟩; conv => whnf)
    | (refine ix_map (by omega) ?_; conv => whnf)
    | (refine ix_str (by omega) ?_; conv => whnf)
    | (refine wrap64 (by omega) ?_; conv => whnf)
    | (exfalso; simp only [List.length_map, List.length_cons, List.length_nil, List.length_append] at h; omega)
    | ((with_reducible refine endx_go ?_); first | (exact endx (congrArg i (by simp [h])); done))
    | (refine ⟨rfl, ?_⟩; conv => whnf)
    | fail
    )

theorem c50 (l : List Int) (hl : l.length < 1000000) : Fn 50 [.fs (l.map i)] (i (firstE l)) := by
  refine run_walkF eok Try.func50 rfl (by kernel_rfl) ?_
  conv => whnf
  repeat' (first
    | ((with_reducible refine on_dec_f ?_ ?_); (focus ((try simp only [List.length_map, List.length_cons, List.length_nil, List.length_append]); omega)); conv => whnf)
    | ((with_reducible refine on_dec_t ?_ ?_); (focus ((try simp only [List.length_map, List.length_cons, List.length_nil, List.length_append]); omega)); conv => whnf)
    | ((with_reducible refine on_dec (fun h => ?_) (fun h => ?_)) <;> (try simp only [List.length_map] at h) <;> conv => whnf)
    | ((with_reducible refine on_ndec (fun h => ?_) (fun h => ?_)) <;> (try simp only [List.length_map] at h) <;> conv => whnf)
    | ((with_reducible refine on_not (fun h => ?_) (fun h => ?_)) <;> conv => whnf)
    | ((with_reducible refine onBool_split (fun h => ?_) (fun h => ?_)) <;> conv => whnf)
    | ((with_reducible refine loop_go ?_); first | (refine loop1 (fun (k : Nat) => l.length - k) (fun (k : Nat) => k ≤ l.length ∧ firstE l = firstE (l.drop k)) (fun (k : Nat) => [(5, .d (.fs (l.map i))), (6, .d (i l.length)), (7, .d (i k))]) (fun (k : Nat) => []) (0) (by first | (simp; done) | (constructor <;> simp; done) | omega) ?_ (fun k C hI hC => ?_); (exact ⟨[], rfl, rfl, ⟨(by first | (show (_ : D) = _; with_reducible rfl) | exact rfl), (by first | (show (_ : D) = _; with_reducible rfl) | exact congrArg (D.int .i64) (by omega) | exact congrArg (D.int .i64) (by simp only [List.length_map]) | exact rfl), (by first | (show (_ : D) = _; with_reducible rfl) | exact congrArg (D.int .i64) (by omega) | exact congrArg (D.int .i64) (by simp only [List.length_map]) | exact rfl), trivial⟩, trivial⟩); all_goals (conv => whnf)))
    | ((with_reducible show C _ _); first | (refine hC (k + 1) _ _ ?_ (by omega) ?_; clear hC; rotate_left; (exact ⟨[], rfl, rfl, ⟨(by first | (show (_ : D) = _; with_reducible rfl) | exact rfl), (by first | (show (_ : D) = _; with_reducible rfl) | exact congrArg (D.int .i64) (by omega) | exact congrArg (D.int .i64) (by simp only [List.length_map]) | exact rfl), (by first | (show (_ : D) = _; with_reducible rfl) | exact congrArg (D.int .i64) (by omega) | exact congrArg (D.int .i64) (by simp only [List.length_map]) | exact rfl), trivial⟩, trivial⟩); (exact ⟨by omega, by rw [hI.2, firstE_drop _ _ (by omega), if_pos h]⟩)))
    | (refine ⟨⟨(by first | rfl | (simp; done)), cap_ok (by simp only [List.length_map, List.length_cons, List.length_nil, List.length_append]; omega) rfl⟩, ?_⟩; conv => whnf)
    | (refine ⟨mem_one ⟨rfl, rfl⟩, ?_⟩; conv => whnf)
    | (refine ⟨(by intro y hy; obtain ⟨x, _, rfl⟩ := List.mem_map.1 hy; first | rfl | exact ⟨rfl, rfl⟩), ?_⟩; conv => whnf)
    | (refine ⟨cap_ok (by first | omega | (simp only [List.length_map]; omega)) rfl, ?_⟩; conv => whnf)
    | (refine ix_map (by omega) ?_; conv => whnf)
    | (refine ix_str (by omega) ?_; conv => whnf)
    | (refine wrap64 (by omega) ?_; conv => whnf)
    | (refine wrap64 (by omega) ?_; conv => whnf)
    | (exfalso; simp only [List.length_map, List.length_cons, List.length_nil, List.length_append] at h; omega)
    | ((with_reducible refine endx_go ?_); first | (exact endx (congrArg i (by rw [hI.2, firstE_drop _ _ (by omega), if_neg h])); done) | (exact endx (congrArg i (by rw [hI.2, List.drop_eq_nil_of_le (by omega), firstE_nil])); done))
    | (refine ⟨rfl, ?_⟩; conv => whnf)
    | fail
    )

theorem c51 (n : Int) : Fn 51 [i n] (i (whoE n)) := by
  refine run_walkF eok Try.func51 rfl (by kernel_rfl) ?_
  conv => whnf
  repeat' (first
    | ((with_reducible refine on_dec_f ?_ ?_); (focus ((try simp only [List.length_map, List.length_cons, List.length_nil, List.length_append]); omega)); conv => whnf)
    | ((with_reducible refine on_dec_t ?_ ?_); (focus ((try simp only [List.length_map, List.length_cons, List.length_nil, List.length_append]); omega)); conv => whnf)
    | ((with_reducible refine on_dec (fun h => ?_) (fun h => ?_)) <;> (try simp only [List.length_map] at h) <;> conv => whnf)
    | ((with_reducible refine on_ndec (fun h => ?_) (fun h => ?_)) <;> (try simp only [List.length_map] at h) <;> conv => whnf)
    | ((with_reducible refine on_not (fun h => ?_) (fun h => ?_)) <;> conv => whnf)
    | ((with_reducible refine onBool_split (fun h => ?_) (fun h => ?_)) <;> conv => whnf)
    | ((with_reducible refine call_go ?_); (first | refine call_step (run_view (c55 _ _ _) rfl rfl) ?_ | refine call_step (run_view (c52 _ _) rfl rfl) ?_); conv => whnf)
    | (refine ⟨⟨(by first | rfl | (simp; done)), cap_ok (by simp only [List.length_map, List.length_cons, List.length_nil, List.length_append]; omega) rfl⟩, ?_⟩; conv => whnf)
    | (refine ⟨mem_one ⟨rfl, rfl⟩, ?_⟩; conv => whnf)
    | (refine ⟨(by intro y hy; obtain ⟨x, _, rfl⟩ := List.mem_map.1 hy; first | rfl | exact ⟨rfl, rfl⟩), ?_⟩; conv => whnf)
    | (refine ⟨cap_ok (by first | omega | (simp only [List.length_map]; omega)) rfl, ?_⟩; conv => whnf)
    | (refine ix_map (by omega) ?_; conv => whnf)
    | (refine ix_str (by omega) ?_; conv => whnf)
    | (refine wrap64 (by omega) ?_; conv => whnf)
    | (exfalso; simp only [List.length_map, List.length_cons, List.length_nil, List.length_append] at h; omega)
    | ((with_reducible refine endx_go ?_); first | (refine endx (congrArg i ?_); unfold whoE; simp_all; done; done))
    | (refine ⟨rfl, ?_⟩; conv => whnf)
    | fail
    )

theorem c53 (n : Int) : Fn 53 [i n] (i (numE n)) := by
  refine run_walkF eok Try.func53 rfl (by kernel_rfl) ?_
  conv => whnf
  repeat' (first
    | ((with_reducible refine on_dec_f ?_ ?_); (focus ((try simp only [List.length_map, List.length_cons, List.length_nil, List.length_append]); omega)); conv => whnf)
    | ((with_reducible refine on_dec_t ?_ ?_); (focus ((try simp only [List.length_map, List.length_cons, List.length_nil, List.length_append]); omega)); conv => whnf)
    | ((with_reducible refine on_dec (fun h => ?_) (fun h => ?_)) <;> (try simp only [List.length_map] at h) <;> conv => whnf)
    | ((with_reducible refine on_ndec (fun h => ?_) (fun h => ?_)) <;> (try simp only [List.length_map] at h) <;> conv => whnf)
    | ((with_reducible refine on_not (fun h => ?_) (fun h => ?_)) <;> conv => whnf)
    | ((with_reducible refine onBool_split (fun h => ?_) (fun h => ?_)) <;> conv => whnf)
    | ((with_reducible refine call_go ?_); (first | refine call_step (run_view (c55 _ _ _) rfl rfl) ?_ | refine call_step (run_view (c52 _ _) rfl rfl) ?_); conv => whnf)
    | (refine ⟨⟨(by first | rfl | (simp; done)), cap_ok (by simp only [List.length_map, List.length_cons, List.length_nil, List.length_append]; omega) rfl⟩, ?_⟩; conv => whnf)
    | (refine ⟨mem_one ⟨rfl, rfl⟩, ?_⟩; conv => whnf)
    | (refine ⟨(by intro y hy; obtain ⟨x, _, rfl⟩ := List.mem_map.1 hy; first | rfl | exact ⟨rfl, rfl⟩), ?_⟩; conv => whnf)
    | (refine ⟨cap_ok (by first | omega | (simp only [List.length_map]; omega)) rfl, ?_⟩; conv => whnf)
    | (refine ix_map (by omega) ?_; conv => whnf)
    | (refine ix_str (by omega) ?_; conv => whnf)
    | (refine wrap64 (by omega) ?_; conv => whnf)
    | (exfalso; simp only [List.length_map, List.length_cons, List.length_nil, List.length_append] at h; omega)
    | ((with_reducible refine endx_go ?_); first | (exact endx rfl; done))
    | (refine ⟨rfl, ?_⟩; conv => whnf)
    | fail
    )

theorem c54 (n : Int) : Fn 54 [i n] (i (limE n)) := by
  refine run_walkF eok Try.func54 rfl (by kernel_rfl) ?_
  conv => whnf
  repeat' (first
    | ((with_reducible refine on_dec_f ?_ ?_); (focus ((try simp only [List.length_map, List.length_cons, List.length_nil, List.length_append]); omega)); conv => whnf)
    | ((with_reducible refine on_dec_t ?_ ?_); (focus ((try simp only [List.length_map, List.length_cons, List.length_nil, List.length_append]); omega)); conv => whnf)
    | ((with_reducible refine on_dec (fun h => ?_) (fun h => ?_)) <;> (try simp only [List.length_map] at h) <;> conv => whnf)
    | ((with_reducible refine on_ndec (fun h => ?_) (fun h => ?_)) <;> (try simp only [List.length_map] at h) <;> conv => whnf)
    | ((with_reducible refine on_not (fun h => ?_) (fun h => ?_)) <;> conv => whnf)
    | ((with_reducible refine onBool_split (fun h => ?_) (fun h => ?_)) <;> conv => whnf)
    | ((with_reducible refine call_go ?_); (first | refine call_step (run_view (c55 _ _ _) rfl rfl) ?_ | refine call_step (run_view (c52 _ _) rfl rfl) ?_); conv => whnf)
    | (refine ⟨⟨(by first | rfl | (simp; done)), cap_ok (by simp only [List.length_map, List.length_cons, List.length_nil, List.length_append]; omega) rfl⟩, ?_⟩; conv => whnf)
    | (refine ⟨mem_one ⟨rfl, rfl⟩, ?_⟩; conv => whnf)
    | (refine ⟨(by intro y hy; obtain ⟨x, _, rfl⟩ := List.mem_map.1 hy; first | rfl | exact ⟨rfl, rfl⟩), ?_⟩; conv => whnf)
    | (refine ⟨cap_ok (by first | omega | (simp only [List.length_map]; omega)) rfl, ?_⟩; conv => whnf)
    | (refine ix_map (by omega) ?_; conv => whnf)
    | (refine ix_str (by omega) ?_; conv => whnf)
    | (refine wrap64 (by omega) ?_; conv => whnf)
    | (exfalso; simp only [List.length_map, List.length_cons, List.length_nil, List.length_append] at h; omega)
    | ((with_reducible refine endx_go ?_); first | (exact endx rfl; done))
    | (refine ⟨rfl, ?_⟩; conv => whnf)
    | fail
    )

theorem c85 (n : Int) : Fn 85 [i n] (.bool (within n 10 999)) := by
  refine run_walkF eok Try.func85 rfl (by kernel_rfl) ?_
  conv => whnf
  repeat' (first
    | ((with_reducible refine on_dec_f ?_ ?_); (focus ((try simp only [List.length_map, List.length_cons, List.length_nil, List.length_append]); omega)); conv => whnf)
    | ((with_reducible refine on_dec_t ?_ ?_); (focus ((try simp only [List.length_map, List.length_cons, List.length_nil, List.length_append]); omega)); conv => whnf)
    | ((with_reducible refine on_dec (fun h => ?_) (fun h => ?_)) <;> (try simp only [List.length_map] at h) <;> conv => whnf)
    | ((with_reducible refine on_ndec (fun h => ?_) (fun h => ?_)) <;> (try simp only [List.length_map] at h) <;> conv => whnf)
    | ((with_reducible refine on_not (fun h => ?_) (fun h => ?_)) <;> conv => whnf)
    | ((with_reducible refine onBool_split (fun h => ?_) (fun h => ?_)) <;> conv => whnf)
    | ((with_reducible refine call_go ?_); (first | refine call_step (run_view (c38 _ _ _) rfl rfl) ?_); conv => whnf)
    | (refine ⟨⟨(by first | rfl | (simp; done)), cap_ok (by simp only [List.length_map, List.length_cons, List.length_nil, List.length_append]; omega) rfl⟩, ?_⟩; conv => whnf)
    | (refine ⟨mem_one ⟨rfl, rfl⟩, ?_⟩; conv => whnf)
    | (refine ⟨(by intro y hy; obtain ⟨x, _, rfl⟩ := List.mem_map.1 hy; first | rfl | exact ⟨rfl, rfl⟩), ?_⟩; conv => whnf)
    | (refine ⟨cap_ok (by first | omega | (simp only [List.length_map]; omega)) rfl, ?_⟩; conv => whnf)
    | (refine ix_map (by omega) ?_; conv => whnf)
    | (refine ix_str (by omega) ?_; conv => whnf)
    | (refine wrap64 (by omega) ?_; conv => whnf)
    | (exfalso; simp only [List.length_map, List.length_cons, List.length_nil, List.length_append] at h; omega)
    | ((with_reducible refine endx_go ?_); first | (exact endx rfl; done))
    | (refine ⟨rfl, ?_⟩; conv => whnf)
    | fail
    )

theorem c61 (n : Int) : Fn 61 [i n] (.bool (within n 1 5 || within n 10 999)) := by
  refine run_walkF eok Try.func61 rfl (by kernel_rfl) ?_
  conv => whnf
  repeat' (first
    | ((with_reducible refine on_dec_f ?_ ?_); (focus ((try simp only [List.length_map, List.length_cons, List.length_nil, List.length_append]); omega)); conv => whnf)
    | ((with_reducible refine on_dec_t ?_ ?_); (focus ((try simp only [List.length_map, List.length_cons, List.length_nil, List.length_append]); omega)); conv => whnf)
    | ((with_reducible refine on_dec (fun h => ?_) (fun h => ?_)) <;> (try simp only [List.length_map] at h) <;> conv => whnf)
    | ((with_reducible refine on_ndec (fun h => ?_) (fun h => ?_)) <;> (try simp only [List.length_map] at h) <;> conv => whnf)
    | ((with_reducible refine on_not (fun h => ?_) (fun h => ?_)) <;> conv => whnf)
    | ((with_reducible refine onBool_split (fun h => ?_) (fun h => ?_)) <;> conv => whnf)
    | ((with_reducible refine call_go ?_); (first | refine call_step (run_view (c38 _ _ _) rfl rfl) ?_ | refine call_step (run_view (c85 _) rfl rfl) ?_); conv => whnf)
    | (refine ⟨⟨(by first | rfl | (simp; done)), cap_ok (by simp only [List.length_map, List.length_cons, List.length_nil, List.length_append]; omega) rfl⟩, ?_⟩; conv => whnf)
    | (refine ⟨mem_one ⟨rfl, rfl⟩, ?_⟩; conv => whnf)
    | (refine ⟨(by intro y hy; obtain ⟨x, _, rfl⟩ := List.mem_map.1 hy; first | rfl | exact ⟨rfl, rfl⟩), ?_⟩; conv => whnf)
    | (refine ⟨cap_ok (by first | omega | (simp only [List.length_map]; omega)) rfl, ?_⟩; conv => whnf)
    | (refine ix_map (by omega) ?_; conv => whnf)
    | (refine ix_str (by omega) ?_; conv => whnf)
    | (refine wrap64 (by omega) ?_; conv => whnf)
    | (exfalso; simp only [List.length_map, List.length_cons, List.length_nil, List.length_append] at h; omega)
    | ((with_reducible refine endx_go ?_); first | (refine endx (congrArg D.bool ?_); simp_all; done; done))
    | (refine ⟨rfl, ?_⟩; conv => whnf)
    | fail
    )

theorem c57 (n : Int) : Fn 57 [i n] (.bool (within n 0 2147483647)) := by
  refine run_walkF eok Try.func57 rfl (by kernel_rfl) ?_
  conv => whnf
  repeat' (first
    | ((with_reducible refine on_dec_f ?_ ?_); (focus ((try simp only [List.length_map, List.length_cons, List.length_nil, List.length_append]); omega)); conv => whnf)
    | ((with_reducible refine on_dec_t ?_ ?_); (focus ((try simp only [List.length_map, List.length_cons, List.length_nil, List.length_append]); omega)); conv => whnf)
    | ((with_reducible refine on_dec (fun h => ?_) (fun h => ?_)) <;> (try simp only [List.length_map] at h) <;> conv => whnf)
    | ((with_reducible refine on_ndec (fun h => ?_) (fun h => ?_)) <;> (try simp only [List.length_map] at h) <;> conv => whnf)
    | ((with_reducible refine on_not (fun h => ?_) (fun h => ?_)) <;> conv => whnf)
    | ((with_reducible refine onBool_split (fun h => ?_) (fun h => ?_)) <;> conv => whnf)
    | ((with_reducible refine call_go ?_); (first | refine call_step (run_view (c38 _ _ _) rfl rfl) ?_); conv => whnf)
    | (refine ⟨⟨(by first | rfl | (simp; done)), cap_ok (by simp only [List.length_map, List.length_cons, List.length_nil, List.length_append]; omega) rfl⟩, ?_⟩; conv => whnf)
    | (refine ⟨mem_one ⟨rfl, rfl⟩, ?_⟩; conv => whnf)
    | (refine ⟨(by intro y hy; obtain ⟨x, _, rfl⟩ := List.mem_map.1 hy; first | rfl | exact ⟨rfl, rfl⟩), ?_⟩; conv => whnf)
    | (refine ⟨cap_ok (by first | omega | (simp only [List.length_map]; omega)) rfl, ?_⟩; conv => whnf)
    | (refine ix_map (by omega) ?_; conv => whnf)
    | (refine ix_str (by omega) ?_; conv => whnf)
    | (refine wrap64 (by omega) ?_; conv => whnf)
    | (exfalso; simp only [List.length_map, List.length_cons, List.length_nil, List.length_append] at h; omega)
    | ((with_reducible refine endx_go ?_); first | (exact endx rfl; done))
    | (refine ⟨rfl, ?_⟩; conv => whnf)
    | fail
    )

theorem c58 (n : Int) : Fn 58 [i n] (.bool (within n (-1) 2147483646)) := by
  refine run_walkF eok Try.func58 rfl (by kernel_rfl) ?_
  conv => whnf
  repeat' (first
    | ((with_reducible refine on_dec_f ?_ ?_); (focus ((try simp only [List.length_map, List.length_cons, List.length_nil, List.length_append]); omega)); conv => whnf)
    | ((with_reducible refine on_dec_t ?_ ?_); (focus ((try simp only [List.length_map, List.length_cons, List.length_nil, List.length_append]); omega)); conv => whnf)
    | ((with_reducible refine on_dec (fun h => ?_) (fun h => ?_)) <;> (try simp only [List.length_map] at h) <;> conv => whnf)
    | ((with_reducible refine on_ndec (fun h => ?_) (fun h => ?_)) <;> (try simp only [List.length_map] at h) <;> conv => whnf)
    | ((with_reducible refine on_not (fun h => ?_) (fun h => ?_)) <;> conv => whnf)
    | ((with_reducible refine onBool_split (fun h => ?_) (fun h => ?_)) <;> conv => whnf)
    | ((with_reducible refine call_go ?_); (first | refine call_step (run_view (c38 _ _ _) rfl rfl) ?_); conv => whnf)
    | (refine ⟨⟨(by first | rfl | (simp; done)), cap_ok (by simp only [List.length_map, List.length_cons, List.length_nil, List.length_append]; omega) rfl⟩, ?_⟩; conv => whnf)
    | (refine ⟨mem_one ⟨rfl, rfl⟩, ?_⟩; conv => whnf)
    | (refine ⟨(by intro y hy; obtain ⟨x, _, rfl⟩ := List.mem_map.1 hy; first | rfl | exact ⟨rfl, rfl⟩), ?_⟩; conv => whnf)
    | (refine ⟨cap_ok (by first | omega | (simp only [List.length_map]; omega)) rfl, ?_⟩; conv => whnf)
    | (refine ix_map (by omega) ?_; conv => whnf)
    | (refine ix_str (by omega) ?_; conv => whnf)
    | (refine wrap64 (by omega) ?_; conv => whnf)
    | (exfalso; simp only [List.length_map, List.length_cons, List.length_nil, List.length_append] at h; omega)
    | ((with_reducible refine endx_go ?_); first | (exact endx rfl; done))
    | (refine ⟨rfl, ?_⟩; conv => whnf)
    | fail
    )

theorem who_iff {n : Int} : whoE n = 0 ↔ (n = 4 ∨ n = 5 ∨ (10 ≤ n ∧ n ≤ 999)) := by
  unfold whoE within
  by_cases h1 : n = 4 <;> by_cases h2 : n = 5 <;> by_cases h3 : 10 ≤ n <;> by_cases h4 : n ≤ 999 <;> simp [h1, h2, h3, h4]
theorem who_2 {n : Int} (h : ¬ whoE n = 0) : whoE n = 2 := by
  unfold whoE at *
  split at h <;> rename_i h'
  · exact absurd rfl h
  · rw [if_neg h']
theorem within_t {n lo hi : Int} (h : within n lo hi = true) : lo ≤ n ∧ n ≤ hi := by unfold within at h; simpa using h
theorem who_0 {n : Int} (h : n = 4 ∨ n = 5 ∨ (10 ≤ n ∧ n ≤ 999)) : whoE n = 0 := who_iff.2 h

theorem c20 (n : Int) : Fn 20 [i n] (i (whoE n)) := by
  refine run_walkF eok Try.func20 rfl (by kernel_rfl) ?_
  conv => whnf
  repeat' (first
    | ((with_reducible refine on_dec_f ?_ ?_); (focus ((try simp only [List.length_map, List.length_cons, List.length_nil, List.length_append]); omega)); conv => whnf)
    | ((with_reducible refine on_dec_t ?_ ?_); (focus ((try simp only [List.length_map, List.length_cons, List.length_nil, List.length_append]); omega)); conv => whnf)
    | ((with_reducible refine on_dec (fun h => ?_) (fun h => ?_)) <;> (try simp only [List.length_map] at h) <;> conv => whnf)
    | ((with_reducible refine on_ndec (fun h => ?_) (fun h => ?_)) <;> (try simp only [List.length_map] at h) <;> conv => whnf)
    | ((with_reducible refine on_not (fun h => ?_) (fun h => ?_)) <;> conv => whnf)
    | ((with_reducible refine onBool_split (fun h => ?_) (fun h => ?_)) <;> conv => whnf)
    | ((with_reducible refine call_go ?_); (first | refine call_step (run_view (c61 _) rfl rfl) ?_); conv => whnf)
    | (refine ⟨⟨(by first | rfl | (simp; done)), cap_ok (by simp only [List.length_map, List.length_cons, List.length_nil, List.length_append]; omega) rfl⟩, ?_⟩; conv => whnf)
    | (refine ⟨mem_one ⟨rfl, rfl⟩, ?_⟩; conv => whnf)
    | (refine ⟨(by intro y hy; obtain ⟨x, _, rfl⟩ := List.mem_map.1 hy; first | rfl | exact ⟨rfl, rfl⟩), ?_⟩; conv => whnf)
    | (refine ⟨cap_ok (by first | omega | (simp only [List.length_map]; omega)) rfl, ?_⟩; conv => whnf)
    | (refine ix_map (by omega) ?_; conv => whnf)
    | (refine ix_str (by omega) ?_; conv => whnf)
    | (refine wrap64 (by omega) ?_; conv => whnf)
    | (exfalso; simp only [List.length_map, List.length_cons, List.length_nil, List.length_append] at h; omega)
    | ((with_reducible refine endx_go ?_); first | (exact endx (congrArg i (who_2 (fun e => by have := who_iff.1 e; (first | have h1 := within_t (by assumption) | skip); omega)).symm); done) | (refine endx (congrArg i (Eq.symm ?_)); refine who_0 ?_; grind [within]; done) | (refine endx (congrArg i (Eq.symm ?_)); refine who_2 ?_; rw [who_iff]; grind [within]; done))
    | (refine ⟨rfl, ?_⟩; conv => whnf)
    | fail
    )

theorem c84 (b : Bool) : Fn 84 [.bool b] (i (if b then 1 else 0)) := by
  refine run_walkF eok Try.func84 rfl (by kernel_rfl) ?_
  conv => whnf
  repeat' (first
    | ((with_reducible refine on_dec_f ?_ ?_); (focus ((try simp only [List.length_map, List.length_cons, List.length_nil, List.length_append]); omega)); conv => whnf)
    | ((with_reducible refine on_dec_t ?_ ?_); (focus ((try simp only [List.length_map, List.length_cons, List.length_nil, List.length_append]); omega)); conv => whnf)
    | ((with_reducible refine on_dec (fun h => ?_) (fun h => ?_)) <;> (try simp only [List.length_map] at h) <;> conv => whnf)
    | ((with_reducible refine on_ndec (fun h => ?_) (fun h => ?_)) <;> (try simp only [List.length_map] at h) <;> conv => whnf)
    | ((with_reducible refine on_not (fun h => ?_) (fun h => ?_)) <;> conv => whnf)
    | ((with_reducible refine onBool_split (fun h => ?_) (fun h => ?_)) <;> conv => whnf)
    | (refine ⟨⟨(by first | rfl | (simp; done)), cap_ok (by simp only [List.length_map, List.length_cons, List.length_nil, List.length_append]; omega) rfl⟩, ?_⟩; conv => whnf)
    | (refine ⟨mem_one ⟨rfl, rfl⟩, ?_⟩; conv => whnf)
    | (refine ⟨(by intro y hy; obtain ⟨x, _, rfl⟩ := List.mem_map.1 hy; first | rfl | exact ⟨rfl, rfl⟩), ?_⟩; conv => whnf)
    | (refine ⟨cap_ok (by first | omega | (simp only [List.length_map]; omega)) rfl, ?_⟩; conv => whnf)
    | (refine ix_map (by omega) ?_; conv => whnf)
    | (refine ix_str (by omega) ?_; conv => whnf)
    | (refine wrap64 (by omega) ?_; conv => whnf)
    | (exfalso; simp only [List.length_map, List.length_cons, List.length_nil, List.length_append] at h; omega)
    | ((with_reducible refine endx_go ?_); first | (refine endx (congrArg i ?_); simp_all; done; done))
    | (refine ⟨rfl, ?_⟩; conv => whnf)
    | fail
    )

end Go.Proofs.Ytolfkcmdfgakkaa

/-! Wb -/
namespace Go.Proofs.Ytolfkcmdfgakkaa
open Go Dw
set_option maxRecDepth 10000
set_option linter.unusedVariables false
set_option linter.unusedSimpArgs false
attribute [local irreducible] Run
set_option maxHeartbeats 4000000

attribute [local irreducible] whoE numE limE refE
def noOwn : Own := ⟨0, 0, 0, 0, 0⟩
def atO (l : List Own) (k : Nat) : Own := (l[k]?).getD noOwn
theorem atO_at {l : List Own} {k : Nat} (h : k < l.length) : atO l k = l[k] := by unfold atO; rw [List.getElem?_eq_getElem h]; rfl
def oE (l : List Own) (k : Nat) (o : Own) : Int :=
  firstE [whoE o.who, if (decide (k = 0) || decide ((atO l (k - 1)).who < o.who)) = true then 0 else 9, numE o.used, limE o.warn, limE o.lim, refE o.ref]
def cE (all : List Own) : List Own → Nat → Int × Int
  | [], _ => (0, 0)
  | o :: r, k => if oE all k o = 0 then cE all r (k + 1) else ((k : Int), oE all k o)
theorem cE_drop {all l : List Own} {k : Nat} (h : k < l.length) : cE all (l.drop k) k = if oE all k l[k] = 0 then cE all (l.drop (k + 1)) (k + 1) else ((k : Int), oE all k l[k]) := by
  rw [List.drop_eq_getElem_cons h]; rfl
theorem cE_end {all l : List Own} {k : Nat} (h : l.length ≤ k) : cE all (l.drop k) k = (0, 0) := by
  rw [List.drop_eq_nil_of_le h]; rfl
def checkQ (x : Quo) : Int × Int := if 30 < x.os.length then (0, 8) else cE x.os x.os 0
theorem oE_z {l : List Own} {k : Nat} {o : Own} (hk : k = 0) : firstE [whoE o.who, 0, numE o.used, limE o.warn, limE o.lim, if within o.ref 0 65535 = true then 0 else 2] = oE l k o := by
  unfold oE refE; rw [hk]; rfl
theorem oE_p {l : List Own} {k : Nat} {o : Own} (hk : ¬ k = 0) {p : Own} (hp : atO l (k - 1) = p) : firstE [whoE o.who, if decide (p.who < o.who) = true then 0 else 9, numE o.used, limE o.warn, limE o.lim, if within o.ref 0 65535 = true then 0 else 2] = oE l k o := by
  unfold oE refE; rw [hp, decide_eq_false hk, Bool.false_or]
theorem whoE_a {n : Int} (h : ¬ whoE n = 0) {l : List Own} {k : Nat} {o : Own} (e : o.who = n) : oE l k o = whoE n := by
  unfold oE; rw [firstE_cons, e, if_neg h]
theorem oE_b {l : List Own} {k : Nat} {o : Own} (h : whoE o.who = 0) (hk : (0 : Int) < k) (h2 : o.who ≤ (atO l (k - 1)).who) : oE l k o = 9 := by
  unfold oE; rw [firstE_cons, if_pos h, decide_eq_false (show ¬ k = 0 by omega), decide_eq_false (show ¬ (atO l (k - 1)).who < o.who by omega)]; rfl
theorem oE_c {l : List Own} {k : Nat} {o : Own} (h : whoE o.who = 0) (h2 : ¬ (0 : Int) < k ∨ ¬ o.who ≤ (atO l (k - 1)).who) : oE l k o = firstE [numE o.used, limE o.warn, limE o.lim, refE o.ref] := by
  have h3 : (decide (k = 0) || decide ((atO l (k - 1)).who < o.who)) = true := by
    rcases h2 with h2 | h2
    · rw [decide_eq_true (show k = 0 by omega)]; rfl
    · rw [decide_eq_true (show (atO l (k - 1)).who < o.who by omega)]; simp
  unfold oE; rw [firstE_cons, if_pos h, h3]; rfl
theorem r_t {a b c d : Bool} : (a && (b && (c && d))) = true → firstE [if a = true then 0 else 2, if b = true then 0 else 2, if c = true then 0 else 2, if d = true then 0 else 2] = 0 := by cases a <;> cases b <;> cases c <;> cases d <;> simp [firstE]
theorem r_f {a b c d : Bool} : (a && (b && (c && d))) = false → firstE [if a = true then 0 else 2, if b = true then 0 else 2, if c = true then 0 else 2, if d = true then 0 else 2] = 2 := by cases a <;> cases b <;> cases c <;> cases d <;> simp [firstE]
def okR (o : Own) : Bool := within o.used 0 2147483647 && (within o.warn (-1) 2147483646 && (within o.lim (-1) 2147483646 && within o.ref 0 65535))
theorem oE_d {l : List Own} {k : Nat} {o : Own} (h : whoE o.who = 0) (h2 : ¬ (0 : Int) < k ∨ ¬ o.who ≤ (atO l (k - 1)).who) (h3 : okR o = false) : oE l k o = 2 := by
  rw [oE_c h h2]; unfold numE limE refE; exact r_f h3
theorem oE_0 {l : List Own} {k : Nat} {o : Own} (h : whoE o.who = 0) (h2 : ¬ (0 : Int) < k ∨ ¬ o.who ≤ (atO l (k - 1)).who) (h3 : okR o = true) : oE l k o = 0 := by
  rw [oE_c h h2]; unfold numE limE refE; exact r_t h3
theorem ck_at {x : Quo} {k : Nat} {e : Int} (hh : ¬ (30 : Int) < x.os.length) (hi : cE x.os x.os 0 = cE x.os (x.os.drop k) k) (hk : k < x.os.length) (he : oE x.os k (atO x.os k) = e) (hne : ¬ e = 0) : D.tup [i k, i e] = .tup [i (checkQ x).1, i (checkQ x).2] := by
  unfold checkQ
  rw [if_neg (by omega), hi, cE_drop hk, ← atO_at hk, he, if_neg hne]
theorem ck_end {x : Quo} {k : Nat} (hh : ¬ (30 : Int) < x.os.length) (hi : cE x.os x.os 0 = cE x.os (x.os.drop k) k) (hk : ¬ ((k : Int) < x.os.length)) : D.tup [i 0, i 0] = .tup [i (checkQ x).1, i (checkQ x).2] := by
  unfold checkQ
  rw [if_neg (by omega), hi, cE_end (by omega)]
theorem ck_8 {x : Quo} (h : (30 : Int) < x.os.length) : D.tup [i 0, i 8] = .tup [i (checkQ x).1, i (checkQ x).2] := by
  unfold checkQ
  rw [if_pos (by omega)]
theorem ix_O {x : Quo} {n : Int} (k : Nat) (hn : n = k) {K : D → Prop} (h : k < x.os.length) (hk : K (atO x.os k).enc) : 0 ≤ n ∧ nthK (x.os.map Own.enc) n.toNat K := by
  rw [atO_at h] at hk
  exact ix_at k hn h hk
attribute [local irreducible] oE

theorem c49z (x : Quo) (hx : x.os.length < 1000) (k : Nat) (hk : k < x.os.length) (o : Own) (hz : k = 0) : Fn 49 [i k, o.enc, .fp x.enc 0] (i (oE x.os k o)) := by
  refine run_walkF eok Try.func49 rfl (by kernel_rfl) ?_
  conv => whnf
  repeat' (first
    | ((with_reducible refine on_dec_t (show (k : Int) = 0 by omega) ?_); conv => whnf)
    | ((with_reducible refine on_dec_f ?_ ?_); (focus ((try simp only [List.length_map, List.length_cons, List.length_nil, List.length_append]); omega)); conv => whnf)
    | ((with_reducible refine on_dec_t ?_ ?_); (focus ((try simp only [List.length_map, List.length_cons, List.length_nil, List.length_append]); omega)); conv => whnf)
    | ((with_reducible refine on_dec (fun h => ?_) (fun h => ?_)) <;> (try simp only [List.length_map] at h) <;> conv => whnf)
    | ((with_reducible refine on_ndec (fun h => ?_) (fun h => ?_)) <;> (try simp only [List.length_map] at h) <;> conv => whnf)
    | ((with_reducible refine on_not (fun h => ?_) (fun h => ?_)) <;> conv => whnf)
    | ((with_reducible refine onBool_split (fun h => ?_) (fun h => ?_)) <;> conv => whnf)
    | ((with_reducible refine call_go ?_); (first | refine call_step (run_view (c51 _) rfl rfl) ?_ | refine call_step (run_view (c52 _ _) rfl rfl) ?_ | refine call_step (run_view (c53 _) rfl rfl) ?_ | refine call_step (run_view (c54 _) rfl rfl) ?_ | refine call_step (run_view (c55 _ _ _) rfl rfl) ?_ | refine call_step (run_view (c50 [_, _] (by simp)) rfl rfl) ?_ | refine call_step (run_view (c50 [_, _, _, _, _] (by simp)) rfl rfl) ?_ | refine call_step (run_view (c50 [_, _, _, _, _, _] (by simp)) rfl rfl) ?_); conv => whnf)
    | (refine ⟨[], [(20, 2), (23, 2), (26, 2), (29, 2), (20, 18), (23, 18), (26, 18), (29, 18), (23, 21), (26, 21), (29, 21), (26, 24), (29, 24), (29, 27)], (by decide +kernel), ?_⟩; conv => whnf)
    | (refine ⟨⟨(by first | rfl | (simp; done)), cap_ok (by simp only [List.length_map, List.length_cons, List.length_nil, List.length_append]; omega) rfl⟩, ?_⟩; conv => whnf)
    | (refine ⟨mem_one ⟨rfl, rfl⟩, ?_⟩; conv => whnf)
    | (refine ⟨(by intro y hy; obtain ⟨x, _, rfl⟩ := List.mem_map.1 hy; first | rfl | exact ⟨rfl, rfl⟩), ?_⟩; conv => whnf)
    | (refine ⟨cap_ok (by first | omega | (simp only [List.length_map]; omega)) rfl, ?_⟩; conv => whnf)
    | (refine ix_map (by omega) ?_; conv => whnf)
    | (refine ix_str (by omega) ?_; conv => whnf)
    | (refine wrap64 (by omega) ?_; conv => whnf)
    | (refine wrap64 (by omega) ?_; conv => whnf)
    | (exfalso; simp only [List.length_map, List.length_cons, List.length_nil, List.length_append] at h; omega)
    | ((with_reducible refine endx_go ?_); first | (exact endx (congrArg i (oE_z hz)); done))
    | (refine ⟨rfl, ?_⟩; conv => whnf)
    | fail
    )

theorem c49p (x : Quo) (hx : x.os.length < 1000) (k : Nat) (hk : k < x.os.length) (o : Own) (hz : ¬ k = 0) : Fn 49 [i k, o.enc, .fp x.enc 0] (i (oE x.os k o)) := by
  refine run_walkF eok Try.func49 rfl (by kernel_rfl) ?_
  conv => whnf
  repeat' (first
    | ((with_reducible refine on_dec_f (show ¬ (k : Int) = 0 by omega) ?_); conv => whnf)
    | ((with_reducible refine on_dec_f ?_ ?_); (focus ((try simp only [List.length_map, List.length_cons, List.length_nil, List.length_append]); omega)); conv => whnf)
    | ((with_reducible refine on_dec_t ?_ ?_); (focus ((try simp only [List.length_map, List.length_cons, List.length_nil, List.length_append]); omega)); conv => whnf)
    | ((with_reducible refine on_dec (fun h => ?_) (fun h => ?_)) <;> (try simp only [List.length_map] at h) <;> conv => whnf)
    | ((with_reducible refine on_ndec (fun h => ?_) (fun h => ?_)) <;> (try simp only [List.length_map] at h) <;> conv => whnf)
    | ((with_reducible refine on_not (fun h => ?_) (fun h => ?_)) <;> conv => whnf)
    | ((with_reducible refine onBool_split (fun h => ?_) (fun h => ?_)) <;> conv => whnf)
    | ((with_reducible refine call_go ?_); (first | refine call_step (run_view (c51 _) rfl rfl) ?_ | refine call_step (run_view (c52 _ _) rfl rfl) ?_ | refine call_step (run_view (c53 _) rfl rfl) ?_ | refine call_step (run_view (c54 _) rfl rfl) ?_ | refine call_step (run_view (c55 _ _ _) rfl rfl) ?_ | refine call_step (run_view (c50 [_, _] (by simp)) rfl rfl) ?_ | refine call_step (run_view (c50 [_, _, _, _, _] (by simp)) rfl rfl) ?_ | refine call_step (run_view (c50 [_, _, _, _, _, _] (by simp)) rfl rfl) ?_); conv => whnf)
    | (refine ⟨[], [(20, 2), (23, 2), (26, 2), (29, 2), (20, 18), (23, 18), (26, 18), (29, 18), (23, 21), (26, 21), (29, 21), (26, 24), (29, 24), (29, 27)], (by decide +kernel), ?_⟩; conv => whnf)
    | (refine ⟨⟨(by first | rfl | (simp; done)), cap_ok (by simp only [List.length_map, List.length_cons, List.length_nil, List.length_append]; omega) rfl⟩, ?_⟩; conv => whnf)
    | (refine ⟨mem_one ⟨rfl, rfl⟩, ?_⟩; conv => whnf)
    | (refine ⟨(by intro y hy; obtain ⟨x, _, rfl⟩ := List.mem_map.1 hy; first | rfl | exact ⟨rfl, rfl⟩), ?_⟩; conv => whnf)
    | (refine ⟨cap_ok (by first | omega | (simp only [List.length_map]; omega)) rfl, ?_⟩; conv => whnf)
    | (refine ix_map (by omega) ?_; conv => whnf)
    | (refine ix_str (by omega) ?_; conv => whnf)
    | (refine wrap64 (by omega) ?_; conv => whnf)
    | (refine ix_O (k - 1) (by unfold goMax; split <;> omega) (by omega) ?_; conv => whnf)
    | (refine wrap64 (by omega) ?_; conv => whnf)
    | (exfalso; simp only [List.length_map, List.length_cons, List.length_nil, List.length_append] at h; omega)
    | ((with_reducible refine endx_go ?_); first | (exact endx (congrArg i (oE_p hz rfl)); done))
    | (refine ⟨rfl, ?_⟩; conv => whnf)
    | fail
    )

theorem c49 (x : Quo) (hx : x.os.length < 1000) (k : Nat) (hk : k < x.os.length) (o : Own) : Fn 49 [i k, o.enc, .fp x.enc 0] (i (oE x.os k o)) := by
  by_cases hz : k = 0
  · exact c49z x hx k hk o hz
  · exact c49p x hx k hk o hz

theorem c48 (x : Quo) (hx : x.os.length < 1000) : Fn 48 [.fs (x.os.map Own.enc), .fn 49 [] [.fp x.enc 0]] (.tup [i (cE x.os x.os 0).1, i (cE x.os x.os 0).2]) := by
  refine run_walkF eok Try.func48 rfl (by kernel_rfl) ?_
  conv => whnf
  repeat' (first
    | ((with_reducible refine on_dec_f ?_ ?_); (focus ((try simp only [List.length_map, List.length_cons, List.length_nil, List.length_append]); omega)); conv => whnf)
    | ((with_reducible refine on_dec_t ?_ ?_); (focus ((try simp only [List.length_map, List.length_cons, List.length_nil, List.length_append]); omega)); conv => whnf)
    | ((with_reducible refine on_dec (fun h => ?_) (fun h => ?_)) <;> (try simp only [List.length_map] at h) <;> conv => whnf)
    | ((with_reducible refine on_ndec (fun h => ?_) (fun h => ?_)) <;> (try simp only [List.length_map] at h) <;> conv => whnf)
    | ((with_reducible refine on_not (fun h => ?_) (fun h => ?_)) <;> conv => whnf)
    | ((with_reducible refine onBool_split (fun h => ?_) (fun h => ?_)) <;> conv => whnf)
    | ((with_reducible refine call_go ?_); (first | refine call_step (run_view (c49 x hx k (by omega) _) rfl rfl) ?_); conv => whnf)
    | ((with_reducible refine loop_go ?_); first | (refine loop1 (fun (k : Nat) => x.os.length - k) (fun (k : Nat) => k ≤ x.os.length ∧ cE x.os x.os 0 = cE x.os (x.os.drop k) k) (fun (k : Nat) => [(1, .d (.fn 49 [] [.fp x.enc 0])), (9, .d (.fs (x.os.map Own.enc))), (10, .d (i x.os.length)), (11, .d (i k))]) (fun (k : Nat) => []) (0) (by first | (simp; done) | (constructor <;> simp; done) | omega) ?_ (fun k C hI hC => ?_); (exact ⟨[], rfl, rfl, ⟨(by first | (show (_ : D) = _; with_reducible rfl) | exact rfl), (by first | (show (_ : D) = _; with_reducible rfl) | exact rfl), (by first | (show (_ : D) = _; with_reducible rfl) | exact congrArg (D.int .i64) (by omega) | exact congrArg (D.int .i64) (by simp only [List.length_map]) | exact rfl), (by first | (show (_ : D) = _; with_reducible rfl) | exact congrArg (D.int .i64) (by omega) | exact congrArg (D.int .i64) (by simp only [List.length_map]) | exact rfl), trivial⟩, trivial⟩); all_goals (conv => whnf)))
    | ((with_reducible show C _ _); first | (refine hC (k + 1) _ _ ?_ (by omega) ?_; clear hC; rotate_left; (exact ⟨[], rfl, rfl, ⟨(by first | (show (_ : D) = _; with_reducible rfl) | exact rfl), (by first | (show (_ : D) = _; with_reducible rfl) | exact rfl), (by first | (show (_ : D) = _; with_reducible rfl) | exact congrArg (D.int .i64) (by omega) | exact congrArg (D.int .i64) (by simp only [List.length_map]) | exact rfl), (by first | (show (_ : D) = _; with_reducible rfl) | exact congrArg (D.int .i64) (by omega) | exact congrArg (D.int .i64) (by simp only [List.length_map]) | exact rfl), trivial⟩, trivial⟩); (exact ⟨by omega, by rw [hI.2, cE_drop (by omega), if_pos h]⟩)))
    | (refine ⟨⟨(by first | rfl | (simp; done)), cap_ok (by simp only [List.length_map, List.length_cons, List.length_nil, List.length_append]; omega) rfl⟩, ?_⟩; conv => whnf)
    | (refine ⟨mem_one ⟨rfl, rfl⟩, ?_⟩; conv => whnf)
    | (refine ⟨(by intro y hy; obtain ⟨x, _, rfl⟩ := List.mem_map.1 hy; first | rfl | exact ⟨rfl, rfl⟩), ?_⟩; conv => whnf)
    | (refine ⟨cap_ok (by first | omega | (simp only [List.length_map]; omega)) rfl, ?_⟩; conv => whnf)
    | (refine ix_map (by omega) ?_; conv => whnf)
    | (refine ix_str (by omega) ?_; conv => whnf)
    | (refine wrap64 (by omega) ?_; conv => whnf)
    | (refine wrap64 (by omega) ?_; conv => whnf)
    | (exfalso; simp only [List.length_map, List.length_cons, List.length_nil, List.length_append] at h; omega)
    | ((with_reducible refine endx_go ?_); first | (refine endx2 ?_; (rw [hI.2, cE_drop (by omega), if_neg h]) <;> rfl; done) | (refine endx2 ?_; (rw [hI.2, cE_end (by omega)]) <;> rfl; done))
    | (refine ⟨rfl, ?_⟩; conv => whnf)
    | fail
    )

theorem c14 (x : Quo) (hx : x.os.length < 1000) : Fn 14 [x.enc] (.tup [i (checkQ x).1, i (checkQ x).2]) := by
  refine run_walkF eok Try.func14 rfl (by kernel_rfl) ?_
  conv => whnf
  repeat' (first
    | ((with_reducible refine on_dec_f ?_ ?_); (focus ((try simp only [List.length_map, List.length_cons, List.length_nil, List.length_append]); omega)); conv => whnf)
    | ((with_reducible refine on_dec_t ?_ ?_); (focus ((try simp only [List.length_map, List.length_cons, List.length_nil, List.length_append]); omega)); conv => whnf)
    | ((with_reducible refine on_dec (fun h => ?_) (fun h => ?_)) <;> (try simp only [List.length_map] at h) <;> conv => whnf)
    | ((with_reducible refine on_ndec (fun h => ?_) (fun h => ?_)) <;> (try simp only [List.length_map] at h) <;> conv => whnf)
    | ((with_reducible refine on_not (fun h => ?_) (fun h => ?_)) <;> conv => whnf)
    | ((with_reducible refine onBool_split (fun h => ?_) (fun h => ?_)) <;> conv => whnf)
    | ((with_reducible refine call_go ?_); (first | refine call_step (run_view (c48 x hx) rfl rfl) ?_); conv => whnf)
    | (refine ⟨⟨(by first | rfl | (simp; done)), cap_ok (by simp only [List.length_map, List.length_cons, List.length_nil, List.length_append]; omega) rfl⟩, ?_⟩; conv => whnf)
    | (refine ⟨mem_one ⟨rfl, rfl⟩, ?_⟩; conv => whnf)
    | (refine ⟨(by intro y hy; obtain ⟨x, _, rfl⟩ := List.mem_map.1 hy; first | rfl | exact ⟨rfl, rfl⟩), ?_⟩; conv => whnf)
    | (refine ⟨cap_ok (by first | omega | (simp only [List.length_map]; omega)) rfl, ?_⟩; conv => whnf)
    | (refine ix_map (by omega) ?_; conv => whnf)
    | (refine ix_str (by omega) ?_; conv => whnf)
    | (refine wrap64 (by omega) ?_; conv => whnf)
    | (refine wrap64 (by omega) ?_; conv => whnf)
    | (exfalso; simp only [List.length_map, List.length_cons, List.length_nil, List.length_append] at h; omega)
    | ((with_reducible refine endx_go ?_); first | (exact endx2 (ck_8 (by simpa using h)); done) | (refine endx2 ?_; unfold checkQ; (rw [if_neg (by omega)]) <;> rfl; done))
    | (refine ⟨rfl, ?_⟩; conv => whnf)
    | fail
    )

theorem c17 (x : Quo) (hx : x.os.length < 1000) : Fn 17 [x.enc] (.tup [i (checkQ x).1, i (checkQ x).2]) := by
  refine run_walkF eok Try.func17 rfl (by kernel_rfl) ?_
  conv => whnf
  repeat' (first
    | ((with_reducible refine on_dec_f ?_ ?_); (focus ((try simp only [List.length_map, List.length_cons, List.length_nil, List.length_append]); omega)); conv => whnf)
    | ((with_reducible refine on_dec_t ?_ ?_); (focus ((try simp only [List.length_map, List.length_cons, List.length_nil, List.length_append]); omega)); conv => whnf)
    | ((with_reducible refine on_dec (fun h => ?_) (fun h => ?_)) <;> (try simp only [List.length_map] at h) <;> conv => whnf)
    | ((with_reducible refine on_ndec (fun h => ?_) (fun h => ?_)) <;> (try simp only [List.length_map] at h) <;> conv => whnf)
    | ((with_reducible refine on_not (fun h => ?_) (fun h => ?_)) <;> conv => whnf)
    | ((with_reducible refine onBool_split (fun h => ?_) (fun h => ?_)) <;> conv => whnf)
    | ((with_reducible refine call_go ?_); (first | refine call_step (run_view (c20 _) rfl rfl) ?_ | refine call_step (run_view (c57 _) rfl rfl) ?_ | refine call_step (run_view (c58 _) rfl rfl) ?_ | refine call_step (run_view (c38 _ _ _) rfl rfl) ?_); conv => whnf)
    | (refine ⟨[], [], (by decide +kernel), ?_⟩; conv => whnf)
    | ((with_reducible refine loop_go ?_); first | (refine loop1 (fun (k : Nat) => x.os.length - k) (fun (k : Nat) => k ≤ x.os.length ∧ cE x.os x.os 0 = cE x.os (x.os.drop k) k) (fun (k : Nat) => [(1, .ptr 0 0 0), (4, .d (i k))]) (fun (k : Nat) => [⟨[.d x.enc], 2, 0⟩]) (0) (by exact ⟨Nat.zero_le _, rfl⟩) ?_ (fun k C hI hC => ?_); (exact ⟨[.old 0], rfl, rfl, ⟨⟨rfl, rfl, rfl⟩, (by first | (show (_ : D) = _; with_reducible rfl) | exact congrArg (D.int .i64) (by omega) | exact congrArg (D.int .i64) (by simp only [List.length_map]) | exact rfl), trivial⟩, ⟨⟨rfl, rfl, .inl ⟨[_], rfl, rfl⟩⟩, trivial⟩⟩); all_goals (conv => whnf)))
    | ((with_reducible show C _ _); first | (refine hC (k + 1) _ _ ?_ (by omega) ?_; clear hC; rotate_left; (exact ⟨[.old 0], rfl, rfl, ⟨⟨rfl, rfl, rfl⟩, (by first | (show (_ : D) = _; with_reducible rfl) | exact congrArg (D.int .i64) (by omega) | exact congrArg (D.int .i64) (by simp only [List.length_map]) | exact rfl), trivial⟩, ⟨⟨rfl, rfl, .inl ⟨[_], rfl, rfl⟩⟩, trivial⟩⟩); (exact ⟨by omega, by rw [hI.2, cE_drop (by omega), ← atO_at (by omega), if_pos (oE_0 (by assumption) (by first | exact .inl (by assumption) | exact .inr (by assumption)) (by unfold okR; simp only [*]; rfl))]⟩)))
    | (refine ix_O (k - 1) (by omega) (by omega) ?_; conv => whnf)
    | (refine ix_O k rfl (by omega) ?_; conv => whnf)
    | (refine ⟨⟨(by first | rfl | (simp; done)), cap_ok (by simp only [List.length_map, List.length_cons, List.length_nil, List.length_append]; omega) rfl⟩, ?_⟩; conv => whnf)
    | (refine ⟨mem_one ⟨rfl, rfl⟩, ?_⟩; conv => whnf)
    | (refine ⟨(by intro y hy; obtain ⟨x, _, rfl⟩ := List.mem_map.1 hy; first | rfl | exact ⟨rfl, rfl⟩), ?_⟩; conv => whnf)
    | (refine ⟨cap_ok (by first | omega | (simp only [List.length_map]; omega)) rfl, ?_⟩; conv => whnf)
    | (refine ix_map (by omega) ?_; conv => whnf)
    | (refine ix_str (by omega) ?_; conv => whnf)
    | (refine wrap64 (by omega) ?_; conv => whnf)
    | (refine ix_O (k - 1) (by omega) (by omega) ?_; conv => whnf)
    | (refine ix_O k rfl (by omega) ?_; conv => whnf)
    | (refine wrap64 (by omega) ?_; conv => whnf)
    | (exfalso; simp only [List.length_map, List.length_cons, List.length_nil, List.length_append] at h; omega)
    | ((with_reducible refine endx_go ?_); first | (exact endx2 (ck_8 (by assumption)); done) | (exact endx2 (ck_end (by assumption) hI.2 (by assumption)); done) | (exact endx2 (ck_at (by assumption) hI.2 (by omega) (whoE_a (by assumption) rfl) (by assumption)); done) | (exact endx2 (ck_at (by assumption) hI.2 (by omega) (oE_b (by assumption) (by assumption) (by assumption)) (by decide)); done) | (exact endx2 (ck_at (by assumption) hI.2 (by omega) (oE_d (by assumption) (by first | exact .inl (by assumption) | exact .inr (by assumption)) (by unfold okR; simp only [*]; first | rfl | simp)) (by decide)); done))
    | (refine ⟨rfl, ?_⟩; conv => whnf)
    | fail
    )

theorem c31 (x : Quo) (hx : x.os.length < 1000) : Fn 31 [x.enc] (i (checkQ x).2) := by
  refine run_walkF eok Try.func31 rfl (by kernel_rfl) ?_
  conv => whnf
  repeat' (first
    | ((with_reducible refine on_dec_f ?_ ?_); (focus ((try simp only [List.length_map, List.length_cons, List.length_nil, List.length_append]); omega)); conv => whnf)
    | ((with_reducible refine on_dec_t ?_ ?_); (focus ((try simp only [List.length_map, List.length_cons, List.length_nil, List.length_append]); omega)); conv => whnf)
    | ((with_reducible refine on_dec (fun h => ?_) (fun h => ?_)) <;> (try simp only [List.length_map] at h) <;> conv => whnf)
    | ((with_reducible refine on_ndec (fun h => ?_) (fun h => ?_)) <;> (try simp only [List.length_map] at h) <;> conv => whnf)
    | ((with_reducible refine on_not (fun h => ?_) (fun h => ?_)) <;> conv => whnf)
    | ((with_reducible refine onBool_split (fun h => ?_) (fun h => ?_)) <;> conv => whnf)
    | ((with_reducible refine call_go ?_); (first | refine call_step (run_view (c17 x hx) rfl rfl) ?_); conv => whnf)
    | (refine ⟨⟨(by first | rfl | (simp; done)), cap_ok (by simp only [List.length_map, List.length_cons, List.length_nil, List.length_append]; omega) rfl⟩, ?_⟩; conv => whnf)
    | (refine ⟨mem_one ⟨rfl, rfl⟩, ?_⟩; conv => whnf)
    | (refine ⟨(by intro y hy; obtain ⟨x, _, rfl⟩ := List.mem_map.1 hy; first | rfl | exact ⟨rfl, rfl⟩), ?_⟩; conv => whnf)
    | (refine ⟨cap_ok (by first | omega | (simp only [List.length_map]; omega)) rfl, ?_⟩; conv => whnf)
    | (refine ix_map (by omega) ?_; conv => whnf)
    | (refine ix_str (by omega) ?_; conv => whnf)
    | (refine wrap64 (by omega) ?_; conv => whnf)
    | (exfalso; simp only [List.length_map, List.length_cons, List.length_nil, List.length_append] at h; omega)
    | ((with_reducible refine endx_go ?_); first | (exact endx rfl; done))
    | (refine ⟨rfl, ?_⟩; conv => whnf)
    | fail
    )

end Go.Proofs.Ytolfkcmdfgakkaa

/-! Pa -/
namespace Go.Proofs.Ytolfkcmdfgakkaa
open Go Dw

def cmp (a b : Int) : Int := if a < b then -1 else if b < a then 1 else 0
theorem cmp_lt {a b : Int} : cmp a b < 0 ↔ a < b := by
  unfold cmp
  by_cases h : a < b
  · simp [h]
  · by_cases h2 : b < a <;> simp [h, h2]
theorem cmp_eq {a b : Int} : cmp a b = 0 ↔ a = b := by
  unfold cmp
  by_cases h : a < b
  · simp [h]; omega
  · by_cases h2 : b < a
    · simp [h, h2]; omega
    · simp [h, h2]; omega

def bsAt {α : Type} (c : α → Int) (l : List α) (k : Nat) : Int := match l[k]? with
  | some x => c x
  | none => 0
theorem bsAt_eq {α : Type} {c : α → Int} {l : List α} {k : Nat} (h : k < l.length) : bsAt c l k = c l[k] := by
  simp only [bsAt, List.getElem?_eq_getElem h]
def bsGo {α : Type} (c : α → Int) (l : List α) : Nat → Nat → Nat → Nat
  | 0, a, _ => a
  | n + 1, a, b => if a < b then (if bsAt c l ((a + b) / 2) < 0 then bsGo c l n ((a + b) / 2 + 1) b else bsGo c l n a ((a + b) / 2)) else a
def bsR {α : Type} (c : α → Int) (l : List α) : Nat × Bool :=
  (bsGo c l l.length 0 l.length, match l[bsGo c l l.length 0 l.length]? with | some x => decide (c x = 0) | none => false)
theorem bs_lt {α : Type} {c : α → Int} {l : List α} {n a b : Nat} (hn : b - a ≤ n) (h : a < b) (hl : (a + b) / 2 < l.length) (hc : c l[(a + b) / 2] < 0) : 0 < n ∧ bsGo c l n a b = bsGo c l (n - 1) ((a + b) / 2 + 1) b := by
  cases n with
  | zero => omega
  | succ n => exact ⟨by omega, by simp only [bsGo, if_pos h, bsAt_eq hl, if_pos hc, Nat.add_sub_cancel]⟩
theorem bs_ge {α : Type} {c : α → Int} {l : List α} {n a b : Nat} (hn : b - a ≤ n) (h : a < b) (hl : (a + b) / 2 < l.length) (hc : ¬ c l[(a + b) / 2] < 0) : 0 < n ∧ bsGo c l n a b = bsGo c l (n - 1) a ((a + b) / 2) := by
  cases n with
  | zero => omega
  | succ n => exact ⟨by omega, by simp only [bsGo, if_pos h, bsAt_eq hl, if_neg hc, Nat.add_sub_cancel]⟩
theorem bsR_at {α : Type} {c : α → Int} {l : List α} {k : Nat} (h : bsGo c l l.length 0 l.length = k) (hk : k < l.length) : bsR c l = (k, decide (c l[k] = 0)) := by
  simp only [bsR, h, List.getElem?_eq_getElem hk]
theorem bsR_none {α : Type} {c : α → Int} {l : List α} {k : Nat} (h : bsGo c l l.length 0 l.length = k) (hk : ¬ k < l.length) : bsR c l = (k, false) := by
  simp only [bsR, h, List.getElem?_eq_none (Nat.le_of_not_lt hk)]
theorem bs_end {α : Type} {c : α → Int} {l : List α} {n a b : Nat} (h : ¬ a < b) : bsGo c l n a b = a := by
  cases n <;> simp [bsGo, h]
theorem bsGo_law {α : Type} {c : α → Int} {l : List α} {k : Nat} (hlt : ∀ i (h : i < l.length), i < k → c l[i] < 0) (hge : ∀ i (h : i < l.length), k ≤ i → ¬ c l[i] < 0) : ∀ (n a b : Nat), a ≤ k → k ≤ b → b ≤ l.length → b - a ≤ n → bsGo c l n a b = k
  | 0, a, b, h1, h2, h3, h4 => by simp only [bsGo]; omega
  | n + 1, a, b, h1, h2, h3, h4 => by
    simp only [bsGo]
    by_cases hab : a < b
    · rw [if_pos hab, bsAt_eq (by omega)]
      by_cases hm : (a + b) / 2 < k
      · rw [if_pos (hlt _ (by omega) hm)]
        exact bsGo_law hlt hge n _ _ (by omega) h2 h3 (by omega)
      · rw [if_neg (hge _ (by omega) (by omega))]
        exact bsGo_law hlt hge n _ _ h1 (by omega) (by omega) (by omega)
    · rw [if_neg hab]; omega
theorem bsR_law {α : Type} {c : α → Int} {l : List α} {k : Nat} (hk : k ≤ l.length) (hlt : ∀ i (h : i < l.length), i < k → c l[i] < 0) (hge : ∀ i (h : i < l.length), k ≤ i → ¬ c l[i] < 0) : bsR c l = (k, if h : k < l.length then decide (c l[k] = 0) else false) := by
  have h := bsGo_law hlt hge l.length 0 l.length (by omega) hk (Nat.le_refl _) (by omega)
  by_cases hl : k < l.length
  · rw [bsR_at h hl, dif_pos hl]
  · rw [bsR_none h hl, dif_neg hl]

/-! ### Owners in order -/
abbrev SRT (l : List Own) : Prop := l.Pairwise (fun a b => a.who < b.who)
def newO (w : Int) : Own := ⟨w, 0, -1, -1, 0⟩
def isR : List Own → Int → Bool
  | [], _ => false
  | o :: l, w => decide (o.who = w) || isR l w
def ownR : List Own → Int → Own
  | [], w => newO w
  | o :: l, w => if o.who = w then o else ownR l w
def cnt : List Own → Int → Nat
  | [], _ => 0
  | o :: l, w => if o.who < w then cnt l w + 1 else 0
def withR : List Own → Own → List Own
  | [], o => [o]
  | y :: l, o => if y.who < o.who then y :: withR l o else if y.who = o.who then o :: l else o :: y :: l
theorem cnt_le : ∀ (l : List Own) (w : Int), cnt l w ≤ l.length
  | [], w => Nat.le_refl _
  | o :: l, w => by
    have := cnt_le l w
    simp only [cnt, List.length_cons]; split <;> omega
theorem cnt_lt : ∀ (l : List Own) (w : Int) (k : Nat) (h : k < l.length), k < cnt l w → l[k].who < w
  | o :: l, w, k, h, hk => by
    simp only [cnt] at hk
    split at hk
    · cases k with
      | zero => assumption
      | succ k => exact cnt_lt l w k (by simpa using h) (by omega)
    · omega
theorem cnt_ge : ∀ (l : List Own) (w : Int), SRT l → ∀ (k : Nat) (h : k < l.length), cnt l w ≤ k → w ≤ l[k].who
  | o :: l, w, hs, k, h, hk => by
    simp only [cnt] at hk
    rw [SRT, List.pairwise_cons] at hs
    split at hk
    · cases k with
      | zero => omega
      | succ k => exact cnt_ge l w hs.2 k (by simpa using h) (by omega)
    · cases k with
      | zero => simp; omega
      | succ k =>
        have hk' : k < l.length := by simpa using h
        have := hs.1 (l[k]'hk') (List.getElem_mem _)
        simp only [List.getElem_cons_succ]; omega
theorem isR_iff : ∀ (l : List Own) (w : Int), isR l w = true ↔ ∃ o ∈ l, o.who = w
  | [], w => by simp [isR]
  | o :: l, w => by simp [isR, isR_iff l w]
theorem isR_cnt : ∀ (l : List Own) (w : Int), SRT l → isR l w = if h : cnt l w < l.length then decide (l[cnt l w].who = w) else false
  | [], w, _ => rfl
  | o :: l, w, hs => by
    have hs' := hs
    rw [SRT, List.pairwise_cons] at hs
    have ih := isR_cnt l w hs.2
    simp only [isR, cnt]
    by_cases h : o.who < w
    · simp only [h, if_true, List.length_cons, Nat.add_lt_add_iff_right, List.getElem_cons_succ]
      rw [decide_eq_false (by omega), Bool.false_or, ih]
    · simp only [h, if_false, List.length_cons, List.getElem_cons_zero]
      rw [dif_pos (by omega)]
      by_cases h2 : o.who = w
      · simp [h2]
      · rw [decide_eq_false h2, Bool.false_or]
        cases hr : isR l w with
        | false => rfl
        | true =>
          obtain ⟨y, hy, e⟩ := (isR_iff l w).1 hr
          have := hs.1 y hy
          omega
theorem ownR_cnt : ∀ (l : List Own) (w : Int) (h : cnt l w < l.length), l[cnt l w].who = w → ownR l w = l[cnt l w]
  | o :: l, w, h, e => by
    simp only [ownR]
    by_cases h1 : o.who < w
    · have hc : cnt (o :: l) w = cnt l w + 1 := by simp only [cnt, if_pos h1]
      simp only [hc, List.length_cons, Nat.add_lt_add_iff_right, List.getElem_cons_succ] at h e ⊢
      rw [if_neg (by omega)]
      exact ownR_cnt l w h e
    · have hc : cnt (o :: l) w = 0 := by simp only [cnt, if_neg h1]
      simp only [hc, List.getElem_cons_zero] at e ⊢
      rw [if_pos e]
theorem ownR_none : ∀ (l : List Own) (w : Int), isR l w = false → ownR l w = newO w
  | [], w, _ => rfl
  | o :: l, w, h => by
    simp only [isR, Bool.or_eq_false_iff, decide_eq_false_iff_not] at h
    rw [ownR, if_neg h.1, ownR_none l w h.2]
theorem withR_set : ∀ (l : List Own) (o : Own) (h : cnt l o.who < l.length), l[cnt l o.who].who = o.who → withR l o = l.set (cnt l o.who) o
  | y :: l, o, h, e => by
    simp only [withR]
    by_cases h1 : y.who < o.who
    · have hc : cnt (y :: l) o.who = cnt l o.who + 1 := by simp only [cnt, if_pos h1]
      simp only [hc, List.length_cons, Nat.add_lt_add_iff_right, List.getElem_cons_succ] at h e ⊢
      rw [if_pos h1, withR_set l o h e, List.set_cons_succ]
    · have hc : cnt (y :: l) o.who = 0 := by simp only [cnt, if_neg h1]
      simp only [hc, List.getElem_cons_zero] at e ⊢
      rw [if_neg h1, if_pos e, List.set_cons_zero]
theorem withR_ins : ∀ (l : List Own) (o : Own), SRT l → isR l o.who = false → withR l o = l.take (cnt l o.who) ++ o :: l.drop (cnt l o.who)
  | [], o, _, _ => rfl
  | y :: l, o, hs, h => by
    rw [SRT, List.pairwise_cons] at hs
    simp only [isR, Bool.or_eq_false_iff, decide_eq_false_iff_not] at h
    simp only [withR, cnt]
    by_cases h1 : y.who < o.who
    · rw [if_pos h1, if_pos h1, withR_ins l o hs.2 h.2]; rfl
    · rw [if_neg h1, if_neg h1, if_neg h.1]; rfl
theorem pl_law (l : List Own) (w : Int) (hs : SRT l) : bsR (fun x => cmp x.who w) l = (cnt l w, isR l w) := by
  rw [bsR_law (cnt_le l w) (fun k h hk => cmp_lt.2 (cnt_lt l w k h hk)) (fun k h hk => by rw [cmp_lt]; have := cnt_ge l w hs k h hk; omega), isR_cnt l w hs]
  simp only [cmp_eq]
theorem isR_lt {l : List Own} {w : Int} (hs : SRT l) (h : isR l w = true) : ∃ hl : cnt l w < l.length, l[cnt l w].who = w := by
  rw [isR_cnt l w hs] at h
  split at h
  · rename_i hl; exact ⟨hl, of_decide_eq_true h⟩
  · cases h

/-! ### The document's way -/
theorem mem_withR : ∀ {l : List Own} {o y : Own}, y ∈ withR l o → y = o ∨ y ∈ l
  | [], o, y, h => by simpa [withR] using h
  | z :: l, o, y, h => by
    simp only [withR] at h
    split at h
    · rcases List.mem_cons.1 h with h | h
      · exact .inr (by simp [h])
      · rcases mem_withR h with h | h
        · exact .inl h
        · exact .inr (by simp [h])
    · split at h
      · rcases List.mem_cons.1 h with h | h
        · exact .inl h
        · exact .inr (by simp [h])
      · rcases List.mem_cons.1 h with h | h
        · exact .inl h
        · exact .inr h
theorem withR_srt : ∀ {l : List Own} {o : Own}, SRT l → SRT (withR l o)
  | [], o, _ => by simp [withR, SRT]
  | z :: l, o, hs => by
    have hs' := hs
    rw [SRT, List.pairwise_cons] at hs
    simp only [withR]
    split
    · rename_i h
      rw [SRT, List.pairwise_cons]
      refine ⟨fun y hy => ?_, withR_srt hs.2⟩
      rcases mem_withR hy with rfl | hy
      · exact h
      · exact hs.1 y hy
    · split
      · rename_i h h2
        rw [SRT, List.pairwise_cons]
        exact ⟨fun y hy => by have := hs.1 y hy; omega, hs.2⟩
      · rename_i h h2
        rw [SRT, List.pairwise_cons]
        refine ⟨fun y hy => ?_, hs'⟩
        rcases List.mem_cons.1 hy with rfl | hy
        · omega
        · have := hs.1 y hy; omega
theorem isR_cons (o : Own) (l : List Own) (w : Int) : isR (o :: l) w = (decide (o.who = w) || isR l w) := rfl
theorem withR_len : ∀ (l : List Own) (o : Own), SRT l → (withR l o).length = if isR l o.who = true then l.length else l.length + 1
  | [], o, _ => rfl
  | y :: l, o, hs => by
    have hs' := hs
    rw [SRT, List.pairwise_cons] at hs
    have ih := withR_len l o hs.2
    have he := isR_cons y l o.who
    generalize isR (y :: l) o.who = b at he ⊢
    simp only [withR]
    by_cases h1 : y.who < o.who
    · rw [decide_eq_false (by omega), Bool.false_or] at he
      subst he
      rw [if_pos h1, List.length_cons, ih]
      split <;> simp
    · rw [if_neg h1]
      by_cases h2 : y.who = o.who
      · rw [decide_eq_true h2, Bool.true_or] at he
        subst he
        rw [if_pos h2]; simp
      · have : isR l o.who = false := by
          cases hr : isR l o.who with
          | false => rfl
          | true =>
            obtain ⟨z, hz, e⟩ := (isR_iff _ _).1 hr
            have := hs.1 z hz
            omega
        rw [decide_eq_false h2, this] at he
        subst he
        rw [if_neg h2]; simp
theorem ownR_who : ∀ (l : List Own) (w : Int), (ownR l w).who = w
  | [], w => rfl
  | o :: l, w => by
    simp only [ownR]; split
    · assumption
    · exact ownR_who l w
theorem ownR_mem : ∀ (l : List Own) (w : Int), isR l w = true → ownR l w ∈ l
  | [], w, h => by cases h
  | o :: l, w, h => by
    simp only [isR, Bool.or_eq_true, decide_eq_true_eq] at h
    simp only [ownR]
    split
    · simp
    · rename_i hne
      rcases h with h | h
      · exact absurd h hne
      · simp [ownR_mem l w h]
end Go.Proofs.Ytolfkcmdfgakkaa

/-! Pb -/
namespace Go.Proofs.Ytolfkcmdfgakkaa
open Go Dw

structure VO (o : Own) : Prop where
  who : whoE o.who = 0
  used : 0 ≤ o.used ∧ o.used ≤ 2147483647
  warn : -1 ≤ o.warn ∧ o.warn ≤ 2147483646
  lim : -1 ≤ o.lim ∧ o.lim ≤ 2147483646
  ref : 0 ≤ o.ref ∧ o.ref ≤ 65535
structure VQ (x : Quo) : Prop where
  len : x.os.length ≤ 30
  srt : SRT x.os
  own : ∀ o ∈ x.os, VO o
theorem numE_iff {n : Int} : numE n = 0 ↔ 0 ≤ n ∧ n ≤ 2147483647 := by
  unfold numE within; by_cases h1 : 0 ≤ n <;> by_cases h2 : n ≤ 2147483647 <;> simp [h1, h2]
theorem limE_iff {n : Int} : limE n = 0 ↔ -1 ≤ n ∧ n ≤ 2147483646 := by
  unfold limE within; by_cases h1 : -1 ≤ n <;> by_cases h2 : n ≤ 2147483646 <;> simp [h1, h2]
theorem refE_iff {n : Int} : refE n = 0 ↔ 0 ≤ n ∧ n ≤ 65535 := by
  unfold refE within; by_cases h1 : 0 ≤ n <;> by_cases h2 : n ≤ 65535 <;> simp [h1, h2]
theorem firstE_z : ∀ {l : List Int}, firstE l = 0 ↔ ∀ e ∈ l, e = 0
  | [] => by simp [firstE]
  | e :: l => by
    rw [firstE_cons]
    by_cases h : e = 0
    · rw [if_pos h, firstE_z]; simp [h]
    · rw [if_neg h]; simp [h]
theorem oE_z0 {l : List Own} {k : Nat} {o : Own} : oE l k o = 0 ↔ VO o ∧ (k = 0 ∨ (atO l (k - 1)).who < o.who) := by
  unfold oE
  rw [firstE_z]
  constructor
  · intro h
    have h1 := h _ (List.mem_cons_self)
    have h2 := h (if (decide (k = 0) || decide ((atO l (k - 1)).who < o.who)) = true then 0 else 9) (by simp)
    have h3 := h (numE o.used) (by simp)
    have h4 := h (limE o.warn) (by simp)
    have h5 := h (limE o.lim) (by simp)
    have h6 := h (refE o.ref) (by simp)
    refine ⟨⟨h1, numE_iff.1 h3, limE_iff.1 h4, limE_iff.1 h5, refE_iff.1 h6⟩, ?_⟩
    by_cases h7 : (decide (k = 0) || decide ((atO l (k - 1)).who < o.who)) = true
    · simpa using h7
    · rw [if_neg h7] at h2; cases h2
  · rintro ⟨⟨h1, h2, h3, h4, h5⟩, h6⟩ e he
    have h7 : (decide (k = 0) || decide ((atO l (k - 1)).who < o.who)) = true := by simpa using h6
    simp only [List.mem_cons, List.not_mem_nil, or_false] at he
    rcases he with rfl | rfl | rfl | rfl | rfl | rfl
    · exact h1
    · rw [if_pos h7]
    · exact numE_iff.2 h2
    · exact limE_iff.2 h3
    · exact limE_iff.2 h4
    · exact refE_iff.2 h5
theorem cE_z (all : List Own) : ∀ (n k : Nat), all.length - k = n → ((cE all (all.drop k) k).2 = 0 ↔ ∀ j (h : j < all.length), k ≤ j → oE all j all[j] = 0)
  | 0, k, hn => by
    rw [cE_end (by omega)]
    exact ⟨fun _ j h hk => by omega, fun _ => rfl⟩
  | n + 1, k, hn => by
    have hk : k < all.length := by omega
    rw [cE_drop hk]
    by_cases h : oE all k all[k] = 0
    · rw [if_pos h, cE_z all n (k + 1) (by omega)]
      constructor
      · intro h2 j hj hkj
        by_cases e : j = k
        · subst e; exact h
        · exact h2 j hj (by omega)
      · intro h2 j hj hkj; exact h2 j hj (by omega)
    · rw [if_neg h]
      exact ⟨fun h2 => absurd h2 h, fun h2 => absurd (h2 k hk (Nat.le_refl _)) h⟩
theorem checkQ_iff (x : Quo) : (checkQ x).2 = 0 ↔ VQ x := by
  unfold checkQ
  by_cases h : 30 < x.os.length
  · rw [if_pos h]
    exact ⟨fun e => absurd e (by decide), fun e => by have := e.len; omega⟩
  · rw [if_neg h]
    have hz := cE_z x.os _ 0 rfl
    rw [List.drop_zero] at hz
    rw [hz]
    constructor
    · intro h2
      have adj : ∀ j (hj : j + 1 < x.os.length), (x.os[j]'(by omega)).who < (x.os[j + 1]'hj).who := by
        intro j hj
        have := (oE_z0.1 (h2 (j + 1) hj (by omega))).2
        rcases this with e | e
        · omega
        · rw [Nat.add_sub_cancel, atO_at (by omega)] at e; exact e
      refine ⟨by omega, ?_, fun o ho => ?_⟩
      · rw [SRT, List.pairwise_iff_getElem]
        intro a b ha hb hab
        have key : ∀ d, ∀ a, (ha : a + d + 1 < x.os.length) → (x.os[a]'(by omega)).who < (x.os[a + d + 1]'ha).who := by
          intro d
          induction d with
          | zero => intro a ha; exact adj a ha
          | succ d ih =>
            intro a ha
            have h1 := ih a (by omega)
            have h2 := adj (a + d + 1) (by omega)
            have : a + (d + 1) + 1 = a + d + 1 + 1 := by omega
            simp only [this]; omega
        have h3 := key (b - a - 1) a (by omega)
        have : a + (b - a - 1) + 1 = b := by omega
        simpa only [this] using h3
      · obtain ⟨k, hk, rfl⟩ := List.getElem_of_mem ho
        exact (oE_z0.1 (h2 k hk (Nat.zero_le _))).1
    · rintro ⟨_, h3, h4⟩ j hj _
      refine oE_z0.2 ⟨h4 _ (List.getElem_mem _), ?_⟩
      by_cases e : j = 0
      · exact .inl e
      · right
        rw [atO_at (by omega)]
        rw [SRT, List.pairwise_iff_getElem] at h3
        exact h3 (j - 1) j (by omega) hj (by omega)
theorem VQ.new {w : Int} (h : whoE w = 0) : VO (newO w) := ⟨h, by simp [newO], by simp [newO], by simp [newO], by simp [newO]⟩
theorem VQ.of {x : Quo} (h : VQ x) {w : Int} (hw : whoE w = 0) : VO (ownR x.os w) := by
  cases hr : isR x.os w with
  | true => exact h.own _ (ownR_mem _ _ hr)
  | false => rw [ownR_none _ _ hr]; exact VQ.new hw
/-- Numbers of an owner, whoever it is. -/
theorem VQ.nums {x : Quo} (h : VQ x) (w : Int) : (0 ≤ (ownR x.os w).used ∧ (ownR x.os w).used ≤ 2147483647) ∧ (-1 ≤ (ownR x.os w).lim ∧ (ownR x.os w).lim ≤ 2147483646) ∧ (0 ≤ (ownR x.os w).ref ∧ (ownR x.os w).ref ≤ 65535) := by
  cases hr : isR x.os w with
  | true => have := h.own _ (ownR_mem _ _ hr); exact ⟨this.used, this.lim, this.ref⟩
  | false => rw [ownR_none _ _ hr]; simp [newO]

/-! ### Acts -/
def emp : Quo := ⟨[], false⟩
def put1 (x : Quo) (o : Own) : Quo := ⟨withR x.os o, x.enf⟩
def fullQ (x : Quo) (w : Int) : Bool := !isR x.os w && decide (x.os.length = 30)
def chg (x : Quo) (w b : Int) : Quo × Int :=
  if b = 0 then (x, 0) else if fullQ x w = true then (x, 16)
  else if (x.enf && (!decide ((ownR x.os w).lim = -1) && decide ((ownR x.os w).lim < (ownR x.os w).used + b))) = true then (put1 x { ownR x.os w with ref := goMin ((ownR x.os w).ref + 1) 65535 }, 33)
  else if 2147483647 < (ownR x.os w).used + b then (x, 8) else (put1 x { ownR x.os w with used := (ownR x.os w).used + b }, 0)
def rls (x : Quo) (w b : Int) : Quo × Int :=
  if (ownR x.os w).used < b then (x, 2) else if 0 < b then (put1 x { ownR x.os w with used := (ownR x.os w).used - b }, 0) else (x, 0)
def mov (x : Quo) (f t b : Int) : Quo × Int :=
  if (ownR x.os f).used < b then (x, 2) else if f = t then (x, 0) else if (chg x t b).2 = 0 then rls (chg x t b).1 f b else chg x t b
def limErr (x : Quo) (l : Lim) : Int :=
  firstE [whoE l.who, limE l.warn, limE l.lim, if (!(!decide (l.warn = -1) && !decide (l.lim = -1)) || decide (l.warn ≤ l.lim)) = true then 0 else 9, if (!fullQ x l.who) = true then 0 else 16]
def limF (x : Quo) (l : Lim) : Quo × Int :=
  if limErr x l = 0 then (put1 x { ownR x.os l.who with warn := l.warn, lim := l.lim }, 0) else (x, limErr x l)
def actE (a : Act) : Int := firstE [if a.kind = 2 then firstE [whoE a.who, whoE a.to] else whoE a.who, numE a.bytes]
def doA (x : Quo) (a : Act) : Quo × Int :=
  if a.kind = 3 then limF x a.lim
  else if actE a = 0 then (if a.kind = 0 then chg x a.who a.bytes else if a.kind = 1 then rls x a.who a.bytes else mov x a.who a.to a.bytes)
  else (x, actE a)
def resQ (r : Quo × Int) : Quo × Int := if r.2 = 0 ∨ r.2 = 33 then r else (emp, r.2)
def aftQ (x : Quo) (a : Act) : Quo × Int := if (checkQ x).2 = 0 then resQ (doA x a) else (emp, (checkQ x).2)
theorem VQ.put {x : Quo} (h : VQ x) {o : Own} (ho : VO o) (hf : fullQ x o.who = false) : VQ (put1 x o) := by
  refine ⟨?_, withR_srt h.srt, fun y hy => ?_⟩
  · show (withR x.os o).length ≤ 30
    rw [withR_len _ _ h.srt]
    have := h.len
    unfold fullQ at hf
    cases hr : isR x.os o.who with
    | true => rw [if_pos rfl]; exact this
    | false =>
      rw [hr] at hf
      rw [if_neg (by decide)]
      simp at hf; omega
  · rcases mem_withR hy with rfl | hy
    · exact ho
    · exact h.own y hy
theorem fullQ_f {x : Quo} {w : Int} (h : ¬ fullQ x w = true) : fullQ x w = false := by simpa using h
theorem chg_ok {x : Quo} (h : VQ x) {w b : Int} (hw : whoE w = 0) (hb : 0 ≤ b) : VQ (chg x w b).1 := by
  have hv := h.of hw
  unfold chg
  split
  · exact h
  · split
    · exact h
    · rename_i hf
      have hf' : fullQ x (ownR x.os w).who = false := by rw [ownR_who]; exact fullQ_f hf
      split
      · refine h.put ⟨hv.who, hv.used, hv.warn, hv.lim, ?_⟩ hf'
        have := hv.ref
        show 0 ≤ goMin _ _ ∧ goMin _ _ ≤ 65535
        unfold goMin; split <;> omega
      · split
        · exact h
        · refine h.put ⟨hv.who, ?_, hv.warn, hv.lim, hv.ref⟩ hf'
          have := hv.used
          show 0 ≤ (ownR x.os w).used + b ∧ (ownR x.os w).used + b ≤ 2147483647
          omega
theorem actE_0 {a : Act} (h : actE a = 0) : whoE a.who = 0 ∧ (a.kind = 2 → whoE a.to = 0) ∧ 0 ≤ a.bytes ∧ a.bytes ≤ 2147483647 := by
  unfold actE at h
  rw [firstE_z] at h
  have h1 := h (if a.kind = 2 then firstE [whoE a.who, whoE a.to] else whoE a.who) (by simp)
  have h2 := numE_iff.1 (h (numE a.bytes) (by simp))
  by_cases hk : a.kind = 2
  · rw [if_pos hk, firstE_z] at h1
    exact ⟨h1 _ (by simp), fun _ => h1 _ (by simp), h2⟩
  · rw [if_neg hk] at h1
    exact ⟨h1, fun e => absurd e hk, h2⟩
/-- What the acts are. -/
def kindOk (a : Act) : Prop := a.kind = 0 ∨ a.kind = 1 ∨ a.kind = 2 ∨ a.kind = 3
end Go.Proofs.Ytolfkcmdfgakkaa

/-! Wc -/
namespace Go.Proofs.Ytolfkcmdfgakkaa
open Go Dw
set_option maxRecDepth 10000
set_option linter.unusedVariables false
set_option linter.unusedSimpArgs false
attribute [local irreducible] Run
set_option maxHeartbeats 4000000

attribute [local irreducible] oE checkQ

theorem c106 (n : Int) : Fn 106 [i n] (.bool false) := by
  refine run_walkF eok Try.func106 rfl (by kernel_rfl) ?_
  conv => whnf
  repeat' (first
    | ((with_reducible refine on_dec_f ?_ ?_); (focus ((try simp only [List.length_map, List.length_cons, List.length_nil, List.length_append]); omega)); conv => whnf)
    | ((with_reducible refine on_dec_t ?_ ?_); (focus ((try simp only [List.length_map, List.length_cons, List.length_nil, List.length_append]); omega)); conv => whnf)
    | ((with_reducible refine on_dec (fun h => ?_) (fun h => ?_)) <;> (try simp only [List.length_map] at h) <;> conv => whnf)
    | ((with_reducible refine on_ndec (fun h => ?_) (fun h => ?_)) <;> (try simp only [List.length_map] at h) <;> conv => whnf)
    | ((with_reducible refine on_not (fun h => ?_) (fun h => ?_)) <;> conv => whnf)
    | ((with_reducible refine onBool_split (fun h => ?_) (fun h => ?_)) <;> conv => whnf)
    | (refine ⟨⟨(by first | rfl | (simp; done)), cap_ok (by simp only [List.length_map, List.length_cons, List.length_nil, List.length_append]; omega) rfl⟩, ?_⟩; conv => whnf)
    | (refine ⟨mem_one ⟨rfl, rfl⟩, ?_⟩; conv => whnf)
    | (refine ⟨(by intro y hy; obtain ⟨x, _, rfl⟩ := List.mem_map.1 hy; first | rfl | exact ⟨rfl, rfl⟩), ?_⟩; conv => whnf)
    | (refine ⟨cap_ok (by first | omega | (simp only [List.length_map]; omega)) rfl, ?_⟩; conv => whnf)
    | (refine ix_map (by omega) ?_; conv => whnf)
    | (refine ix_str (by omega) ?_; conv => whnf)
    | (refine wrap64 (by omega) ?_; conv => whnf)
    | (exfalso; simp only [List.length_map, List.length_cons, List.length_nil, List.length_append] at h; omega)
    | ((with_reducible refine endx_go ?_); first | (exact endx (congrArg D.bool (by simp)); done))
    | (refine ⟨rfl, ?_⟩; conv => whnf)
    | fail
    )

theorem c100 (a b : Int) : Fn 100 [i a, i b] (i (cmp a b)) := by
  refine run_walkF eok Try.func100 rfl (by kernel_rfl) ?_
  conv => whnf
  repeat' (first
    | ((with_reducible refine on_dec_f ?_ ?_); (focus ((try simp only [List.length_map, List.length_cons, List.length_nil, List.length_append]); omega)); conv => whnf)
    | ((with_reducible refine on_dec_t ?_ ?_); (focus ((try simp only [List.length_map, List.length_cons, List.length_nil, List.length_append]); omega)); conv => whnf)
    | ((with_reducible refine on_dec (fun h => ?_) (fun h => ?_)) <;> (try simp only [List.length_map] at h) <;> conv => whnf)
    | ((with_reducible refine on_ndec (fun h => ?_) (fun h => ?_)) <;> (try simp only [List.length_map] at h) <;> conv => whnf)
    | ((with_reducible refine on_not (fun h => ?_) (fun h => ?_)) <;> conv => whnf)
    | ((with_reducible refine onBool_split (fun h => ?_) (fun h => ?_)) <;> conv => whnf)
    | ((with_reducible refine call_go ?_); (first | refine call_step (run_view (c106 _) rfl rfl) ?_); conv => whnf)
    | (refine ⟨⟨(by first | rfl | (simp; done)), cap_ok (by simp only [List.length_map, List.length_cons, List.length_nil, List.length_append]; omega) rfl⟩, ?_⟩; conv => whnf)
    | (refine ⟨mem_one ⟨rfl, rfl⟩, ?_⟩; conv => whnf)
    | (refine ⟨(by intro y hy; obtain ⟨x, _, rfl⟩ := List.mem_map.1 hy; first | rfl | exact ⟨rfl, rfl⟩), ?_⟩; conv => whnf)
    | (refine ⟨cap_ok (by first | omega | (simp only [List.length_map]; omega)) rfl, ?_⟩; conv => whnf)
    | (refine ix_map (by omega) ?_; conv => whnf)
    | (refine ix_str (by omega) ?_; conv => whnf)
    | (refine wrap64 (by omega) ?_; conv => whnf)
    | (exfalso; simp only [List.length_map, List.length_cons, List.length_nil, List.length_append] at h; omega)
    | ((with_reducible refine endx_go ?_); first | (refine endx (congrArg i ?_); unfold cmp; simp_all; done; done) | (refine endx (congrArg i ?_); unfold cmp; simp_all; omega; done))
    | (refine ⟨rfl, ?_⟩; conv => whnf)
    | fail
    )

theorem c99 (o : Own) (w : Int) : Fn 99 [o.enc, i w] (i (cmp o.who w)) := by
  refine run_walkF eok Try.func99 rfl (by kernel_rfl) ?_
  conv => whnf
  repeat' (first
    | ((with_reducible refine on_dec_f ?_ ?_); (focus ((try simp only [List.length_map, List.length_cons, List.length_nil, List.length_append]); omega)); conv => whnf)
    | ((with_reducible refine on_dec_t ?_ ?_); (focus ((try simp only [List.length_map, List.length_cons, List.length_nil, List.length_append]); omega)); conv => whnf)
    | ((with_reducible refine on_dec (fun h => ?_) (fun h => ?_)) <;> (try simp only [List.length_map] at h) <;> conv => whnf)
    | ((with_reducible refine on_ndec (fun h => ?_) (fun h => ?_)) <;> (try simp only [List.length_map] at h) <;> conv => whnf)
    | ((with_reducible refine on_not (fun h => ?_) (fun h => ?_)) <;> conv => whnf)
    | ((with_reducible refine onBool_split (fun h => ?_) (fun h => ?_)) <;> conv => whnf)
    | ((with_reducible refine call_go ?_); (first | refine call_step (run_view (c100 _ _) rfl rfl) ?_); conv => whnf)
    | (refine ⟨⟨(by first | rfl | (simp; done)), cap_ok (by simp only [List.length_map, List.length_cons, List.length_nil, List.length_append]; omega) rfl⟩, ?_⟩; conv => whnf)
    | (refine ⟨mem_one ⟨rfl, rfl⟩, ?_⟩; conv => whnf)
    | (refine ⟨(by intro y hy; obtain ⟨x, _, rfl⟩ := List.mem_map.1 hy; first | rfl | exact ⟨rfl, rfl⟩), ?_⟩; conv => whnf)
    | (refine ⟨cap_ok (by first | omega | (simp only [List.length_map]; omega)) rfl, ?_⟩; conv => whnf)
    | (refine ix_map (by omega) ?_; conv => whnf)
    | (refine ix_str (by omega) ?_; conv => whnf)
    | (refine wrap64 (by omega) ?_; conv => whnf)
    | (exfalso; simp only [List.length_map, List.length_cons, List.length_nil, List.length_append] at h; omega)
    | ((with_reducible refine endx_go ?_); first | (exact endx rfl; done))
    | (refine ⟨rfl, ?_⟩; conv => whnf)
    | fail
    )

theorem c98 (l : List Own) (p : Int) (hl : l.length < 1000000) : Fn 98 [.fs (l.map Own.enc), i p, .fn 99 [] []] (.tup [i (bsR (fun x : Own => cmp x.who p) l).1, .bool (bsR (fun x : Own => cmp x.who p) l).2]) := by
  refine run_walkF eok Try.func98 rfl (by kernel_rfl) ?_
  conv => whnf
  repeat' (first
    | ((with_reducible refine on_dec_f ?_ ?_); (focus ((try simp only [List.length_map, List.length_cons, List.length_nil, List.length_append]); omega)); conv => whnf)
    | ((with_reducible refine on_dec_t ?_ ?_); (focus ((try simp only [List.length_map, List.length_cons, List.length_nil, List.length_append]); omega)); conv => whnf)
    | ((with_reducible refine on_dec (fun h => ?_) (fun h => ?_)) <;> (try simp only [List.length_map] at h) <;> conv => whnf)
    | ((with_reducible refine on_ndec (fun h => ?_) (fun h => ?_)) <;> (try simp only [List.length_map] at h) <;> conv => whnf)
    | ((with_reducible refine on_not (fun h => ?_) (fun h => ?_)) <;> conv => whnf)
    | ((with_reducible refine onBool_split (fun h => ?_) (fun h => ?_)) <;> conv => whnf)
    | ((with_reducible refine call_go ?_); (first | refine call_step (run_view (c99 _ _) rfl rfl) ?_); conv => whnf)
    | ((with_reducible refine loop_go ?_); first | (refine loop3 (fun (n : Nat) (a : Nat) (b : Nat) => b - a) (fun (n : Nat) (a : Nat) (b : Nat) => a ≤ b ∧ b ≤ l.length ∧ b - a ≤ n ∧ bsGo (fun x : Own => cmp x.who p) l l.length 0 l.length = bsGo (fun x : Own => cmp x.who p) l n a b) (fun (n : Nat) (a : Nat) (b : Nat) => [(0, .d (.fs (l.map Own.enc))), (1, .d (i p)), (2, .d (.fn 99 [] [])), (8, .d (i l.length)), (9, .d (i a)), (10, .d (i b))]) (fun (n : Nat) (a : Nat) (b : Nat) => []) (l.length) (0) (l.length) (by exact ⟨by omega, by omega, by omega, rfl⟩) ?_ (fun n a b C hI hC => ?_); (exact ⟨[], rfl, rfl, ⟨(by first | (show (_ : D) = _; with_reducible rfl) | exact rfl), (by first | (show (_ : D) = _; with_reducible rfl) | exact congrArg (D.int .i64) (by omega) | exact congrArg (D.int .i64) (by simp only [List.length_map]) | exact rfl), (by first | (show (_ : D) = _; with_reducible rfl) | exact rfl), (by first | (show (_ : D) = _; with_reducible rfl) | exact congrArg (D.int .i64) (by omega) | exact congrArg (D.int .i64) (by simp only [List.length_map]) | exact rfl), (by first | (show (_ : D) = _; with_reducible rfl) | exact congrArg (D.int .i64) (by omega) | exact congrArg (D.int .i64) (by simp only [List.length_map]) | exact rfl), (by first | (show (_ : D) = _; with_reducible rfl) | exact congrArg (D.int .i64) (by omega) | exact congrArg (D.int .i64) (by simp only [List.length_map]) | exact rfl), trivial⟩, trivial⟩); all_goals (conv => whnf)))
    | ((with_reducible show C _ _); first | (refine hC (n - 1) ((a + b) / 2 + 1) (b) _ _ ?_ (by omega) ?_; clear hC; rotate_left; (exact ⟨[], rfl, rfl, ⟨(by first | (show (_ : D) = _; with_reducible rfl) | exact rfl), (by first | (show (_ : D) = _; with_reducible rfl) | exact congrArg (D.int .i64) (by omega) | exact congrArg (D.int .i64) (by simp only [List.length_map]) | exact rfl), (by first | (show (_ : D) = _; with_reducible rfl) | exact rfl), (by first | (show (_ : D) = _; with_reducible rfl) | exact congrArg (D.int .i64) (by omega) | exact congrArg (D.int .i64) (by simp only [List.length_map]) | exact rfl), (by first | (show (_ : D) = _; with_reducible rfl) | exact congrArg (D.int .i64) (by omega) | exact congrArg (D.int .i64) (by simp only [List.length_map]) | exact rfl), (by first | (show (_ : D) = _; with_reducible rfl) | exact congrArg (D.int .i64) (by omega) | exact congrArg (D.int .i64) (by simp only [List.length_map]) | exact rfl), trivial⟩, trivial⟩); (exact (by have he := bs_lt (c := fun x : Own => cmp x.who p) (l := l) (n := n) (a := a) (b := b) hI.2.2.1 (by omega) (by omega) h; exact ⟨by omega, by omega, by omega, by rw [hI.2.2.2, he.2]⟩))) | (refine hC (n - 1) (a) ((a + b) / 2) _ _ ?_ (by omega) ?_; clear hC; rotate_left; (exact ⟨[], rfl, rfl, ⟨(by first | (show (_ : D) = _; with_reducible rfl) | exact rfl), (by first | (show (_ : D) = _; with_reducible rfl) | exact congrArg (D.int .i64) (by omega) | exact congrArg (D.int .i64) (by simp only [List.length_map]) | exact rfl), (by first | (show (_ : D) = _; with_reducible rfl) | exact rfl), (by first | (show (_ : D) = _; with_reducible rfl) | exact congrArg (D.int .i64) (by omega) | exact congrArg (D.int .i64) (by simp only [List.length_map]) | exact rfl), (by first | (show (_ : D) = _; with_reducible rfl) | exact congrArg (D.int .i64) (by omega) | exact congrArg (D.int .i64) (by simp only [List.length_map]) | exact rfl), (by first | (show (_ : D) = _; with_reducible rfl) | exact congrArg (D.int .i64) (by omega) | exact congrArg (D.int .i64) (by simp only [List.length_map]) | exact rfl), trivial⟩, trivial⟩); (exact (by have he := bs_ge (c := fun x : Own => cmp x.who p) (l := l) (n := n) (a := a) (b := b) hI.2.2.1 (by omega) (by omega) h; exact ⟨by omega, by omega, by omega, by rw [hI.2.2.2, he.2]⟩))))
    | (refine ⟨⟨(by first | rfl | (simp; done)), cap_ok (by simp only [List.length_map, List.length_cons, List.length_nil, List.length_append]; omega) rfl⟩, ?_⟩; conv => whnf)
    | (refine ⟨mem_one ⟨rfl, rfl⟩, ?_⟩; conv => whnf)
    | (refine ⟨(by intro y hy; obtain ⟨x, _, rfl⟩ := List.mem_map.1 hy; first | rfl | exact ⟨rfl, rfl⟩), ?_⟩; conv => whnf)
    | (refine ⟨cap_ok (by first | omega | (simp only [List.length_map]; omega)) rfl, ?_⟩; conv => whnf)
    | (refine ix_map (by omega) ?_; conv => whnf)
    | (refine ix_str (by omega) ?_; conv => whnf)
    | (refine wrap64 (by omega) ?_; conv => whnf)
    | (refine wrapU64 (by omega) ?_; conv => whnf)
    | (refine shr_at 2 ?_ ?_ ?_ ?_; (rfl); (rfl); (rfl); conv => whnf)
    | (refine ix_at ((a + b) / 2) (by omega) (by omega) ?_; conv => whnf)
    | (refine ix_at a (by omega) (by omega) ?_; conv => whnf)
    | (exfalso; simp only [List.length_map, List.length_cons, List.length_nil, List.length_append] at h; omega)
    | ((with_reducible refine endx_go ?_); first | (have he := bs_end (c := fun x : Own => cmp x.who p) (l := l) (n := n) (a := a) (b := b) (by omega); first | (have hb := bsR_at (c := fun x : Own => cmp x.who p) (l := l) (k := a) (by rw [hI.2.2.2, he]) (by omega); exact endx2 (by rw [hb])) | (have hb := bsR_none (c := fun x : Own => cmp x.who p) (l := l) (k := a) (by rw [hI.2.2.2, he]) (by omega); exact endx2 (by rw [hb])); done))
    | (refine ⟨rfl, ?_⟩; conv => whnf)
    | fail
    )

theorem c98s (l : List Own) (w : Int) (hl : l.length < 1000000) (hs : SRT l) : Fn 98 [.fs (l.map Own.enc), i w, .fn 99 [] []] (.tup [i (cnt l w), .bool (isR l w)]) := by
  have := c98 l w hl
  rw [pl_law l w hs] at this
  exact this
attribute [local irreducible] cnt isR ownR withR bsR
theorem ix_cnt {l : List Own} {w : Int} (hs : SRT l) (h : isR l w = true) {n : Int} (hn : n = cnt l w) {K : D → Prop} (hk : K (ownR l w).enc) : 0 ≤ n ∧ nthK (l.map Own.enc) n.toNat K := by
  obtain ⟨h1, h2⟩ := isR_lt hs h
  rw [ownR_cnt l w h1 h2] at hk
  exact ix_at (cnt l w) hn h1 hk

theorem c87 (x : Quo) (hx : x.os.length < 1000000) (hs : SRT x.os) (w : Int) : Fn 87 [.fp x.enc 0, i w] (.tup [i (cnt x.os w), .bool (isR x.os w)]) := by
  refine run_walkF eok Try.func87 rfl (by kernel_rfl) ?_
  conv => whnf
  repeat' (first
    | ((with_reducible refine on_dec_f ?_ ?_); (focus ((try simp only [List.length_map, List.length_cons, List.length_nil, List.length_append]); omega)); conv => whnf)
    | ((with_reducible refine on_dec_t ?_ ?_); (focus ((try simp only [List.length_map, List.length_cons, List.length_nil, List.length_append]); omega)); conv => whnf)
    | ((with_reducible refine on_dec (fun h => ?_) (fun h => ?_)) <;> (try simp only [List.length_map] at h) <;> conv => whnf)
    | ((with_reducible refine on_ndec (fun h => ?_) (fun h => ?_)) <;> (try simp only [List.length_map] at h) <;> conv => whnf)
    | ((with_reducible refine on_not (fun h => ?_) (fun h => ?_)) <;> conv => whnf)
    | ((with_reducible refine onBool_split (fun h => ?_) (fun h => ?_)) <;> conv => whnf)
    | ((with_reducible refine call_go ?_); (first | refine call_step (run_view (c98s x.os w hx hs) rfl rfl) ?_); conv => whnf)
    | (refine ⟨⟨(by first | rfl | (simp; done)), cap_ok (by simp only [List.length_map, List.length_cons, List.length_nil, List.length_append]; omega) rfl⟩, ?_⟩; conv => whnf)
    | (refine ⟨mem_one ⟨rfl, rfl⟩, ?_⟩; conv => whnf)
    | (refine ⟨(by intro y hy; obtain ⟨x, _, rfl⟩ := List.mem_map.1 hy; first | rfl | exact ⟨rfl, rfl⟩), ?_⟩; conv => whnf)
    | (refine ⟨cap_ok (by first | omega | (simp only [List.length_map]; omega)) rfl, ?_⟩; conv => whnf)
    | (refine ix_map (by omega) ?_; conv => whnf)
    | (refine ix_str (by omega) ?_; conv => whnf)
    | (refine wrap64 (by omega) ?_; conv => whnf)
    | (refine wrap64 (by omega) ?_; conv => whnf)
    | (exfalso; simp only [List.length_map, List.length_cons, List.length_nil, List.length_append] at h; omega)
    | ((with_reducible refine endx_go ?_); first | (exact endx2 rfl; done))
    | (refine ⟨rfl, ?_⟩; conv => whnf)
    | fail
    )

theorem c65t (x : Quo) (hx : x.os.length < 1000000) (hs : SRT x.os) (w : Int) (hw : isR x.os w = true) : Fn 65 [.fp x.enc 0, i w] (ownR x.os w).enc := by
  refine run_walkF eok Try.func65 rfl (by kernel_rfl) ?_
  conv => whnf
  repeat' (first
    | ((with_reducible refine on_dec_t (by assumption) ?_); conv => whnf)
    | ((with_reducible refine on_dec_f (by assumption) ?_); conv => whnf)
    | ((with_reducible refine onBool_t (by assumption) ?_); conv => whnf)
    | ((with_reducible refine onBool_f (by assumption) ?_); conv => whnf)
    | ((with_reducible refine on_nt (by assumption) ?_); conv => whnf)
    | ((with_reducible refine on_nf (by assumption) ?_); conv => whnf)
    | ((with_reducible refine on_ndec_t (by first | assumption | rfl) ?_); conv => whnf)
    | ((with_reducible refine on_ndec_f (by assumption) ?_); conv => whnf)
    | ((with_reducible refine on_dec_t rfl ?_); conv => whnf)
    | ((with_reducible refine on_dec_f ?_ ?_); (focus ((try simp only [List.length_map, List.length_cons, List.length_nil, List.length_append]); omega)); conv => whnf)
    | ((with_reducible refine on_dec_t ?_ ?_); (focus ((try simp only [List.length_map, List.length_cons, List.length_nil, List.length_append]); omega)); conv => whnf)
    | ((with_reducible refine on_dec (fun h => ?_) (fun h => ?_)) <;> (try simp only [List.length_map] at h) <;> conv => whnf)
    | ((with_reducible refine on_ndec (fun h => ?_) (fun h => ?_)) <;> (try simp only [List.length_map] at h) <;> conv => whnf)
    | ((with_reducible refine on_not (fun h => ?_) (fun h => ?_)) <;> conv => whnf)
    | ((with_reducible refine onBool_split (fun h => ?_) (fun h => ?_)) <;> conv => whnf)
    | ((with_reducible refine call_go ?_); (first | refine call_step (run_view (c87 x hx hs w) rfl rfl) ?_); conv => whnf)
    | (refine ⟨⟨(by first | rfl | (simp; done)), cap_ok (by simp only [List.length_map, List.length_cons, List.length_nil, List.length_append]; omega) rfl⟩, ?_⟩; conv => whnf)
    | (refine ⟨mem_one ⟨rfl, rfl⟩, ?_⟩; conv => whnf)
    | (refine ⟨(by intro y hy; obtain ⟨x, _, rfl⟩ := List.mem_map.1 hy; first | rfl | exact ⟨rfl, rfl⟩), ?_⟩; conv => whnf)
    | (refine ⟨cap_ok (by first | omega | (simp only [List.length_map]; omega)) rfl, ?_⟩; conv => whnf)
    | (refine ix_map (by omega) ?_; conv => whnf)
    | (refine ix_str (by omega) ?_; conv => whnf)
    | (refine wrap64 (by omega) ?_; conv => whnf)
    | (refine ix_cnt hs hw rfl ?_; conv => whnf)
    | (refine wrap64 (by omega) ?_; conv => whnf)
    | (exfalso; simp only [List.length_map, List.length_cons, List.length_nil, List.length_append] at h; omega)
    | ((with_reducible refine endx_go ?_); first | (exact endx rfl; done))
    | (refine ⟨rfl, ?_⟩; conv => whnf)
    | fail
    )

theorem c65f (x : Quo) (hx : x.os.length < 1000000) (hs : SRT x.os) (w : Int) (hw : isR x.os w = false) : Fn 65 [.fp x.enc 0, i w] (ownR x.os w).enc := by
  refine run_walkF eok Try.func65 rfl (by kernel_rfl) ?_
  conv => whnf
  repeat' (first
    | ((with_reducible refine on_dec_t (by assumption) ?_); conv => whnf)
    | ((with_reducible refine on_dec_f (by assumption) ?_); conv => whnf)
    | ((with_reducible refine onBool_t (by assumption) ?_); conv => whnf)
    | ((with_reducible refine onBool_f (by assumption) ?_); conv => whnf)
    | ((with_reducible refine on_nt (by assumption) ?_); conv => whnf)
    | ((with_reducible refine on_nf (by assumption) ?_); conv => whnf)
    | ((with_reducible refine on_ndec_t (by first | assumption | rfl) ?_); conv => whnf)
    | ((with_reducible refine on_ndec_f (by assumption) ?_); conv => whnf)
    | ((with_reducible refine on_dec_t rfl ?_); conv => whnf)
    | ((with_reducible refine on_dec_f ?_ ?_); (focus ((try simp only [List.length_map, List.length_cons, List.length_nil, List.length_append]); omega)); conv => whnf)
    | ((with_reducible refine on_dec_t ?_ ?_); (focus ((try simp only [List.length_map, List.length_cons, List.length_nil, List.length_append]); omega)); conv => whnf)
    | ((with_reducible refine on_dec (fun h => ?_) (fun h => ?_)) <;> (try simp only [List.length_map] at h) <;> conv => whnf)
    | ((with_reducible refine on_ndec (fun h => ?_) (fun h => ?_)) <;> (try simp only [List.length_map] at h) <;> conv => whnf)
    | ((with_reducible refine on_not (fun h => ?_) (fun h => ?_)) <;> conv => whnf)
    | ((with_reducible refine onBool_split (fun h => ?_) (fun h => ?_)) <;> conv => whnf)
    | ((with_reducible refine call_go ?_); (first | refine call_step (run_view (c87 x hx hs w) rfl rfl) ?_); conv => whnf)
    | (refine ⟨⟨(by first | rfl | (simp; done)), cap_ok (by simp only [List.length_map, List.length_cons, List.length_nil, List.length_append]; omega) rfl⟩, ?_⟩; conv => whnf)
    | (refine ⟨mem_one ⟨rfl, rfl⟩, ?_⟩; conv => whnf)
    | (refine ⟨(by intro y hy; obtain ⟨x, _, rfl⟩ := List.mem_map.1 hy; first | rfl | exact ⟨rfl, rfl⟩), ?_⟩; conv => whnf)
    | (refine ⟨cap_ok (by first | omega | (simp only [List.length_map]; omega)) rfl, ?_⟩; conv => whnf)
    | (refine ix_map (by omega) ?_; conv => whnf)
    | (refine ix_str (by omega) ?_; conv => whnf)
    | (refine wrap64 (by omega) ?_; conv => whnf)
    | (refine wrap64 (by omega) ?_; conv => whnf)
    | (exfalso; simp only [List.length_map, List.length_cons, List.length_nil, List.length_append] at h; omega)
    | ((with_reducible refine endx_go ?_); first | (exact endx (congrArg Own.enc (ownR_none x.os w hw).symm); done) | (refine endxv (view_agg (vlc rfl (vlc rfl (vlc rfl (vlc rfl (vlc rfl vln)))))) ?_; rw [ownR_none x.os w hw]; rfl; done))
    | (refine ⟨rfl, ?_⟩; conv => whnf)
    | fail
    )

theorem c101t (x : Quo) (hx : x.os.length < 1000000) (hs : SRT x.os) (w : Int) (hw : isR x.os w = true) : Fn 101 [.fp x.enc 0, i w] (.bool (!isR x.os w && decide (x.os.length = 30))) := by
  refine run_walkF eok Try.func101 rfl (by kernel_rfl) ?_
  conv => whnf
  repeat' (first
    | ((with_reducible refine on_dec_t (by assumption) ?_); conv => whnf)
    | ((with_reducible refine on_dec_f (by assumption) ?_); conv => whnf)
    | ((with_reducible refine onBool_t (by assumption) ?_); conv => whnf)
    | ((with_reducible refine onBool_f (by assumption) ?_); conv => whnf)
    | ((with_reducible refine on_nt (by assumption) ?_); conv => whnf)
    | ((with_reducible refine on_nf (by assumption) ?_); conv => whnf)
    | ((with_reducible refine on_ndec_t (by first | assumption | rfl) ?_); conv => whnf)
    | ((with_reducible refine on_ndec_f (by assumption) ?_); conv => whnf)
    | ((with_reducible refine on_dec_t rfl ?_); conv => whnf)
    | ((with_reducible refine on_dec_f ?_ ?_); (focus ((try simp only [List.length_map, List.length_cons, List.length_nil, List.length_append]); omega)); conv => whnf)
    | ((with_reducible refine on_dec_t ?_ ?_); (focus ((try simp only [List.length_map, List.length_cons, List.length_nil, List.length_append]); omega)); conv => whnf)
    | ((with_reducible refine on_dec (fun h => ?_) (fun h => ?_)) <;> (try simp only [List.length_map] at h) <;> conv => whnf)
    | ((with_reducible refine on_ndec (fun h => ?_) (fun h => ?_)) <;> (try simp only [List.length_map] at h) <;> conv => whnf)
    | ((with_reducible refine on_not (fun h => ?_) (fun h => ?_)) <;> conv => whnf)
    | ((with_reducible refine onBool_split (fun h => ?_) (fun h => ?_)) <;> conv => whnf)
    | ((with_reducible refine call_go ?_); (first | refine call_step (run_view (c87 x hx hs w) rfl rfl) ?_); conv => whnf)
    | (refine ⟨⟨(by first | rfl | (simp; done)), cap_ok (by simp only [List.length_map, List.length_cons, List.length_nil, List.length_append]; omega) rfl⟩, ?_⟩; conv => whnf)
    | (refine ⟨mem_one ⟨rfl, rfl⟩, ?_⟩; conv => whnf)
    | (refine ⟨(by intro y hy; obtain ⟨x, _, rfl⟩ := List.mem_map.1 hy; first | rfl | exact ⟨rfl, rfl⟩), ?_⟩; conv => whnf)
    | (refine ⟨cap_ok (by first | omega | (simp only [List.length_map]; omega)) rfl, ?_⟩; conv => whnf)
    | (refine ix_map (by omega) ?_; conv => whnf)
    | (refine ix_str (by omega) ?_; conv => whnf)
    | (refine wrap64 (by omega) ?_; conv => whnf)
    | (exfalso; simp only [List.length_map, List.length_cons, List.length_nil, List.length_append] at h; omega)
    | ((with_reducible refine endx_go ?_); first | (refine endx (congrArg D.bool ?_); rw [hw]; rfl; done))
    | (refine ⟨rfl, ?_⟩; conv => whnf)
    | fail
    )

theorem c101f (x : Quo) (hx : x.os.length < 1000000) (hs : SRT x.os) (w : Int) (hw : isR x.os w = false) : Fn 101 [.fp x.enc 0, i w] (.bool (!isR x.os w && decide (x.os.length = 30))) := by
  refine run_walkF eok Try.func101 rfl (by kernel_rfl) ?_
  conv => whnf
  repeat' (first
    | ((with_reducible refine on_dec_t (by assumption) ?_); conv => whnf)
    | ((with_reducible refine on_dec_f (by assumption) ?_); conv => whnf)
    | ((with_reducible refine onBool_t (by assumption) ?_); conv => whnf)
    | ((with_reducible refine onBool_f (by assumption) ?_); conv => whnf)
    | ((with_reducible refine on_nt (by assumption) ?_); conv => whnf)
    | ((with_reducible refine on_nf (by assumption) ?_); conv => whnf)
    | ((with_reducible refine on_ndec_t (by first | assumption | rfl) ?_); conv => whnf)
    | ((with_reducible refine on_ndec_f (by assumption) ?_); conv => whnf)
    | ((with_reducible refine on_dec_t rfl ?_); conv => whnf)
    | ((with_reducible refine on_dec_f ?_ ?_); (focus ((try simp only [List.length_map, List.length_cons, List.length_nil, List.length_append]); omega)); conv => whnf)
    | ((with_reducible refine on_dec_t ?_ ?_); (focus ((try simp only [List.length_map, List.length_cons, List.length_nil, List.length_append]); omega)); conv => whnf)
    | ((with_reducible refine on_dec (fun h => ?_) (fun h => ?_)) <;> (try simp only [List.length_map] at h) <;> conv => whnf)
    | ((with_reducible refine on_ndec (fun h => ?_) (fun h => ?_)) <;> (try simp only [List.length_map] at h) <;> conv => whnf)
    | ((with_reducible refine on_not (fun h => ?_) (fun h => ?_)) <;> conv => whnf)
    | ((with_reducible refine onBool_split (fun h => ?_) (fun h => ?_)) <;> conv => whnf)
    | ((with_reducible refine call_go ?_); (first | refine call_step (run_view (c87 x hx hs w) rfl rfl) ?_); conv => whnf)
    | (refine ⟨⟨(by first | rfl | (simp; done)), cap_ok (by simp only [List.length_map, List.length_cons, List.length_nil, List.length_append]; omega) rfl⟩, ?_⟩; conv => whnf)
    | (refine ⟨mem_one ⟨rfl, rfl⟩, ?_⟩; conv => whnf)
    | (refine ⟨(by intro y hy; obtain ⟨x, _, rfl⟩ := List.mem_map.1 hy; first | rfl | exact ⟨rfl, rfl⟩), ?_⟩; conv => whnf)
    | (refine ⟨cap_ok (by first | omega | (simp only [List.length_map]; omega)) rfl, ?_⟩; conv => whnf)
    | (refine ix_map (by omega) ?_; conv => whnf)
    | (refine ix_str (by omega) ?_; conv => whnf)
    | (refine wrap64 (by omega) ?_; conv => whnf)
    | (refine wrap64 (by omega) ?_; conv => whnf)
    | (exfalso; simp only [List.length_map, List.length_cons, List.length_nil, List.length_append] at h; omega)
    | ((with_reducible refine endx_go ?_); first | (refine endx (congrArg D.bool ?_); rw [hw]; simp [List.length_map]; first | done | omega; done))
    | (refine ⟨rfl, ?_⟩; conv => whnf)
    | fail
    )

theorem c65 (x : Quo) (hx : x.os.length < 1000000) (hs : SRT x.os) (w : Int) : Fn 65 [.fp x.enc 0, i w] (ownR x.os w).enc := by
  cases h : isR x.os w with
  | true => exact c65t x hx hs w h
  | false => exact c65f x hx hs w h
theorem c101 (x : Quo) (hx : x.os.length < 1000000) (hs : SRT x.os) (w : Int) : Fn 101 [.fp x.enc 0, i w] (.bool (!isR x.os w && decide (x.os.length = 30))) := by
  cases h : isR x.os w with
  | true => have := c101t x hx hs w h; rw [h] at this; exact this
  | false => have := c101f x hx hs w h; rw [h] at this; exact this

end Go.Proofs.Ytolfkcmdfgakkaa

/-! Wd -/
namespace Go.Proofs.Ytolfkcmdfgakkaa
open Go Dw
set_option maxRecDepth 10000
set_option linter.unusedVariables false
set_option linter.unusedSimpArgs false
attribute [local irreducible] Run
set_option maxHeartbeats 4000000

attribute [local irreducible] oE checkQ cnt isR ownR withR bsR
theorem c15 (x : Quo) (hx : x.os.length < 1000000) : Fn 15 [x.enc] x.enc := by
  refine run_walkF eok Try.func15 rfl (by kernel_rfl) ?_
  conv => whnf
  repeat' (first
    | ((with_reducible refine on_dec_f ?_ ?_); (focus ((try simp only [List.length_map, List.length_cons, List.length_nil, List.length_append]); omega)); conv => whnf)
    | ((with_reducible refine on_dec_t ?_ ?_); (focus ((try simp only [List.length_map, List.length_cons, List.length_nil, List.length_append]); omega)); conv => whnf)
    | ((with_reducible refine on_dec (fun h => ?_) (fun h => ?_)) <;> (try simp only [List.length_map] at h) <;> conv => whnf)
    | ((with_reducible refine on_ndec (fun h => ?_) (fun h => ?_)) <;> (try simp only [List.length_map] at h) <;> conv => whnf)
    | ((with_reducible refine on_not (fun h => ?_) (fun h => ?_)) <;> conv => whnf)
    | ((with_reducible refine onBool_split (fun h => ?_) (fun h => ?_)) <;> conv => whnf)
    | (refine ⟨[], [(5, 3)], (by decide +kernel), ?_⟩; conv => whnf)
    | (refine ⟨⟨(by first | rfl | (simp; done)), cap_ok (by simp only [List.length_map, List.length_cons, List.length_nil, List.length_append]; omega) rfl⟩, ?_⟩; conv => whnf)
    | (refine ⟨mem_one ⟨rfl, rfl⟩, ?_⟩; conv => whnf)
    | (refine ⟨(by intro y hy; obtain ⟨x, _, rfl⟩ := List.mem_map.1 hy; first | rfl | exact ⟨rfl, rfl⟩), ?_⟩; conv => whnf)
    | (refine ⟨cap_ok (by first | omega | (simp only [List.length_map]; omega)) rfl, ?_⟩; conv => whnf)
    | (refine ix_map (by omega) ?_; conv => whnf)
    | (refine ix_str (by omega) ?_; conv => whnf)
    | (refine wrap64 (by omega) ?_; conv => whnf)
    | (refine ⟨Nat.le_refl _, ?_⟩; conv => whnf)
    | (refine ⟨⟨(by simp only [List.length_map, List.length_append]; omega), cap_ok (by skip; simp only [List.length_map, List.length_cons, List.length_nil, List.length_append]; omega) rfl⟩, ?_⟩; conv => whnf)
    | (refine ⟨cap_ok (by skip; simp only [List.length_map, List.length_cons, List.length_nil, List.length_append]; omega) rfl, ?_⟩; conv => whnf)
    | (refine wrap64 (by omega) ?_; conv => whnf)
    | (exfalso; simp only [List.length_map, List.length_cons, List.length_nil, List.length_append] at h; omega)
    | ((with_reducible refine endx_go ?_); first | (exact endxv (view_agg (vlc (view_new rfl Nat.two_pos) (vlc rfl vln))) rfl; done))
    | (refine ⟨rfl, ?_⟩; conv => whnf)
    | fail
    )

theorem cells_own (a b : Own) : cellsEq a.enc.cells b.enc.cells = decide (a = b) := by
  cases a; cases b
  simp only [Own.enc, D.cells, cellsEq, cellEq, Own.mk.injEq, Bool.and_true]
  simp only [Bool.decide_and]
theorem on_own {a b : Own} {A B : Prop} (ht : ¬ a = b → A) (hf : a = b → B) : onBool (!cellsEq a.enc.cells b.enc.cells) A B := by
  rw [cells_own]
  by_cases h : a = b
  · rw [decide_eq_true h]; exact hf h
  · rw [decide_eq_false h]; exact ht h
theorem on_own' {a b : Own} {A B : Prop} (ht : ¬ a = b → A) (hf : a = b → B) : onBool (!cellsEq [i a.who, i a.used, i a.warn, i a.lim, i a.ref] [i b.who, i b.used, i b.warn, i b.lim, i b.ref]) A B := on_own ht hf
theorem sm_take {a b : List Own} {k : Nat} (h : a.take k = b.take k) (ha : k < a.length) (hb : k < b.length) (e : a[k] = b[k]) : a.take (k + 1) = b.take (k + 1) := by
  rw [List.take_succ_eq_append_getElem ha, List.take_succ_eq_append_getElem hb, h, e]
theorem sm_t {x y : Quo} {k : Nat} (he : x.enf = y.enf) (hl : x.os.length = y.os.length) (hk : x.os.length ≤ k) (h : x.os.take k = y.os.take k) : decide (x = y) = true := by
  rw [List.take_of_length_le hk, List.take_of_length_le (by omega)] at h
  cases x; cases y; simp only at he h; subst he; subst h; simp
theorem sm_f {x y : Quo} {k : Nat} (hk : k < x.os.length) (hk2 : k < y.os.length) (h : ¬ x.os[k] = y.os[k]) : decide (x = y) = false := by
  rw [decide_eq_false_iff_not]; intro e; subst e; exact h rfl

theorem c36 (x y : Quo) (hx : x.os.length < 1000000) (hy : y.os.length < 1000000) : Fn 36 [x.enc, y.enc] (.bool (decide (x = y))) := by
  refine run_walkF eok Try.func36 rfl (by kernel_rfl) ?_
  conv => whnf
  repeat' (first
    | (refine on_own' (fun h => ?_) (fun h => ?_) <;> conv => whnf)
    | ((with_reducible refine on_dec_f ?_ ?_); (focus ((try simp only [List.length_map, List.length_cons, List.length_nil, List.length_append]); omega)); conv => whnf)
    | ((with_reducible refine on_dec_t ?_ ?_); (focus ((try simp only [List.length_map, List.length_cons, List.length_nil, List.length_append]); omega)); conv => whnf)
    | ((with_reducible refine on_dec (fun h => ?_) (fun h => ?_)) <;> (try simp only [List.length_map] at h) <;> conv => whnf)
    | ((with_reducible refine on_ndec (fun h => ?_) (fun h => ?_)) <;> (try simp only [List.length_map] at h) <;> conv => whnf)
    | ((with_reducible refine on_not (fun h => ?_) (fun h => ?_)) <;> conv => whnf)
    | ((with_reducible refine onBool_split (fun h => ?_) (fun h => ?_)) <;> conv => whnf)
    | (refine ⟨[], [], (by decide +kernel), ?_⟩; conv => whnf)
    | ((with_reducible refine loop_go ?_); first | (refine loop1 (fun (k : Nat) => x.os.length - k) (fun (k : Nat) => k ≤ x.os.length ∧ x.os.take k = y.os.take k) (fun (k : Nat) => [(2, .ptr 0 0 0), (3, .ptr 1 0 0), (5, .d (i k))]) (fun (k : Nat) => [⟨[.d x.enc], 2, 0⟩, ⟨[.d y.enc], 2, 0⟩]) (0) (by exact ⟨Nat.zero_le _, rfl⟩) ?_ (fun k C hI hC => ?_); (exact ⟨[.old 0, .old 1], rfl, rfl, ⟨⟨rfl, rfl, rfl⟩, ⟨rfl, rfl, rfl⟩, (by first | (show (_ : D) = _; with_reducible rfl) | exact congrArg (D.int .i64) (by omega) | exact congrArg (D.int .i64) (by simp only [List.length_map]) | exact rfl), trivial⟩, ⟨⟨rfl, rfl, .inl ⟨[_], rfl, rfl⟩⟩, ⟨rfl, rfl, .inl ⟨[_], rfl, rfl⟩⟩, trivial⟩⟩); all_goals (conv => whnf)))
    | ((with_reducible show C _ _); first | (refine hC (k + 1) _ _ ?_ (by omega) ?_; clear hC; rotate_left; (exact ⟨[.old 0, .old 1], rfl, rfl, ⟨⟨rfl, rfl, rfl⟩, ⟨rfl, rfl, rfl⟩, (by first | (show (_ : D) = _; with_reducible rfl) | exact congrArg (D.int .i64) (by omega) | exact congrArg (D.int .i64) (by simp only [List.length_map]) | exact rfl), trivial⟩, ⟨⟨rfl, rfl, .inl ⟨[_], rfl, rfl⟩⟩, ⟨rfl, rfl, .inl ⟨[_], rfl, rfl⟩⟩, trivial⟩⟩); (exact ⟨by omega, sm_take hI.2 (by omega) (by omega) (by assumption)⟩)))
    | (refine ⟨⟨(by first | rfl | (simp; done)), cap_ok (by simp only [List.length_map, List.length_cons, List.length_nil, List.length_append]; omega) rfl⟩, ?_⟩; conv => whnf)
    | (refine ⟨mem_one ⟨rfl, rfl⟩, ?_⟩; conv => whnf)
    | (refine ⟨(by intro y hy; obtain ⟨x, _, rfl⟩ := List.mem_map.1 hy; first | rfl | exact ⟨rfl, rfl⟩), ?_⟩; conv => whnf)
    | (refine ⟨cap_ok (by first | omega | (simp only [List.length_map]; omega)) rfl, ?_⟩; conv => whnf)
    | (refine ix_map (by omega) ?_; conv => whnf)
    | (refine ix_str (by omega) ?_; conv => whnf)
    | (refine wrap64 (by omega) ?_; conv => whnf)
    | (refine wrap64 (by omega) ?_; conv => whnf)
    | (exfalso; simp only [List.length_map, List.length_cons, List.length_nil, List.length_append] at h; omega)
    | ((with_reducible refine endx_go ?_); first | (refine endx (congrArg D.bool ?_); (exact (sm_f (by omega) (by omega) (by assumption)).symm); done) | (refine endx (congrArg D.bool ?_); (exact (sm_t (by grind) (by omega) (by omega) hI.2).symm); done) | (refine endx (congrArg D.bool ?_); (symm; rw [decide_eq_false_iff_not]; intro e; subst e; simp_all; done); done))
    | (refine ⟨rfl, ?_⟩; conv => whnf)
    | fail
    )

theorem view_q {H : Heap} {a b n : Nat} {l : List Own} {e : Bool} (h1 : H[a]? = some (qO e n b)) (h2 : H[b]? = some (rO l)) (hn : n = l.length) : view 8 H (.ptr a 0 0) = some (.fp (Quo.enc ⟨l, e⟩) 0) := by
  subst hn
  refine view_ptr h1 (Nat.zero_lt_succ 1) rfl (view_agg (vlc ?_ (vlc rfl vln)))
  exact view_map (n := 4) (H := H) (id := b) (l := l) (f := Own.enc) (k := 5) (k' := 5) (cap := none) h2 (Nat.zero_lt_succ 1)
theorem insL_own (l : List Own) (k : Nat) (o : Own) : insL (l.map Own.enc) k o.enc = (l.take k ++ o :: l.drop k).map Own.enc := by
  unfold insL; simp

theorem c102t (x : Quo) (o : Own) (hx : x.os.length < 1000000) (hs : SRT x.os) (hw : isR x.os o.who = true) : Run Try.prog 102 [.ptr 0 0 0, .d o.enc] [qO x.enf x.os.length 1, rO x.os] (.tup []) [qO x.enf (withR x.os o).length 2, deadO, rO (withR x.os o)] := by
  obtain ⟨hc, hw2⟩ := isR_lt hs hw
  refine run_walkV eok Try.func102 rfl (by kernel_rfl) [0, 1] (by rfl) [] ?_
  conv => whnf
  repeat' (first
    | ((with_reducible refine on_dec_t (by assumption) ?_); conv => whnf)
    | ((with_reducible refine on_dec_f (by assumption) ?_); conv => whnf)
    | ((with_reducible refine onBool_t (by assumption) ?_); conv => whnf)
    | ((with_reducible refine onBool_f (by assumption) ?_); conv => whnf)
    | ((with_reducible refine on_nt (by assumption) ?_); conv => whnf)
    | ((with_reducible refine on_nf (by assumption) ?_); conv => whnf)
    | ((with_reducible refine on_ndec_t (by first | assumption | rfl) ?_); conv => whnf)
    | ((with_reducible refine on_ndec_f (by assumption) ?_); conv => whnf)
    | ((with_reducible refine on_dec_t rfl ?_); conv => whnf)
    | ((with_reducible refine on_dec_f ?_ ?_); (focus ((try simp only [List.length_map, List.length_cons, List.length_nil, List.length_append]); omega)); conv => whnf)
    | ((with_reducible refine on_dec_t ?_ ?_); (focus ((try simp only [List.length_map, List.length_cons, List.length_nil, List.length_append]); omega)); conv => whnf)
    | ((with_reducible refine on_dec (fun h => ?_) (fun h => ?_)) <;> (try simp only [List.length_map] at h) <;> conv => whnf)
    | ((with_reducible refine on_ndec (fun h => ?_) (fun h => ?_)) <;> (try simp only [List.length_map] at h) <;> conv => whnf)
    | ((with_reducible refine on_not (fun h => ?_) (fun h => ?_)) <;> conv => whnf)
    | ((with_reducible refine onBool_split (fun h => ?_) (fun h => ?_)) <;> conv => whnf)
    | ((with_reducible refine call_go ?_); (first | refine call_step (run_view (c87 x hx hs o.who) rfl (vlc (view_q rfl rfl rfl) (vlc rfl vln))) ?_ | refine call_step (run_ins (L := x.os.map Own.enc) (k := cnt x.os o.who) rfl rfl (by decide) (by simp) (by rw [List.length_map]; exact cnt_le _ _) (own_ok x.os).1 (own_ok x.os).2 ⟨rfl, rfl⟩ rfl (by rw [List.length_map]; exact hx)) ?_); conv => whnf)
    | (refine ⟨[], [], (by decide +kernel), ?_⟩; conv => whnf)
    | (refine ⟨[], [(5, 8)], (by decide +kernel), ?_⟩; conv => whnf)
    | (refine ⟨⟨(by first | rfl | (simp; done)), cap_ok (by simp only [List.length_map, List.length_cons, List.length_nil, List.length_append]; omega) rfl⟩, ?_⟩; conv => whnf)
    | (refine ⟨mem_one ⟨rfl, rfl⟩, ?_⟩; conv => whnf)
    | (refine ⟨(by intro y hy; obtain ⟨x, _, rfl⟩ := List.mem_map.1 hy; first | rfl | exact ⟨rfl, rfl⟩), ?_⟩; conv => whnf)
    | (refine ⟨cap_ok (by first | omega | (simp only [List.length_map]; omega)) rfl, ?_⟩; conv => whnf)
    | (refine ix_map (by omega) ?_; conv => whnf)
    | (refine ix_str (by omega) ?_; conv => whnf)
    | (refine wrap64 (by omega) ?_; conv => whnf)
    | (refine ⟨⟨by omega, by omega⟩, ?_⟩; conv => whnf)
    | (refine nthK_row0 hc ?_; conv => whnf)
    | (refine nthK_row hc ?_; conv => whnf)
    | (refine setK_of ?_; conv => whnf)
    | (refine wrap64 (by omega) ?_; conv => whnf)
    | (exfalso; simp only [List.length_map, List.length_cons, List.length_nil, List.length_append] at h; omega)
    | ((with_reducible refine endx_go ?_); first | (refine endX_of (.inl ⟨[.old 0, .dead, .old 1], rfl, rfl, ⟨trivial, trivial⟩, ⟨⟨rfl, rfl, .inr ⟨⟨⟨rfl, rfl, (by rw [withR_len _ _ hs, if_pos hw]), rfl, rfl⟩, rfl, trivial⟩, trivial⟩⟩, rfl, ⟨rfl, rfl, .inl ⟨(withR x.os o).map Own.enc, (by rw [withR_set x.os o hc hw2, ← set_row, show 0 + ((cnt x.os o.who : Nat) : Int).toNat = cnt x.os o.who by omega]; rfl), rfl⟩⟩, trivial⟩⟩); done))
    | (refine ⟨rfl, ?_⟩; conv => whnf)
    | fail
    )

theorem c102f (x : Quo) (o : Own) (hx : x.os.length < 1000000) (hs : SRT x.os) (hw : isR x.os o.who = false) : Run Try.prog 102 [.ptr 0 0 0, .d o.enc] [qO x.enf x.os.length 1, rO x.os] (.tup []) [qO x.enf (withR x.os o).length 2, deadO, rO (withR x.os o)] := by
  refine run_walkV eok Try.func102 rfl (by kernel_rfl) [0, 1] (by rfl) [] ?_
  conv => whnf
  repeat' (first
    | ((with_reducible refine on_dec_t (by assumption) ?_); conv => whnf)
    | ((with_reducible refine on_dec_f (by assumption) ?_); conv => whnf)
    | ((with_reducible refine onBool_t (by assumption) ?_); conv => whnf)
    | ((with_reducible refine onBool_f (by assumption) ?_); conv => whnf)
    | ((with_reducible refine on_nt (by assumption) ?_); conv => whnf)
    | ((with_reducible refine on_nf (by assumption) ?_); conv => whnf)
    | ((with_reducible refine on_ndec_t (by first | assumption | rfl) ?_); conv => whnf)
    | ((with_reducible refine on_ndec_f (by assumption) ?_); conv => whnf)
    | ((with_reducible refine on_dec_t rfl ?_); conv => whnf)
    | ((with_reducible refine on_dec_f ?_ ?_); (focus ((try simp only [List.length_map, List.length_cons, List.length_nil, List.length_append]); omega)); conv => whnf)
    | ((with_reducible refine on_dec_t ?_ ?_); (focus ((try simp only [List.length_map, List.length_cons, List.length_nil, List.length_append]); omega)); conv => whnf)
    | ((with_reducible refine on_dec (fun h => ?_) (fun h => ?_)) <;> (try simp only [List.length_map] at h) <;> conv => whnf)
    | ((with_reducible refine on_ndec (fun h => ?_) (fun h => ?_)) <;> (try simp only [List.length_map] at h) <;> conv => whnf)
    | ((with_reducible refine on_not (fun h => ?_) (fun h => ?_)) <;> conv => whnf)
    | ((with_reducible refine onBool_split (fun h => ?_) (fun h => ?_)) <;> conv => whnf)
    | ((with_reducible refine call_go ?_); (first | refine call_step (run_view (c87 x hx hs o.who) rfl (vlc (view_q rfl rfl rfl) (vlc rfl vln))) ?_ | refine call_step (run_ins (L := x.os.map Own.enc) (k := cnt x.os o.who) rfl rfl (by decide) (by simp) (by rw [List.length_map]; exact cnt_le _ _) (own_ok x.os).1 (own_ok x.os).2 ⟨rfl, rfl⟩ rfl (by rw [List.length_map]; exact hx)) ?_); conv => whnf)
    | (refine ⟨[], [], (by decide +kernel), ?_⟩; conv => whnf)
    | (refine ⟨[], [(5, 8)], (by decide +kernel), ?_⟩; conv => whnf)
    | (refine ⟨⟨(by first | rfl | (simp; done)), cap_ok (by simp only [List.length_map, List.length_cons, List.length_nil, List.length_append]; omega) rfl⟩, ?_⟩; conv => whnf)
    | (refine ⟨mem_one ⟨rfl, rfl⟩, ?_⟩; conv => whnf)
    | (refine ⟨(by intro y hy; obtain ⟨x, _, rfl⟩ := List.mem_map.1 hy; first | rfl | exact ⟨rfl, rfl⟩), ?_⟩; conv => whnf)
    | (refine ⟨cap_ok (by first | omega | (simp only [List.length_map]; omega)) rfl, ?_⟩; conv => whnf)
    | (refine ix_map (by omega) ?_; conv => whnf)
    | (refine ix_str (by omega) ?_; conv => whnf)
    | (refine wrap64 (by omega) ?_; conv => whnf)
    | (refine wrap64 (by omega) ?_; conv => whnf)
    | (exfalso; simp only [List.length_map, List.length_cons, List.length_nil, List.length_append] at h; omega)
    | ((with_reducible refine endx_go ?_); first | (refine endX_of (.inl ⟨[.old 0, .dead, .old 4], rfl, rfl, ⟨trivial, trivial⟩, ⟨⟨rfl, rfl, .inr ⟨⟨⟨rfl, rfl, (by rw [withR_len _ _ hs, if_neg (by rw [hw]; decide), List.length_map]), rfl, rfl⟩, rfl, trivial⟩, trivial⟩⟩, rfl, ⟨rfl, rfl, .inl ⟨(withR x.os o).map Own.enc, (by rw [withR_ins x.os o hs hw, ← insL_own]), rfl⟩⟩, trivial⟩⟩); done))
    | (refine ⟨rfl, ?_⟩; conv => whnf)
    | fail
    )

end Go.Proofs.Ytolfkcmdfgakkaa
