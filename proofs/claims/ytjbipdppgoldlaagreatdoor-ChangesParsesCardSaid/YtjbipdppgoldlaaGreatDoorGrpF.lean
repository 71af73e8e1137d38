/-
  Own lemmas, no conditions: Xf, Xj, Pb, Xe, Pe, Xk, Xl, Pf, Xm, Xn, Pg, Xo, Xp, Xq, Xr, Xs, Yg.
-/
import Derived.Test.YtjbipdppgoldlaaGreatDoorGrpE
set_option linter.unusedVariables false
set_option linter.unusedSimpArgs false

/-! Xf -/
namespace Go.Proofs.YtjbipdppgoldlaaGreatDoor
open Go Dw
set_option maxRecDepth 10000
set_option linter.unusedVariables false
set_option linter.unusedSimpArgs false
attribute [local irreducible] Run
set_option maxHeartbeats 2000000

end Go.Proofs.YtjbipdppgoldlaaGreatDoor

/-! Xj -/
namespace Go.Proofs.YtjbipdppgoldlaaGreatDoor
open Go Dw
set_option maxRecDepth 10000
set_option linter.unusedVariables false
set_option linter.unusedSimpArgs false
attribute [local irreducible] Run
set_option maxHeartbeats 4000000

theorem srcB {l : List AV} {s len : Nat} {K : List AV → Prop} {A : List AV → Prop} (Y : List D) (e : (l.drop s).take len = Y.map .d) (h1 : s + len < l.length) (hm : ∀ z ∈ Y, z.memOk = true) (hk : K (Y.map .d)) :
    s + len ≤ l.length ∧ dropK l s (fun r => onBool (r.length == len) (A r) (onOk ((r.take len).all AV.known) (takeK r len K))) := by
  refine ⟨by omega, ?_⟩
  rw [dropK_eq]
  refine onBool_f (by rw [List.length_drop, beq_eq_false_iff_ne]; omega) (onOk_of ?_ ?_)
  · rw [e]; exact known_d hm
  · rw [takeK_eq, e]; exact hk
end Go.Proofs.YtjbipdppgoldlaaGreatDoor

/-! Pb -/
namespace Go.Proofs.YtjbipdppgoldlaaGreatDoor
open Go Dw

/-! ### Positions -/

def pos (a : Int) : List Chg → Int
  | [] => a
  | x :: l => pos (a + size x.name.length) l

theorem size_bd {n : Nat} (h : n ≤ 32) : 32 ≤ size n ∧ size n ≤ 72 := by
  unfold size; omega

theorem wrap_in {n : Int} (h : 0 ≤ n ∧ n < 1000000000000) : IntKind.i64.wrap n = n := Go.IntWalk.i64_in _ (by omega)

end Go.Proofs.YtjbipdppgoldlaaGreatDoor

/-! Xe -/
namespace Go.Proofs.YtjbipdppgoldlaaGreatDoor
open Go Dw
set_option maxRecDepth 10000
set_option linter.unusedVariables false
set_option linter.unusedSimpArgs false
attribute [local irreducible] Run
set_option maxHeartbeats 2000000

def opAt (l : List Opn) (f : Ref) : Nat × Bool := bsR (fun x => compare x.file f) l
attribute [local irreducible] opAt compare

end Go.Proofs.YtjbipdppgoldlaaGreatDoor

/-! Pe -/
namespace Go.Proofs.YtjbipdppgoldlaaGreatDoor
open Go Dw

end Go.Proofs.YtjbipdppgoldlaaGreatDoor

/-! Xk -/
namespace Go.Proofs.YtjbipdppgoldlaaGreatDoor
open Go Dw
set_option maxRecDepth 10000
set_option linter.unusedVariables false
set_option linter.unusedSimpArgs false
attribute [local irreducible] Run
set_option maxHeartbeats 4000000

/-- A writer: its own object; where its records and its open files lie. -/
def wO (j : Jrn) (a b : Nat) : AO := ⟨[.agg [.d (i j.id), .d (i j.first), .d (i j.next), .d (i j.most), .sl a 0 j.recs.length 8 none, .sl b 0 j.opens.length 3 none]], 6, 0⟩
def rO (j : Jrn) : AO := ⟨(j.recs.map Chg.enc).map .d, 8, 0⟩
def oO (j : Jrn) : AO := ⟨(j.opens.map Opn.enc).map .d, 3, 0⟩
def dead (k : Nat) : AO := ⟨[], k, 2⟩
/-- A writer's memory at the start and at the end of what changes it. -/
abbrev wS (j : Jrn) : Heap := [wO j 1 2, rO j, oO j]
abbrev wT (j : Jrn) : Heap := [wO j 3 4, dead 8, dead 3, rO j, oO j]
end Go.Proofs.YtjbipdppgoldlaaGreatDoor

/-! Xl -/
namespace Go.Proofs.YtjbipdppgoldlaaGreatDoor
open Go Dw
set_option maxRecDepth 10000
set_option linter.unusedVariables false
set_option linter.unusedSimpArgs false
attribute [local irreducible] Run
set_option maxHeartbeats 4000000

end Go.Proofs.YtjbipdppgoldlaaGreatDoor

/-! Pf -/
namespace Go.Proofs.YtjbipdppgoldlaaGreatDoor
open Go Dw
end Go.Proofs.YtjbipdppgoldlaaGreatDoor

/-! Xm -/
namespace Go.Proofs.YtjbipdppgoldlaaGreatDoor
open Go Dw
set_option maxRecDepth 10000
set_option linter.unusedVariables false
set_option linter.unusedSimpArgs false
attribute [local irreducible] Run
set_option maxHeartbeats 4000000

def pO (a : Nat) : AO := ⟨[.ptr a 0 0], 1, 0⟩

end Go.Proofs.YtjbipdppgoldlaaGreatDoor

/-! Xn -/
namespace Go.Proofs.YtjbipdppgoldlaaGreatDoor
open Go Dw
set_option maxRecDepth 10000
set_option linter.unusedVariables false
set_option linter.unusedSimpArgs false
attribute [local irreducible] Run
set_option maxHeartbeats 4000000

section
variable {f : Nat} {xs : List D} {r : AV} {j j' : Jrn} {p x own : AO}
end
section
variable {j : Jrn} {u fr fs pr ps t q n : Int} {nm : List UInt8} {x : AO}
end
theorem valid_nm {j : Jrn} (V : Valid j) : ∀ x ∈ j.recs, x.name.length < 1000000 := by
  intro x hx
  have := (nameErr_ok (recordErr_ok (V.recOk x hx)).2.2.2.2).2.1
  omega
attribute [local irreducible] woI withI hasR after

end Go.Proofs.YtjbipdppgoldlaaGreatDoor

/-! Pg -/
namespace Go.Proofs.YtjbipdppgoldlaaGreatDoor
open Go Dw

/-- Records one after the other, from a position to another one. -/
def Chain (a : Int) : List Chg → Int → Prop
  | [], b => a = b
  | x :: l, b => recordErr x = 0 ∧ x.usn = a ∧ Chain (a + size x.name.length) l b
theorem rec_nm {x : Chg} (h : recordErr x = 0) : 1 ≤ x.name.length ∧ x.name.length ≤ 32 := by
  have := nameErr_ok (recordErr_ok h).2.2.2.2
  omega
theorem rec_sz {x : Chg} (h : recordErr x = 0) : 32 ≤ size x.name.length ∧ size x.name.length ≤ 72 := size_bd (rec_nm h).2
theorem Chain.le : ∀ {l : List Chg} {a b : Int}, Chain a l b → a + 32 * l.length ≤ b ∧ b ≤ a + 72 * l.length
  | [], a, b, h => by simp only [Chain] at h; simp; omega
  | x :: l, a, b, h => by
    have := Chain.le h.2.2
    have := rec_sz h.1
    simp only [List.length_cons]; omega
theorem Chain.app : ∀ {l : List Chg} {a b : Int} {x : Chg}, Chain a l b → recordErr x = 0 → x.usn = b → Chain a (l ++ [x]) (b + size x.name.length)
  | [], a, b, x, h, h1, h2 => by
    simp only [Chain] at h
    subst h
    exact ⟨h1, h2, rfl⟩
  | y :: l, a, b, x, h, h1, h2 => ⟨h.1, h.2.1, Chain.app h.2.2 h1 h2⟩
theorem Chain.mem : ∀ {l : List Chg} {a b : Int}, Chain a l b → ∀ x ∈ l, recordErr x = 0
  | y :: l, a, b, h, x, hx => by
    rcases List.mem_cons.1 hx with rfl | hx
    · exact h.1
    · exact Chain.mem h.2.2 x hx
theorem Chain.each : ∀ {l : List Chg} {a b : Int} (k : Nat), Chain a l b → 0 ≤ a → b < 1000000000000 → (eachRec l k a).2 = (0, b)
  | [], a, b, k, h, _, _ => by simp only [Chain] at h; subst h; rfl
  | x :: l, a, b, k, h, h0, h1 => by
    have hs := rec_sz h.1
    have hl := h.2.2.le
    have hr : recErr x a = 0 := by
      unfold recErr; rw [first_cons, if_pos h.1, first_cons, if_pos h.2.1]; rfl
    simp only [eachRec, if_pos hr]
    rw [wrap_in (by omega)]
    exact Chain.each (k + 1) h.2.2 (by omega) h1
theorem chain_of : ∀ (l : List Chg) (k : Nat) (a : Int), 0 ≤ a → a + 72 * l.length < 1000000000000 → (eachRec l k a).2.1 = 0 → Chain a l (eachRec l k a).2.2
  | [], k, a, _, _, _ => rfl
  | x :: l, k, a, h0, hb, he => by
    simp only [eachRec] at he ⊢
    simp only [List.length_cons] at hb
    by_cases hr : recErr x a = 0
    · rw [if_pos hr] at he ⊢
      have h1 : recordErr x = 0 ∧ x.usn = a := by
        unfold recErr at hr
        rw [first_cons] at hr
        by_cases h2 : recordErr x = 0
        · rw [if_pos h2, first_cons] at hr
          by_cases h3 : x.usn = a
          · exact ⟨h2, h3⟩
          · rw [if_neg h3] at hr; exact absurd hr (by decide)
        · rw [if_neg h2] at hr; exact absurd hr h2
      have hs := rec_sz h1.1
      rw [wrap_in (by omega)] at he ⊢
      exact ⟨h1.1, h1.2, chain_of l (k + 1) _ (by omega) (by omega) he⟩
    · rw [if_neg hr] at he; exact absurd he hr
theorem Valid.chain {j : Jrn} (V : Valid j) : Chain j.first j.recs j.next := by
  have h1 := V.nums
  have h2 := V.recs
  rw [V.each.2]
  exact chain_of _ _ _ (by omega) (by omega) V.each.1

/-- Open files in order, each with reasons that may be open. -/
structure OOk (l : List Opn) : Prop where
  each : ∀ x ∈ l, refErr x.file = 0 ∧ (1 ≤ x.reasons ∧ x.reasons ≤ 4095) ∧ has x.reasons 2048 = false
  srt : ∀ a b (h : b < l.length), (hab : a < b) → compare (l[a]'(by omega)).file l[b].file < 0
theorem OOk.to {m : List Opn} (h : OOk m) : ∀ (l : List Opn) (k : Nat), m.drop k = l → (eachOpn m l k).2 = 0
  | [], k, hd => rfl
  | y :: l, k, hd => by
    have hk : k < m.length := by
      have := congrArg List.length hd
      simp at this; omega
    have e := List.drop_eq_getElem_cons hk
    rw [hd] at e
    obtain ⟨e1, e2⟩ := List.cons.inj e
    have hy : opnErr m k y = 0 := by
      obtain ⟨h1, h2, h3⟩ := h.each y (by rw [e1]; exact List.getElem_mem _)
      unfold opnErr
      have hw : (within y.reasons 1 4095 && !has y.reasons 2048) = true := by rw [h3, within_iff.2 h2]; rfl
      rw [first_cons, if_pos h1, first_cons, if_pos (by rw [if_pos hw]), first_cons]
      by_cases h0 : k = 0
      · rw [if_pos h0, if_pos rfl]; rfl
      · rw [if_neg h0, List.getElem?_eq_getElem (by omega : k - 1 < m.length)]
        have := h.srt (k - 1) k hk (by omega)
        rw [← e1] at this
        simp only [if_pos this, first_nil, if_true]
    simp only [eachOpn, if_pos hy]
    exact OOk.to h l (k + 1) e2.symm
/-! ### Bits -/
/-! ### An event -/
/-- Between writes: everything is in order, the position may be a little too large. -/
structure Semi (j0 j : Jrn) (n : Nat) : Prop where
  id : j.id = j0.id
  first : j.first = j0.first
  most : j.most = j0.most
  opens : j.opens = j0.opens
  chain : Chain j.first j.recs j.next
  next : j0.next ≤ j.next ∧ j.next ≤ j0.next + 72 * n
theorem Semi.wr {j0 j : Jrn} {n : Nat} (V : Valid j0) (hn : n ≤ 10) (h : Semi j0 j n) {x : Chg} (hx : recordErr x = 0) : Semi j0 (j.wr x) (n + 1) := by
  have hs := rec_sz hx
  have hv := V.nums
  have h1 := h.next
  have hw : IntKind.i64.wrap (j.next + size x.name.length) = j.next + size x.name.length := wrap_in (by omega)
  refine ⟨h.id, h.first, h.most, h.opens, ?_, ?_⟩
  · simp only [Jrn.wr, hw]
    exact h.chain.app (x := { x with usn := j.next }) hx rfl
  · simp only [Jrn.wr, hw]; omega
section
variable {j : Jrn} {e : Evt} (V : Valid j) (he : eventErr e = 0)
include V he
end
end Go.Proofs.YtjbipdppgoldlaaGreatDoor

/-! Xo -/
namespace Go.Proofs.YtjbipdppgoldlaaGreatDoor
open Go Dw
set_option maxRecDepth 10000
set_option linter.unusedVariables false
set_option linter.unusedSimpArgs false
attribute [local irreducible] Run
set_option maxHeartbeats 4000000

/-- A journal after an event and its error, as the writer has them. -/
def nJ (j : Jrn) (e : Evt) : Jrn := if eventErr e = 0 then after j e else j
def nE (j : Jrn) (e : Evt) : Int := if eventErr e = 0 then (if full (after j e) then 16 else 0) else eventErr e
attribute [local irreducible] woI withI hasR after checkJ eventErr full

end Go.Proofs.YtjbipdppgoldlaaGreatDoor

/-! Xp -/
namespace Go.Proofs.YtjbipdppgoldlaaGreatDoor
open Go Dw
set_option maxRecDepth 10000
set_option linter.unusedVariables false
set_option linter.unusedSimpArgs false
attribute [local irreducible] Run
set_option maxHeartbeats 4000000

def trimT (j : Jrn) : Jrn := if (checkJ j).2 = 0 then j.trim else zeroJ
attribute [local irreducible] woI withI hasR after checkJ eventErr full noted nE nJ Jrn.trim

/-- A pointer to a writer, and the writer. -/
abbrev pS (j : Jrn) : Heap := [pO 1, wO j 2 3, rO j, oO j]
abbrev pT (j : Jrn) : Heap := [pO 1, wO j 4 5, dead 8, dead 3, rO j, oO j]

end Go.Proofs.YtjbipdppgoldlaaGreatDoor

/-! Xq -/
namespace Go.Proofs.YtjbipdppgoldlaaGreatDoor
open Go Dw
set_option maxRecDepth 10000
set_option linter.unusedVariables false
set_option linter.unusedSimpArgs false
attribute [local irreducible] Run
set_option maxHeartbeats 4000000

/-- Events, one after the other. -/
def nGo (J : Jrn) (k : Nat) : List Evt → Jrn × Int × Int
  | [] => (J, 0, 0)
  | e :: l => if nE J e = 0 then nGo (nJ J e) (k + 1) l else (nJ J e, k, nE J e)
attribute [local irreducible] woI withI hasR after checkJ eventErr full noted nE nJ Jrn.trim nGo allR

end Go.Proofs.YtjbipdppgoldlaaGreatDoor

/-! Xr -/
namespace Go.Proofs.YtjbipdppgoldlaaGreatDoor
open Go Dw
set_option maxRecDepth 10000
set_option linter.unusedVariables false
set_option linter.unusedSimpArgs false
attribute [local irreducible] Run
set_option maxHeartbeats 4000000

attribute [local irreducible] woI withI hasR after checkJ eventErr full noted nE nJ Jrn.trim nGo allR first

end Go.Proofs.YtjbipdppgoldlaaGreatDoor

/-! Xs -/
namespace Go.Proofs.YtjbipdppgoldlaaGreatDoor
open Go Dw
set_option maxRecDepth 10000
set_option linter.unusedVariables false
set_option linter.unusedSimpArgs false
attribute [local irreducible] Run
set_option maxHeartbeats 4000000

structure Bd (j : Jrn) : Prop where
  r : j.recs.length < 1000000
  n : ∀ x ∈ j.recs, x.name.length < 1000000
  o : j.opens.length < 1000000
theorem bd_zero : Bd zeroJ := ⟨by decide, fun x hx => by simp [zeroJ] at hx, by decide⟩
theorem bd_valid {j : Jrn} (V : Valid j) : Bd j := ⟨by have := V.recs; omega, valid_nm V, by have := V.opens; omega⟩
theorem c11b {a b : Jrn} (h : Bd a) (k : Bd b) : Fn 11 [a.enc, b.enc] (.bool (decide (a = b))) := c11 a b h.r k.r h.o k.o
attribute [local irreducible] woI withI hasR after checkJ eventErr full noted nE nJ Jrn.trim nGo allR first fewB shortB trimT

end Go.Proofs.YtjbipdppgoldlaaGreatDoor

/-! Yg -/
namespace Go.Proofs.YtjbipdppgoldlaaGreatDoor
open Go Dw
set_option maxRecDepth 10000
set_option linter.unusedVariables false
set_option linter.unusedSimpArgs false
attribute [local irreducible] Run
set_option maxHeartbeats 600000

theorem cJ9 (s : Bs) (hs : s.length < 1000000) : Fn 9 [.str s] (.tup [(jofR s).1.enc, i (jofR s).2]) := by
  by_cases h : 20000 < s.length
  · exact c9a s hs h
  · by_cases h2 : s.length < 18
    · exact c9b s hs h h2
    · exact c9l s hs h h2
theorem cJ10 (s : Bs) (hs : s.length < 1000000) : Fn 10 [.str s] (.tup [(jofR s).1.enc, i (jofR s).2]) := by
  by_cases h : 20000 < s.length
  · exact c10a s hs h
  · by_cases h2 : s.length < 18
    · exact c10b s hs h h2
    · exact c10l s hs h h2
theorem bd_jof (s : Bs) : Bd (jofR s).1 := by
  unfold jofR
  split
  · exact bd_zero
  · split
    · exact bd_zero
    · split
      · exact bd_zero
      · split
        · split
          · exact bd_valid (valid_of (by assumption))
          · exact bd_zero
        · exact bd_zero
attribute [local irreducible] jofR ofR

theorem c3a (s : Bs) (h9 : ¬ (9000 : Int) < s.length) : Fn 3 [.str s] (.bool true) := by
  have hs : s.length < 1000000 := (by omega)
  refine run_walkF eok Tryz.func3 rfl (by kernel_rfl) ?_
  conv => whnf
  repeat' (first
    | ((with_reducible refine on_dec_t (by assumption) ?_); conv => whnf)
    | ((with_reducible refine on_dec_f (by assumption) ?_); conv => whnf)
    | ((with_reducible refine onBool_t (by assumption) ?_); conv => whnf)
    | ((with_reducible refine onBool_f (by assumption) ?_); conv => whnf)
    | ((with_reducible refine on_nt (by assumption) ?_); conv => whnf)
    | ((with_reducible refine on_nf (by assumption) ?_); conv => whnf)
    | ((with_reducible refine on_ndec_t (by first | assumption | rfl) ?_); conv => whnf)
    | ((with_reducible refine on_ndec_f (by assumption) ?_); conv => whnf)
    | ((with_reducible refine on_dec_t rfl ?_); conv => whnf)
    | (refine on_chg (fun h => ?_) (fun h => ?_) <;> conv => whnf)
    | ((with_reducible refine on_dec_f ?_ ?_); (focus ((try simp only [List.length_map, List.length_cons, List.length_nil, List.length_append]); omega)); conv => whnf)
    | ((with_reducible refine on_dec_t ?_ ?_); (focus ((try simp only [List.length_map, List.length_cons, List.length_nil, List.length_append]); omega)); conv => whnf)
    | ((with_reducible refine on_dec (fun h => ?_) (fun h => ?_)) <;> (try simp only [List.length_map] at h) <;> conv => whnf)
    | ((with_reducible refine on_ndec (fun h => ?_) (fun h => ?_)) <;> (try simp only [List.length_map] at h) <;> conv => whnf)
    | ((with_reducible refine on_not (fun h => ?_) (fun h => ?_)) <;> conv => whnf)
    | ((with_reducible refine onBool_split (fun h => ?_) (fun h => ?_)) <;> conv => whnf)
    | ((with_reducible refine call_go ?_); (first | refine call_step (run_data (xs := []) c9 _) ?_ | refine call_step (run_view (c6 _ 20001 20010) rfl rfl) ?_ | refine call_step (run_data (xs := [_]) (c7 s hs) _) ?_ | refine call_step (run_data (xs := [_]) (c8 s hs) _) ?_ | refine call_step (run_data (xs := [_]) (cJ9 s hs) _) ?_ | refine call_step (run_data (xs := [_]) (cJ10 s hs) _) ?_ | refine call_step (run_data (xs := [_, _]) (c11b (bd_jof s) (bd_jof s)) _) ?_); conv => whnf)
    | (refine ⟨⟨(by first | rfl | (simp; done)), cap_ok (by simp only [List.length_map, List.length_cons, List.length_nil, List.length_append]; omega) rfl⟩, ?_⟩; conv => whnf)
    | (refine ⟨mem_one ⟨rfl, rfl⟩, ?_⟩; conv => whnf)
    | (refine ⟨(by intro y hy; obtain ⟨x, _, rfl⟩ := List.mem_map.1 hy; first | rfl | exact ⟨rfl, rfl⟩), ?_⟩; conv => whnf)
    | (refine ⟨cap_ok (by first | omega | (simp only [List.length_map]; omega)) rfl, ?_⟩; conv => whnf)
    | (refine ix_map (by omega) ?_; conv => whnf)
    | (refine ix_str (by omega) ?_; conv => whnf)
    | (refine wrap64 (by omega) ?_; conv => whnf)
    | (exfalso; simp only [List.length_map, List.length_cons, List.length_nil, List.length_append] at h; omega)
    | ((with_reducible refine endx_go ?_); first | (exact endx rfl; done) | (exact endx (congrArg D.bool (decide_eq_true rfl)); done) | (exact absurd rfl h; done))
    | (refine ⟨rfl, ?_⟩; conv => whnf)
    | fail
    )

theorem c3b (s : Bs) (h9 : (9000 : Int) < s.length) (hw : within s.length 20001 20010 = true) : Fn 3 [.str s] (.bool true) := by
  have hs : s.length < 1000000 := (by have := within_iff.1 hw; omega)
  refine run_walkF eok Tryz.func3 rfl (by kernel_rfl) ?_
  conv => whnf
  repeat' (first
    | ((with_reducible refine on_dec_t (by assumption) ?_); conv => whnf)
    | ((with_reducible refine on_dec_f (by assumption) ?_); conv => whnf)
    | ((with_reducible refine onBool_t (by assumption) ?_); conv => whnf)
    | ((with_reducible refine onBool_f (by assumption) ?_); conv => whnf)
    | ((with_reducible refine on_nt (by assumption) ?_); conv => whnf)
    | ((with_reducible refine on_nf (by assumption) ?_); conv => whnf)
    | ((with_reducible refine on_ndec_t (by first | assumption | rfl) ?_); conv => whnf)
    | ((with_reducible refine on_ndec_f (by assumption) ?_); conv => whnf)
    | ((with_reducible refine on_dec_t rfl ?_); conv => whnf)
    | (refine on_chg (fun h => ?_) (fun h => ?_) <;> conv => whnf)
    | ((with_reducible refine on_dec_f ?_ ?_); (focus ((try simp only [List.length_map, List.length_cons, List.length_nil, List.length_append]); omega)); conv => whnf)
    | ((with_reducible refine on_dec_t ?_ ?_); (focus ((try simp only [List.length_map, List.length_cons, List.length_nil, List.length_append]); omega)); conv => whnf)
    | ((with_reducible refine on_dec (fun h => ?_) (fun h => ?_)) <;> (try simp only [List.length_map] at h) <;> conv => whnf)
    | ((with_reducible refine on_ndec (fun h => ?_) (fun h => ?_)) <;> (try simp only [List.length_map] at h) <;> conv => whnf)
    | ((with_reducible refine on_not (fun h => ?_) (fun h => ?_)) <;> conv => whnf)
    | ((with_reducible refine onBool_split (fun h => ?_) (fun h => ?_)) <;> conv => whnf)
    | ((with_reducible refine call_go ?_); (first | refine call_step (run_data (xs := []) c9 _) ?_ | refine call_step (run_view (c6 _ 20001 20010) rfl rfl) ?_ | refine call_step (run_data (xs := [_]) (c7 s hs) _) ?_ | refine call_step (run_data (xs := [_]) (c8 s hs) _) ?_ | refine call_step (run_data (xs := [_]) (cJ9 s hs) _) ?_ | refine call_step (run_data (xs := [_]) (cJ10 s hs) _) ?_ | refine call_step (run_data (xs := [_, _]) (c11b (bd_jof s) (bd_jof s)) _) ?_); conv => whnf)
    | (refine ⟨⟨(by first | rfl | (simp; done)), cap_ok (by simp only [List.length_map, List.length_cons, List.length_nil, List.length_append]; omega) rfl⟩, ?_⟩; conv => whnf)
    | (refine ⟨mem_one ⟨rfl, rfl⟩, ?_⟩; conv => whnf)
    | (refine ⟨(by intro y hy; obtain ⟨x, _, rfl⟩ := List.mem_map.1 hy; first | rfl | exact ⟨rfl, rfl⟩), ?_⟩; conv => whnf)
    | (refine ⟨cap_ok (by first | omega | (simp only [List.length_map]; omega)) rfl, ?_⟩; conv => whnf)
    | (refine ix_map (by omega) ?_; conv => whnf)
    | (refine ix_str (by omega) ?_; conv => whnf)
    | (refine wrap64 (by omega) ?_; conv => whnf)
    | (exfalso; simp only [List.length_map, List.length_cons, List.length_nil, List.length_append] at h; omega)
    | ((with_reducible refine endx_go ?_); first | (exact endx rfl; done) | (exact endx (congrArg D.bool (decide_eq_true rfl)); done) | (exact absurd rfl h; done))
    | (refine ⟨rfl, ?_⟩; conv => whnf)
    | fail
    )

theorem c3c (s : Bs) (h9 : (9000 : Int) < s.length) (hw : within s.length 20001 20010 = false) : Fn 3 [.str s] (.bool true) := by
  refine run_walkF eok Tryz.func3 rfl (by kernel_rfl) ?_
  conv => whnf
  repeat' (first
    | ((with_reducible refine on_dec_t (by assumption) ?_); conv => whnf)
    | ((with_reducible refine on_dec_f (by assumption) ?_); conv => whnf)
    | ((with_reducible refine onBool_t (by assumption) ?_); conv => whnf)
    | ((with_reducible refine onBool_f (by assumption) ?_); conv => whnf)
    | ((with_reducible refine on_nt (by assumption) ?_); conv => whnf)
    | ((with_reducible refine on_nf (by assumption) ?_); conv => whnf)
    | ((with_reducible refine on_ndec_t (by first | assumption | rfl) ?_); conv => whnf)
    | ((with_reducible refine on_ndec_f (by assumption) ?_); conv => whnf)
    | ((with_reducible refine on_dec_t rfl ?_); conv => whnf)
    | (refine on_chg (fun h => ?_) (fun h => ?_) <;> conv => whnf)
    | ((with_reducible refine on_dec_f ?_ ?_); (focus ((try simp only [List.length_map, List.length_cons, List.length_nil, List.length_append]); omega)); conv => whnf)
    | ((with_reducible refine on_dec_t ?_ ?_); (focus ((try simp only [List.length_map, List.length_cons, List.length_nil, List.length_append]); omega)); conv => whnf)
    | ((with_reducible refine on_dec (fun h => ?_) (fun h => ?_)) <;> (try simp only [List.length_map] at h) <;> conv => whnf)
    | ((with_reducible refine on_ndec (fun h => ?_) (fun h => ?_)) <;> (try simp only [List.length_map] at h) <;> conv => whnf)
    | ((with_reducible refine on_not (fun h => ?_) (fun h => ?_)) <;> conv => whnf)
    | ((with_reducible refine onBool_split (fun h => ?_) (fun h => ?_)) <;> conv => whnf)
    | ((with_reducible refine call_go ?_); (first | refine call_step (run_data (xs := []) c9 _) ?_ | refine call_step (run_view (c6 _ 20001 20010) rfl rfl) ?_ | refine call_step (run_data (xs := [_]) (c7 s hs) _) ?_ | refine call_step (run_data (xs := [_]) (c8 s hs) _) ?_ | refine call_step (run_data (xs := [_]) (cJ9 s hs) _) ?_ | refine call_step (run_data (xs := [_]) (cJ10 s hs) _) ?_ | refine call_step (run_data (xs := [_, _]) (c11b (bd_jof s) (bd_jof s)) _) ?_); conv => whnf)
    | (refine ⟨⟨(by first | rfl | (simp; done)), cap_ok (by simp only [List.length_map, List.length_cons, List.length_nil, List.length_append]; omega) rfl⟩, ?_⟩; conv => whnf)
    | (refine ⟨mem_one ⟨rfl, rfl⟩, ?_⟩; conv => whnf)
    | (refine ⟨(by intro y hy; obtain ⟨x, _, rfl⟩ := List.mem_map.1 hy; first | rfl | exact ⟨rfl, rfl⟩), ?_⟩; conv => whnf)
    | (refine ⟨cap_ok (by first | omega | (simp only [List.length_map]; omega)) rfl, ?_⟩; conv => whnf)
    | (refine ix_map (by omega) ?_; conv => whnf)
    | (refine ix_str (by omega) ?_; conv => whnf)
    | (refine wrap64 (by omega) ?_; conv => whnf)
    | (exfalso; simp only [List.length_map, List.length_cons, List.length_nil, List.length_append] at h; omega)
    | ((with_reducible refine endx_go ?_); first | (exact endx rfl; done) | (exact endx (congrArg D.bool (decide_eq_true rfl)); done) | (exact absurd rfl h; done))
    | (refine ⟨rfl, ?_⟩; conv => whnf)
    | fail
    )

theorem c3 (s : Bs) : Fn 3 [.str s] (.bool true) := by
  by_cases h9 : (9000 : Int) < s.length
  · cases hw : within s.length 20001 20010 with
    | true => exact c3b s h9 hw
    | false => exact c3c s h9 hw
  · exact c3a s h9

end Go.Proofs.YtjbipdppgoldlaaGreatDoor
