/-
  Chapter 24: ChangesReads holds at every input: no condition of ours.
-/
import Derived.Test.YtjbipdppgoldlaaGrpH
set_option linter.unusedVariables false
set_option linter.unusedSimpArgs false

/-! Wt -/
namespace Go.Proofs.Ytjbipdppgoldlaa
open Go Dw
set_option maxRecDepth 10000
set_option linter.unusedVariables false
set_option linter.unusedSimpArgs false
attribute [local irreducible] Run
set_option maxHeartbeats 2000000

def Rd.keep (q : Qry) (x : Chg) : Bool := !decide (woI x.reasons q.reasons = x.reasons) && (!q.only || hasR x.reasons 2048)
def rdGo (q : Qry) : List Chg → Bool → List Chg → Int → Bool × List Chg × Int
  | [], found, out, nx => (found, out, nx)
  | x :: l, found, out, nx =>
    if decide (q.pos ≤ x.usn) && Rd.keep q x && decide ((out.length : Int) < q.count) then
      rdGo q l (found || decide (x.usn = q.pos)) (out ++ [x]) (if ((out.length + 1 : Nat) : Int) = q.count then IntKind.i64.wrap (x.usn + size x.name.length) else nx)
    else rdGo q l (found || decide (x.usn = q.pos)) out nx
theorem rdGo_drop {q : Qry} {l : List Chg} {k : Nat} {f : Bool} {out : List Chg} {nx : Int} (h : k < l.length) : rdGo q (l.drop k) f out nx =
    if decide (q.pos ≤ l[k].usn) && Rd.keep q l[k] && decide ((out.length : Int) < q.count) then
      rdGo q (l.drop (k + 1)) (f || decide (l[k].usn = q.pos)) (out ++ [l[k]]) (if ((out.length + 1 : Nat) : Int) = q.count then IntKind.i64.wrap (l[k].usn + size l[k].name.length) else nx)
    else rdGo q (l.drop (k + 1)) (f || decide (l[k].usn = q.pos)) out nx := by
  rw [List.drop_eq_getElem_cons h]; rfl
theorem rdGo_end {q : Qry} {l : List Chg} {k : Nat} {f : Bool} {out : List Chg} {nx : Int} (h : l.length ≤ k) : rdGo q (l.drop k) f out nx = (f, out, nx) := by
  rw [List.drop_eq_nil_of_le h]; rfl
def readR (j : Jrn) (q : Qry) : List Chg × Int × Int :=
  if (checkJ j).2 ≠ 0 then ([], 0, (checkJ j).2)
  else if q.id ≠ j.id ∨ q.pos < j.first then ([], 0, 32)
  else if j.next < q.pos ∨ within q.reasons 0 4095 = false ∨ within q.count 1 200 = false then ([], 0, 2)
  else if (rdGo q j.recs (decide (q.pos = j.next)) [] j.next).1 = false then ([], 0, 14)
  else ((rdGo q j.recs (decide (q.pos = j.next)) [] j.next).2.1, (rdGo q j.recs (decide (q.pos = j.next)) [] j.next).2.2, 0)
attribute [local irreducible] woI withI hasR has within size rdGo Rd.keep

theorem c42 (j : Jrn) (q : Qry) (hr : j.recs.length < 1000000) (hn : ∀ x ∈ j.recs, x.name.length < 1000000) (ho : j.opens.length < 1000000) : Fn 42 [j.enc, q.enc] (.tup [.fs ((readR j q).1.map Chg.enc), i (readR j q).2.1, i (readR j q).2.2]) := by
  refine run_walkF eok Try.func42 rfl (by kernel_rfl) ?_
  conv => whnf
  repeat' (first
    | ((with_reducible refine on_dec_f ?_ ?_); (focus ((try simp only [List.length_map, List.length_cons, List.length_nil, List.length_append]); omega)); conv => whnf)
    | ((with_reducible refine on_dec_t ?_ ?_); (focus ((try simp only [List.length_map, List.length_cons, List.length_nil, List.length_append]); omega)); conv => whnf)
    | ((with_reducible refine on_dec (fun h => ?_) (fun h => ?_)) <;> (try simp only [List.length_map] at h) <;> conv => whnf)
    | ((with_reducible refine on_ndec (fun h => ?_) (fun h => ?_)) <;> (try simp only [List.length_map] at h) <;> conv => whnf)
    | ((with_reducible refine on_not (fun h => ?_) (fun h => ?_)) <;> conv => whnf)
    | ((with_reducible refine onBool_split (fun h => ?_) (fun h => ?_)) <;> conv => whnf)
    | ((with_reducible refine call_go ?_); (first | refine call_step (run_view (c11 _ hr hn ho) rfl rfl) ?_ | refine call_step (run_view (c24 _ _ _) rfl rfl) ?_ | refine call_step (run_view (c14 _ _ (hv _ (List.getElem_mem _)) hq) rfl rfl) ?_ | refine call_step (run_view (c15 _ _ (by decide)) rfl rfl) ?_ | refine call_step (run_view (c21 _ (hn _ (List.getElem_mem _))) rfl rfl) ?_); conv => whnf)
    | (refine ⟨[], [(6, 4)], (by decide +kernel), ?_⟩; conv => whnf)
    | (refine ⟨[], [(1, 4)], (by decide +kernel), ?_⟩; conv => whnf)
    | ((with_reducible refine loop_go ?_); first | (refine loop4 (fun (k : Nat) (f : Bool) (out : List Chg) (n : Int) => j.recs.length - k) (fun (k : Nat) (f : Bool) (out : List Chg) (n : Int) => k ≤ j.recs.length ∧ out.length ≤ k ∧ rdGo q j.recs (decide (q.pos = j.next)) [] j.next = rdGo q (j.recs.drop k) f out n) (fun (k : Nat) (f : Bool) (out : List Chg) (n : Int) => [(2, .ptr 0 0 0), (3, .ptr 1 0 0), (8, .d (.bool f)), (9, .sl 2 0 out.length 8 none), (10, .d (i n)), (11, .d (i k))]) (fun (k : Nat) (f : Bool) (out : List Chg) (n : Int) => [⟨[.d j.enc], 6, 0⟩, ⟨[.d q.enc], 5, 0⟩, ⟨(out.map Chg.enc).map .d, 8, 0⟩]) (0) (decide (q.pos = j.next)) ([]) (j.next) (by exact ⟨by omega, by simp, rfl⟩) ?_ (fun k f out n C hI hC => ?_); (exact ⟨[.old 0, .old 1, .void 8], rfl, rfl, ⟨⟨rfl, rfl, rfl⟩, ⟨rfl, rfl, rfl⟩, rfl, ⟨rfl, rfl, rfl, rfl⟩, rfl, rfl, trivial⟩, ⟨⟨rfl, rfl, .inl ⟨[_], rfl, rfl⟩⟩, ⟨rfl, rfl, .inl ⟨[_], rfl, rfl⟩⟩, ⟨rfl, rfl, (by decide), rfl⟩, trivial⟩⟩); have hv := fun x hx => (recordErr_ok ((valid_of (by assumption)).recOk x hx)).2.2.2.1; have hv : ∀ x ∈ j.recs, 0 ≤ x.reasons ∧ x.reasons ≤ 4095 := fun x hx => ⟨by have := hv x hx; omega, (hv x hx).2⟩; have hq : 0 ≤ q.reasons ∧ q.reasons ≤ 4095 := within_iff.1 (by assumption); all_goals (conv => whnf)))
    | ((with_reducible show C _ _); first | (refine hC (k + 1) (f || decide ((j.recs[k]'(by omega)).usn = q.pos)) (out) (n) _ _ ?_ (by omega) ?_; clear hC; rotate_left; (exact ⟨[.old 0, .old 1, .old 2], rfl, rfl, ⟨⟨rfl, rfl, rfl⟩, ⟨rfl, rfl, rfl⟩, (by first | rfl | (refine congrArg D.bool ?_; simp_all)), ⟨rfl, rfl, (by simp), rfl, rfl⟩, (by first | (show (_ : D) = _; with_reducible rfl) | exact congrArg (D.int .i64) (by omega)), (by first | (show (_ : D) = _; with_reducible rfl) | exact congrArg (D.int .i64) (by omega)), trivial⟩, ⟨⟨rfl, rfl, .inl ⟨[_], rfl, rfl⟩⟩, ⟨rfl, rfl, .inl ⟨[_], rfl, rfl⟩⟩, ⟨rfl, rfl, .inr (wksd _ _)⟩, trivial⟩⟩); (exact ⟨by omega, by (first | omega | (simp; omega)), by rw [hI.2.2, rdGo_drop (by omega)]; grind [Rd.keep]⟩)) | (refine hC (k + 1) (f || decide ((j.recs[k]'(by omega)).usn = q.pos)) (out ++ [(j.recs[k]'(by omega))]) (IntKind.i64.wrap ((j.recs[k]'(by omega)).usn + size (j.recs[k]'(by omega)).name.length)) _ _ ?_ (by omega) ?_; clear hC; rotate_left; (exact ⟨[.old 0, .old 1, .old 5], rfl, rfl, ⟨⟨rfl, rfl, rfl⟩, ⟨rfl, rfl, rfl⟩, (by first | rfl | (refine congrArg D.bool ?_; simp_all)), ⟨rfl, rfl, (by simp), rfl, rfl⟩, (by first | (show (_ : D) = _; with_reducible rfl) | exact congrArg (D.int .i64) (by omega)), (by first | (show (_ : D) = _; with_reducible rfl) | exact congrArg (D.int .i64) (by omega)), trivial⟩, ⟨⟨rfl, rfl, .inl ⟨[_], rfl, rfl⟩⟩, ⟨rfl, rfl, .inl ⟨[_], rfl, rfl⟩⟩, ⟨rfl, rfl, .inr (wks_add (wksd _ _) rfl)⟩, trivial⟩⟩); (exact ⟨by omega, by (first | omega | (simp; omega)), by rw [hI.2.2, rdGo_drop (by omega)]; grind [Rd.keep]⟩)) | (refine hC (k + 1) (f || decide ((j.recs[k]'(by omega)).usn = q.pos)) (out ++ [(j.recs[k]'(by omega))]) (n) _ _ ?_ (by omega) ?_; clear hC; rotate_left; (exact ⟨[.old 0, .old 1, .old 5], rfl, rfl, ⟨⟨rfl, rfl, rfl⟩, ⟨rfl, rfl, rfl⟩, (by first | rfl | (refine congrArg D.bool ?_; simp_all)), ⟨rfl, rfl, (by simp), rfl, rfl⟩, (by first | (show (_ : D) = _; with_reducible rfl) | exact congrArg (D.int .i64) (by omega)), (by first | (show (_ : D) = _; with_reducible rfl) | exact congrArg (D.int .i64) (by omega)), trivial⟩, ⟨⟨rfl, rfl, .inl ⟨[_], rfl, rfl⟩⟩, ⟨rfl, rfl, .inl ⟨[_], rfl, rfl⟩⟩, ⟨rfl, rfl, .inr (wks_add (wksd _ _) rfl)⟩, trivial⟩⟩); (exact ⟨by omega, by (first | omega | (simp; omega)), by rw [hI.2.2, rdGo_drop (by omega)]; grind [Rd.keep]⟩)))
    | (refine ⟨⟨(by first | rfl | (simp; done)), cap_ok (by simp only [List.length_map, List.length_cons, List.length_nil, List.length_append]; omega) rfl⟩, ?_⟩; conv => whnf)
    | (refine ⟨mem_one ⟨rfl, rfl⟩, ?_⟩; conv => whnf)
    | (refine ⟨(by intro y hy; obtain ⟨x, _, rfl⟩ := List.mem_map.1 hy; first | rfl | exact ⟨rfl, rfl⟩), ?_⟩; conv => whnf)
    | (refine ⟨cap_ok (by first | omega | (simp only [List.length_map]; omega)) rfl, ?_⟩; conv => whnf)
    | (refine ix_map (by omega) ?_; conv => whnf)
    | (refine ix_str (by omega) ?_; conv => whnf)
    | (refine wrap64 (by omega) ?_; conv => whnf)
    | (refine wrap_raw ?_; conv => whnf)
    | (refine ⟨(by simp), ?_⟩; conv => whnf)
    | (exfalso; simp only [List.length_map, List.length_cons, List.length_nil, List.length_append] at h; omega)
    | ((with_reducible refine endx_go ?_); first | (refine endxv (view_tup (vlc (view_map rfl Nat.two_pos) (vlc rfl (vlc rfl vln)))) ?_; have he := rdGo_end (q := q) (l := j.recs) (k := k) (f := f) (out := out) (nx := n) (by omega); have : readR j q = (out, n, 0) := (by simp only [readR]; grind); rw [this]; done) | (refine endxv (view_tup (vlc rfl (vlc rfl (vlc rfl vln)))) ?_; rw [show readR j q = ([], 0, (checkJ j).2) from (by (simp only [readR]; grind))]; rfl; done) | (refine endxv (view_tup (vlc rfl (vlc rfl (vlc rfl vln)))) ?_; rw [show readR j q = ([], 0, 32) from (by (simp only [readR]; grind))]; rfl; done) | (refine endxv (view_tup (vlc rfl (vlc rfl (vlc rfl vln)))) ?_; rw [show readR j q = ([], 0, 2) from (by (simp only [readR]; grind))]; rfl; done) | (refine endxv (view_tup (vlc rfl (vlc rfl (vlc rfl vln)))) ?_; rw [show readR j q = ([], 0, 14) from (by have he := rdGo_end (q := q) (l := j.recs) (k := k) (f := f) (out := out) (nx := n) (by omega); (simp only [readR]; grind))]; rfl; done))
    | (refine ⟨rfl, ?_⟩; conv => whnf)
    | fail
    )

end Go.Proofs.Ytjbipdppgoldlaa

/-! Xe -/
namespace Go.Proofs.Ytjbipdppgoldlaa
open Go Dw
set_option maxRecDepth 10000
set_option linter.unusedVariables false
set_option linter.unusedSimpArgs false
attribute [local irreducible] Run
set_option maxHeartbeats 2000000

def opAt (l : List Opn) (f : Ref) : Nat × Bool := bsR (fun x => compare x.file f) l
theorem c104q (l : List Opn) (f : Ref) (hl : l.length < 1000000) : Fn 104 [.fs (l.map Opn.enc), f.enc, .fn 105 [] []] (.tup [i (opAt l f).1, .bool (opAt l f).2]) := c104 l f hl
theorem opAt_lt {l : List Opn} {f : Ref} (h : (opAt l f).2 = true) : (opAt l f).1 < l.length := by
  unfold opAt bsR at *
  simp only at *
  split at h
  · rename_i x hx; exact (List.getElem?_eq_some_iff.1 hx).1
  · exact absurd h (by decide)
def openB (l : List Opn) (f : Ref) : Int := if h : (opAt l f).2 = true then (l[(opAt l f).1]'(opAt_lt h)).reasons else 0
attribute [local irreducible] opAt compare

theorem c95 (j : Jrn) (f : Ref) (ho : j.opens.length < 1000000) : Fn 95 [.fp j.enc 0, f.enc] (.tup [i (opAt j.opens f).1, .bool (opAt j.opens f).2]) := by
  refine run_walkF eok Try.func95 rfl (by kernel_rfl) ?_
  conv => whnf
  repeat' (first
    | ((with_reducible refine on_dec_f ?_ ?_); (focus ((try simp only [List.length_map, List.length_cons, List.length_nil, List.length_append]); omega)); conv => whnf)
    | ((with_reducible refine on_dec_t ?_ ?_); (focus ((try simp only [List.length_map, List.length_cons, List.length_nil, List.length_append]); omega)); conv => whnf)
    | ((with_reducible refine on_dec (fun h => ?_) (fun h => ?_)) <;> (try simp only [List.length_map] at h) <;> conv => whnf)
    | ((with_reducible refine on_ndec (fun h => ?_) (fun h => ?_)) <;> (try simp only [List.length_map] at h) <;> conv => whnf)
    | ((with_reducible refine on_not (fun h => ?_) (fun h => ?_)) <;> conv => whnf)
    | ((with_reducible refine onBool_split (fun h => ?_) (fun h => ?_)) <;> conv => whnf)
    | ((with_reducible refine call_go ?_); (first | refine call_step (run_view (c104q _ _ ho) rfl rfl) ?_); conv => whnf)
    | (refine ⟨[], [], (by decide +kernel), ?_⟩; conv => whnf)
    | (refine ⟨⟨(by first | rfl | (simp; done)), cap_ok (by simp only [List.length_map, List.length_cons, List.length_nil, List.length_append]; omega) rfl⟩, ?_⟩; conv => whnf)
    | (refine ⟨mem_one ⟨rfl, rfl⟩, ?_⟩; conv => whnf)
    | (refine ⟨(by intro y hy; obtain ⟨x, _, rfl⟩ := List.mem_map.1 hy; first | rfl | exact ⟨rfl, rfl⟩), ?_⟩; conv => whnf)
    | (refine ⟨cap_ok (by first | omega | (simp only [List.length_map]; omega)) rfl, ?_⟩; conv => whnf)
    | (refine ix_map (by omega) ?_; conv => whnf)
    | (refine ix_str (by omega) ?_; conv => whnf)
    | (refine wrap64 (by omega) ?_; conv => whnf)
    | (refine wrap64 (by omega) ?_; conv => whnf)
    | (exfalso; simp only [List.length_map, List.length_cons, List.length_nil, List.length_append] at h; omega)
    | ((with_reducible refine endx_go ?_); first | (exact endx2 rfl; done))
    | (refine ⟨rfl, ?_⟩; conv => whnf)
    | fail
    )

theorem c74 (j : Jrn) (f : Ref) (ho : j.opens.length < 1000000) : Fn 74 [.fp j.enc 0, f.enc] (i (openB j.opens f)) := by
  refine run_walkF eok Try.func74 rfl (by kernel_rfl) ?_
  conv => whnf
  repeat' (first
    | ((with_reducible refine on_dec_f ?_ ?_); (focus ((try simp only [List.length_map, List.length_cons, List.length_nil, List.length_append]); omega)); conv => whnf)
    | ((with_reducible refine on_dec_t ?_ ?_); (focus ((try simp only [List.length_map, List.length_cons, List.length_nil, List.length_append]); omega)); conv => whnf)
    | ((with_reducible refine on_dec (fun h => ?_) (fun h => ?_)) <;> (try simp only [List.length_map] at h) <;> conv => whnf)
    | ((with_reducible refine on_ndec (fun h => ?_) (fun h => ?_)) <;> (try simp only [List.length_map] at h) <;> conv => whnf)
    | ((with_reducible refine on_not (fun h => ?_) (fun h => ?_)) <;> conv => whnf)
    | ((with_reducible refine onBool_split (fun h => ?_) (fun h => ?_)) <;> conv => whnf)
    | ((with_reducible refine call_go ?_); (first | refine call_step (run_view (c95 _ _ ho) rfl rfl) ?_); conv => whnf)
    | (refine ⟨⟨(by first | rfl | (simp; done)), cap_ok (by simp only [List.length_map, List.length_cons, List.length_nil, List.length_append]; omega) rfl⟩, ?_⟩; conv => whnf)
    | (refine ⟨mem_one ⟨rfl, rfl⟩, ?_⟩; conv => whnf)
    | (refine ⟨(by intro y hy; obtain ⟨x, _, rfl⟩ := List.mem_map.1 hy; first | rfl | exact ⟨rfl, rfl⟩), ?_⟩; conv => whnf)
    | (refine ⟨cap_ok (by first | omega | (simp only [List.length_map]; omega)) rfl, ?_⟩; conv => whnf)
    | (refine ix_map (by omega) ?_; conv => whnf)
    | (refine ix_str (by omega) ?_; conv => whnf)
    | (refine wrap64 (by omega) ?_; conv => whnf)
    | (refine ix_map (l := j.opens) (f := Opn.enc) (opAt_lt h) ?_; conv => whnf)
    | (refine wrap64 (by omega) ?_; conv => whnf)
    | (exfalso; simp only [List.length_map, List.length_cons, List.length_nil, List.length_append] at h; omega)
    | ((with_reducible refine endx_go ?_); first | (exact endx (congrArg i (by unfold openB; rw [dif_pos h])); done) | (exact endx (congrArg i (by unfold openB; rw [dif_neg (by simp [h])])); done))
    | (refine ⟨rfl, ?_⟩; conv => whnf)
    | fail
    )

theorem c29 (j : Jrn) (f : Ref) (hr : j.recs.length < 1000000) (hn : ∀ x ∈ j.recs, x.name.length < 1000000) (ho : j.opens.length < 1000000) : Fn 29 [j.enc, f.enc] (.tup [i (if first [(checkJ j).2, refErr f] = 0 then openB j.opens f else 0), i (first [(checkJ j).2, refErr f])]) := by
  refine run_walkF eok Try.func29 rfl (by kernel_rfl) ?_
  conv => whnf
  repeat' (first
    | ((with_reducible refine on_dec_f ?_ ?_); (focus ((try simp only [List.length_map, List.length_cons, List.length_nil, List.length_append]); omega)); conv => whnf)
    | ((with_reducible refine on_dec_t ?_ ?_); (focus ((try simp only [List.length_map, List.length_cons, List.length_nil, List.length_append]); omega)); conv => whnf)
    | ((with_reducible refine on_dec (fun h => ?_) (fun h => ?_)) <;> (try simp only [List.length_map] at h) <;> conv => whnf)
    | ((with_reducible refine on_ndec (fun h => ?_) (fun h => ?_)) <;> (try simp only [List.length_map] at h) <;> conv => whnf)
    | ((with_reducible refine on_not (fun h => ?_) (fun h => ?_)) <;> conv => whnf)
    | ((with_reducible refine onBool_split (fun h => ?_) (fun h => ?_)) <;> conv => whnf)
    | ((with_reducible refine call_go ?_); (first | refine call_step (run_view (c53 _ hr hn ho) rfl rfl) ?_ | refine call_step (run_view (c64 f) rfl rfl) ?_ | refine call_step (run_view (c52 [(checkJ j).2, refErr f] (by simp)) rfl rfl) ?_ | refine call_step (run_view (c74 j f ho) rfl rfl) ?_); conv => whnf)
    | (refine ⟨[], [(2, 1)], (by decide +kernel), ?_⟩; conv => whnf)
    | (refine ⟨⟨(by first | rfl | (simp; done)), cap_ok (by simp only [List.length_map, List.length_cons, List.length_nil, List.length_append]; omega) rfl⟩, ?_⟩; conv => whnf)
    | (refine ⟨mem_one ⟨rfl, rfl⟩, ?_⟩; conv => whnf)
    | (refine ⟨(by intro y hy; obtain ⟨x, _, rfl⟩ := List.mem_map.1 hy; first | rfl | exact ⟨rfl, rfl⟩), ?_⟩; conv => whnf)
    | (refine ⟨cap_ok (by first | omega | (simp only [List.length_map]; omega)) rfl, ?_⟩; conv => whnf)
    | (refine ix_map (by omega) ?_; conv => whnf)
    | (refine ix_str (by omega) ?_; conv => whnf)
    | (refine wrap64 (by omega) ?_; conv => whnf)
    | (refine wrap64 (by omega) ?_; conv => whnf)
    | (exfalso; simp only [List.length_map, List.length_cons, List.length_nil, List.length_append] at h; omega)
    | ((with_reducible refine endx_go ?_); first | (refine endx2 ?_; (rw [if_neg h]) <;> rfl; done) | (refine endx2 ?_; (rw [if_pos h, h]) <;> rfl; done))
    | (refine ⟨rfl, ?_⟩; conv => whnf)
    | fail
    )

end Go.Proofs.Ytjbipdppgoldlaa

/-! Pd -/
namespace Go.Proofs.Ytjbipdppgoldlaa
open Go Dw

theorem keep_skip {q : Qry} {x : Chg} (hx : 1 ≤ x.reasons ∧ x.reasons ≤ 4095) (hq : 0 ≤ q.reasons ∧ q.reasons ≤ 4095) : Rd.keep q x = !Rd.skip q x := by
  have h1 := woI_same (a := x.reasons) (b := q.reasons) (by omega) hq
  have h2 := hasR_close (x := x.reasons) (within_iff.2 hx)
  rw [skip_eq]
  unfold Rd.keep
  rw [h2]
  by_cases h3 : woI x.reasons q.reasons = x.reasons
  · have h4 := h1.1 h3
    simp [h3, h4]
  · have h4 : ¬ bitsOf .and .i64 x.reasons q.reasons = 0 := fun h => h3 (h1.2 h)
    simp [h3, h4]

theorem rdGo_full {q : Qry} : ∀ (l : List Chg) (f : Bool) (out : List Chg) (nx : Int), ¬ (out.length : Int) < q.count → (rdGo q l f out nx).2 = (out, nx)
  | [], f, out, nx, _ => rfl
  | x :: l, f, out, nx, h => by
    simp only [rdGo]
    rw [if_neg (by simp [h])]
    exact rdGo_full l _ out nx h

theorem rdGo_rfGo {q : Qry} (hq : 0 ≤ q.reasons ∧ q.reasons ≤ 4095) : ∀ (l : List Chg) (f : Bool) (out : List Chg) (nx : Int), (∀ x ∈ l, q.pos ≤ x.usn ∧ 1 ≤ x.reasons ∧ x.reasons ≤ 4095) → (out.length : Int) < q.count →
    (rdGo q l f out nx).2 = rfGo q nx l out
  | [], f, out, nx, _, _ => rfl
  | x :: l, f, out, nx, hl, ho => by
    have hx := hl x (by simp)
    have hl' : ∀ y ∈ l, q.pos ≤ y.usn ∧ 1 ≤ y.reasons ∧ y.reasons ≤ 4095 := fun y hy => hl y (by simp [hy])
    simp only [rdGo, rfGo]
    rw [keep_skip hx.2 hq]
    by_cases hs : Rd.skip q x = true
    · rw [if_pos hs, if_neg (by simp [hs])]
      exact rdGo_rfGo hq l _ out nx hl' ho
    · rw [if_neg hs, if_pos (by simp [hs, hx.1, ho])]
      by_cases hc : ((out.length + 1 : Nat) : Int) = q.count
      · rw [if_pos hc, if_pos hc]
        exact rdGo_full l _ _ _ (by simp; omega)
      · rw [if_neg hc, if_neg hc]
        exact rdGo_rfGo hq l _ _ nx hl' (by simp; omega)

theorem rdGo_skip {q : Qry} : ∀ (l r : List Chg) (f : Bool) (out : List Chg) (nx : Int), (∀ x ∈ l, x.usn < q.pos) → rdGo q (l ++ r) f out nx = rdGo q r f out nx
  | [], r, f, out, nx, _ => rfl
  | x :: l, r, f, out, nx, h => by
    have hx := h x (by simp)
    simp only [List.cons_append, rdGo]
    have h1 : ¬ q.pos ≤ x.usn := by omega
    have h2 : ¬ x.usn = q.pos := by omega
    rw [if_neg (by simp [h1])]
    simp only [h2, decide_false, Bool.or_false]
    exact rdGo_skip l r f out nx fun y hy => h y (by simp [hy])

theorem rdGo_found {q : Qry} : ∀ (l : List Chg) (f : Bool) (out : List Chg) (nx : Int), (rdGo q l f out nx).1 = (f || l.any (fun x => decide (x.usn = q.pos)))
  | [], f, out, nx => by simp [rdGo]
  | x :: l, f, out, nx => by
    simp only [rdGo, List.any_cons]
    split
    · rw [rdGo_found l]; simp [Bool.or_assoc]
    · rw [rdGo_found l]; simp [Bool.or_assoc]

/-- How many records lie ahead of a position. -/
theorem ahead {j : Jrn} (V : Valid j) (p : Int) : ∃ k, k ≤ j.recs.length ∧ (∀ i (h : i < j.recs.length), i < k → j.recs[i].usn < p) ∧ (∀ i (h : i < j.recs.length), k ≤ i → p ≤ j.recs[i].usn) := by
  have key : ∀ n, n ≤ j.recs.length → ∃ k, k ≤ n ∧ (∀ i (h : i < j.recs.length), i < k → j.recs[i].usn < p) ∧ (∀ i (h : i < j.recs.length), k ≤ i → i < n → p ≤ j.recs[i].usn) := by
    intro n
    induction n with
    | zero => exact fun _ => ⟨0, Nat.le_refl _, fun i _ h => by omega, fun i _ _ h => by omega⟩
    | succ n ih =>
      intro hn
      obtain ⟨k, h1, h2, h3⟩ := ih (by omega)
      by_cases hp : j.recs[n].usn < p
      · refine ⟨n + 1, Nat.le_refl _, fun i hi hin => ?_, fun i hi h4 h5 => by omega⟩
        by_cases e : i = n
        · subst e; exact hp
        · have := posA_lt V (i := i) (k := n) (by omega) (by omega)
          rw [posA_usn V hi]; rw [posA_usn V (by omega : n < j.recs.length)] at hp; omega
      · refine ⟨k, by omega, h2, fun i hi h4 h5 => ?_⟩
        by_cases e : i = n
        · subst e; omega
        · exact h3 i hi h4 (by omega)
  obtain ⟨k, h1, h2, h3⟩ := key j.recs.length (Nat.le_refl _)
  exact ⟨k, h1, h2, fun i hi hk => h3 i hi hk hi⟩

theorem readF_readR (j : Jrn) (q : Qry) : readF j q = readR j q := by
  unfold readR
  by_cases h1 : (checkJ j).2 = 0
  · have V := valid_of h1
    rw [if_neg (fun c => c h1)]
    by_cases h2 : q.id ≠ j.id ∨ q.pos < j.first
    · rw [if_pos h2]
      have he : rdErr j q = 32 := by
        rw [rdErr_eq, first_cons, if_pos h1, first_cons]
        have : (decide (q.id = j.id) && decide (j.first ≤ q.pos)) = false := by
          rcases h2 with h2 | h2
          · simp [h2]
          · have : ¬ j.first ≤ q.pos := by omega
            simp [this]
        rw [this]; simp
      unfold readF; rw [if_pos (by rw [he]; decide), he]
    · rw [if_neg h2]
      have h2' : q.id = j.id ∧ j.first ≤ q.pos := by
        refine ⟨Classical.byContradiction fun h => h2 (.inl h), ?_⟩
        have : ¬ q.pos < j.first := fun h => h2 (.inr h)
        omega
      have e2 : (decide (q.id = j.id) && decide (j.first ≤ q.pos)) = true := by simp [h2'.1, h2'.2]
      by_cases h3 : j.next < q.pos ∨ within q.reasons 0 4095 = false ∨ within q.count 1 200 = false
      · rw [if_pos h3]
        have he : rdErr j q = 2 := by
          rw [rdErr_eq, first_cons, if_pos h1, e2, if_pos rfl, first_cons, if_pos rfl, first_cons]
          have : (decide (q.pos ≤ j.next) && (within q.reasons 0 4095 && within q.count 1 200)) = false := by
            rcases h3 with h3 | h3 | h3
            · have : ¬ q.pos ≤ j.next := by omega
              simp [this]
            · simp [h3]
            · simp [h3]
          rw [this]; simp
        unfold readF; rw [if_pos (by rw [he]; decide), he]
      · rw [if_neg h3]
        have h4 : q.pos ≤ j.next := by
          have : ¬ j.next < q.pos := fun h => h3 (.inl h)
          omega
        have h5 : within q.reasons 0 4095 = true := by
          cases hw : within q.reasons 0 4095 with
          | true => rfl
          | false => exact absurd (.inr (.inl hw)) h3
        have h6 : within q.count 1 200 = true := by
          cases hw : within q.count 1 200 with
          | true => rfl
          | false => exact absurd (.inr (.inr hw)) h3
        obtain ⟨k, k1, k2, k3⟩ := ahead V q.pos
        have hat : rdAt j q = (k, if h : k < j.recs.length then decide (j.recs[k].usn = q.pos) else false) := by
          unfold rdAt
          rw [bsR_law k1 (fun i h hi => cmp_lt.2 (k2 i h hi)) (fun i h hi => by rw [cmp_lt]; have := k3 i h hi; omega)]
          congr 1
          by_cases hl : k < j.recs.length
          · rw [dif_pos hl, dif_pos hl, decide_eq_decide]; exact cmp_eq
          · rw [dif_neg hl, dif_neg hl]
        have hfnd : (rdAt j q).2 = j.recs.any (fun x => decide (x.usn = q.pos)) := by
          rw [hat]
          show (if h : k < j.recs.length then decide (j.recs[k].usn = q.pos) else false) = _
          rw [Bool.eq_iff_iff, List.any_eq_true]
          constructor
          · intro h
            by_cases hl : k < j.recs.length
            · rw [dif_pos hl] at h; exact ⟨_, List.getElem_mem hl, h⟩
            · rw [dif_neg hl] at h; exact absurd h (by decide)
          · rintro ⟨x, hx, hp⟩
            obtain ⟨n, hn, rfl⟩ := List.getElem_of_mem hx
            have hp' : j.recs[n].usn = q.pos := of_decide_eq_true hp
            have : n = k := by
              by_cases hnk : n < k
              · have := k2 n hn hnk; omega
              · by_cases e : n = k
                · exact e
                · exfalso
                  have hk : k < j.recs.length := by omega
                  have h7 := k3 k hk (Nat.le_refl _)
                  have h8 := posA_lt V (i := k) (k := n) (by omega) (by omega)
                  rw [← posA_usn V hk, ← posA_usn V hn] at h8
                  omega
            subst this
            rw [dif_pos hn]; exact hp
        have hF : (rdGo q j.recs (decide (q.pos = j.next)) [] j.next).1 = ((rdAt j q).2 || decide (q.pos = j.next)) := by
          rw [rdGo_found, hfnd, Bool.or_comm]
        have hS : (rdGo q j.recs (decide (q.pos = j.next)) [] j.next).2 = rfGo q j.next (j.recs.drop k) [] := by
          have e : j.recs = j.recs.take k ++ j.recs.drop k := (List.take_append_drop k j.recs).symm
          conv => lhs; rw [e]
          rw [rdGo_skip _ _ _ _ _ (fun x hx => ?_)]
          · refine rdGo_rfGo (within_iff.1 h5) _ _ _ _ (fun x hx => ?_) (by have := within_iff.1 h6; simp; omega)
            obtain ⟨n, hn, rfl⟩ := List.getElem_of_mem hx
            rw [List.length_drop] at hn
            rw [List.getElem_drop]
            have hm : j.recs[k + n]'(by omega) ∈ j.recs := List.getElem_mem _
            have := (recordErr_ok (V.recOk _ hm)).2.2.2.1
            exact ⟨k3 _ _ (by omega), this.1, this.2⟩
          · obtain ⟨n, hn, rfl⟩ := List.getElem_of_mem hx
            rw [List.length_take] at hn
            rw [List.getElem_take]
            exact k2 _ _ (by omega)
        have hfr : rdFrom j q = j.recs.drop k := by unfold rdFrom; rw [hat, List.take_length]
        by_cases h7 : ((rdAt j q).2 || decide (q.pos = j.next)) = true
        · rw [if_neg (by rw [hF, h7]; decide)]
          have he : rdErr j q = 0 := by
            rw [rdErr_eq, first_cons, if_pos h1, e2, if_pos rfl, first_cons, if_pos rfl, first_cons]
            rw [show (decide (q.pos ≤ j.next) && (within q.reasons 0 4095 && within q.count 1 200)) = true from by simp [h4, h5, h6], if_pos rfl, if_pos rfl, h7, if_pos rfl, first_cons, if_pos rfl, first_nil]
          unfold readF
          rw [if_neg (fun c => c he), hfr, hS]
        · have h7' : ((rdAt j q).2 || decide (q.pos = j.next)) = false := by simpa using h7
          rw [if_pos (by rw [hF, h7'])]
          have he : rdErr j q = 14 := by
            rw [rdErr_eq, first_cons, if_pos h1, e2, if_pos rfl, first_cons, if_pos rfl, first_cons]
            rw [show (decide (q.pos ≤ j.next) && (within q.reasons 0 4095 && within q.count 1 200)) = true from by simp [h4, h5, h6], if_pos rfl, if_pos rfl, h7', first_cons]
            rfl
          unfold readF; rw [if_pos (by rw [he]; decide), he]
  · rw [if_pos h1]
    have he : rdErr j q = (checkJ j).2 := by rw [rdErr_eq, first_cons, if_neg h1]
    unfold readF; rw [if_pos (by rw [he]; exact h1), he]
end Go.Proofs.Ytjbipdppgoldlaa

/-! Pe -/
namespace Go.Proofs.Ytjbipdppgoldlaa
open Go Dw

theorem eachOpn_sort (m : List Opn) : ∀ (l : List Opn) (k : Nat), m.drop k = l → (eachOpn m l k).2 = 0 → ∀ i (h : i < m.length), k ≤ i → 0 < i → compare (m[i - 1]'(by omega)).file m[i].file < 0
  | [], k, hd, _, i, hi, hk, _ => by
    have := congrArg List.length hd
    simp at this
    omega
  | y :: l, k, hd, h, i, hi, hk, h0 => by
    simp only [eachOpn] at h
    have hkl : k < m.length := by
      have := congrArg List.length hd
      simp at this
      omega
    have hy0 : m[k] = y := by
      have := List.drop_eq_getElem_cons hkl
      rw [hd] at this
      exact (List.cons.inj this).1.symm
    have hd' : m.drop (k + 1) = l := by
      have := List.drop_eq_getElem_cons hkl
      rw [hd] at this
      exact (List.cons.inj this).2.symm
    by_cases hy : opnErr m k y = 0
    · rw [if_pos hy] at h
      by_cases e : i = k
      · subst e
        unfold opnErr at hy
        rw [first_cons] at hy
        by_cases h2 : refErr y.file = 0
        · rw [if_pos h2, first_cons] at hy
          by_cases h3 : (within y.reasons 1 4095 && !has y.reasons 2048) = true
          · rw [if_pos h3, if_pos rfl, first_cons, if_neg (show ¬ i = 0 by omega), List.getElem?_eq_getElem (by omega : i - 1 < m.length)] at hy
            simp only at hy
            rw [hy0]
            by_cases h4 : compare (m[i - 1]'(by omega)).file y.file < 0
            · exact h4
            · rw [if_neg h4] at hy; simp at hy
          · rw [if_neg h3] at hy; simp at hy
        · rw [if_neg h2] at hy; exact absurd hy h2
      · exact eachOpn_sort m l (k + 1) hd' h i hi (by omega) h0
    · rw [if_neg hy] at h; exact absurd h hy

theorem cmpR_lt {a b : Ref} : compare a b < 0 ↔ a.r < b.r ∨ (a.r = b.r ∧ a.s < b.s) := by
  rw [compare_less]
  simp only [less, Bool.or_eq_true, Bool.and_eq_true, decide_eq_true_eq]
theorem cmpR_eq {a b : Ref} : compare a b = 0 ↔ a = b := by
  simp only [compare, first, cmp]
  cases a; cases b
  grind
theorem cmpR_trans {a b c : Ref} (h : compare a b < 0) (k : compare b c < 0) : compare a c < 0 := by
  rw [cmpR_lt] at *; omega

theorem opens_lt {j : Jrn} (V : Valid j) {i k : Nat} (h : i < k) (hk : k < j.opens.length) : compare (j.opens[i]'(by omega)).file j.opens[k].file < 0 := by
  have key : ∀ n, i < n → (hn : n < j.opens.length) → compare (j.opens[i]'(by omega)).file j.opens[n].file < 0 := by
    intro n
    induction n with
    | zero => intro hn; omega
    | succ n ih =>
      intro hn hl
      have h1 := eachOpn_sort j.opens j.opens 0 (by simp) V.eachO (n + 1) hl (Nat.zero_le _) (by omega)
      simp only [Nat.add_sub_cancel] at h1
      by_cases e : i = n
      · subst e; exact h1
      · exact cmpR_trans (ih (by omega) (by omega)) h1
  exact key k h hk

/-- How many open files lie ahead of a file. -/
theorem aheadO {j : Jrn} (V : Valid j) (f : Ref) : ∃ k, k ≤ j.opens.length ∧ (∀ i (h : i < j.opens.length), i < k → compare j.opens[i].file f < 0) ∧ (∀ i (h : i < j.opens.length), k ≤ i → ¬ compare j.opens[i].file f < 0) := by
  have key : ∀ n, n ≤ j.opens.length → ∃ k, k ≤ n ∧ (∀ i (h : i < j.opens.length), i < k → compare j.opens[i].file f < 0) ∧ (∀ i (h : i < j.opens.length), k ≤ i → i < n → ¬ compare j.opens[i].file f < 0) := by
    intro n
    induction n with
    | zero => exact fun _ => ⟨0, Nat.le_refl _, fun i _ h => by omega, fun i _ _ h => by omega⟩
    | succ n ih =>
      intro hn
      obtain ⟨k, h1, h2, h3⟩ := ih (by omega)
      by_cases hp : compare (j.opens[n]'(by omega)).file f < 0
      · refine ⟨n + 1, Nat.le_refl _, fun i hi hin => ?_, fun i hi h4 h5 => by omega⟩
        by_cases e : i = n
        · subst e; exact hp
        · exact cmpR_trans (opens_lt V (i := i) (k := n) (by omega) (by omega)) hp
      · refine ⟨k, by omega, h2, fun i hi h4 h5 => ?_⟩
        by_cases e : i = n
        · subst e; exact hp
        · exact h3 i hi h4 (by omega)
  obtain ⟨k, h1, h2, h3⟩ := key j.opens.length (Nat.le_refl _)
  exact ⟨k, h1, h2, fun i hi hk => h3 i hi hk hi⟩

theorem opAt_ahead {j : Jrn} (V : Valid j) (f : Ref) : ∃ k, k ≤ j.opens.length ∧ (∀ i (h : i < j.opens.length), i < k → compare j.opens[i].file f < 0) ∧ (∀ i (h : i < j.opens.length), k ≤ i → ¬ compare j.opens[i].file f < 0) ∧
    opAt j.opens f = (k, if h : k < j.opens.length then decide (j.opens[k].file = f) else false) := by
  obtain ⟨k, k1, k2, k3⟩ := aheadO V f
  refine ⟨k, k1, k2, k3, ?_⟩
  unfold opAt
  rw [bsR_law k1 k2 k3]
  congr 1
  by_cases hl : k < j.opens.length
  · rw [dif_pos hl, dif_pos hl, decide_eq_decide]; exact cmpR_eq
  · rw [dif_neg hl, dif_neg hl]

theorem openR_at {l : List Opn} {f : Ref} : ∀ {k : Nat} (hk : k < l.length), (∀ i (h : i < l.length), i < k → l[i].file ≠ f) → l[k].file = f → openR l f = l[k].reasons := by
  induction l with
  | nil => intro k hk; simp at hk
  | cons x l ih =>
    intro k hk hn he
    simp only [openR]
    cases k with
    | zero => rw [if_pos (by simpa using he)]; rfl
    | succ k =>
      rw [if_neg (by have := hn 0 (by simp) (by omega); simpa using this)]
      have := ih (k := k) (by simpa using hk) (fun i hi h => by have := hn (i + 1) (by simpa using hi) (by omega); simpa using this) (by simpa using he)
      simpa using this
theorem openR_no {l : List Opn} {f : Ref} (h : ∀ x ∈ l, x.file ≠ f) : openR l f = 0 := by
  induction l with
  | nil => rfl
  | cons x l ih =>
    simp only [openR]
    rw [if_neg (h x (by simp))]
    exact ih fun y hy => h y (by simp [hy])

theorem openB_openR {j : Jrn} (V : Valid j) (f : Ref) : openB j.opens f = openR j.opens f := by
  obtain ⟨k, k1, k2, k3, k4⟩ := opAt_ahead V f
  have hne : ∀ i (h : i < j.opens.length), i ≠ k → j.opens[i].file ≠ f := by
    intro i hi hik e
    by_cases h1 : i < k
    · have := k2 i hi h1
      rw [e, cmpR_lt] at this; omega
    · have hk : k < j.opens.length := by omega
      have h2 := opens_lt V (i := k) (k := i) (by omega) hi
      rw [e] at h2
      exact k3 k hk (Nat.le_refl _) h2
  by_cases hf : (opAt j.opens f).2 = true
  · have h1 : k < j.opens.length ∧ ∃ h : k < j.opens.length, j.opens[k].file = f := by
      rw [k4] at hf
      simp only at hf
      by_cases hl : k < j.opens.length
      · rw [dif_pos hl] at hf; exact ⟨hl, hl, of_decide_eq_true hf⟩
      · rw [dif_neg hl] at hf; exact absurd hf (by decide)
    obtain ⟨hl, _, he⟩ := h1
    unfold openB
    rw [dif_pos hf, openR_at hl (fun i hi h => hne i hi (by omega)) he]
    congr 2
    rw [k4]
  · unfold openB
    rw [dif_neg hf, openR_no]
    intro x hx e
    obtain ⟨n, hn, rfl⟩ := List.getElem_of_mem hx
    by_cases hnk : n = k
    · subst hnk
      rw [k4] at hf
      simp only at hf
      rw [dif_pos hn] at hf
      exact hf (by simp [e])
    · exact hne n hn hnk e
end Go.Proofs.Ytjbipdppgoldlaa

/-! Xd -/
namespace Go.Proofs.Ytjbipdppgoldlaa
open Go Dw
set_option maxRecDepth 10000
set_option linter.unusedVariables false
set_option linter.unusedSimpArgs false
attribute [local irreducible] Run
set_option maxHeartbeats 4000000

def rdrD (R : Nat) (only : Bool) (l : List UInt8) : D := .agg [.int .u16 R, .bool only, .fs (l.map fun b => .int .u8 b.toNat)]
theorem c12all {j : Jrn} (hf : fewB j = true) (hj : (checkJ j).2 = 0) {R : Int} {only : Bool} (hR : 0 ≤ R ∧ R ≤ 4095) : Fn 12 [j.enc, .agg [i j.id, i j.first, i R, .bool only, i 200]] (.tup [.fs ((kp R only j.recs).map Chg.enc), i j.next, i 0]) := by
  have := c12 j ⟨j.id, j.first, R, only, 200⟩ (fewB_bd hf).1 (fewB_bd hf).2.1 (fewB_bd hf).2.2
  rw [goes_all hj hR] at this
  exact this
theorem c12k {j : Jrn} (hf : fewB j = true) (hj : (checkJ j).2 = 0) {R : Int} {only : Bool} (k : Nat) (c : Int) (hk : k ≤ j.recs.length) (hR : 0 ≤ R ∧ R ≤ 4095) (hc : 1 ≤ c ∧ c ≤ 200) : Fn 12 [j.enc, .agg [i j.id, i (posA j k), i R, .bool only, i c]] (.tup [.fs ((seg j R only k c).map Chg.enc), i (posA j (k + mAt j R only k c)), i 0]) := by
  have := c12 j (qk j R only k c) (fewB_bd hf).1 (fewB_bd hf).2.1 (fewB_bd hf).2.2
  rw [(goes_at hj hk hR hc).2.2.1] at this
  exact this
theorem on_end {j : Jrn} (V : Valid j) {k : Nat} (hk : k ≤ j.recs.length) {p : Int} (hp : p = posA j k) {A B : Prop} (ha : k < j.recs.length → A) (hb : j.recs.length ≤ k → B) : onBool (!decide (p = j.next)) A B := by
  subst hp
  by_cases h : k < j.recs.length
  · have := posA_lt V h (Nat.le_refl _)
    rw [posA_end V] at this
    exact on_ndec_f (by omega) (ha h)
  · have e : k = j.recs.length := by omega
    exact on_ndec_t (by rw [e, posA_end V]) (hb (by omega))
attribute [local irreducible] fewB checkJ within kp seg gotK posA mAt woI hasR

theorem c3m (j : Jrn) (R : Nat) (hR : R < 65536) (only : Bool) (l : List UInt8) (hf : fewB j = true) (hj : (checkJ j).2 = 0) (hl : l.length ≤ 20) : Fn 3 [j.enc, rdrD R only l] (.bool true) := by
  have V := valid_of hj; have vn := V.nums; have vr := V.recs; have hkl := kp_len ((R : Int) % 4096) only j.recs; have hfn : j.first ≤ j.next := (by have := posA_le V (Nat.zero_le _) (Nat.le_refl _); rw [posA_zero, posA_end V] at this; exact this)
  refine run_walkF eok Try.func3 rfl (by kernel_rfl) ?_
  conv => whnf
  repeat' (first
    | ((with_reducible refine on_dec_t (by assumption) ?_); conv => whnf)
    | ((with_reducible refine onBool_t (by assumption) ?_); conv => whnf)
    | ((with_reducible refine onBool_f (by assumption) ?_); conv => whnf)
    | ((with_reducible refine on_nt (by assumption) ?_); conv => whnf)
    | ((with_reducible refine on_ndec_t (by first | assumption | rfl) ?_); conv => whnf)
    | ((with_reducible refine on_end V hI.1 hpos (fun hk1 => ?_) (fun hk2 => ?_)) <;> conv => whnf)
    | ((with_reducible refine on_dec_f ?_ ?_); (focus ((try simp only [List.length_map, List.length_cons, List.length_nil, List.length_append]); omega)); conv => whnf)
    | ((with_reducible refine on_dec_t ?_ ?_); (focus ((try simp only [List.length_map, List.length_cons, List.length_nil, List.length_append]); omega)); conv => whnf)
    | ((with_reducible refine on_dec (fun h => ?_) (fun h => ?_)) <;> (try simp only [List.length_map] at h) <;> conv => whnf)
    | ((with_reducible refine on_ndec (fun h => ?_) (fun h => ?_)) <;> (try simp only [List.length_map] at h) <;> conv => whnf)
    | ((with_reducible refine on_not (fun h => ?_) (fun h => ?_)) <;> conv => whnf)
    | ((with_reducible refine onBool_split (fun h => ?_) (fun h => ?_)) <;> conv => whnf)
    | ((with_reducible refine call_go ?_); (obtain ⟨g11, g12, -, g14, -⟩ := goes_at hj (R := ((R : Int) % 4096)) (only := only) (k := k) (c := 1) hI.1 (by omega) (by omega)); (have g13 := g12 hk1); (have g15 := posA_lt V (i := k) (k := k + mAt j ((R : Int) % 4096) only k 1) (by omega) g11); (have g16 := seg_len V ((R : Int) % 4096) only k 1); refine call_step (run_viewF (c12k (R := ((R : Int) % 4096)) (only := only) hf hj k 1 (by omega) (by omega) (by omega)) rfl) ?_; conv => whnf)
    | ((with_reducible refine call_go ?_); (first | refine call_step (run_view c9 rfl rfl) ?_ | refine call_step (run_view (c10g _) rfl rfl) ?_ | refine call_step (run_view (c11 _ (fewB_bd hf).1 (fewB_bd hf).2.1 (fewB_bd hf).2.2) rfl rfl) ?_ | refine call_step (run_data (c13 _ (fewB_bd hf).1 (fewB_bd hf).2.2) _) ?_ | refine call_step (run_viewF (c12all hf hj (by omega)) rfl) ?_ | refine call_step (run_viewF (c12k (R := ((R : Int) % 4096)) (only := only) hf hj k c2 (by omega) (by omega) (by omega)) rfl) ?_ | refine call_step (run_view (c14 ((kp ((R : Int) % 4096) only j.recs)[k]'(by omega)).reasons ((R : Int) % 4096) (kp_wanted V (by omega) (List.getElem_mem _)).2.2 (by omega)) rfl rfl) ?_ | refine call_step (run_view (c15 _ 2048 (by decide)) rfl rfl) ?_ | refine call_step (run_view (c16 (gotK j ((R : Int) % 4096) only k) (kp ((R : Int) % 4096) only j.recs) (by omega) (by omega)) rfl (vlc (view_map rfl Nat.two_pos) (vlc rfl vln))) ?_); conv => whnf)
    | (refine ⟨[], [], (by decide +kernel), ?_⟩; conv => whnf)
    | (refine ⟨[], [(2, 1)], (by decide +kernel), ?_⟩; conv => whnf)
    | (refine ⟨[], [(12, 7)], (by decide +kernel), ?_⟩; conv => whnf)
    | ((with_reducible refine loop_go ?_); first | (refine loop1 (fun (k : Nat) => (kp ((R : Int) % 4096) only j.recs).length - k) (fun (k : Nat) => k ≤ (kp ((R : Int) % 4096) only j.recs).length) (fun (k : Nat) => [(2, .ptr 0 0 0), (3, .ptr 1 0 0), (6, .d (.bool only)), (7, .d (.fs (l.map fun b => .int .u8 b.toNat))), (8, .ptr 2 0 0), (9, .d (.fs ((kp ((R : Int) % 4096) only j.recs).map Chg.enc))), (12, .d (i k))]) (fun (k : Nat) => [⟨[.d j.enc], 6, 0⟩, ⟨[.d (rdrD R only l)], 3, 0⟩, ⟨[.d (qk j ((R : Int) % 4096) only 0 200).enc], 5, 0⟩]) (0) (by exact Nat.zero_le _) ?_ (fun k C hI hC => ?_); (exact ⟨[.old 0, .old 1, .old 2], rfl, rfl, ⟨⟨rfl, rfl, rfl⟩, ⟨rfl, rfl, rfl⟩, (by first | (show (_ : D) = _; with_reducible rfl) | (refine congrArg D.bool ?_; simp_all)), (by first | (show (_ : D) = _; with_reducible rfl) | exact rfl), ⟨rfl, rfl, rfl⟩, (by first | (show (_ : D) = _; with_reducible rfl) | exact rfl), (by first | (show (_ : D) = _; with_reducible rfl) | exact congrArg (D.int .i64) (by omega)), trivial⟩, ⟨⟨rfl, rfl, .inl ⟨[_], rfl, rfl⟩⟩, ⟨rfl, rfl, .inl ⟨[_], rfl, rfl⟩⟩, ⟨rfl, rfl, .inr ⟨⟨rfl, rfl, (congrArg (D.int .i64) (posA_zero j).symm), rfl, rfl, rfl, trivial⟩, trivial⟩⟩, trivial⟩⟩); all_goals (conv => whnf)) | (refine loop3 (fun (k : Nat) (n : Nat) (c : Int) => j.recs.length - k) (fun (k : Nat) (n : Nat) (c : Int) => k ≤ j.recs.length ∧ n ≤ k) (fun (k : Nat) (n : Nat) (c : Int) => [(2, .ptr 0 0 0), (7, .d (.fs (l.map fun b => .int .u8 b.toNat))), (8, .ptr 2 0 0), (9, .d (.fs ((kp ((R : Int) % 4096) only j.recs).map Chg.enc))), (13, .sl 3 0 (gotK j ((R : Int) % 4096) only k).length 8 none), (14, .d (i n))]) (fun (k : Nat) (n : Nat) (c : Int) => [⟨[.d j.enc], 6, 0⟩, ⟨[.d (rdrD R only l)], 3, 0⟩, ⟨[.d (qk j ((R : Int) % 4096) only k c).enc], 5, 0⟩, ⟨((gotK j ((R : Int) % 4096) only k).map Chg.enc).map .d, 8, 0⟩]) (0) (0) (200) (by exact ⟨Nat.zero_le _, Nat.le_refl _⟩) ?_ (fun k n c C hI hC => ?_); (exact ⟨[.old 0, .old 1, .old 2, .void 8], rfl, rfl, ⟨⟨rfl, rfl, rfl⟩, rfl, ⟨rfl, rfl, rfl⟩, rfl, ⟨rfl, rfl, (by rw [got_zero]; rfl), rfl⟩, rfl, trivial⟩, ⟨⟨rfl, rfl, .inl ⟨[_], rfl, rfl⟩⟩, ⟨rfl, rfl, .inl ⟨[_], rfl, rfl⟩⟩, ⟨rfl, rfl, .inl ⟨[_], rfl, rfl⟩⟩, ⟨(by rw [got_zero]; rfl), rfl, (by decide), rfl⟩, trivial⟩⟩); have hpos : (qk j ((R : Int) % 4096) only k c).pos = posA j k := rfl; have hp0 := posA_bd V hI.1; have lg := got_len V ((R : Int) % 4096) only k; all_goals (conv => whnf)))
    | ((with_reducible show C _ _); first | (refine hC (k + 1) _ _ ?_ (by omega) ?_; clear hC; rotate_left; (exact ⟨[.old 0, .old 1, .old 2], rfl, rfl, ⟨⟨rfl, rfl, rfl⟩, ⟨rfl, rfl, rfl⟩, (by first | (show (_ : D) = _; with_reducible rfl) | (refine congrArg D.bool ?_; simp_all)), (by first | (show (_ : D) = _; with_reducible rfl) | exact rfl), ⟨rfl, rfl, rfl⟩, (by first | (show (_ : D) = _; with_reducible rfl) | exact rfl), (by first | (show (_ : D) = _; with_reducible rfl) | exact congrArg (D.int .i64) (by omega)), trivial⟩, ⟨⟨rfl, rfl, .inl ⟨[_], rfl, rfl⟩⟩, ⟨rfl, rfl, .inl ⟨[_], rfl, rfl⟩⟩, ⟨rfl, rfl, .inl ⟨[_], rfl, rfl⟩⟩, trivial⟩⟩); (exact (by omega : k + 1 ≤ (kp ((R : Int) % 4096) only j.recs).length))) | (refine hC (k + mAt j ((R : Int) % 4096) only k 1) (n + 1) (1) _ _ ?_ (by omega) ?_; clear hC; rotate_left; (exact ⟨[.old 0, .old 1, .old 2, .old 4], rfl, rfl, ⟨⟨rfl, rfl, rfl⟩, (by first | (show (_ : D) = _; with_reducible rfl) | exact rfl), ⟨rfl, rfl, rfl⟩, (by first | (show (_ : D) = _; with_reducible rfl) | exact rfl), ⟨rfl, rfl, (by rw [(got_add j ((R : Int) % 4096) only k 1)]; (simp only [List.length_append, List.length_map]) <;> rfl), rfl, rfl⟩, (by first | (show (_ : D) = _; with_reducible rfl) | exact congrArg (D.int .i64) (by omega)), trivial⟩, ⟨⟨rfl, rfl, .inl ⟨[_], rfl, rfl⟩⟩, ⟨rfl, rfl, .inl ⟨[_], rfl, rfl⟩⟩, ⟨rfl, rfl, .inr ⟨⟨rfl, rfl, rfl, rfl, rfl, rfl, trivial⟩, trivial⟩⟩, ⟨rfl, rfl, .inl ⟨(gotK j ((R : Int) % 4096) only k ++ seg j ((R : Int) % 4096) only k 1).map Chg.enc, (by simp only [List.map_append]), (by rw [(got_add j ((R : Int) % 4096) only k 1)])⟩⟩, trivial⟩⟩); (exact ⟨by omega, by omega⟩)) | (refine hC (k + mAt j ((R : Int) % 4096) only k 1) (n + 1) (1) _ _ ?_ (by omega) ?_; clear hC; rotate_left; (exact ⟨[.old 0, .old 1, .old 2, .old 3], rfl, rfl, ⟨⟨rfl, rfl, rfl⟩, (by first | (show (_ : D) = _; with_reducible rfl) | exact rfl), ⟨rfl, rfl, rfl⟩, (by first | (show (_ : D) = _; with_reducible rfl) | exact rfl), ⟨rfl, rfl, (by (have hz : seg j ((R : Int) % 4096) only k 1 = [] := List.eq_nil_of_length_eq_zero (by (try simp only [List.length_map] at h); omega)); rw [(got_add j ((R : Int) % 4096) only k 1), hz]; simp), rfl, rfl⟩, (by first | (show (_ : D) = _; with_reducible rfl) | exact congrArg (D.int .i64) (by omega)), trivial⟩, ⟨⟨rfl, rfl, .inl ⟨[_], rfl, rfl⟩⟩, ⟨rfl, rfl, .inl ⟨[_], rfl, rfl⟩⟩, ⟨rfl, rfl, .inr ⟨⟨rfl, rfl, rfl, rfl, rfl, rfl, trivial⟩, trivial⟩⟩, ⟨rfl, rfl, .inl ⟨(gotK j ((R : Int) % 4096) only k).map Chg.enc, (by (have hz : seg j ((R : Int) % 4096) only k 1 = [] := List.eq_nil_of_length_eq_zero (by (try simp only [List.length_map] at h); omega)); rw [hz]; exact over_nil), (by (have hz : seg j ((R : Int) % 4096) only k 1 = [] := List.eq_nil_of_length_eq_zero (by (try simp only [List.length_map] at h); omega)); rw [(got_add j ((R : Int) % 4096) only k 1), hz, List.append_nil])⟩⟩, trivial⟩⟩); (exact ⟨by omega, by omega⟩)) | (refine hC (k + mAt j ((R : Int) % 4096) only k c2) (n + 1) (c2) _ _ ?_ (by omega) ?_; clear hC; rotate_left; (exact ⟨[.old 0, .old 1, .old 2, .old 4], rfl, rfl, ⟨⟨rfl, rfl, rfl⟩, (by first | (show (_ : D) = _; with_reducible rfl) | exact rfl), ⟨rfl, rfl, rfl⟩, (by first | (show (_ : D) = _; with_reducible rfl) | exact rfl), ⟨rfl, rfl, (by rw [(got_add j ((R : Int) % 4096) only k c2)]; (simp only [List.length_append, List.length_map]) <;> rfl), rfl, rfl⟩, (by first | (show (_ : D) = _; with_reducible rfl) | exact congrArg (D.int .i64) (by omega)), trivial⟩, ⟨⟨rfl, rfl, .inl ⟨[_], rfl, rfl⟩⟩, ⟨rfl, rfl, .inl ⟨[_], rfl, rfl⟩⟩, ⟨rfl, rfl, .inr ⟨⟨rfl, rfl, rfl, rfl, rfl, rfl, trivial⟩, trivial⟩⟩, ⟨rfl, rfl, .inl ⟨(gotK j ((R : Int) % 4096) only k ++ seg j ((R : Int) % 4096) only k c2).map Chg.enc, (by simp only [List.map_append]), (by rw [(got_add j ((R : Int) % 4096) only k c2)])⟩⟩, trivial⟩⟩); (exact ⟨by omega, by omega⟩)) | (refine hC (k + mAt j ((R : Int) % 4096) only k c2) (n + 1) (c2) _ _ ?_ (by omega) ?_; clear hC; rotate_left; (exact ⟨[.old 0, .old 1, .old 2, .old 3], rfl, rfl, ⟨⟨rfl, rfl, rfl⟩, (by first | (show (_ : D) = _; with_reducible rfl) | exact rfl), ⟨rfl, rfl, rfl⟩, (by first | (show (_ : D) = _; with_reducible rfl) | exact rfl), ⟨rfl, rfl, (by (have hz : seg j ((R : Int) % 4096) only k c2 = [] := List.eq_nil_of_length_eq_zero (by (try simp only [List.length_map] at h); omega)); rw [(got_add j ((R : Int) % 4096) only k c2), hz]; simp), rfl, rfl⟩, (by first | (show (_ : D) = _; with_reducible rfl) | exact congrArg (D.int .i64) (by omega)), trivial⟩, ⟨⟨rfl, rfl, .inl ⟨[_], rfl, rfl⟩⟩, ⟨rfl, rfl, .inl ⟨[_], rfl, rfl⟩⟩, ⟨rfl, rfl, .inr ⟨⟨rfl, rfl, rfl, rfl, rfl, rfl, trivial⟩, trivial⟩⟩, ⟨rfl, rfl, .inl ⟨(gotK j ((R : Int) % 4096) only k).map Chg.enc, (by (have hz : seg j ((R : Int) % 4096) only k c2 = [] := List.eq_nil_of_length_eq_zero (by (try simp only [List.length_map] at h); omega)); rw [hz]; exact over_nil), (by (have hz : seg j ((R : Int) % 4096) only k c2 = [] := List.eq_nil_of_length_eq_zero (by (try simp only [List.length_map] at h); omega)); rw [(got_add j ((R : Int) % 4096) only k c2), hz, List.append_nil])⟩⟩, trivial⟩⟩); (exact ⟨by omega, by omega⟩)))
    | (refine wrap64g 1 5 (by omega) (by decide) (fun c2 hc2 => ?_); (obtain ⟨g21, g22, -, g24, -⟩ := goes_at hj (R := ((R : Int) % 4096)) (only := only) (k := k) (c := c2) hI.1 (by omega) (by omega)); (have g23 := g22 hk1); (have g25 := posA_lt V (i := k) (k := k + mAt j ((R : Int) % 4096) only k c2) (by omega) g21); (have g26 := seg_len V ((R : Int) % 4096) only k c2); conv => whnf)
    | (refine ⟨⟨(by first | rfl | (simp; done)), cap_ok (by simp only [List.length_map, List.length_cons, List.length_nil, List.length_append]; omega) rfl⟩, ?_⟩; conv => whnf)
    | (refine ⟨mem_one ⟨rfl, rfl⟩, ?_⟩; conv => whnf)
    | (refine ⟨(by intro y hy; obtain ⟨x, _, rfl⟩ := List.mem_map.1 hy; first | rfl | exact ⟨rfl, rfl⟩), ?_⟩; conv => whnf)
    | (refine ⟨cap_ok (by first | omega | (simp only [List.length_map]; omega)) rfl, ?_⟩; conv => whnf)
    | (refine ix_map (by omega) ?_; conv => whnf)
    | (refine ix_str (by omega) ?_; conv => whnf)
    | (refine wrap64 (by omega) ?_; conv => whnf)
    | (refine rem_nat (by rw [List.length_map]; omega) ?_; conv => whnf)
    | (refine ix_map (l := l) (k := n % (l.map fun b => D.int .u8 b.toNat).length) (f := fun b => D.int .u8 b.toNat) (by rw [List.length_map]; exact Nat.mod_lt _ (by omega)) ?_; conv => whnf)
    | (refine wrap64u8 ?_; conv => whnf)
    | (refine rem_nn (by omega) ?_; conv => whnf)
    | (refine ix_at (l := (kp ((R : Int) % 4096) only j.recs)) (f := Chg.enc) (k - 1) (by omega) (by omega) ?_; conv => whnf)
    | (refine ⟨⟨(by simp), cap_ok (by simp only [List.length_map]; omega) rfl⟩, ?_⟩; conv => whnf)
    | (refine wrap64 (by omega) ?_; conv => whnf)
    | ((have hw := kp_wanted V (R := ((R : Int) % 4096)) (only := only) (by omega) (List.getElem_mem (n := k) (by omega))); exact absurd h hw.1)
    | ((have hw := kp_wanted V (R := ((R : Int) % 4096)) (only := only) (by omega) (List.getElem_mem (n := k) (by omega))); simp_all; done)
    | ((have hs := kp_sorted V ((R : Int) % 4096) only (k := k - 1) (by omega)); exfalso; simp only [show k - 1 + 1 = k by omega] at hs; omega)
    | (exfalso; simp only [List.length_map, List.length_cons, List.length_nil, List.length_append] at h; omega)
    | ((with_reducible refine endx_go ?_); first | (exact endx rfl; done) | (exact endx (congrArg D.bool (by rw [got_all j ((R : Int) % 4096) only hk2]; simp)); done))
    | (refine ⟨rfl, ?_⟩; conv => whnf)
    | fail
    )

theorem c3f (j : Jrn) (R : Nat) (hR : R < 65536) (only : Bool) (l : List UInt8) (hf : fewB j = false) : Fn 3 [j.enc, rdrD R only l] (.bool true) := by
  refine run_walkF eok Try.func3 rfl (by kernel_rfl) ?_
  conv => whnf
  repeat' (first
    | ((with_reducible refine on_dec_t (by assumption) ?_); conv => whnf)
    | ((with_reducible refine onBool_t (by assumption) ?_); conv => whnf)
    | ((with_reducible refine onBool_f (by assumption) ?_); conv => whnf)
    | ((with_reducible refine on_nt (by assumption) ?_); conv => whnf)
    | ((with_reducible refine on_ndec_t (by first | assumption | rfl) ?_); conv => whnf)
    | ((with_reducible refine on_nf (by assumption) ?_); conv => whnf)
    | ((with_reducible refine on_ndec_f (by assumption) ?_); conv => whnf)
    | ((with_reducible refine on_dec_f ?_ ?_); (focus ((try simp only [List.length_map, List.length_cons, List.length_nil, List.length_append]); omega)); conv => whnf)
    | ((with_reducible refine on_dec_t ?_ ?_); (focus ((try simp only [List.length_map, List.length_cons, List.length_nil, List.length_append]); omega)); conv => whnf)
    | ((with_reducible refine on_dec (fun h => ?_) (fun h => ?_)) <;> (try simp only [List.length_map] at h) <;> conv => whnf)
    | ((with_reducible refine on_ndec (fun h => ?_) (fun h => ?_)) <;> (try simp only [List.length_map] at h) <;> conv => whnf)
    | ((with_reducible refine on_not (fun h => ?_) (fun h => ?_)) <;> conv => whnf)
    | ((with_reducible refine onBool_split (fun h => ?_) (fun h => ?_)) <;> conv => whnf)
    | ((with_reducible refine call_go ?_); (obtain ⟨g11, g12, -, g14, -⟩ := goes_at hj (R := ((R : Int) % 4096)) (only := only) (k := k) (c := 1) hI.1 (by omega) (by omega)); (have g13 := g12 hk1); (have g15 := posA_lt V (i := k) (k := k + mAt j ((R : Int) % 4096) only k 1) (by omega) g11); (have g16 := seg_len V ((R : Int) % 4096) only k 1); refine call_step (run_viewF (c12k (R := ((R : Int) % 4096)) (only := only) hf hj k 1 (by omega) (by omega) (by omega)) rfl) ?_; conv => whnf)
    | ((with_reducible refine call_go ?_); (first | refine call_step (run_view c9 rfl rfl) ?_ | refine call_step (run_view (c10g _) rfl rfl) ?_ | refine call_step (run_view (c11 _ (fewB_bd hf).1 (fewB_bd hf).2.1 (fewB_bd hf).2.2) rfl rfl) ?_ | refine call_step (run_data (c13 _ (fewB_bd hf).1 (fewB_bd hf).2.2) _) ?_ | refine call_step (run_viewF (c12all hf hj (by omega)) rfl) ?_ | refine call_step (run_viewF (c12k (R := ((R : Int) % 4096)) (only := only) hf hj k c2 (by omega) (by omega) (by omega)) rfl) ?_ | refine call_step (run_view (c14 ((kp ((R : Int) % 4096) only j.recs)[k]'(by omega)).reasons ((R : Int) % 4096) (kp_wanted V (by omega) (List.getElem_mem _)).2.2 (by omega)) rfl rfl) ?_ | refine call_step (run_view (c15 _ 2048 (by decide)) rfl rfl) ?_ | refine call_step (run_view (c16 (gotK j ((R : Int) % 4096) only k) (kp ((R : Int) % 4096) only j.recs) (by omega) (by omega)) rfl (vlc (view_map rfl Nat.two_pos) (vlc rfl vln))) ?_); conv => whnf)
    | (refine ⟨[], [], (by decide +kernel), ?_⟩; conv => whnf)
    | (refine ⟨[], [(2, 1)], (by decide +kernel), ?_⟩; conv => whnf)
    | (refine ⟨[], [(12, 7)], (by decide +kernel), ?_⟩; conv => whnf)
    | (refine ⟨⟨(by first | rfl | (simp; done)), cap_ok (by simp only [List.length_map, List.length_cons, List.length_nil, List.length_append]; omega) rfl⟩, ?_⟩; conv => whnf)
    | (refine ⟨mem_one ⟨rfl, rfl⟩, ?_⟩; conv => whnf)
    | (refine ⟨(by intro y hy; obtain ⟨x, _, rfl⟩ := List.mem_map.1 hy; first | rfl | exact ⟨rfl, rfl⟩), ?_⟩; conv => whnf)
    | (refine ⟨cap_ok (by first | omega | (simp only [List.length_map]; omega)) rfl, ?_⟩; conv => whnf)
    | (refine ix_map (by omega) ?_; conv => whnf)
    | (refine ix_str (by omega) ?_; conv => whnf)
    | (refine wrap64 (by omega) ?_; conv => whnf)
    | (refine wrap64 (by omega) ?_; conv => whnf)
    | (exfalso; simp only [List.length_map, List.length_cons, List.length_nil, List.length_append] at h; omega)
    | ((with_reducible refine endx_go ?_); first | (exact endx rfl; done))
    | (refine ⟨rfl, ?_⟩; conv => whnf)
    | fail
    )

theorem c3e (j : Jrn) (R : Nat) (hR : R < 65536) (only : Bool) (l : List UInt8) (hf : fewB j = true) (hj : ¬ (checkJ j).2 = 0) : Fn 3 [j.enc, rdrD R only l] (.bool true) := by
  refine run_walkF eok Try.func3 rfl (by kernel_rfl) ?_
  conv => whnf
  repeat' (first
    | ((with_reducible refine on_dec_t (by assumption) ?_); conv => whnf)
    | ((with_reducible refine onBool_t (by assumption) ?_); conv => whnf)
    | ((with_reducible refine onBool_f (by assumption) ?_); conv => whnf)
    | ((with_reducible refine on_nt (by assumption) ?_); conv => whnf)
    | ((with_reducible refine on_ndec_t (by first | assumption | rfl) ?_); conv => whnf)
    | ((with_reducible refine on_nf (by assumption) ?_); conv => whnf)
    | ((with_reducible refine on_ndec_f (by assumption) ?_); conv => whnf)
    | ((with_reducible refine on_dec_f ?_ ?_); (focus ((try simp only [List.length_map, List.length_cons, List.length_nil, List.length_append]); omega)); conv => whnf)
    | ((with_reducible refine on_dec_t ?_ ?_); (focus ((try simp only [List.length_map, List.length_cons, List.length_nil, List.length_append]); omega)); conv => whnf)
    | ((with_reducible refine on_dec (fun h => ?_) (fun h => ?_)) <;> (try simp only [List.length_map] at h) <;> conv => whnf)
    | ((with_reducible refine on_ndec (fun h => ?_) (fun h => ?_)) <;> (try simp only [List.length_map] at h) <;> conv => whnf)
    | ((with_reducible refine on_not (fun h => ?_) (fun h => ?_)) <;> conv => whnf)
    | ((with_reducible refine onBool_split (fun h => ?_) (fun h => ?_)) <;> conv => whnf)
    | ((with_reducible refine call_go ?_); (obtain ⟨g11, g12, -, g14, -⟩ := goes_at hj (R := ((R : Int) % 4096)) (only := only) (k := k) (c := 1) hI.1 (by omega) (by omega)); (have g13 := g12 hk1); (have g15 := posA_lt V (i := k) (k := k + mAt j ((R : Int) % 4096) only k 1) (by omega) g11); (have g16 := seg_len V ((R : Int) % 4096) only k 1); refine call_step (run_viewF (c12k (R := ((R : Int) % 4096)) (only := only) hf hj k 1 (by omega) (by omega) (by omega)) rfl) ?_; conv => whnf)
    | ((with_reducible refine call_go ?_); (first | refine call_step (run_view c9 rfl rfl) ?_ | refine call_step (run_view (c10g _) rfl rfl) ?_ | refine call_step (run_view (c11 _ (fewB_bd hf).1 (fewB_bd hf).2.1 (fewB_bd hf).2.2) rfl rfl) ?_ | refine call_step (run_data (c13 _ (fewB_bd hf).1 (fewB_bd hf).2.2) _) ?_ | refine call_step (run_viewF (c12all hf hj (by omega)) rfl) ?_ | refine call_step (run_viewF (c12k (R := ((R : Int) % 4096)) (only := only) hf hj k c2 (by omega) (by omega) (by omega)) rfl) ?_ | refine call_step (run_view (c14 ((kp ((R : Int) % 4096) only j.recs)[k]'(by omega)).reasons ((R : Int) % 4096) (kp_wanted V (by omega) (List.getElem_mem _)).2.2 (by omega)) rfl rfl) ?_ | refine call_step (run_view (c15 _ 2048 (by decide)) rfl rfl) ?_ | refine call_step (run_view (c16 (gotK j ((R : Int) % 4096) only k) (kp ((R : Int) % 4096) only j.recs) (by omega) (by omega)) rfl (vlc (view_map rfl Nat.two_pos) (vlc rfl vln))) ?_); conv => whnf)
    | (refine ⟨[], [], (by decide +kernel), ?_⟩; conv => whnf)
    | (refine ⟨[], [(2, 1)], (by decide +kernel), ?_⟩; conv => whnf)
    | (refine ⟨[], [(12, 7)], (by decide +kernel), ?_⟩; conv => whnf)
    | (refine ⟨⟨(by first | rfl | (simp; done)), cap_ok (by simp only [List.length_map, List.length_cons, List.length_nil, List.length_append]; omega) rfl⟩, ?_⟩; conv => whnf)
    | (refine ⟨mem_one ⟨rfl, rfl⟩, ?_⟩; conv => whnf)
    | (refine ⟨(by intro y hy; obtain ⟨x, _, rfl⟩ := List.mem_map.1 hy; first | rfl | exact ⟨rfl, rfl⟩), ?_⟩; conv => whnf)
    | (refine ⟨cap_ok (by first | omega | (simp only [List.length_map]; omega)) rfl, ?_⟩; conv => whnf)
    | (refine ix_map (by omega) ?_; conv => whnf)
    | (refine ix_str (by omega) ?_; conv => whnf)
    | (refine wrap64 (by omega) ?_; conv => whnf)
    | (refine wrap64 (by omega) ?_; conv => whnf)
    | (exfalso; simp only [List.length_map, List.length_cons, List.length_nil, List.length_append] at h; omega)
    | ((with_reducible refine endx_go ?_); first | (exact endx rfl; done))
    | (refine ⟨rfl, ?_⟩; conv => whnf)
    | fail
    )

theorem c3l (j : Jrn) (R : Nat) (hR : R < 65536) (only : Bool) (l : List UInt8) (hf : fewB j = true) (hj : (checkJ j).2 = 0) (hl : ¬ l.length ≤ 20) : Fn 3 [j.enc, rdrD R only l] (.bool true) := by
  refine run_walkF eok Try.func3 rfl (by kernel_rfl) ?_
  conv => whnf
  repeat' (first
    | ((with_reducible refine on_dec_t (by assumption) ?_); conv => whnf)
    | ((with_reducible refine onBool_t (by assumption) ?_); conv => whnf)
    | ((with_reducible refine onBool_f (by assumption) ?_); conv => whnf)
    | ((with_reducible refine on_nt (by assumption) ?_); conv => whnf)
    | ((with_reducible refine on_ndec_t (by first | assumption | rfl) ?_); conv => whnf)
    | ((with_reducible refine on_nf (by assumption) ?_); conv => whnf)
    | ((with_reducible refine on_ndec_f (by assumption) ?_); conv => whnf)
    | ((with_reducible refine on_dec_f ?_ ?_); (focus ((try simp only [List.length_map, List.length_cons, List.length_nil, List.length_append]); omega)); conv => whnf)
    | ((with_reducible refine on_dec_t ?_ ?_); (focus ((try simp only [List.length_map, List.length_cons, List.length_nil, List.length_append]); omega)); conv => whnf)
    | ((with_reducible refine on_dec (fun h => ?_) (fun h => ?_)) <;> (try simp only [List.length_map] at h) <;> conv => whnf)
    | ((with_reducible refine on_ndec (fun h => ?_) (fun h => ?_)) <;> (try simp only [List.length_map] at h) <;> conv => whnf)
    | ((with_reducible refine on_not (fun h => ?_) (fun h => ?_)) <;> conv => whnf)
    | ((with_reducible refine onBool_split (fun h => ?_) (fun h => ?_)) <;> conv => whnf)
    | ((with_reducible refine call_go ?_); (obtain ⟨g11, g12, -, g14, -⟩ := goes_at hj (R := ((R : Int) % 4096)) (only := only) (k := k) (c := 1) hI.1 (by omega) (by omega)); (have g13 := g12 hk1); (have g15 := posA_lt V (i := k) (k := k + mAt j ((R : Int) % 4096) only k 1) (by omega) g11); (have g16 := seg_len V ((R : Int) % 4096) only k 1); refine call_step (run_viewF (c12k (R := ((R : Int) % 4096)) (only := only) hf hj k 1 (by omega) (by omega) (by omega)) rfl) ?_; conv => whnf)
    | ((with_reducible refine call_go ?_); (first | refine call_step (run_view c9 rfl rfl) ?_ | refine call_step (run_view (c10g _) rfl rfl) ?_ | refine call_step (run_view (c11 _ (fewB_bd hf).1 (fewB_bd hf).2.1 (fewB_bd hf).2.2) rfl rfl) ?_ | refine call_step (run_data (c13 _ (fewB_bd hf).1 (fewB_bd hf).2.2) _) ?_ | refine call_step (run_viewF (c12all hf hj (by omega)) rfl) ?_ | refine call_step (run_viewF (c12k (R := ((R : Int) % 4096)) (only := only) hf hj k c2 (by omega) (by omega) (by omega)) rfl) ?_ | refine call_step (run_view (c14 ((kp ((R : Int) % 4096) only j.recs)[k]'(by omega)).reasons ((R : Int) % 4096) (kp_wanted V (by omega) (List.getElem_mem _)).2.2 (by omega)) rfl rfl) ?_ | refine call_step (run_view (c15 _ 2048 (by decide)) rfl rfl) ?_ | refine call_step (run_view (c16 (gotK j ((R : Int) % 4096) only k) (kp ((R : Int) % 4096) only j.recs) (by omega) (by omega)) rfl (vlc (view_map rfl Nat.two_pos) (vlc rfl vln))) ?_); conv => whnf)
    | (refine ⟨[], [], (by decide +kernel), ?_⟩; conv => whnf)
    | (refine ⟨[], [(2, 1)], (by decide +kernel), ?_⟩; conv => whnf)
    | (refine ⟨[], [(12, 7)], (by decide +kernel), ?_⟩; conv => whnf)
    | (refine ⟨⟨(by first | rfl | (simp; done)), cap_ok (by simp only [List.length_map, List.length_cons, List.length_nil, List.length_append]; omega) rfl⟩, ?_⟩; conv => whnf)
    | (refine ⟨mem_one ⟨rfl, rfl⟩, ?_⟩; conv => whnf)
    | (refine ⟨(by intro y hy; obtain ⟨x, _, rfl⟩ := List.mem_map.1 hy; first | rfl | exact ⟨rfl, rfl⟩), ?_⟩; conv => whnf)
    | (refine ⟨cap_ok (by first | omega | (simp only [List.length_map]; omega)) rfl, ?_⟩; conv => whnf)
    | (refine ix_map (by omega) ?_; conv => whnf)
    | (refine ix_str (by omega) ?_; conv => whnf)
    | (refine wrap64 (by omega) ?_; conv => whnf)
    | (refine wrap64 (by omega) ?_; conv => whnf)
    | (exfalso; simp only [List.length_map, List.length_cons, List.length_nil, List.length_append] at h; omega)
    | ((with_reducible refine endx_go ?_); first | (exact endx rfl; done))
    | (refine ⟨rfl, ?_⟩; conv => whnf)
    | fail
    )

theorem c3 (j : Jrn) (R : Nat) (hR : R < 65536) (only : Bool) (l : List UInt8) : Fn 3 [j.enc, rdrD R only l] (.bool true) := by
  by_cases hf : fewB j = true
  · by_cases hj : (checkJ j).2 = 0
    · by_cases hl : l.length ≤ 20
      · exact c3m j R hR only l hf hj hl
      · exact c3l j R hR only l hf hj hl
    · exact c3e j R hR only l hf hj
  · exact c3f j R hR only l (by simpa using hf)

end Go.Proofs.Ytjbipdppgoldlaa

/-! Xh -/
namespace Go.Proofs.Ytjbipdppgoldlaa
open Go Dw
set_option maxRecDepth 10000
set_option linter.unusedVariables false
set_option linter.unusedSimpArgs false
attribute [local irreducible] Run
set_option maxHeartbeats 2000000

def bkE (l : List Chg) (k : Nat) : List D := [i ((l.length - 1 - k : Nat) : Int), (l.getD (l.length - 1 - k) ⟨0, ⟨0, 0⟩, ⟨0, 0⟩, 0, 0, []⟩).enc]
theorem bkE_at {l : List Chg} {k n : Nat} {z : Int} (hz : z = n) (hn : n + k + 1 = l.length) : bkE l k = [i z, (l[n]'(by omega)).enc] := by
  have e : l.length - 1 - k = n := by omega
  have h : n < l.length := by omega
  simp only [bkE, e, hz, List.getD_eq_getElem?_getD, List.getElem?_eq_getElem h, Option.getD_some]

theorem c86 (l : List Chg) : Run Try.prog 86 [.d (.fs (l.map Chg.enc))] [] (.d (.fn 99 [] [.fp (.fs (l.map Chg.enc)) 0])) [] := by
  refine run_walkF eok Try.func86 rfl (by kernel_rfl) ?_
  conv => whnf
  repeat' (first
    | ((with_reducible refine on_dec_f ?_ ?_); (focus ((try simp only [List.length_map, List.length_cons, List.length_nil, List.length_append]); omega)); conv => whnf)
    | ((with_reducible refine on_dec_t ?_ ?_); (focus ((try simp only [List.length_map, List.length_cons, List.length_nil, List.length_append]); omega)); conv => whnf)
    | ((with_reducible refine on_dec (fun h => ?_) (fun h => ?_)) <;> (try simp only [List.length_map] at h) <;> conv => whnf)
    | ((with_reducible refine on_ndec (fun h => ?_) (fun h => ?_)) <;> (try simp only [List.length_map] at h) <;> conv => whnf)
    | ((with_reducible refine on_not (fun h => ?_) (fun h => ?_)) <;> conv => whnf)
    | ((with_reducible refine onBool_split (fun h => ?_) (fun h => ?_)) <;> conv => whnf)
    | (refine ⟨⟨(by first | rfl | (simp; done)), cap_ok (by simp only [List.length_map, List.length_cons, List.length_nil, List.length_append]; omega) rfl⟩, ?_⟩; conv => whnf)
    | (refine ⟨mem_one ⟨rfl, rfl⟩, ?_⟩; conv => whnf)
    | (refine ⟨(by intro y hy; obtain ⟨x, _, rfl⟩ := List.mem_map.1 hy; first | rfl | exact ⟨rfl, rfl⟩), ?_⟩; conv => whnf)
    | (refine ⟨cap_ok (by first | omega | (simp only [List.length_map]; omega)) rfl, ?_⟩; conv => whnf)
    | (refine ix_map (by omega) ?_; conv => whnf)
    | (refine ix_str (by omega) ?_; conv => whnf)
    | (refine wrap64 (by omega) ?_; conv => whnf)
    | (exfalso; simp only [List.length_map, List.length_cons, List.length_nil, List.length_append] at h; omega)
    | ((with_reducible refine endx_go ?_); first | (exact endxv rfl rfl; done))
    | (refine ⟨rfl, ?_⟩; conv => whnf)
    | fail
    )

theorem it99 (l : List Chg) (hl : l.length < 1000000) : IterR Try.prog 99 [] [.fp (.fs (l.map Chg.enc)) 0] ((List.range l.length).map (bkE l)) := by
  refine iter_rg eok Try.func99 rfl (by kernel_rfl) (fun s ll hs => ?_)
  conv => whnf
  repeat' (first
    | ((with_reducible refine on_dec_f ?_ ?_); (focus ((try simp only [List.length_map, List.length_cons, List.length_nil, List.length_append]); omega)); conv => whnf)
    | ((with_reducible refine on_dec_t ?_ ?_); (focus ((try simp only [List.length_map, List.length_cons, List.length_nil, List.length_append]); omega)); conv => whnf)
    | ((with_reducible refine on_dec (fun h => ?_) (fun h => ?_)) <;> (try simp only [List.length_map] at h) <;> conv => whnf)
    | ((with_reducible refine on_ndec (fun h => ?_) (fun h => ?_)) <;> (try simp only [List.length_map] at h) <;> conv => whnf)
    | ((with_reducible refine on_not (fun h => ?_) (fun h => ?_)) <;> conv => whnf)
    | ((with_reducible refine onBool_split (fun h => ?_) (fun h => ?_)) <;> conv => whnf)
    | ((with_reducible refine loop_go ?_); first | (refine loop1 (fun (k : Nat) => l.length - k) (fun (k : Nat) => k ≤ l.length ∧ k ≤ s) (fun (k : Nat) => [(0, .raw (.func (.yield ll) #[] #[])), (1, .d (.fp (.fs (l.map Chg.enc)) 0)), (3, .d (i ((l.length : Int) - 1 - k)))]) (fun (k : Nat) => [trO k]) (0) (by exact ⟨Nat.zero_le _, Nat.zero_le _⟩) ?_ (fun k C hI hC => ?_); (exact ⟨[.old 0], rfl, rfl, ⟨(by exact rfl), (by first | (show (_ : D) = _; with_reducible rfl) | exact rfl), (congrArg (D.int .i64) (by simp only [List.length_map]; omega)), trivial⟩, ⟨trO_same _, trivial⟩⟩); all_goals (conv => whnf)))
    | ((with_reducible show C _ _); first | (refine hC (k + 1) _ _ ?_ (by omega) ?_; clear hC; rotate_left; (exact ⟨[.old 0], rfl, rfl, ⟨(by exact rfl), (by first | (show (_ : D) = _; with_reducible rfl) | exact rfl), (by first | (show (_ : D) = _; with_reducible rfl) | exact congrArg (D.int .i64) (by omega) | exact congrArg (D.int .i64) (by simp only [List.length_map]) | exact rfl), trivial⟩, ⟨trO_same _, trivial⟩⟩); (exact ⟨by omega, by omega⟩)))
    | (refine ⟨⟨(by first | rfl | (simp; done)), cap_ok (by simp only [List.length_map, List.length_cons, List.length_nil, List.length_append]; omega) rfl⟩, ?_⟩; conv => whnf)
    | (refine ⟨mem_one ⟨rfl, rfl⟩, ?_⟩; conv => whnf)
    | (refine ⟨(by intro y hy; obtain ⟨x, _, rfl⟩ := List.mem_map.1 hy; first | rfl | exact ⟨rfl, rfl⟩), ?_⟩; conv => whnf)
    | (refine ⟨cap_ok (by first | omega | (simp only [List.length_map]; omega)) rfl, ?_⟩; conv => whnf)
    | (refine ix_map (by omega) ?_; conv => whnf)
    | (refine ix_str (by omega) ?_; conv => whnf)
    | (refine wrap64 (by omega) ?_; conv => whnf)
    | (refine wrap64 (by first | omega | (simp only [List.length_map]; omega)) ?_; conv => whnf)
    | ((with_reducible refine yield_go ?_); (refine yield_rg2 (i := k) (by omega) (by omega) (bkE_at (n := l.length - 1 - k) (by omega) (by omega)) ?_); conv => whnf)
    | (refine ix_at (l.length - 1 - k) (by omega) (by omega) ?_; conv => whnf)
    | (exfalso; simp only [List.length_map, List.length_cons, List.length_nil, List.length_append] at h; omega)
    | ((with_reducible refine endx_go ?_); first | (exact endx_tr (by omega); done))
    | (refine ⟨rfl, ?_⟩; conv => whnf)
    | fail
    )

def lastO : List Chg → Ref → Option Int → Option Int
  | [], _, out => out
  | x :: l, f, out => lastO l f (if x.file = f then some x.usn else out)
theorem lastO_app (a b : List Chg) (f : Ref) (out : Option Int) : lastO (a ++ b) f out = lastO b f (lastO a f out) := by
  induction a generalizing out with
  | nil => rfl
  | cons x a ih => exact ih _
theorem lastO_no {l : List Chg} {f : Ref} (out : Option Int) (h : ∀ x ∈ l, x.file ≠ f) : lastO l f out = out := by
  induction l generalizing out with
  | nil => rfl
  | cons x l ih =>
    show lastO l f (if x.file = f then some x.usn else out) = out
    rw [if_neg (h x (by simp))]
    exact ih out fun y hy => h y (by simp [hy])
theorem lastO_at {l : List Chg} {f : Ref} {n : Nat} (hn : n < l.length) (hf : l[n].file = f) (h : ∀ x ∈ l.drop (n + 1), x.file ≠ f) : lastO l f none = some l[n].usn := by
  have e : l.take n ++ (l[n] :: l.drop (n + 1)) = l := by rw [← List.drop_eq_getElem_cons hn]; exact List.take_append_drop n l
  have e2 := lastO_app (l.take n) (l[n] :: l.drop (n + 1)) f none
  rw [e] at e2
  rw [e2]
  show lastO (l.drop (n + 1)) f (if l[n].file = f then some l[n].usn else _) = _
  rw [if_pos hf, lastO_no _ h]
theorem lastR_O (l : List Chg) (f : Ref) (o : Option Int) : lastR l f (o.getD (-1)) = (lastO l f o).getD (-1) := by
  induction l generalizing o with
  | nil => rfl
  | cons x l ih =>
    show lastR l f (if x.file = f then x.usn else o.getD (-1)) = (lastO l f (if x.file = f then some x.usn else o)).getD (-1)
    rw [← ih]
    split <;> rfl
def lastN (j : Jrn) (f : Ref) : Int × Int := if first [(checkJ j).2, refErr f] = 0 then (match lastO j.recs f none with | some u => (u, 0) | none => (0, 12)) else (0, first [(checkJ j).2, refErr f])
theorem drop_ne {l : List Chg} {f : Ref} {k : Nat} (hk : k < l.length) (hI : ∀ x ∈ l.drop (l.length - k), x.file ≠ f) (h : (l[l.length - 1 - k]'(by omega)).file ≠ f) : ∀ x ∈ l.drop (l.length - (k + 1)), x.file ≠ f := by
  have e : l.drop (l.length - (k + 1)) = (l[l.length - 1 - k]'(by omega)) :: l.drop (l.length - k) := by
    rw [List.drop_eq_getElem_cons (by omega)]
    have h1 : l.length - (k + 1) = l.length - 1 - k := by omega
    have h2 : l.length - (k + 1) + 1 = l.length - k := by omega
    simp only [h1, h2]
    rw [show l.length - 1 - k + 1 = l.length - k by omega]
  rw [e]
  intro x hx
  rcases List.mem_cons.1 hx with rfl | hx
  · exact h
  · exact hI x hx
theorem lastN_at {j : Jrn} {f : Ref} {k : Nat} (h0 : first [(checkJ j).2, refErr f] = 0) (hk : k < j.recs.length) (hI : ∀ x ∈ j.recs.drop (j.recs.length - k), x.file ≠ f) (h : (j.recs[j.recs.length - 1 - k]'(by omega)).file = f) : lastN j f = ((j.recs[j.recs.length - 1 - k]'(by omega)).usn, 0) := by
  unfold lastN
  rw [if_pos h0, lastO_at (n := j.recs.length - 1 - k) (by omega) h (by rw [show j.recs.length - 1 - k + 1 = j.recs.length - k by omega]; exact hI)]
theorem lastN_no {j : Jrn} {f : Ref} (h0 : first [(checkJ j).2, refErr f] = 0) (hI : ∀ x ∈ j.recs.drop (j.recs.length - j.recs.length), x.file ≠ f) : lastN j f = (0, 12) := by
  unfold lastN
  rw [if_pos h0, lastO_no _ (by simpa using hI)]
theorem lastN_err {j : Jrn} {f : Ref} (h0 : ¬ first [(checkJ j).2, refErr f] = 0) : lastN j f = (0, first [(checkJ j).2, refErr f]) := by
  unfold lastN
  rw [if_neg h0]
attribute [local irreducible] lastN

theorem c43 (j : Jrn) (f : Ref) (hr : j.recs.length < 1000000) (hn : ∀ x ∈ j.recs, x.name.length < 1000000) (ho : j.opens.length < 1000000) : Fn 43 [j.enc, f.enc] (.tup [i (lastN j f).1, i (lastN j f).2]) := by
  refine run_walkRF eok Try.func43 rfl (by kernel_rfl) ?_
  conv => whnf
  repeat' (first
    | ((with_reducible refine range_go ?_); refine rounds_st (σ := Unit) (it99 j.recs hr) (fun k _ => ∀ x ∈ j.recs.drop (j.recs.length - k), x.file ≠ f) (fun _ _ => [(3, .ptr 1 0 0), (4, .ptr 2 0 0), (5, .ptr 3 0 0)]) (fun _ _ => [⟨[.d j.enc], 6, 0⟩, ⟨[.d f.enc], 2, 0⟩, ⟨[.d (i 0)], 1, 0⟩, ⟨[.d (i 0)], 1, 0⟩]) () (by intro x hx; simp at hx) (.inr ⟨[.old 0, .old 1, .old 2, .old 3], rfl, rfl, ⟨⟨rfl, rfl, rfl⟩, ⟨rfl, rfl, rfl⟩, ⟨rfl, rfl, rfl⟩, trivial⟩, ⟨⟨rfl, rfl, .inl ⟨[_], rfl, rfl⟩⟩, ⟨rfl, rfl, .inl ⟨[_], rfl, rfl⟩⟩, ⟨rfl, rfl, .inl ⟨[_], rfl, rfl⟩⟩, ⟨rfl, rfl, .inl ⟨[_], rfl, rfl⟩⟩, trivial⟩⟩) (fun k u hk C hI hC => ?_) (fun u hI => ?_); (focus (rw [bkE_at (n := j.recs.length - 1 - k) rfl (by omega)]; refine ⟨_, rfl, ?_⟩)); all_goals (conv => whnf))
    | ((with_reducible show C _); refine hC () _ (drop_ne (by omega) hI h) (.inr ⟨[.old 0, .old 1, .old 2, .old 3], rfl, rfl, ⟨⟨rfl, rfl, rfl⟩, ⟨rfl, rfl, rfl⟩, ⟨rfl, rfl, rfl⟩, trivial⟩, ⟨⟨rfl, rfl, .inl ⟨[_], rfl, rfl⟩⟩, ⟨rfl, rfl, .inl ⟨[_], rfl, rfl⟩⟩, ⟨rfl, rfl, .inl ⟨[_], rfl, rfl⟩⟩, ⟨rfl, rfl, .inl ⟨[_], rfl, rfl⟩⟩, trivial⟩⟩))
    | (refine on_ref (fun h => ?_) (fun h => ?_) <;> conv => whnf)
    | ((with_reducible refine on_dec_f ?_ ?_); (focus ((try simp only [List.length_map, List.length_cons, List.length_nil, List.length_append]); omega)); conv => whnf)
    | ((with_reducible refine on_dec_t ?_ ?_); (focus ((try simp only [List.length_map, List.length_cons, List.length_nil, List.length_append]); omega)); conv => whnf)
    | ((with_reducible refine on_dec (fun h => ?_) (fun h => ?_)) <;> (try simp only [List.length_map] at h) <;> conv => whnf)
    | ((with_reducible refine on_ndec (fun h => ?_) (fun h => ?_)) <;> (try simp only [List.length_map] at h) <;> conv => whnf)
    | ((with_reducible refine on_not (fun h => ?_) (fun h => ?_)) <;> conv => whnf)
    | ((with_reducible refine onBool_split (fun h => ?_) (fun h => ?_)) <;> conv => whnf)
    | ((with_reducible refine call_go ?_); (first | refine call_step (run_view (c53 _ hr hn ho) rfl rfl) ?_ | refine call_step (run_view (c64 f) rfl rfl) ?_ | refine call_step (run_view (c52 [(checkJ j).2, refErr f] (by simp)) rfl rfl) ?_ | refine call_step (run_data (xs := [_]) (c86 j.recs) _) ?_); conv => whnf)
    | (refine ⟨[], [(2, 1)], (by decide +kernel), ?_⟩; conv => whnf)
    | (refine ⟨⟨(by first | rfl | (simp; done)), cap_ok (by simp only [List.length_map, List.length_cons, List.length_nil, List.length_append]; omega) rfl⟩, ?_⟩; conv => whnf)
    | (refine ⟨mem_one ⟨rfl, rfl⟩, ?_⟩; conv => whnf)
    | (refine ⟨(by intro y hy; obtain ⟨x, _, rfl⟩ := List.mem_map.1 hy; first | rfl | exact ⟨rfl, rfl⟩), ?_⟩; conv => whnf)
    | (refine ⟨cap_ok (by first | omega | (simp only [List.length_map]; omega)) rfl, ?_⟩; conv => whnf)
    | (refine ix_map (by omega) ?_; conv => whnf)
    | (refine ix_str (by omega) ?_; conv => whnf)
    | (refine wrap64 (by omega) ?_; conv => whnf)
    | (refine wrap64 (by first | omega | (simp only [List.length_map]; omega)) ?_; conv => whnf)
    | (exfalso; simp only [List.length_map, List.length_cons, List.length_nil, List.length_append] at h; omega)
    | ((with_reducible refine endx_go ?_); first | (refine endx2 ?_; (rw [lastN_err h]) <;> rfl; done) | (refine endx2 ?_; (rw [lastN_at (by assumption) hk hI h]) <;> rfl; done) | (refine endx2 ?_; (rw [lastN_no (by assumption) hI]) <;> rfl; done))
    | (refine ⟨rfl, ?_⟩; conv => whnf)
    | fail
    )

end Go.Proofs.Ytjbipdppgoldlaa

/-! Xi -/
namespace Go.Proofs.Ytjbipdppgoldlaa
open Go Dw
set_option maxRecDepth 10000
set_option linter.unusedVariables false
set_option linter.unusedSimpArgs false
attribute [local irreducible] Run
set_option maxHeartbeats 2000000

theorem c12R {j : Jrn} (q : Qry) (hf : fewB j = true) : Fn 12 [j.enc, q.enc] (.tup [.fs ((readR j q).1.map Chg.enc), i (readR j q).2.1, i (readR j q).2.2]) := by
  rw [← readF_readR]; exact c12 j q (fewB_bd hf).1 (fewB_bd hf).2.1 (fewB_bd hf).2.2
theorem rdGo_len {q : Qry} : ∀ (l : List Chg) (f : Bool) (out : List Chg) (nx : Int), (rdGo q l f out nx).2.1.length ≤ out.length + l.length
  | [], f, out, nx => by simp [rdGo]
  | x :: l, f, out, nx => by
    simp only [rdGo]
    split
    · have := rdGo_len (q := q) l (f || decide (x.usn = q.pos)) (out ++ [x]) (if ((out.length + 1 : Nat) : Int) = q.count then IntKind.i64.wrap (x.usn + size x.name.length) else nx)
      simp only [List.length_append, List.length_cons, List.length_nil] at this ⊢
      omega
    · have := rdGo_len (q := q) l (f || decide (x.usn = q.pos)) out nx
      simp only [List.length_cons]
      omega
theorem readR_len (j : Jrn) (q : Qry) (hf : fewB j = true) : (readR j q).1.length < 1000000 := by
  have h1 := (fewB_bd hf).1
  have h2 := rdGo_len (q := q) j.recs (decide (q.pos = j.next)) [] j.next
  simp only [List.length_nil] at h2
  unfold readR
  split <;> (try split) <;> (try split) <;> (try split) <;> (first | (simp only [List.length_nil]; omega) | (show (rdGo q j.recs (decide (q.pos = j.next)) [] j.next).2.1.length < 1000000; omega))
def E0 (j : Jrn) (f : Ref) : Int := if (checkJ j).2 = 0 then refErr f else (checkJ j).2
theorem first_E0 (j : Jrn) (f : Ref) : first [(checkJ j).2, refErr f] = E0 j f := by
  simp only [first, E0]
  split
  · split
    · rename_i h; exact h.symm
    · rfl
  · rfl
theorem lastO_mem {l : List Chg} {f : Ref} {u : Int} (h : lastO l f none = some u) : ∃ x ∈ l, x.usn = u := by
  have key : ∀ (l : List Chg) (o : Option Int), lastO l f o = some u → o = some u ∨ ∃ x ∈ l, x.usn = u := by
    intro l
    induction l with
    | nil => exact fun o h => .inl h
    | cons x l ih =>
      intro o h
      rcases ih _ h with h | ⟨y, hy, he⟩
      · split at h
        · exact .inr ⟨x, by simp, by simpa using h⟩
        · exact .inl h
      · exact .inr ⟨y, by simp [hy], he⟩
  rcases key l none h with h | h
  · cases h
  · exact h
theorem usn_nn {j : Jrn} (V : Valid j) {x : Chg} (hx : x ∈ j.recs) : 0 ≤ x.usn := by
  obtain ⟨n, hn, rfl⟩ := List.getElem_of_mem hx
  rw [posA_usn V hn]
  exact (posA_bd V (Nat.le_of_lt hn)).1
theorem lastN_ok {j : Jrn} {f : Ref} (h : E0 j f = 0) (h2 : 0 ≤ lastR j.recs f (-1)) : lastN j f = (lastR j.recs f (-1), 0) := by
  have e := lastR_O j.recs f none
  simp only [Option.getD_none] at e
  rw [e] at h2 ⊢
  unfold lastN
  rw [first_E0, if_pos h]
  cases ho : lastO j.recs f none with
  | none => rw [ho] at h2; simp at h2
  | some u => rfl
theorem lastN_none {j : Jrn} {f : Ref} (h : E0 j f = 0) (h2 : ¬ 0 ≤ lastR j.recs f (-1)) : lastN j f = (0, 12) := by
  have V : Valid j := valid_of (by unfold E0 at h; split at h <;> assumption)
  have e := lastR_O j.recs f none
  simp only [Option.getD_none] at e
  rw [e] at h2
  unfold lastN
  rw [first_E0, if_pos h]
  cases ho : lastO j.recs f none with
  | none => rfl
  | some u =>
    rw [ho] at h2
    obtain ⟨x, hx, rfl⟩ := lastO_mem ho
    exact absurd (usn_nn V hx) h2
theorem c29E {j : Jrn} {f : Ref} (hf : fewB j = true) (h : E0 j f ≠ 0) : Fn 29 [j.enc, f.enc] (.tup [i 0, i (E0 j f)]) := by
  have := c29 j f (fewB_bd hf).1 (fewB_bd hf).2.1 (fewB_bd hf).2.2
  rw [first_E0, if_neg h] at this; exact this
theorem c43E {j : Jrn} {f : Ref} (hf : fewB j = true) (h : E0 j f ≠ 0) : Fn 43 [j.enc, f.enc] (.tup [i 0, i (E0 j f)]) := by
  have := c43 j f (fewB_bd hf).1 (fewB_bd hf).2.1 (fewB_bd hf).2.2
  rw [lastN_err (by rw [first_E0]; exact h), first_E0] at this; exact this
theorem c29O {j : Jrn} {f : Ref} (hf : fewB j = true) (h : E0 j f = 0) : Fn 29 [j.enc, f.enc] (.tup [i (openR j.opens f), i 0]) := by
  have := c29 j f (fewB_bd hf).1 (fewB_bd hf).2.1 (fewB_bd hf).2.2
  rw [first_E0, if_pos h, h, openB_openR (valid_of (by unfold E0 at h; split at h <;> assumption))] at this; exact this
theorem c43O {j : Jrn} {f : Ref} (hf : fewB j = true) (h : E0 j f = 0) : Fn 43 [j.enc, f.enc] (.tup [i (if 0 ≤ lastR j.recs f (-1) then lastR j.recs f (-1) else 0), i (if 0 ≤ lastR j.recs f (-1) then 0 else 12)]) := by
  have := c43 j f (fewB_bd hf).1 (fewB_bd hf).2.1 (fewB_bd hf).2.2
  by_cases h2 : 0 ≤ lastR j.recs f (-1)
  · rw [lastN_ok h h2] at this
    rw [if_pos h2, if_pos h2]; exact this
  · rw [lastN_none h h2] at this
    rw [if_neg h2, if_neg h2]; exact this
attribute [local irreducible] fewB checkJ refErr readR openR lastR

theorem c8f (j : Jrn) (q : Qry) (f : Ref) (hf : fewB j = false) : Fn 8 [j.enc, q.enc, f.enc] (.bool true) := by
  refine run_walkF eok Try.func8 rfl (by kernel_rfl) ?_
  conv => whnf
  repeat' (first
    | ((with_reducible refine on_dec_t (by assumption) ?_); conv => whnf)
    | ((with_reducible refine onBool_t (by assumption) ?_); conv => whnf)
    | ((with_reducible refine onBool_f (by assumption) ?_); conv => whnf)
    | ((with_reducible refine on_nt (by assumption) ?_); conv => whnf)
    | ((with_reducible refine on_ndec_t (by first | assumption | rfl) ?_); conv => whnf)
    | (exfalso; simp_all; done)
    | (exfalso; simp_all [E0]; done)
    | ((with_reducible refine on_nf (by assumption) ?_); conv => whnf)
    | ((with_reducible refine on_dec_f ?_ ?_); (focus ((try simp only [List.length_map, List.length_cons, List.length_nil, List.length_append]); omega)); conv => whnf)
    | ((with_reducible refine on_dec_t ?_ ?_); (focus ((try simp only [List.length_map, List.length_cons, List.length_nil, List.length_append]); omega)); conv => whnf)
    | ((with_reducible refine on_dec (fun h => ?_) (fun h => ?_)) <;> (try simp only [List.length_map] at h) <;> conv => whnf)
    | ((with_reducible refine on_ndec (fun h => ?_) (fun h => ?_)) <;> (try simp only [List.length_map] at h) <;> conv => whnf)
    | ((with_reducible refine on_not (fun h => ?_) (fun h => ?_)) <;> conv => whnf)
    | ((with_reducible refine onBool_split (fun h => ?_) (fun h => ?_)) <;> conv => whnf)
    | ((with_reducible refine call_go ?_); (first | refine call_step (run_view c9 rfl rfl) ?_ | refine call_step (run_view (c10g _) rfl rfl) ?_ | refine call_step (run_data (xs := [_]) (c13 _ (fewB_bd hf).1 (fewB_bd hf).2.2) _) ?_ | refine call_step (run_data (xs := [_, _]) (c12R q hf) _) ?_ | refine call_step (run_data (xs := [_, _]) (c42 j q (fewB_bd hf).1 (fewB_bd hf).2.1 (fewB_bd hf).2.2) _) ?_ | refine call_step (run_view (c16 _ _ (readR_len j q hf) (readR_len j q hf)) rfl rfl) ?_ | refine call_step (run_view (c11 _ (fewB_bd hf).1 (fewB_bd hf).2.1 (fewB_bd hf).2.2) rfl rfl) ?_ | refine call_step (run_view (c44 f) rfl rfl) ?_ | refine call_step (run_view (c45 j f (fewB_bd hf).2.2) rfl rfl) ?_ | refine call_step (run_view (c46 j f (fewB_bd hf).1) rfl rfl) ?_); conv => whnf)
    | (refine ⟨[], [(2, 1)], (by decide +kernel), ?_⟩; conv => whnf)
    | (refine ⟨⟨(by first | rfl | (simp; done)), cap_ok (by simp only [List.length_map, List.length_cons, List.length_nil, List.length_append]; omega) rfl⟩, ?_⟩; conv => whnf)
    | (refine ⟨mem_one ⟨rfl, rfl⟩, ?_⟩; conv => whnf)
    | (refine ⟨(by intro y hy; obtain ⟨x, _, rfl⟩ := List.mem_map.1 hy; first | rfl | exact ⟨rfl, rfl⟩), ?_⟩; conv => whnf)
    | (refine ⟨cap_ok (by first | omega | (simp only [List.length_map]; omega)) rfl, ?_⟩; conv => whnf)
    | (refine ix_map (by omega) ?_; conv => whnf)
    | (refine ix_str (by omega) ?_; conv => whnf)
    | (refine wrap64 (by omega) ?_; conv => whnf)
    | (exfalso; simp only [List.length_map, List.length_cons, List.length_nil, List.length_append] at h; omega)
    | ((with_reducible refine endx_go ?_); first | (exact endx rfl; done) | (refine endx (congrArg D.bool ?_); (simp_all; done); done) | (refine endx (congrArg D.bool ?_); (simp_all [E0]; done); done))
    | (refine ⟨rfl, ?_⟩; conv => whnf)
    | fail
    )

theorem c8e (j : Jrn) (q : Qry) (f : Ref) (hf : fewB j = true) (hE : E0 j f ≠ 0) : Fn 8 [j.enc, q.enc, f.enc] (.bool true) := by
  refine run_walkF eok Try.func8 rfl (by kernel_rfl) ?_
  conv => whnf
  repeat' (first
    | ((with_reducible refine on_dec_t (by assumption) ?_); conv => whnf)
    | ((with_reducible refine onBool_t (by assumption) ?_); conv => whnf)
    | ((with_reducible refine onBool_f (by assumption) ?_); conv => whnf)
    | ((with_reducible refine on_nt (by assumption) ?_); conv => whnf)
    | ((with_reducible refine on_ndec_t (by first | assumption | rfl) ?_); conv => whnf)
    | (exfalso; simp_all; done)
    | (exfalso; simp_all [E0]; done)
    | ((with_reducible refine on_dec_f ?_ ?_); (focus ((try simp only [List.length_map, List.length_cons, List.length_nil, List.length_append]); omega)); conv => whnf)
    | ((with_reducible refine on_dec_t ?_ ?_); (focus ((try simp only [List.length_map, List.length_cons, List.length_nil, List.length_append]); omega)); conv => whnf)
    | ((with_reducible refine on_dec (fun h => ?_) (fun h => ?_)) <;> (try simp only [List.length_map] at h) <;> conv => whnf)
    | ((with_reducible refine on_ndec (fun h => ?_) (fun h => ?_)) <;> (try simp only [List.length_map] at h) <;> conv => whnf)
    | ((with_reducible refine on_not (fun h => ?_) (fun h => ?_)) <;> conv => whnf)
    | ((with_reducible refine onBool_split (fun h => ?_) (fun h => ?_)) <;> conv => whnf)
    | ((with_reducible refine call_go ?_); (first | refine call_step (run_view c9 rfl rfl) ?_ | refine call_step (run_view (c10g _) rfl rfl) ?_ | refine call_step (run_data (xs := [_]) (c13 _ (fewB_bd hf).1 (fewB_bd hf).2.2) _) ?_ | refine call_step (run_data (xs := [_, _]) (c12R q hf) _) ?_ | refine call_step (run_data (xs := [_, _]) (c42 j q (fewB_bd hf).1 (fewB_bd hf).2.1 (fewB_bd hf).2.2) _) ?_ | refine call_step (run_view (c16 _ _ (readR_len j q hf) (readR_len j q hf)) rfl rfl) ?_ | refine call_step (run_view (c29E hf hE) rfl rfl) ?_ | refine call_step (run_view (c43E hf hE) rfl rfl) ?_ | refine call_step (run_view (c11 _ (fewB_bd hf).1 (fewB_bd hf).2.1 (fewB_bd hf).2.2) rfl rfl) ?_ | refine call_step (run_view (c44 f) rfl rfl) ?_ | refine call_step (run_view (c45 j f (fewB_bd hf).2.2) rfl rfl) ?_ | refine call_step (run_view (c46 j f (fewB_bd hf).1) rfl rfl) ?_); conv => whnf)
    | (refine ⟨[], [(2, 1)], (by decide +kernel), ?_⟩; conv => whnf)
    | (refine ⟨⟨(by first | rfl | (simp; done)), cap_ok (by simp only [List.length_map, List.length_cons, List.length_nil, List.length_append]; omega) rfl⟩, ?_⟩; conv => whnf)
    | (refine ⟨mem_one ⟨rfl, rfl⟩, ?_⟩; conv => whnf)
    | (refine ⟨(by intro y hy; obtain ⟨x, _, rfl⟩ := List.mem_map.1 hy; first | rfl | exact ⟨rfl, rfl⟩), ?_⟩; conv => whnf)
    | (refine ⟨cap_ok (by first | omega | (simp only [List.length_map]; omega)) rfl, ?_⟩; conv => whnf)
    | (refine ix_map (by omega) ?_; conv => whnf)
    | (refine ix_str (by omega) ?_; conv => whnf)
    | (refine wrap64 (by omega) ?_; conv => whnf)
    | (exfalso; simp only [List.length_map, List.length_cons, List.length_nil, List.length_append] at h; omega)
    | ((with_reducible refine endx_go ?_); first | (exact endx rfl; done) | (refine endx (congrArg D.bool ?_); (simp_all; done); done) | (refine endx (congrArg D.bool ?_); (simp_all [E0]; done); done))
    | (refine ⟨rfl, ?_⟩; conv => whnf)
    | fail
    )

theorem c8o (j : Jrn) (q : Qry) (f : Ref) (hf : fewB j = true) (hE : E0 j f = 0) : Fn 8 [j.enc, q.enc, f.enc] (.bool true) := by
  refine run_walkF eok Try.func8 rfl (by kernel_rfl) ?_
  conv => whnf
  repeat' (first
    | ((with_reducible refine on_dec_t (by assumption) ?_); conv => whnf)
    | ((with_reducible refine onBool_t (by assumption) ?_); conv => whnf)
    | ((with_reducible refine onBool_f (by assumption) ?_); conv => whnf)
    | ((with_reducible refine on_nt (by assumption) ?_); conv => whnf)
    | ((with_reducible refine on_ndec_t (by first | assumption | rfl) ?_); conv => whnf)
    | (exfalso; simp_all; done)
    | (exfalso; simp_all [E0]; done)
    | ((with_reducible refine on_dec_f ?_ ?_); (focus ((try simp only [List.length_map, List.length_cons, List.length_nil, List.length_append]); omega)); conv => whnf)
    | ((with_reducible refine on_dec_t ?_ ?_); (focus ((try simp only [List.length_map, List.length_cons, List.length_nil, List.length_append]); omega)); conv => whnf)
    | ((with_reducible refine on_dec (fun h => ?_) (fun h => ?_)) <;> (try simp only [List.length_map] at h) <;> conv => whnf)
    | ((with_reducible refine on_ndec (fun h => ?_) (fun h => ?_)) <;> (try simp only [List.length_map] at h) <;> conv => whnf)
    | ((with_reducible refine on_not (fun h => ?_) (fun h => ?_)) <;> conv => whnf)
    | ((with_reducible refine onBool_split (fun h => ?_) (fun h => ?_)) <;> conv => whnf)
    | ((with_reducible refine call_go ?_); (first | refine call_step (run_view c9 rfl rfl) ?_ | refine call_step (run_view (c10g _) rfl rfl) ?_ | refine call_step (run_data (xs := [_]) (c13 _ (fewB_bd hf).1 (fewB_bd hf).2.2) _) ?_ | refine call_step (run_data (xs := [_, _]) (c12R q hf) _) ?_ | refine call_step (run_data (xs := [_, _]) (c42 j q (fewB_bd hf).1 (fewB_bd hf).2.1 (fewB_bd hf).2.2) _) ?_ | refine call_step (run_view (c16 _ _ (readR_len j q hf) (readR_len j q hf)) rfl rfl) ?_ | refine call_step (run_view (c29O hf hE) rfl rfl) ?_ | refine call_step (run_view (c43O hf hE) rfl rfl) ?_ | refine call_step (run_view (c11 _ (fewB_bd hf).1 (fewB_bd hf).2.1 (fewB_bd hf).2.2) rfl rfl) ?_ | refine call_step (run_view (c44 f) rfl rfl) ?_ | refine call_step (run_view (c45 j f (fewB_bd hf).2.2) rfl rfl) ?_ | refine call_step (run_view (c46 j f (fewB_bd hf).1) rfl rfl) ?_); conv => whnf)
    | (refine ⟨[], [(2, 1)], (by decide +kernel), ?_⟩; conv => whnf)
    | (refine ⟨⟨(by first | rfl | (simp; done)), cap_ok (by simp only [List.length_map, List.length_cons, List.length_nil, List.length_append]; omega) rfl⟩, ?_⟩; conv => whnf)
    | (refine ⟨mem_one ⟨rfl, rfl⟩, ?_⟩; conv => whnf)
    | (refine ⟨(by intro y hy; obtain ⟨x, _, rfl⟩ := List.mem_map.1 hy; first | rfl | exact ⟨rfl, rfl⟩), ?_⟩; conv => whnf)
    | (refine ⟨cap_ok (by first | omega | (simp only [List.length_map]; omega)) rfl, ?_⟩; conv => whnf)
    | (refine ix_map (by omega) ?_; conv => whnf)
    | (refine ix_str (by omega) ?_; conv => whnf)
    | (refine wrap64 (by omega) ?_; conv => whnf)
    | (exfalso; simp only [List.length_map, List.length_cons, List.length_nil, List.length_append] at h; omega)
    | ((with_reducible refine endx_go ?_); first | (exact endx rfl; done) | (refine endx (congrArg D.bool ?_); (simp_all; done); done) | (refine endx (congrArg D.bool ?_); (simp_all [E0]; done); done))
    | (refine ⟨rfl, ?_⟩; conv => whnf)
    | fail
    )

theorem c8 (j : Jrn) (q : Qry) (f : Ref) : Fn 8 [j.enc, q.enc, f.enc] (.bool true) := by
  by_cases hf : fewB j = true
  · by_cases hE : E0 j f = 0
    · exact c8o j q f hf hE
    · exact c8e j q f hf hE
  · exact c8f j q f (by simpa using hf)
open Go.ChangeShapes Go.RowKit in
theorem shpQry {n : Nat} {x : D} (h : shp E (n + 2) 34 x) : ∃ r : Qry, x = r.enc := by
  obtain ⟨cs, rfl, y1, r1, ⟨k1, rfl, _⟩, rfl, y2, r2, ⟨k2, rfl, _⟩, rfl, y3, r3, ⟨k3, rfl, _⟩, rfl, y4, r4, ⟨b4, rfl⟩, rfl, y5, r5, ⟨k5, rfl, _⟩, rfl, rfl⟩ := h
  exact ⟨⟨k1, k2, k3, b4, k5⟩, rfl⟩

end Go.Proofs.Ytjbipdppgoldlaa

/-! Ld -/
namespace Go.Proofs.Ytjbipdppgoldlaa
open Go Dw Go.ChangeShapes Go.RowKit
theorem own8 : ownKnob Try.prog.godebug = none := by kernel_rfl
theorem laidOut8 : laidOutB Try.prog = true := by kernel_rfl

section
attribute [local irreducible] Run
theorem hrun8 : ∀ xs, shps E 5 Try.f8.params.toList xs → Run Try.prog 8 (xs.map .d) [] (.d (.bool true)) [] := by
  intro xs h
  obtain ⟨x1, r1, rfl, h1, x2, r2, rfl, h2, x3, r3, rfl, h3, rfl⟩ := h
  obtain ⟨j, rfl⟩ := shpJrn h1
  obtain ⟨q, rfl⟩ := shpQry h2
  obtain ⟨f, rfl⟩ := shpRef h3
  exact c8 j q f
end

set_option maxRecDepth 100000 in
theorem lifted8 (os : Os) (started : os.Started) (H : Type) (enc : TypeId × Value → H) :
    ReturnsInHanded {} Try.checked os 8 .any (Rows.changesReadsSpec.pre6 enc Try.prog Try.f8 Rows.changesReadsRow.domain false) (Rows.changesReadsSpec.post enc Try.prog Try.f8 false true false false) := by
  refine returnsInHanded_of_change (C := Try.checked) own8 started (by kernel_rfl) Try.func8
    (ChangeSpec.witness6 (enc := enc) (C := Try.checked) false ⟨#[], #[.agg #[.int .i64 0, .int .i64 0, .int .i64 0, .int .i64 0, .slice none 0 0, .slice none 0 0], .agg #[.int .i64 0, .int .i64 0, .int .i64 0, .bool false, .int .i64 0], .agg #[.int .i64 0, .int .i64 0]], []⟩ 8 (by kernel_rfl) (by kernel_rfl) (by kernel_rfl) (by kernel_rfl)) ?_
  intro W base args ds gs before hval hW _ _
  refine law_lift (n := 5) (t4 := 4) eok Try.func8 (by kernel_rfl) rfl laidOut8 rfl ?_ rfl Try.underlying4 (by kernel_rfl) hrun8 W base args ds gs before hval hW
  intro H ds hds
  match ds, hds with
  | [a, b, c], _ => rfl

theorem over8 : Rows.changesReadsRow.holds Try.pinned (OpenSpec.ofChange Rows.changesReadsSpec) :=
  OpenClaim.holds_of_wide 8 Try.f8 rfl rfl rfl rfl rfl rfl rfl ⟨rfl, rfl, rfl, rfl, rfl⟩ rfl rfl rfl rfl rfl (by kernel_rfl) Try.func8 (by kernel_rfl)
    (of_decide_eq_true (by kernel_rfl)) (by unfold Func.isWrapper; first | (rw [if_pos (by decide +kernel)]; kernel_rfl) | (rw [if_neg (by decide +kernel)]; exact ⟨rfl, rfl⟩))
    (fun os started H enc _ => lifted8 os started H enc)
theorem changesReads_proved : Rows.ChangesReadsSaid := over8
end Go.Proofs.Ytjbipdppgoldlaa
