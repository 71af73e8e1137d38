/-
  Own lemmas, no conditions: Xa, Xb, Pk, Ph, Pl, Yh.
-/
import Derived.Test.YtjbipdppgoldlaaGreatDoorGrpF
set_option linter.unusedVariables false
set_option linter.unusedSimpArgs false

/-! Xa -/
namespace Go.Proofs.YtjbipdppgoldlaaGreatDoor
open Go Dw
set_option maxRecDepth 10000
set_option linter.unusedVariables false
set_option linter.unusedSimpArgs false
attribute [local irreducible] Run
set_option maxHeartbeats 2000000

theorem posV {j : Jrn} (V : Valid j) : ∀ x ∈ j.recs, 0 ≤ x.usn ∧ x.usn ≤ 2147483647 := fun x hx => by
  obtain ⟨k, hk, rfl⟩ := List.getElem_of_mem hx
  rw [posA_usn V hk]
  exact posA_bd V (Nat.le_of_lt hk)
attribute [local irreducible] leB refB size sz hdB opnB encB

end Go.Proofs.YtjbipdppgoldlaaGreatDoor

/-! Xb -/
namespace Go.Proofs.YtjbipdppgoldlaaGreatDoor
open Go Dw
set_option maxRecDepth 10000
set_option linter.unusedVariables false
set_option linter.unusedSimpArgs false
attribute [local irreducible] Run
set_option maxHeartbeats 4000000

theorem encB_pos (x : Chg) : 32 ≤ (encB x).length := by
  rw [encB_eq, List.length_append, encA_length]; omega
def nums (j : Jrn) : List Int := [j.id, j.first, j.next, j.most]
def accA (j : Jrn) (k : Nat) : List UInt8 := ((nums j).take k).flatMap fun n => leB n.toNat 4
def accB (j : Jrn) (k : Nat) : List UInt8 := hdB j ++ (j.opens.take k).flatMap opnB
def accC (j : Jrn) (k : Nat) : List UInt8 := hdB j ++ j.opens.flatMap opnB ++ (j.recs.take k).flatMap encB
theorem accA_z (j : Jrn) : accA j 0 = [] := rfl
theorem accA_0 (j : Jrn) : accA j 1 = accA j 0 ++ leB j.id.toNat 4 := rfl
theorem accA_1 (j : Jrn) : accA j 2 = accA j 1 ++ leB j.first.toNat 4 := rfl
theorem accA_2 (j : Jrn) : accA j 3 = accA j 2 ++ leB j.next.toNat 4 := rfl
theorem accA_3 (j : Jrn) : accA j 4 = accA j 3 ++ leB j.most.toNat 4 := rfl
theorem accA_4 (j : Jrn) : accA j 4 ++ leB j.opens.length 2 = accB j 0 := by
  simp only [accA, nums, accB, hdB, List.take_zero, List.flatMap_nil, List.append_nil, List.take_succ_cons, List.flatMap_cons, List.append_assoc]
theorem accB_s (j : Jrn) {k : Nat} (h : k < j.opens.length) : accB j (k + 1) = accB j k ++ refB j.opens[k].file ++ leB j.opens[k].reasons.toNat 2 := by
  unfold accB; rw [flat_take h]; simp only [opnB, List.append_assoc]
theorem accB_e (j : Jrn) {k : Nat} (h : j.opens.length ≤ k) : accB j k = accC j 0 := by
  unfold accB accC; rw [List.take_of_length_le h]; simp
theorem accC_s (j : Jrn) {k : Nat} (h : k < j.recs.length) : accC j (k + 1) = accC j k ++ encB j.recs[k] := by
  unfold accC; rw [flat_take h]; simp only [List.append_assoc]
theorem accC_e (j : Jrn) {k : Nat} (h : j.recs.length ≤ k) : accC j k = jrnB j := by
  unfold accC jrnB; rw [List.take_of_length_le h]
theorem accA_len (j : Jrn) {k : Nat} (h : k ≤ 4) : (accA j k).length ≤ 16 := by
  have e : ∀ (l : List Int), (l.flatMap fun n => leB n.toNat 4).length = 4 * l.length := by
    intro l
    induction l with
    | nil => rfl
    | cons x l ih => simp only [List.flatMap_cons, List.length_append, leB_length, ih, List.length_cons]; omega
  unfold accA
  rw [e, List.length_take]; omega
theorem accB_len {j : Jrn} (V : Valid j) (k : Nat) : (accB j k).length ≤ 1000 := by
  have := V.opens
  unfold accB
  rw [List.length_append, hdB_length, opnsB_length, List.length_take]; omega
theorem accC_len {j : Jrn} (V : Valid j) (k : Nat) : (accC j k).length ≤ 100000 := by
  have h1 := V.opens
  have h2 := V.recs
  have h3 := recsB_length (j.recs.take k) fun x hx => V.recOk x (List.mem_of_mem_take hx)
  rw [List.length_take] at h3
  unfold accC
  rw [List.length_append, List.length_append, hdB_length, opnsB_length]; omega
attribute [local irreducible] leB refB size sz hdB opnB encB accA accB accC

theorem c15 (j : Jrn) (hr : j.recs.length < 1000000) (hn : ∀ x ∈ j.recs, x.name.length < 1000000) (ho : j.opens.length < 1000000) : Fn 15 [j.enc] (.tup [.str (if (checkJ j).2 = 0 then jrnB j else []), i (checkJ j).2]) := by
  refine run_walkF eok Tryz.func15 rfl (by kernel_rfl) ?_
  conv => whnf
  repeat' (first
    | ((with_reducible refine on_dec_f ?_ ?_); (focus ((try simp only [List.length_map, List.length_cons, List.length_nil, List.length_append]); omega)); conv => whnf)
    | ((with_reducible refine on_dec_t ?_ ?_); (focus ((try simp only [List.length_map, List.length_cons, List.length_nil, List.length_append]); omega)); conv => whnf)
    | ((with_reducible refine on_dec (fun h => ?_) (fun h => ?_)) <;> (try simp only [List.length_map] at h) <;> conv => whnf)
    | ((with_reducible refine on_ndec (fun h => ?_) (fun h => ?_)) <;> (try simp only [List.length_map] at h) <;> conv => whnf)
    | ((with_reducible refine on_not (fun h => ?_) (fun h => ?_)) <;> conv => whnf)
    | ((with_reducible refine onBool_split (fun h => ?_) (fun h => ?_)) <;> conv => whnf)
    | ((with_reducible refine call_go ?_); (first | refine call_step (run_view (c42 _ hr hn ho) rfl rfl) ?_ | refine call_step (run_buf (c45 (accA j 0) _ (by omega) (by have := la 0 (by omega); omega)) rfl rfl rfl rfl) ?_ | refine call_step (run_buf (c45 (accA j 1) _ (by omega) (by have := la 1 (by omega); omega)) rfl rfl rfl rfl) ?_ | refine call_step (run_buf (c45 (accA j 2) _ (by omega) (by have := la 2 (by omega); omega)) rfl rfl rfl rfl) ?_ | refine call_step (run_buf (c45 (accA j 3) _ (by omega) (by have := la 3 (by omega); omega)) rfl rfl rfl rfl) ?_ | refine call_step (run_buf (c46 (accA j k) _ (by rw [List.length_map]; omega) (by have := la k (by omega); omega)) rfl rfl rfl rfl) ?_ | refine call_step (run_buf (c46 (accB j k ++ refB (j.opens[k]'(by omega)).file) _ (by have := vo2 _ (List.getElem_mem (l := j.opens) (n := k) (by omega)); omega) (by have := lb k; simp only [List.length_append, refB_length]; omega)) rfl rfl rfl (by simp only [List.length_append])) ?_ | refine call_step (run_buf (c47 (accB j k) (j.opens[k]'(by omega)).file (by have := vo _ (List.getElem_mem (l := j.opens) (n := k) (by omega)); omega) (by have := vo _ (List.getElem_mem (l := j.opens) (n := k) (by omega)); omega) (by have := lb k; omega)) rfl rfl rfl rfl) ?_ | refine call_step (run_view (c48 (j.recs[k]'(by omega)) (vp _ (List.getElem_mem _)) (vq _ (List.getElem_mem _))) rfl rfl) ?_); conv => whnf)
    | (refine ⟨[], [(5, 3)], (by decide +kernel), ?_⟩; conv => whnf)
    | (refine loop1 (fun (k : Nat) => 4 - k) (fun (k : Nat) => k ≤ 4) (fun (k : Nat) => [(1, .ptr 0 0 0), (5, .sl 1 0 (accA j k).length 1 none), (25, .agg [.d (i j.id), .d (i j.first), .d (i j.next), .d (i j.most)]), (26, .d (i k))]) (fun (k : Nat) => [⟨[.d j.enc], 6, 0⟩, ⟨(accA j k).map byteV, 1, 0⟩]) (0) (by exact Nat.zero_le _) ?_ (fun k C hI hC => ?_); (exact ⟨[.old 0, .void 1], rfl, rfl, ⟨⟨rfl, rfl, rfl⟩, ⟨rfl, rfl, (by rw [accA_z]; rfl), rfl⟩, ⟨rfl, rfl, rfl, rfl, trivial⟩, rfl, trivial⟩, ⟨⟨rfl, rfl, .inl ⟨[_], rfl, rfl⟩⟩, ⟨(by show (accA j 0).map byteV = []; rw [accA_z]; rfl), rfl, (by decide), rfl⟩, trivial⟩⟩); have hv : (checkJ j).2 = 0 := (by simpa using h); have V := valid_of hv; have vn := V.nums; have vr := V.recs; have vl := V.opens; have vo := fun x hx => refErr_bd (V.opnOk x hx).1; have vo2 := fun x hx => (V.opnOk x hx).2; have vq := V.recOk; have vp := posV V; have la := fun k (hk : k ≤ 4) => accA_len j hk; have lb := accB_len V; have lc := accC_len V; all_goals (conv => whnf))
    | (refine hC (1) _ _ ?_ (by omega) ?_; clear hC; rotate_left; (exact ⟨[.old 0, .old 2], rfl, rfl, ⟨(by first | exact congrArg (D.int .i64) (by omega) | exact ⟨rfl, rfl, rfl⟩ | exact ⟨rfl, rfl, rfl, rfl, rfl⟩ | (show (_ : D) = _; with_reducible rfl)), ⟨rfl, rfl, (by rw [accA_0]; (simp only [List.length_append, List.length_map]) <;> rfl), rfl, rfl⟩, ⟨rfl, rfl, rfl, rfl, trivial⟩, (by first | exact congrArg (D.int .i64) (by omega) | exact ⟨rfl, rfl, rfl⟩ | exact ⟨rfl, rfl, rfl, rfl, rfl⟩ | (show (_ : D) = _; with_reducible rfl)), trivial⟩, ⟨⟨rfl, rfl, .inl ⟨[_], rfl, rfl⟩⟩, wkO_bytes (accA j 1) rfl rfl rfl (by (rw [accA_0]) <;> rfl) rfl, trivial⟩⟩); (exact (by omega : 1 ≤ 4)))
    | (refine hC (2) _ _ ?_ (by omega) ?_; clear hC; rotate_left; (exact ⟨[.old 0, .old 2], rfl, rfl, ⟨(by first | exact congrArg (D.int .i64) (by omega) | exact ⟨rfl, rfl, rfl⟩ | exact ⟨rfl, rfl, rfl, rfl, rfl⟩ | (show (_ : D) = _; with_reducible rfl)), ⟨rfl, rfl, (by rw [accA_1]; (simp only [List.length_append, List.length_map]) <;> rfl), rfl, rfl⟩, ⟨rfl, rfl, rfl, rfl, trivial⟩, (by first | exact congrArg (D.int .i64) (by omega) | exact ⟨rfl, rfl, rfl⟩ | exact ⟨rfl, rfl, rfl, rfl, rfl⟩ | (show (_ : D) = _; with_reducible rfl)), trivial⟩, ⟨⟨rfl, rfl, .inl ⟨[_], rfl, rfl⟩⟩, wkO_bytes (accA j 2) rfl rfl rfl (by (rw [accA_1]) <;> rfl) rfl, trivial⟩⟩); (exact (by omega : 2 ≤ 4)))
    | (refine hC (3) _ _ ?_ (by omega) ?_; clear hC; rotate_left; (exact ⟨[.old 0, .old 2], rfl, rfl, ⟨(by first | exact congrArg (D.int .i64) (by omega) | exact ⟨rfl, rfl, rfl⟩ | exact ⟨rfl, rfl, rfl, rfl, rfl⟩ | (show (_ : D) = _; with_reducible rfl)), ⟨rfl, rfl, (by rw [accA_2]; (simp only [List.length_append, List.length_map]) <;> rfl), rfl, rfl⟩, ⟨rfl, rfl, rfl, rfl, trivial⟩, (by first | exact congrArg (D.int .i64) (by omega) | exact ⟨rfl, rfl, rfl⟩ | exact ⟨rfl, rfl, rfl, rfl, rfl⟩ | (show (_ : D) = _; with_reducible rfl)), trivial⟩, ⟨⟨rfl, rfl, .inl ⟨[_], rfl, rfl⟩⟩, wkO_bytes (accA j 3) rfl rfl rfl (by (rw [accA_2]) <;> rfl) rfl, trivial⟩⟩); (exact (by omega : 3 ≤ 4)))
    | (refine hC (4) _ _ ?_ (by omega) ?_; clear hC; rotate_left; (exact ⟨[.old 0, .old 2], rfl, rfl, ⟨(by first | exact congrArg (D.int .i64) (by omega) | exact ⟨rfl, rfl, rfl⟩ | exact ⟨rfl, rfl, rfl, rfl, rfl⟩ | (show (_ : D) = _; with_reducible rfl)), ⟨rfl, rfl, (by rw [accA_3]; (simp only [List.length_append, List.length_map]) <;> rfl), rfl, rfl⟩, ⟨rfl, rfl, rfl, rfl, trivial⟩, (by first | exact congrArg (D.int .i64) (by omega) | exact ⟨rfl, rfl, rfl⟩ | exact ⟨rfl, rfl, rfl, rfl, rfl⟩ | (show (_ : D) = _; with_reducible rfl)), trivial⟩, ⟨⟨rfl, rfl, .inl ⟨[_], rfl, rfl⟩⟩, wkO_bytes (accA j 4) rfl rfl rfl (by (rw [accA_3]) <;> rfl) rfl, trivial⟩⟩); (exact (by omega : 4 ≤ 4)))
    | (refine loop1 (fun (k : Nat) => j.opens.length - k) (fun (k : Nat) => k ≤ j.opens.length) (fun (k : Nat) => [(1, .ptr 0 0 0), (5, .sl 1 0 (accB j k).length 1 none), (41, .d (.fs (j.opens.map Opn.enc))), (42, .d (i j.opens.length)), (43, .d (i k))]) (fun (k : Nat) => [⟨[.d j.enc], 6, 0⟩, ⟨(accB j k).map byteV, 1, 0⟩]) (0) (by exact Nat.zero_le _) ?_ (fun k C hI hC => ?_); (exact ⟨[.old 0, .old 2], rfl, rfl, ⟨⟨rfl, rfl, rfl⟩, ⟨rfl, rfl, (by have h4 : k = 4 := (by omega); subst h4; rw [← accA_4]; (simp only [List.length_append, List.length_map, leB_length]) <;> rfl), rfl, rfl⟩, rfl, (congrArg (D.int .i64) (by (rw [List.length_map]) <;> rfl)), rfl, trivial⟩, ⟨⟨rfl, rfl, .inl ⟨[_], rfl, rfl⟩⟩, wkO_bytes (accB j 0) rfl rfl rfl (by have h4 : k = 4 := (by omega); subst h4; (rw [← accA_4, ← List.length_map (f := Opn.enc)]) <;> rfl) rfl, trivial⟩⟩); all_goals (conv => whnf))
    | (refine hC (k + 1) _ _ ?_ (by omega) ?_; clear hC; rotate_left; (exact ⟨[.old 0, .old 4], rfl, rfl, ⟨(by first | exact congrArg (D.int .i64) (by omega) | exact ⟨rfl, rfl, rfl⟩ | exact ⟨rfl, rfl, rfl, rfl, rfl⟩ | (show (_ : D) = _; with_reducible rfl)), ⟨rfl, rfl, (by rw [accB_s j (by omega)]; (simp only [List.length_append, List.length_map]) <;> rfl), rfl, rfl⟩, (by first | exact congrArg (D.int .i64) (by omega) | exact ⟨rfl, rfl, rfl⟩ | exact ⟨rfl, rfl, rfl, rfl, rfl⟩ | (show (_ : D) = _; with_reducible rfl)), (by first | exact congrArg (D.int .i64) (by omega) | exact ⟨rfl, rfl, rfl⟩ | exact ⟨rfl, rfl, rfl, rfl, rfl⟩ | (show (_ : D) = _; with_reducible rfl)), (by first | exact congrArg (D.int .i64) (by omega) | exact ⟨rfl, rfl, rfl⟩ | exact ⟨rfl, rfl, rfl, rfl, rfl⟩ | (show (_ : D) = _; with_reducible rfl)), trivial⟩, ⟨⟨rfl, rfl, .inl ⟨[_], rfl, rfl⟩⟩, wkO_bytes (accB j (k + 1)) rfl rfl rfl (by (rw [accB_s j (by omega)]) <;> rfl) rfl, trivial⟩⟩); (exact (by omega : k + 1 ≤ j.opens.length)))
    | (refine loop1 (fun (k : Nat) => j.recs.length - k) (fun (k : Nat) => k ≤ j.recs.length) (fun (k : Nat) => [(1, .ptr 0 0 0), (5, .sl 1 0 (accC j k).length 1 none), (57, .d (.fs (j.recs.map Chg.enc))), (58, .d (i j.recs.length)), (59, .d (i k))]) (fun (k : Nat) => [⟨[.d j.enc], 6, 0⟩, ⟨(accC j k).map byteV, 1, 0⟩]) (0) (by exact Nat.zero_le _) ?_ (fun k C hI hC => ?_); (exact ⟨[.old 0, .old 1], rfl, rfl, ⟨⟨rfl, rfl, rfl⟩, ⟨rfl, rfl, (by rw [accB_e j (by omega)]), rfl, rfl⟩, rfl, (congrArg (D.int .i64) (by (rw [List.length_map]) <;> rfl)), rfl, trivial⟩, ⟨⟨rfl, rfl, .inl ⟨[_], rfl, rfl⟩⟩, wkO_bytes (accC j 0) rfl rfl rfl (by rw [accB_e j (by omega)]) rfl, trivial⟩⟩); all_goals (conv => whnf))
    | (refine hC (k + 1) _ _ ?_ (by omega) ?_; clear hC; rotate_left; (exact ⟨[.old 0, .old 3], rfl, rfl, ⟨(by first | exact congrArg (D.int .i64) (by omega) | exact ⟨rfl, rfl, rfl⟩ | exact ⟨rfl, rfl, rfl, rfl, rfl⟩ | (show (_ : D) = _; with_reducible rfl)), ⟨rfl, rfl, (by rw [accC_s j (by omega)]; (simp only [List.length_append, List.length_map]) <;> rfl), rfl, rfl⟩, (by first | exact congrArg (D.int .i64) (by omega) | exact ⟨rfl, rfl, rfl⟩ | exact ⟨rfl, rfl, rfl, rfl, rfl⟩ | (show (_ : D) = _; with_reducible rfl)), (by first | exact congrArg (D.int .i64) (by omega) | exact ⟨rfl, rfl, rfl⟩ | exact ⟨rfl, rfl, rfl, rfl, rfl⟩ | (show (_ : D) = _; with_reducible rfl)), (by first | exact congrArg (D.int .i64) (by omega) | exact ⟨rfl, rfl, rfl⟩ | exact ⟨rfl, rfl, rfl, rfl, rfl⟩ | (show (_ : D) = _; with_reducible rfl)), trivial⟩, ⟨⟨rfl, rfl, .inl ⟨[_], rfl, rfl⟩⟩, wkO_bytes (accC j (k + 1)) rfl rfl rfl (by (rw [accC_s j (by omega), List.map_append]) <;> rfl) rfl, trivial⟩⟩); (exact (by omega : k + 1 ≤ j.recs.length)))
    | (refine ⟨⟨(by first | rfl | (simp; done)), cap_ok (by simp only [List.length_map, List.length_cons, List.length_nil, List.length_append]; omega) rfl⟩, ?_⟩; conv => whnf)
    | (refine ⟨mem_one ⟨rfl, rfl⟩, ?_⟩; conv => whnf)
    | (refine ⟨(by intro y hy; obtain ⟨x, _, rfl⟩ := List.mem_map.1 hy; first | rfl | exact ⟨rfl, rfl⟩), ?_⟩; conv => whnf)
    | (refine ⟨cap_ok (by first | omega | (simp only [List.length_map]; omega)) rfl, ?_⟩; conv => whnf)
    | (refine ix_map (by omega) ?_; conv => whnf)
    | (refine ix_str (by omega) ?_; conv => whnf)
    | (refine wrap64 (by omega) ?_; conv => whnf)
    | (refine wrapU16 (by have := vo2 _ (List.getElem_mem (l := j.opens) (n := k) (by omega)); omega) ?_; conv => whnf)
    | (rcases (by omega : k = 0 ∨ k = 1 ∨ k = 2 ∨ k = 3) with rfl | rfl | rfl | rfl <;> (refine ⟨⟨by decide, by decide⟩, ?_⟩; conv => whnf))
    | (refine wrapU16 (by rw [List.length_map]; omega) ?_; conv => whnf)
    | (refine ⟨⟨(by simp only [List.length_map]; omega), cap_ok (by have := lc k; have := encB_length (vq _ (List.getElem_mem (l := j.recs) (n := k) (by omega))); simp only [List.length_map]; omega) rfl⟩, ?_⟩; conv => whnf)
    | (refine ⟨jrnB j, ⟨(by rw [accC_e j (by omega)]; simp), (by rw [accC_e j (by omega), List.drop_zero]; exact List.take_of_length_le (by simp))⟩, ?_⟩; conv => whnf)
    | (exfalso; have := encB_pos (j.recs[k]'(by omega)); (try simp only [List.length_map] at h); omega)
    | (refine wrap64 (by omega) ?_; conv => whnf)
    | (refine wrapU32 (by omega) ?_; conv => whnf)
    | (refine wrapU16 (by omega) ?_; conv => whnf)
    | (refine wrapU8n ?_; conv => whnf)
    | (refine wrapU16n ?_; conv => whnf)
    | (refine shr_n 256 rfl rfl ?_; conv => whnf)
    | (refine shr_n 65536 rfl rfl ?_; conv => whnf)
    | (refine shr_n 16777216 rfl rfl ?_; conv => whnf)
    | (refine ⟨Nat.le_refl _, ?_⟩; conv => whnf)
    | (refine ⟨⟨(by simp only [List.length_map, List.length_append]; omega), cap_ok (by simp only [List.length_map, List.length_cons, List.length_nil, List.length_append, leB_length, refB_length]; omega) rfl⟩, ?_⟩; conv => whnf)
    | (refine ⟨cap_ok (by simp only [List.length_map, List.length_cons, List.length_nil, List.length_append, leB_length, refB_length]; omega) rfl, ?_⟩; conv => whnf)
    | (exfalso; simp only [List.length_map, List.length_cons, List.length_nil, List.length_append] at h; omega)
    | ((with_reducible refine endx_go ?_); first | (refine endx2 ?_; (rw [if_neg h]) <;> rfl; done) | (refine endx2 ?_; (rw [if_pos hv, hv]) <;> rfl; done))
    | (refine ⟨rfl, ?_⟩; conv => whnf)
    | fail
    )

end Go.Proofs.YtjbipdppgoldlaaGreatDoor

/-! Pk -/
namespace Go.Proofs.YtjbipdppgoldlaaGreatDoor
open Go Dw
theorem zeros4 : ([0, 0, 0, 0] : Bs) = Dw.leB 0 4 := by decide
section
attribute [local irreducible] Dw.leB
theorem nAt_here {n c : Nat} {t : Bs} (hn : n < 256 ^ c) : nAt (Dw.leB n c ++ t) 0 c = n := by
  unfold nAt
  rw [List.drop_zero, List.take_left' (Dw.leB_length n c), leN_leB, Nat.mod_eq_of_lt hn]
theorem nAt_skip (a : Nat) {n c d : Nat} {t : Bs} : nAt (Dw.leB n c ++ t) (a + c) d = nAt t a d := by
  unfold nAt
  rw [show a + c = (Dw.leB n c).length + a by rw [Dw.leB_length]; omega, List.drop_append, List.drop_eq_nil_of_le (by omega), List.nil_append, Nat.add_sub_cancel_left]
theorem sz_bd {x : Chg} (hv : recordErr x = 0) : 32 + x.name.length ≤ sz x ∧ sz x ≤ 72 ∧ (sz x : Int) = (((32 + x.name.length : Nat) : Int) + 7) / 8 * 8 := by
  have v6 := nameErr_ok (recordErr_ok hv).2.2.2.2
  unfold sz size; omega
theorem encB_len {x : Chg} (hv : recordErr x = 0) : (encB x).length = sz x := by
  have := sz_bd hv
  rw [encB_eq, List.length_append, encA_length, List.length_replicate]; omega
theorem enc_flat (x : Chg) (t : Bs) : encB x ++ t = Dw.leB (sz x) 4 ++ (Dw.leB x.usn.toNat 4 ++ (Dw.leB x.file.r.toNat 4 ++ (Dw.leB x.file.s.toNat 2 ++ (Dw.leB x.parent.r.toNat 4 ++ (Dw.leB x.parent.s.toNat 2 ++
    (Dw.leB x.tick.toNat 4 ++ (Dw.leB x.reasons.toNat 2 ++ (Dw.leB x.name.length 2 ++ (Dw.leB 0 4 ++ (x.name ++ (List.replicate (sz x - 32 - x.name.length) 0 ++ t))))))))))) := by
  unfold encB encH refB
  rw [zeros4]
  simp only [List.append_assoc]
theorem ofR_enc {x : Chg} (t : Bs) (h : cbErr x = 0) : ofR (encB x ++ t) = (x, (sz x : Int), 0) := by
  obtain ⟨hu, hv⟩ := cbErr_ok h
  obtain ⟨v1, v2, v3, v4, v5⟩ := recordErr_ok hv
  have v6 := nameErr_ok v5; have v7 := refErr_bd v1; have v8 := refErr_bd v2
  obtain ⟨w1, w2, w3⟩ := sz_bd hv
  have hl := encB_len hv
  have e := enc_flat x t
  have b2 : (256 ^ 2 : Nat) = 65536 := by decide
  have b4 : (256 ^ 4 : Nat) = 4294967296 := by decide
  have a0 : nAt (encB x ++ t) 0 4 = sz x := by rw [e]; exact nAt_here (by omega)
  have a4 : nAt (encB x ++ t) 4 4 = x.usn.toNat := by rw [e]; exact (nAt_skip 0).trans (nAt_here (by omega))
  have a8 : nAt (encB x ++ t) 8 4 = x.file.r.toNat := by rw [e]; exact (nAt_skip 4).trans ((nAt_skip 0).trans (nAt_here (by omega)))
  have a12 : nAt (encB x ++ t) 12 2 = x.file.s.toNat := by rw [e]; exact (nAt_skip 8).trans ((nAt_skip 4).trans ((nAt_skip 0).trans (nAt_here (by omega))))
  have a14 : nAt (encB x ++ t) 14 4 = x.parent.r.toNat := by rw [e]; exact (nAt_skip 10).trans ((nAt_skip 6).trans ((nAt_skip 2).trans ((nAt_skip 0).trans (nAt_here (by omega)))))
  have a18 : nAt (encB x ++ t) 18 2 = x.parent.s.toNat := by rw [e]; exact (nAt_skip 14).trans ((nAt_skip 10).trans ((nAt_skip 6).trans ((nAt_skip 4).trans ((nAt_skip 0).trans (nAt_here (by omega))))))
  have a20 : nAt (encB x ++ t) 20 4 = x.tick.toNat := by rw [e]; exact (nAt_skip 16).trans ((nAt_skip 12).trans ((nAt_skip 8).trans ((nAt_skip 6).trans ((nAt_skip 2).trans ((nAt_skip 0).trans (nAt_here (by omega)))))))
  have a24 : nAt (encB x ++ t) 24 2 = x.reasons.toNat := by rw [e]; exact (nAt_skip 20).trans ((nAt_skip 16).trans ((nAt_skip 12).trans ((nAt_skip 10).trans ((nAt_skip 6).trans ((nAt_skip 4).trans ((nAt_skip 0).trans (nAt_here (by omega))))))))
  have a26 : nAt (encB x ++ t) 26 2 = x.name.length := by rw [e]; exact (nAt_skip 22).trans ((nAt_skip 18).trans ((nAt_skip 14).trans ((nAt_skip 12).trans ((nAt_skip 8).trans ((nAt_skip 6).trans ((nAt_skip 2).trans ((nAt_skip 0).trans (nAt_here (by omega)))))))))
  have a28 : nAt (encB x ++ t) 28 4 = 0 := by rw [e]; exact (nAt_skip 24).trans ((nAt_skip 20).trans ((nAt_skip 16).trans ((nAt_skip 14).trans ((nAt_skip 10).trans ((nAt_skip 8).trans ((nAt_skip 4).trans ((nAt_skip 2).trans ((nAt_skip 0).trans (nAt_here (by omega))))))))))
  have hz : ((encB x ++ t).take (sz x)).drop (32 + x.name.length) = List.replicate (sz x - 32 - x.name.length) 0 := by
    rw [List.take_left' hl, encB_eq, List.drop_left' (encA_length x)]
  have hnm : ((encB x ++ t).take (32 + x.name.length)).drop 32 = x.name := by
    rw [encB_eq, List.append_assoc, List.take_left' (encA_length x)]
    unfold encA
    rw [List.drop_left' (by simp [encH_length])]
  have hr : recAt (encB x ++ t) = x := by
    unfold recAt
    rw [a4, a8, a12, a14, a18, a20, a24, a26, hnm]
    obtain ⟨u, ⟨fr, fs⟩, ⟨pr, ps⟩, tk, q, nm⟩ := x
    simp only at *
    rw [Int.toNat_of_nonneg hu.1, Int.toNat_of_nonneg v7.1.1, Int.toNat_of_nonneg (by omega : 0 ≤ fs), Int.toNat_of_nonneg v8.1.1, Int.toNat_of_nonneg (by omega : 0 ≤ ps), Int.toNat_of_nonneg v3.1, Int.toNat_of_nonneg (by omega : 0 ≤ q)]
  have hf : formB (encB x ++ t) = true := form_t (by rw [a0, a26]; exact w3) a28 (by rw [a0, a26, hz]; unfold isz; simp)
  have hlen : (encB x ++ t).length = sz x + t.length := by rw [List.length_append, hl]
  rw [ofR_o (by omega) (by omega) hf (by rw [hr]; exact h), hr, a0]
theorem recsGo_enc : ∀ (l : List Chg) (f : Nat) (acc : List Chg), (∀ x ∈ l, cbErr x = 0) → (l.flatMap encB).length ≤ f → recsGo f (l.flatMap encB) acc = (acc ++ l, 0)
  | [], f, acc, _, _ => by rw [recsGo_nil (by simp), List.append_nil]
  | x :: l, f, acc, h, hf => by
    have hx := h x (by simp)
    have hl := encB_len (cbErr_ok hx).2
    have h32 := encB_pos x
    have eo := ofR_enc (x := x) (l.flatMap encB) hx
    rw [List.flatMap_cons] at hf ⊢
    rw [List.length_append] at hf
    rw [recsGo_o (by intro h0; have := congrArg List.length h0; simp only [List.length_append, List.length_nil] at this; omega) (by rw [List.length_append]; exact hf) (by rw [eo]), eo]
    simp only [Int.toNat_natCast]
    rw [List.drop_left' hl, recsGo_enc l (f - 1) _ (fun y hy => h y (by simp [hy])) (by omega), List.append_assoc]; rfl
theorem cb_of {x : Chg} (h1 : 0 ≤ x.usn ∧ x.usn ≤ 2147483647) (h2 : recordErr x = 0) : cbErr x = 0 := by
  unfold cbErr
  rw [within_iff.2 h1, h2]; rfl
theorem opn_flat (x : Opn) (t : Bs) : opnB x ++ t = Dw.leB x.file.r.toNat 4 ++ (Dw.leB x.file.s.toNat 2 ++ (Dw.leB x.reasons.toNat 2 ++ t)) := by
  unfold opnB refB
  simp only [List.append_assoc]
theorem hd_flat (j : Jrn) (t : Bs) : hdB j ++ t = Dw.leB j.id.toNat 4 ++ (Dw.leB j.first.toNat 4 ++ (Dw.leB j.next.toNat 4 ++ (Dw.leB j.most.toNat 4 ++ (Dw.leB j.opens.length 2 ++ t)))) := by
  unfold hdB
  simp only [List.append_assoc]
theorem jrn_drop {j : Jrn} {k : Nat} (h : k ≤ j.opens.length) : (jrnB j).drop (18 + 8 * k) = (j.opens.drop k).flatMap opnB ++ j.recs.flatMap encB := by
  have e : jrnB j = (hdB j ++ (j.opens.take k).flatMap opnB) ++ ((j.opens.drop k).flatMap opnB ++ j.recs.flatMap encB) := by
    have e0 : j.opens.flatMap opnB = (j.opens.take k).flatMap opnB ++ (j.opens.drop k).flatMap opnB := by rw [← List.flatMap_append, List.take_append_drop]
    unfold jrnB
    rw [e0]
    simp only [List.append_assoc]
  rw [e, List.drop_left']
  rw [List.length_append, hdB_length, opnsB_length, List.length_take, Nat.min_eq_left h]
theorem opns_enc {j : Jrn} (V : Valid j) : ∀ k, k ≤ j.opens.length → opnsAt (jrnB j) k = j.opens.take k
  | 0, _ => rfl
  | k + 1, h => by
    rw [opnsAt_succ, opns_enc V k (by omega), List.take_succ_eq_append_getElem (by omega)]
    congr 2
    have hd := jrn_drop (j := j) (k := k) (by omega)
    rw [List.drop_eq_getElem_cons (by omega : k < j.opens.length), List.flatMap_cons, List.append_assoc, opn_flat] at hd
    obtain ⟨h1, h2⟩ := V.opnOk j.opens[k] (List.getElem_mem _)
    have v7 := refErr_bd h1
    have b2 : (256 ^ 2 : Nat) = 65536 := by decide
    have b4 : (256 ^ 4 : Nat) = 4294967296 := by decide
    have a0 : nAt (jrnB j) (18 + 8 * k) 4 = j.opens[k].file.r.toNat := by
      have := nAt_dr (s := jrnB j) (a := 18 + 8 * k) (b := 0) (c := 4)
      rw [hd] at this; rw [← Nat.add_zero (18 + 8 * k), ← this]; exact nAt_here (by omega)
    have a4 : nAt (jrnB j) (18 + 8 * k + 4) 2 = j.opens[k].file.s.toNat := by
      rw [← nAt_dr, hd]; exact (nAt_skip 0).trans (nAt_here (by omega))
    have a6 : nAt (jrnB j) (18 + 8 * k + 6) 2 = j.opens[k].reasons.toNat := by
      rw [← nAt_dr, hd]; exact (nAt_skip 2).trans ((nAt_skip 0).trans (nAt_here (by omega)))
    unfold opnAt
    rw [a0, a4, a6]
    generalize j.opens[k] = o at *
    obtain ⟨⟨fr, fs⟩, q⟩ := o
    simp only at *
    rw [Int.toNat_of_nonneg v7.1.1, Int.toNat_of_nonneg (by omega : 0 ≤ fs), Int.toNat_of_nonneg (by omega : 0 ≤ q)]
theorem jof_enc {j : Jrn} (V : Valid j) (hs : (jrnB j).length ≤ 20000) : jofR (jrnB j) = (j, 0) := by
  have e : jrnB j = hdB j ++ (j.opens.flatMap opnB ++ j.recs.flatMap encB) := by unfold jrnB; rw [List.append_assoc]
  have hlen : (jrnB j).length = 18 + 8 * j.opens.length + (j.recs.flatMap encB).length := by rw [e, List.length_append, List.length_append, hdB_length, opnsB_length]; omega
  have ho := V.opens
  obtain ⟨n1, n2, n3, n4⟩ := V.nums
  have b2 : (256 ^ 2 : Nat) = 65536 := by decide
  have b4 : (256 ^ 4 : Nat) = 4294967296 := by decide
  rw [hd_flat] at e
  have a0 : nAt (jrnB j) 0 4 = j.id.toNat := by rw [e]; exact nAt_here (by omega)
  have a4 : nAt (jrnB j) 4 4 = j.first.toNat := by rw [e]; exact (nAt_skip 0).trans (nAt_here (by omega))
  have a8 : nAt (jrnB j) 8 4 = j.next.toNat := by rw [e]; exact (nAt_skip 4).trans ((nAt_skip 0).trans (nAt_here (by omega)))
  have a12 : nAt (jrnB j) 12 4 = j.most.toNat := by rw [e]; exact (nAt_skip 8).trans ((nAt_skip 4).trans ((nAt_skip 0).trans (nAt_here (by omega))))
  have a16 : nAt (jrnB j) 16 2 = j.opens.length := by rw [e]; exact (nAt_skip 12).trans ((nAt_skip 8).trans ((nAt_skip 4).trans ((nAt_skip 0).trans (nAt_here (by omega)))))
  have hj : jR (jrnB j) = (j.recs, 0) := by
    unfold jR
    rw [a16, jrn_drop (Nat.le_refl _), List.drop_length, List.flatMap_nil, List.nil_append, recsGo_enc _ _ _ (fun x hx => cb_of (posV V x hx) (V.recOk x hx)) (by omega)]; rfl
  have hh : hdJ (jrnB j) j.recs = j := by
    unfold hdJ
    rw [a0, a4, a8, a12, a16, opns_enc V _ (Nat.le_refl _), List.take_length]
    obtain ⟨id, fi, ne, mo, rs, os⟩ := j
    simp only at *
    rw [Int.toNat_of_nonneg n1.1, Int.toNat_of_nonneg n2.1, Int.toNat_of_nonneg n3.1, Int.toNat_of_nonneg (by omega : 0 ≤ mo)]
  rw [jof_o (by omega) (by omega) (by rw [a16]; omega) hj (by rw [hh]; exact valid_check V), hh]
end
end Go.Proofs.YtjbipdppgoldlaaGreatDoor

/-! Ph -/
namespace Go.Proofs.YtjbipdppgoldlaaGreatDoor
open Go Dw

/-! ### Bits of reasons -/
theorem wo_bit (a b : Int) (k : Nat) : (woI a b).toNat.testBit k = (a.toNat.testBit k && !b.toNat.testBit k) := by
  unfold woI; rw [Int.toNat_natCast, andn_bit]
theorem with_bit (a b : Int) (k : Nat) : (withI a b).toNat.testBit k = (a.toNat.testBit k || b.toNat.testBit k) := by
  unfold withI; rw [Int.toNat_natCast, Nat.testBit_or]
theorem wo_zero {a b : Int} : woI a b = 0 ↔ ∀ k, a.toNat.testBit k = true → b.toNat.testBit k = true := by
  constructor
  · intro h k hk
    have := wo_bit a b k
    rw [h] at this
    simp only [Int.toNat_zero, Nat.zero_testBit] at this
    rw [hk] at this
    simpa using this.symm
  · intro h
    have h0 : (woI a b).toNat = 0 := by
      apply Nat.eq_of_testBit_eq
      intro k
      rw [wo_bit, Nat.zero_testBit]
      cases hk : a.toNat.testBit k with
      | false => rfl
      | true => rw [h k hk]; rfl
    have h1 : 0 ≤ woI a b := by unfold woI; omega
    omega
theorem hasR_tb {a : Int} (h : 0 ≤ a ∧ a ≤ 4095) (n : Nat) (_hn : n ≤ 11) : hasR a ((2 ^ n : Nat) : Int) = a.toNat.testBit n := by
  unfold hasR
  have hp : 0 < 2 ^ n := Nat.two_pow_pos n
  have e1 : a.tdiv ((2 ^ n : Nat) : Int) = ((a.toNat / 2 ^ n : Nat) : Int) := by
    rw [Int.tdiv_eq_ediv_of_nonneg h.1, Int.natCast_ediv]
    congr 1; omega
  have e2 : a.toNat / 2 ^ n ≤ a.toNat := Nat.div_le_self _ _
  rw [e1, Nat.testBit_eq_decide_div_mod_eq]
  generalize a.toNat / 2 ^ n = q at e2
  rw [Go.IntWalk.i64_in _ (by omega), Int.tmod_eq_emod_of_nonneg (by omega), decide_eq_decide]
  omega
theorem bit_3584 (k : Nat) : (3584 : Int).toNat.testBit k = (decide (9 = k) || decide (10 = k) || decide (11 = k)) := by
  have e : (3584 : Int).toNat = 2 ^ 9 ||| 2 ^ 10 ||| 2 ^ 11 := by decide
  rw [e, Nat.testBit_or, Nat.testBit_or, Nat.testBit_two_pow, Nat.testBit_two_pow, Nat.testBit_two_pow]
theorem bit_big {a : Int} {n : Nat} (h : 0 ≤ a ∧ a < ((2 ^ n : Nat) : Int)) {k : Nat} (hk : n ≤ k) : a.toNat.testBit k = false := by
  apply Nat.testBit_lt_two_pow
  have : 2 ^ n ≤ 2 ^ k := Nat.pow_le_pow_right (by omega) hk
  omega

/-! ### What is written -/
structure Wrt (j0 : Jrn) (e : Evt) (j : Jrn) (N : List Chg) : Prop where
  recs : j.recs = j0.recs ++ N
  each : ∀ y ∈ N, y.file = e.file ∧ y.tick = e.tick ∧ j0.next ≤ y.usn
theorem Wrt.wr {j0 j : Jrn} {e : Evt} {N : List Chg} (h : Wrt j0 e j N) (hn : j0.next ≤ j.next) {x : Chg} (h1 : x.file = e.file) (h2 : x.tick = e.tick) : Wrt j0 e (j.wr x) (N ++ [{ x with usn := j.next }]) := by
  refine ⟨by simp only [Jrn.wr, h.recs, List.append_assoc], fun y hy => ?_⟩
  rcases List.mem_append.1 hy with hy | hy
  · exact h.each y hy
  · rw [List.mem_singleton.1 hy]; exact ⟨h1, h2, hn⟩
/-- A bit is in one of some records. -/
def Cov (N : List Chg) (k : Nat) : Prop := ∃ y ∈ N, y.reasons.toNat.testBit k = true
theorem Cov.mono {N M : List Chg} {k : Nat} (h : Cov N k) (hs : ∀ y ∈ N, y ∈ M) : Cov M k := by
  obtain ⟨y, hy, hk⟩ := h
  exact ⟨y, hs y hy, hk⟩
section
variable {j : Jrn} {e : Evt} (V : Valid j) (he : eventErr e = 0)
include V he
theorem aft1_new : ∃ N, Wrt j e (aft1 j e).2 N ∧ N.length ≤ 1 ∧ (∀ k, (woI e.reasons 3584).toNat.testBit k = true → (openR j.opens e.file).toNat.testBit k = true ∨ Cov N k) ∧
    (aft1 j e).1 = withI (openR j.opens e.file) (woI e.reasons 3584) ∧ (woI (woI e.reasons 3584) (openR j.opens e.file) = 0 → N = [] ∧ aft1 j e = (openR j.opens e.file, j)) := by
  have ho := open_lt V e.file
  have hP := wo_lt (a := e.reasons) (ev_bd he)
  unfold aft1
  by_cases h : woI (woI e.reasons 3584) (openR j.opens e.file) = 0
  · rw [if_pos h]
    refine ⟨[], ⟨by simp, fun y hy => by cases hy⟩, by simp, fun k hk => .inl (wo_zero.1 h k hk), ?_, fun _ => ⟨rfl, rfl⟩⟩
    have h2 := wo_zero.1 h
    have hb := with_lt (a := openR j.opens e.file) (b := woI e.reasons 3584) 11 (by omega) (by omega)
    have : (openR j.opens e.file).toNat = (withI (openR j.opens e.file) (woI e.reasons 3584)).toNat := by
      apply Nat.eq_of_testBit_eq
      intro k
      rw [with_bit]
      cases hk : (woI e.reasons 3584).toNat.testBit k with
      | false => simp
      | true => rw [h2 k hk]; rfl
    show openR j.opens e.file = _
    omega
  · rw [if_neg h]
    refine ⟨[] ++ [_], Wrt.wr (N := []) ⟨by simp, fun y hy => by cases hy⟩ (Int.le_refl _) rfl rfl, by simp, fun k hk => .inr ⟨_, List.mem_append_right _ (List.mem_singleton.2 rfl), ?_⟩, rfl, fun h0 => absurd h0 h⟩
    show (withI _ _).toNat.testBit k = true
    rw [with_bit, hk]; simp
end
/-! ### What is trimmed -/
theorem Chain.usn : ∀ {l : List Chg} {a b : Int}, Chain a l b → ∀ y ∈ l, a ≤ y.usn ∧ y.usn < b
  | x :: l, a, b, h, y, hy => by
    have hs := rec_sz h.1
    have hl := h.2.2.le
    rcases List.mem_cons.1 hy with rfl | hy
    · have := h.2.1; omega
    · have := Chain.usn h.2.2 y hy; omega
end Go.Proofs.YtjbipdppgoldlaaGreatDoor

/-! Pl -/
namespace Go.Proofs.YtjbipdppgoldlaaGreatDoor
open Go Dw
/-! ### Reasons below 512 -/
theorem wo_small {a : Int} (h : 0 ≤ a ∧ a < 512) : woI a 3584 = a := by
  have hb : ∀ {k : Nat}, 9 ≤ k → a.toNat.testBit k = false := fun hk => bit_big (n := 9) (by simpa using h) hk
  have h1 : (woI a 3584).toNat = a.toNat := by
    apply Nat.eq_of_testBit_eq
    intro k
    rw [wo_bit, bit_3584]
    by_cases hk : 9 ≤ k
    · rw [hb hk]; rfl
    · have a1 : ¬ 9 = k := by omega
      have a2 : ¬ 10 = k := by omega
      have a3 : ¬ 11 = k := by omega
      simp [a1, a2, a3]
  have h2 : 0 ≤ woI a 3584 := by unfold woI; omega
  omega
theorem hasR_small {a : Int} (h : 0 ≤ a ∧ a < 512) (n : Nat) (h9 : 9 ≤ n) (hn : n ≤ 11) : hasR a ((2 ^ n : Nat) : Int) = false := by
  rw [hasR_tb (by omega) n hn]
  exact bit_big (n := 9) (by simpa using h) h9
theorem hasR_s9 {a : Int} (h : 0 ≤ a ∧ a < 512) : hasR a 512 = false := hasR_small h 9 (by omega) (by omega)
theorem hasR_s11 {a : Int} (h : 0 ≤ a ∧ a < 512) : hasR a 2048 = false := hasR_small h 11 (by omega) (by omega)
theorem has_512 {a : Int} (h : 0 ≤ a ∧ a < 512) : has a 512 = false := by
  have h1 : hasR a 512 = has a 512 := hasR_has (by omega) (by omega) 9 (by omega)
  rw [← h1]; exact hasR_s9 h
theorem has_1024 {a : Int} (h : 0 ≤ a ∧ a < 512) : has a 1024 = false := by
  have h1 : hasR a 1024 = has a 1024 := hasR_has (by omega) (by omega) 10 (by omega)
  rw [← h1]; exact hasR_small h 10 (by omega) (by omega)
theorem with_small {a b : Int} (ha : 0 ≤ a ∧ a < 512) (hb : 0 ≤ b ∧ b < 512) : 0 ≤ withI a b ∧ withI a b < 512 := by
  have := with_lt (a := a) (b := b) 9 (by simpa using ha) (by simpa using hb)
  simpa using this
theorem with_pos {a b : Int} (h : 1 ≤ b) : 1 ≤ withI a b := by
  have := with_ge (a := a) (b := b) (by omega); omega
/-- The event with other reasons. -/
def Evt.re (e : Evt) (r : Int) : Evt := { e with reasons := r }
theorem ev_re {e : Evt} (he : eventErr e = 0) (hb : 0 ≤ e.reasons ∧ e.reasons < 512) {r : Int} (hr : 1 ≤ r ∧ r < 512) : eventErr (e.re r) = 0 := by
  obtain ⟨h1, h2, h3, h4, h5, h6, h7, h8⟩ := eventErr_ok he
  obtain ⟨h9, h10⟩ := h8 (has_1024 hb)
  have e5 := has_512 (a := r) (by omega)
  have e6 := has_1024 (a := r) (by omega)
  have w1 := within_iff.2 h3
  have w2 : within r 1 4095 = true := within_iff.2 (by omega)
  unfold eventErr Evt.re
  simp only [first_cons, first_nil, h1, h2, w1, w2, e5, e6, h6, h9, h10, Bool.and_self, if_true, ne_eq, not_true_eq_false, if_false, Bool.false_eq_true, and_self]

/-! ### What such an event writes -/
section
variable {j : Jrn} {e : Evt} (V : Valid j) (he : eventErr e = 0) (hb : 0 ≤ e.reasons ∧ e.reasons < 512)
include hb in
theorem after_small : after j e = ((aft1 j e).2.opened e.file (aft1 j e).1).trim := by
  unfold after
  have h2 : aft2 e (aft1 j e) = aft1 j e := by unfold aft2; rw [if_neg (by rw [hasR_s9 hb]; decide)]
  have h3 : aft3 e (aft1 j e) = aft1 j e := by unfold aft3; rw [hasR_s11 hb, Bool.false_and, if_neg (by decide)]
  rw [h2, h3]
include V he hb in
theorem aft1_small : (aft1 j e).1 = withI (openR j.opens e.file) e.reasons := by
  obtain ⟨N, _, _, _, h, _⟩ := aft1_new V he
  rw [h, wo_small hb]
theorem openR_app {f : Ref} : ∀ (a b : List Opn), (∀ y ∈ a, y.file ≠ f) → openR (a ++ b) f = openR b f
  | [], b, _ => rfl
  | x :: a, b, h => by
    simp only [List.cons_append, openR, if_neg (h x (by simp))]
    exact openR_app a b fun y hy => h y (by simp [hy])
theorem openR_none {f : Ref} (a : List Opn) (h : ∀ y ∈ a, y.file ≠ f) : openR a f = 0 := by
  have := openR_app a [] h
  rwa [List.append_nil] at this
include V in
theorem openR_go (f : Ref) (r : Int) : openR (openGo f r j.opens (decide (r = 0)) []) f = r ∧ (openGo f r j.opens (decide (r = 0)) []).length ≤ j.opens.length + 1 := by
  obtain ⟨k, k1, k2, k3, k4⟩ := opAt_ahead V f
  have h3 : ∀ a b (h : b < j.opens.length), (hab : a < b) → compare (j.opens[a]'(by omega)).file j.opens[b].file < 0 := fun a b h hab => opens_lt V hab h
  rw [openGo_law (f := f) (r := r) (decide (r = 0)) j.opens k [] k1 k2 k3 h3, List.nil_append]
  have hl : ∀ y ∈ j.opens.take k, y.file ≠ f := by
    intro y hy
    obtain ⟨n, hn, rfl⟩ := List.getElem_of_mem hy
    rw [List.length_take] at hn
    rw [List.getElem_take]
    exact compare_ne (k2 n (by omega) (by omega))
  constructor
  · rw [List.append_assoc, openR_app _ _ hl]
    by_cases h0 : r = 0
    · subst h0
      rw [if_pos (by simp), List.nil_append]
      refine openR_none _ fun y hy => ?_
      obtain ⟨n, hn, rfl⟩ := List.getElem_of_mem hy
      rw [List.length_drop] at hn
      rw [List.getElem_drop]
      by_cases hk : k < j.opens.length
      · simp only [dif_pos hk] at hn ⊢
        by_cases hf : j.opens[k].file = f
        · simp only [if_pos hf] at hn ⊢
          have := h3 k (k + 1 + n) (by omega) (by omega)
          rw [hf] at this
          exact (compare_ne this).symm
        · simp only [if_neg hf] at hn ⊢
          by_cases hn0 : n = 0
          · subst hn0; exact hf
          · have h5 := h3 k (k + n) (by omega) (by omega)
            have h6 : compare f j.opens[k].file < 0 := by rw [compare_less]; exact less_not (k3 k hk (Nat.le_refl _)) hf
            exact (compare_ne (cmpR_trans h6 h5)).symm
      · simp only [dif_neg hk] at hn; omega
    · rw [if_neg (by simpa using h0)]
      simp only [List.singleton_append, openR, if_true]
  · rw [List.length_append, List.length_append, List.length_take, List.length_drop]
    have e7 : (if decide (r = 0) = true then [] else [(⟨f, r⟩ : Opn)]).length ≤ 1 := by split <;> simp
    generalize (if decide (r = 0) = true then [] else [(⟨f, r⟩ : Opn)]).length = z at *
    split
    · split <;> omega
    · omega
theorem trim_len (n m : Int) : ∀ (l : List Chg) (f : Int), (trimR n m f l).2.length ≤ l.length
  | [], _ => Nat.le_refl _
  | x :: l, f => by
    simp only [trimR]
    split
    · have := trim_len n m l (IntKind.i64.wrap (f + size x.name.length)); simp only [List.length_cons]; omega
    · exact Nat.le_refl _
include V he hb in
theorem small_law : openR (after j e).opens e.file = withI (openR j.opens e.file) e.reasons ∧ (after j e).opens.length ≤ j.opens.length + 1 ∧ (after j e).recs.length ≤ j.recs.length + 1 ∧
    (after j e).next = (if woI e.reasons (openR j.opens e.file) = 0 then j.next else j.next + size e.name.length) ∧ (after j e).next ≤ j.next + 72 := by
  have hv := V.nums
  have hs := size_bd (nameErr_ok (eventErr_ok he).2.2.2.2.2.1).2.1
  have ho : (aft1 j e).2.opens = j.opens := by unfold aft1; split <;> rfl
  have hn : (aft1 j e).2.next = (if woI e.reasons (openR j.opens e.file) = 0 then j.next else j.next + size e.name.length) := by
    unfold aft1
    rw [wo_small hb]
    split
    · rfl
    · show IntKind.i64.wrap (j.next + size e.name.length) = _
      exact wrap_in (by omega)
  have hr : (aft1 j e).2.recs.length ≤ j.recs.length + 1 := by
    unfold aft1; split
    · simp
    · simp [Jrn.wr]
  rw [after_small hb]
  obtain ⟨g1, g2⟩ := openR_go V e.file (aft1 j e).1
  refine ⟨?_, ?_, ?_, ?_, ?_⟩
  · show openR (openGo e.file (aft1 j e).1 (aft1 j e).2.opens (decide ((aft1 j e).1 = 0)) []) e.file = _
    rw [ho, g1, aft1_small V he hb]
  · show (openGo e.file (aft1 j e).1 (aft1 j e).2.opens (decide ((aft1 j e).1 = 0)) []).length ≤ _
    rw [ho]; exact g2
  · exact Nat.le_trans (trim_len _ _ _ _) hr
  · exact hn
  · show (aft1 j e).2.next ≤ _
    rw [hn]; split <;> omega
theorem full_no {j : Jrn} (h1 : j.opens.length ≤ 64) (h2 : j.next ≤ 2147483647) (h3 : j.recs.length ≤ 200) : full j = false := by
  unfold full
  simp only [Bool.or_eq_false_iff, decide_eq_false_iff_not]; omega
end
/-- Two events with the reasons of one, one after the other. -/
theorem two_law {j : Jrn} {e : Evt} (V : Valid j) (he : eventErr e = 0) (hb : 0 ≤ e.reasons ∧ e.reasons < 512) {q : Int} (hq : 1 ≤ q ∧ q < 256) (h1 : j.opens.length ≤ 62) (h2 : j.recs.length ≤ 196) (h3 : j.next ≤ 2147483247) :
    ∃ a b : Jrn, Valid a ∧ Valid b ∧ allR j [e, e.re q] = (a, 2, 0) ∧ noted j (e.re (withI e.reasons q)) = (b, 0) ∧ openB a.opens e.file = openB b.opens e.file ∧ refErr e.file = 0 ∧ (a.next = b.next ∨ a.next = b.next + size e.name.length) ∧ a.next < 1000000000000 ∧ 0 ≤ b.next ∧ b.next + size e.name.length < 1000000000000 := by
  have hq' : 0 ≤ q ∧ q < 512 := by omega
  have hp := (eventErr_ok he).2.2.2.1
  have hs := size_bd (nameErr_ok (eventErr_ok he).2.2.2.2.2.1).2.1
  have e2 := ev_re he hb (r := q) (by omega)
  have hw := with_small hb hq'
  have e3 := ev_re he hb (r := withI e.reasons q) ⟨with_pos hq.1, hw.2⟩
  obtain ⟨l1, l2, l3, l4, l5⟩ := small_law V he hb
  have f1 := full_no (j := after j e) (by omega) (by omega) (by omega)
  have Va := after_valid V he f1
  obtain ⟨m1, m2, m3, m4, m5⟩ := small_law (e := e.re q) Va e2 hq'
  have f2 := full_no (j := after (after j e) (e.re q)) (by omega) (by omega) (by omega)
  have Vb := after_valid Va e2 f2
  obtain ⟨k1, k2, k3, k4, k5⟩ := small_law (e := e.re (withI e.reasons q)) V e3 hw
  have f3 := full_no (j := after j (e.re (withI e.reasons q))) (by omega) (by omega) (by omega)
  have Vc := after_valid V e3 f3
  have n1 : nE j e = 0 := by unfold nE; rw [if_pos he, f1]; rfl
  have n2 : nJ j e = after j e := by unfold nJ; rw [if_pos he]
  have n3 : nE (after j e) (e.re q) = 0 := by unfold nE; rw [if_pos e2, f2]; rfl
  have n4 : nJ (after j e) (e.re q) = after (after j e) (e.re q) := by unfold nJ; rw [if_pos e2]
  refine ⟨after (after j e) (e.re q), after j (e.re (withI e.reasons q)), Vb, Vc, ?_, ?_, ?_, (eventErr_ok he).1, ?_, ?_, ?_, ?_⟩
  · rw [allR_n V (by simp)]
    have hg : nGo j 0 [e, e.re q] = (after (after j e) (e.re q), 0, 0) := by
      simp only [nGo, n1, n2, n3, n4, if_true]
    rw [hg]; rfl
  · unfold noted
    rw [valid_check V, e3, f3]; rfl
  · have t1 := openB_openR Vb e.file
    have t2 := openB_openR Vc e.file
    rw [t1, t2]
    have u1 : openR (after (after j e) (e.re q)).opens e.file = withI (withI (openR j.opens e.file) e.reasons) q := by
      have := m1; rw [show (e.re q).file = e.file from rfl, l1] at this; exact this
    have u2 : openR (after j (e.re (withI e.reasons q))).opens e.file = withI (openR j.opens e.file) (withI e.reasons q) := k1
    rw [u1, u2]
    have : (withI (withI (openR j.opens e.file) e.reasons) q).toNat = (withI (openR j.opens e.file) (withI e.reasons q)).toNat := by
      apply Nat.eq_of_testBit_eq
      intro k
      simp only [with_bit, Bool.or_assoc]
    have g1 : 0 ≤ withI (withI (openR j.opens e.file) e.reasons) q := by unfold withI; omega
    have g2 : 0 ≤ withI (openR j.opens e.file) (withI e.reasons q) := by unfold withI; omega
    omega
  · have p1 : (after (after j e) (e.re q)).next = (if woI q (withI (openR j.opens e.file) e.reasons) = 0 then (after j e).next else (after j e).next + size e.name.length) := by
      have := m4; rw [show (e.re q).file = e.file from rfl, l1] at this; exact this
    have p2 : (after j (e.re (withI e.reasons q))).next = (if woI (withI e.reasons q) (openR j.opens e.file) = 0 then j.next else j.next + size e.name.length) := k4
    rw [p1, p2, l4]
    generalize openR j.opens e.file = o
    by_cases c1 : woI e.reasons o = 0
    · have z1 := wo_zero.1 c1
      rw [if_pos c1]
      by_cases c2 : woI q (withI o e.reasons) = 0
      · have z2 := wo_zero.1 c2
        have c3 : woI (withI e.reasons q) o = 0 := wo_zero.2 fun k hk => by
          rw [with_bit, Bool.or_eq_true] at hk
          rcases hk with hk | hk
          · exact z1 k hk
          · have := z2 k hk
            rw [with_bit, Bool.or_eq_true] at this
            rcases this with h | h
            · exact h
            · exact z1 k h
        rw [if_pos c2, if_pos c3]; left; rfl
      · have c3 : ¬ woI (withI e.reasons q) o = 0 := fun h => c2 (wo_zero.2 fun k hk => by
          have := wo_zero.1 h k (by rw [with_bit, hk]; simp)
          rw [with_bit, this]; rfl)
        rw [if_neg c2, if_neg c3]; left; rfl
    · have c3 : ¬ woI (withI e.reasons q) o = 0 := fun h => c1 (wo_zero.2 fun k hk => wo_zero.1 h k (by rw [with_bit, hk]; rfl))
      rw [if_neg c1, if_neg c3]
      split
      · left; rfl
      · right; rfl
  · have := Vb.nums; omega
  · have := Vc.nums; omega
  · have := Vc.nums; omega
end Go.Proofs.YtjbipdppgoldlaaGreatDoor

/-! Yh -/
namespace Go.Proofs.YtjbipdppgoldlaaGreatDoor
open Go Dw
set_option maxRecDepth 10000
set_option linter.unusedVariables false
set_option linter.unusedSimpArgs false
attribute [local irreducible] Run
set_option maxHeartbeats 600000

theorem tmod_emod (n : Int) {m : Int} (h : 0 < m) : (0 ≤ n.tmod m ∧ n.tmod m = n % m) ∨ (n.tmod m < 0 ∧ n.tmod m + m = n % m) := by
  have h1 := Int.emod_nonneg n (b := m) (by omega)
  have h2 := Int.emod_lt_of_pos n h
  by_cases c : 0 ≤ n
  · left
    rw [Int.tmod_eq_emod_of_nonneg c]; exact ⟨h1, rfl⟩
  · have e : n.tmod m = -((-n) % m) := by
      rw [← Int.tmod_eq_emod_of_nonneg (by omega : 0 ≤ -n), Int.neg_tmod]; omega
    have h3 := Int.emod_nonneg (-n) (b := m) (by omega)
    have h4 := Int.emod_lt_of_pos (-n) h
    have h5 : ((-n) % m + n % m) % m = 0 := by have := Int.add_emod (-n) n m; rw [Int.add_left_neg, Int.zero_emod] at this; exact this.symm
    have d : m ∣ (-n) % m + n % m := Int.dvd_of_emod_eq_zero h5
    obtain ⟨q, hq⟩ := d
    have hq2 : q < 2 := by
      refine Int.lt_of_not_ge fun hge => ?_
      have := Int.mul_le_mul_of_nonneg_left hge (by omega : 0 ≤ m)
      omega
    have hq0 : 0 ≤ q := by
      refine Int.le_of_not_gt fun hl => ?_
      have := Int.mul_le_mul_of_nonneg_left (by omega : q ≤ -1) (by omega : 0 ≤ m)
      omega
    have : q = 0 ∨ q = 1 := by omega
    rcases this with rfl | rfl
    · left; omega
    · by_cases z : (-n) % m = 0
      · rw [z] at hq; omega
      · right; omega
theorem rem_any {a b : Int} {K : Int → Prop} (h : 0 < b) (hk : K (a.tmod b)) : remK a b K := by
  rw [remK_eq]
  exact onOk_of (by simp; omega) hk

theorem c18g (n : Int) : Fn 18 [i n, i 512] (i (n % 512)) := by
  refine run_walkF eok Tryz.func18 rfl (by kernel_rfl) ?_
  conv => whnf
  repeat' (first
    | ((with_reducible refine on_dec_f ?_ ?_); (focus ((try simp only [List.length_map, List.length_cons, List.length_nil, List.length_append]); omega)); conv => whnf)
    | ((with_reducible refine on_dec_t ?_ ?_); (focus ((try simp only [List.length_map, List.length_cons, List.length_nil, List.length_append]); omega)); conv => whnf)
    | ((with_reducible refine on_dec (fun h => ?_) (fun h => ?_)) <;> (try simp only [List.length_map] at h) <;> conv => whnf)
    | ((with_reducible refine on_ndec (fun h => ?_) (fun h => ?_)) <;> (try simp only [List.length_map] at h) <;> conv => whnf)
    | ((with_reducible refine on_not (fun h => ?_) (fun h => ?_)) <;> conv => whnf)
    | ((with_reducible refine onBool_split (fun h => ?_) (fun h => ?_)) <;> conv => whnf)
    | (refine ⟨⟨(by first | rfl | (simp; done)), cap_ok (by simp only [List.length_map, List.length_cons, List.length_nil, List.length_append]; omega) rfl⟩, ?_⟩; conv => whnf)
    | (refine ⟨mem_one ⟨rfl, rfl⟩, ?_⟩; conv => whnf)
    | (refine ⟨(by intro y hy; obtain ⟨x, _, rfl⟩ := List.mem_map.1 hy; first | rfl | exact ⟨rfl, rfl⟩), ?_⟩; conv => whnf)
    | (refine ⟨cap_ok (by first | omega | (simp only [List.length_map]; omega)) rfl, ?_⟩; conv => whnf)
    | (refine ix_map (by omega) ?_; conv => whnf)
    | (refine ix_str (by omega) ?_; conv => whnf)
    | (refine wrap64 (by omega) ?_; conv => whnf)
    | (refine rem_any (by omega) ?_; conv => whnf)
    | (refine wrap64 (by have h9 := tmod_emod n (m := 512) (by omega); omega) ?_; conv => whnf)
    | (exfalso; simp only [List.length_map, List.length_cons, List.length_nil, List.length_append] at h; omega)
    | ((with_reducible refine endx_go ?_); first | (exact endx (congrArg i (by have h9 := tmod_emod n (m := 512) (by omega); omega)); done))
    | (refine ⟨rfl, ?_⟩; conv => whnf)
    | fail
    )


/-- The event that the law notes. -/
def ev1 (e : Evt) : Evt := ⟨e.file, e.parent, e.tick, e.reasons % 512, e.name, ⟨0, 0⟩, []⟩
theorem c15v {j : Jrn} (V : Valid j) : Fn 15 [j.enc] (.tup [.str (jrnB j), i 0]) := by
  have B := bd_valid V
  have := c15 j B.r B.n B.o
  rwa [valid_check V, if_pos rfl] at this
theorem c9v {j : Jrn} (V : Valid j) (hs : (jrnB j).length ≤ 20000) : Fn 9 [.str (jrnB j)] (.tup [j.enc, i 0]) := by
  have := cJ9 (jrnB j) (by omega)
  rwa [jof_enc V hs] at this
theorem c11s {j : Jrn} (V : Valid j) : Fn 11 [j.enc, j.enc] (.bool true) := by
  have := c11b (bd_valid V) (bd_valid V)
  rwa [decide_eq_true rfl] at this
theorem cb_v {j : Jrn} (V : Valid j) {x : Chg} (hx : x ∈ j.recs) : cbErr x = 0 := cb_of (posV V x hx) (V.recOk x hx)
theorem c17v {j : Jrn} (V : Valid j) {x : Chg} (hx : x ∈ j.recs) : Fn 17 [x.enc] (.tup [.str (encB x), i 0]) := by
  have := c17 x (by have := rec_nm (V.recOk x hx); omega)
  rwa [cb_v V hx, if_pos rfl] at this
theorem c7v {j : Jrn} (V : Valid j) {x : Chg} (hx : x ∈ j.recs) : Fn 7 [.str (encB x)] (.tup [x.enc, i ((encB x).length : Nat), i 0]) := by
  have hl := encB_length (V.recOk x hx)
  have := c7 (encB x) (by omega)
  have e := ofR_enc [] (cb_v V hx)
  rw [List.append_nil] at e
  rwa [e, ← encB_len (V.recOk x hx)] at this
theorem c21v {j a : Jrn} {e : Evt} {q : Int} (V : Valid j) (hn : e.name.length < 1000000 ∧ e.nn.length < 1000000) (h : allR j [e, e.re q] = (a, 2, 0)) : Fn 21 [j.enc, .fs [e.enc, (e.re q).enc]] (.tup [a.enc, i 2, i 0]) := by
  have B := bd_valid V
  have := c21 j [e, e.re q] (by simp) (by intro x hx; simp only [List.mem_cons, List.not_mem_nil, or_false] at hx; rcases hx with rfl | rfl <;> exact hn) B.r B.n B.o
  rwa [h] at this
theorem c22v {j b : Jrn} {e : Evt} (V : Valid j) (hn : e.name.length < 1000000 ∧ e.nn.length < 1000000) (h : noted j e = (b, 0)) : Fn 22 [j.enc, e.enc] (.tup [b.enc, i 0]) := by
  have B := bd_valid V
  have := c22 j e hn.1 hn.2 B.r B.n B.o
  rwa [h] at this
theorem c23v {a : Jrn} {f : Ref} {o : Int} (V : Valid a) (hf : refErr f = 0) (h : openB a.opens f = o) : Fn 23 [a.enc, f.enc] (.tup [i o, i 0]) := by
  have B := bd_valid V
  have := c23 a f B.r B.n B.o
  have e : first [(checkJ a).2, refErr f] = 0 := by rw [valid_check V, hf]; rfl
  rwa [e, if_pos rfl, h] at this
theorem view_ev1 {e : Evt} {n : Nat} {H : Heap} {r : Int} (h : r = e.reasons % 512) : view (n + 2) H (.agg [.d (i e.file.r), .d (i e.file.s), .d (i e.parent.r), .d (i e.parent.s), .d (i e.tick), .d (i r), .d (.str e.name), .d (i 0), .d (i 0), .d (.str [])]) = some (ev1 e).enc := by
  subst h
  exact view_agg (vlc rfl (vlc rfl (vlc rfl (vlc rfl (vlc rfl (vlc rfl (vlc rfl (vlc rfl (vlc rfl (vlc rfl vln))))))))))
attribute [local irreducible] jofR ofR jrnB encB first checkJ eventErr fewB shortB allR noted openB withI woI cbErr ev1

theorem c4f (j : Jrn) (e : Evt) (m : Int) (hm : 0 ≤ m ∧ m < 256) (hf : fewB j = false) : Fn 4 [j.enc, e.enc, .int .u8 m] (.bool true) := by
  refine run_walkF eok Tryz.func4 rfl (by kernel_rfl) ?_
  conv => whnf
  repeat' (first
    | ((with_reducible refine on_dec_t (by assumption) ?_); conv => whnf)
    | ((with_reducible refine on_dec_f (by assumption) ?_); conv => whnf)
    | ((with_reducible refine onBool_t (by assumption) ?_); conv => whnf)
    | ((with_reducible refine onBool_f (by assumption) ?_); conv => whnf)
    | ((with_reducible refine on_nt (by assumption) ?_); conv => whnf)
    | ((with_reducible refine on_nf (by assumption) ?_); conv => whnf)
    | ((with_reducible refine on_ndec_t (by first | assumption | rfl) ?_); conv => whnf)
    | ((with_reducible refine on_ndec_f (by assumption) ?_); conv => whnf)
    | ((with_reducible refine on_dec_t rfl ?_); conv => whnf)
    | ((with_reducible refine on_dec_f ?_ ?_); (focus ((try simp only [List.length_map, List.length_cons, List.length_nil, List.length_append]); omega)); conv => whnf)
    | ((with_reducible refine on_dec_t ?_ ?_); (focus ((try simp only [List.length_map, List.length_cons, List.length_nil, List.length_append]); omega)); conv => whnf)
    | ((with_reducible refine on_dec (fun h => ?_) (fun h => ?_)) <;> (try simp only [List.length_map] at h) <;> conv => whnf)
    | ((with_reducible refine on_ndec (fun h => ?_) (fun h => ?_)) <;> (try simp only [List.length_map] at h) <;> conv => whnf)
    | ((with_reducible refine on_not (fun h => ?_) (fun h => ?_)) <;> conv => whnf)
    | ((with_reducible refine onBool_split (fun h => ?_) (fun h => ?_)) <;> conv => whnf)
    | ((with_reducible refine call_go ?_); (first | refine call_step (run_data (xs := []) c9 _) ?_ | refine call_step (run_data (xs := [_]) (c12g j) _) ?_ | refine call_step (run_data (xs := [_]) (c13 e) _) ?_ | refine call_step (run_data (xs := [_]) (c14 j B.r B.n B.o) _) ?_ | refine call_step (run_data (xs := [_]) (c16 j B.r B.o) _) ?_); conv => whnf)
    | (refine ⟨[], [], (by decide +kernel), ?_⟩; conv => whnf)
    | (refine ⟨[], [(7, 1), (7, 3), (2, 1)], (by decide +kernel), ?_⟩; conv => whnf)
    | (refine ⟨[56], [(10, 1), (10, 5), (2, 1), (3, 1)], (by decide +kernel), ?_⟩; conv => whnf)
    | (refine ⟨⟨(by first | rfl | (simp; done)), cap_ok (by simp only [List.length_map, List.length_cons, List.length_nil, List.length_append]; omega) rfl⟩, ?_⟩; conv => whnf)
    | (refine ⟨mem_one ⟨rfl, rfl⟩, ?_⟩; conv => whnf)
    | (refine ⟨(by intro y hy; obtain ⟨x, _, rfl⟩ := List.mem_map.1 hy; first | rfl | exact ⟨rfl, rfl⟩), ?_⟩; conv => whnf)
    | (refine ⟨cap_ok (by first | omega | (simp only [List.length_map]; omega)) rfl, ?_⟩; conv => whnf)
    | (refine ix_map (by omega) ?_; conv => whnf)
    | (refine ix_str (by omega) ?_; conv => whnf)
    | (refine wrap64 (by omega) ?_; conv => whnf)
    | (exfalso; simp only [List.length_map, List.length_cons, List.length_nil, List.length_append] at h; omega)
    | ((with_reducible refine endx_go ?_); first | (exact endx rfl; done))
    | (refine ⟨rfl, ?_⟩; conv => whnf)
    | fail
    )

theorem c4s (j : Jrn) (e : Evt) (m : Int) (hm : 0 ≤ m ∧ m < 256) (hf : fewB j = true) (hs : shortB e = false) : Fn 4 [j.enc, e.enc, .int .u8 m] (.bool true) := by
  refine run_walkF eok Tryz.func4 rfl (by kernel_rfl) ?_
  conv => whnf
  repeat' (first
    | ((with_reducible refine on_dec_t (by assumption) ?_); conv => whnf)
    | ((with_reducible refine on_dec_f (by assumption) ?_); conv => whnf)
    | ((with_reducible refine onBool_t (by assumption) ?_); conv => whnf)
    | ((with_reducible refine onBool_f (by assumption) ?_); conv => whnf)
    | ((with_reducible refine on_nt (by assumption) ?_); conv => whnf)
    | ((with_reducible refine on_nf (by assumption) ?_); conv => whnf)
    | ((with_reducible refine on_ndec_t (by first | assumption | rfl) ?_); conv => whnf)
    | ((with_reducible refine on_ndec_f (by assumption) ?_); conv => whnf)
    | ((with_reducible refine on_dec_t rfl ?_); conv => whnf)
    | ((with_reducible refine on_dec_f ?_ ?_); (focus ((try simp only [List.length_map, List.length_cons, List.length_nil, List.length_append]); omega)); conv => whnf)
    | ((with_reducible refine on_dec_t ?_ ?_); (focus ((try simp only [List.length_map, List.length_cons, List.length_nil, List.length_append]); omega)); conv => whnf)
    | ((with_reducible refine on_dec (fun h => ?_) (fun h => ?_)) <;> (try simp only [List.length_map] at h) <;> conv => whnf)
    | ((with_reducible refine on_ndec (fun h => ?_) (fun h => ?_)) <;> (try simp only [List.length_map] at h) <;> conv => whnf)
    | ((with_reducible refine on_not (fun h => ?_) (fun h => ?_)) <;> conv => whnf)
    | ((with_reducible refine onBool_split (fun h => ?_) (fun h => ?_)) <;> conv => whnf)
    | ((with_reducible refine call_go ?_); (first | refine call_step (run_data (xs := []) c9 _) ?_ | refine call_step (run_data (xs := [_]) (c12g j) _) ?_ | refine call_step (run_data (xs := [_]) (c13 e) _) ?_ | refine call_step (run_data (xs := [_]) (c14 j B.r B.n B.o) _) ?_ | refine call_step (run_data (xs := [_]) (c16 j B.r B.o) _) ?_); conv => whnf)
    | (refine ⟨[], [], (by decide +kernel), ?_⟩; conv => whnf)
    | (refine ⟨[], [(7, 1), (7, 3), (2, 1)], (by decide +kernel), ?_⟩; conv => whnf)
    | (refine ⟨[56], [(10, 1), (10, 5), (2, 1), (3, 1)], (by decide +kernel), ?_⟩; conv => whnf)
    | (refine ⟨⟨(by first | rfl | (simp; done)), cap_ok (by simp only [List.length_map, List.length_cons, List.length_nil, List.length_append]; omega) rfl⟩, ?_⟩; conv => whnf)
    | (refine ⟨mem_one ⟨rfl, rfl⟩, ?_⟩; conv => whnf)
    | (refine ⟨(by intro y hy; obtain ⟨x, _, rfl⟩ := List.mem_map.1 hy; first | rfl | exact ⟨rfl, rfl⟩), ?_⟩; conv => whnf)
    | (refine ⟨cap_ok (by first | omega | (simp only [List.length_map]; omega)) rfl, ?_⟩; conv => whnf)
    | (refine ix_map (by omega) ?_; conv => whnf)
    | (refine ix_str (by omega) ?_; conv => whnf)
    | (refine wrap64 (by omega) ?_; conv => whnf)
    | (exfalso; simp only [List.length_map, List.length_cons, List.length_nil, List.length_append] at h; omega)
    | ((with_reducible refine endx_go ?_); first | (exact endx rfl; done))
    | (refine ⟨rfl, ?_⟩; conv => whnf)
    | fail
    )

theorem c4c (j : Jrn) (e : Evt) (m : Int) (hm : 0 ≤ m ∧ m < 256) (hf : fewB j = true) (hs : shortB e = true) (hc : ¬ (checkJ j).2 = 0) : Fn 4 [j.enc, e.enc, .int .u8 m] (.bool true) := by
  have B := bd_few hf
  refine run_walkF eok Tryz.func4 rfl (by kernel_rfl) ?_
  conv => whnf
  repeat' (first
    | ((with_reducible refine on_dec_t (by assumption) ?_); conv => whnf)
    | ((with_reducible refine on_dec_f (by assumption) ?_); conv => whnf)
    | ((with_reducible refine onBool_t (by assumption) ?_); conv => whnf)
    | ((with_reducible refine onBool_f (by assumption) ?_); conv => whnf)
    | ((with_reducible refine on_nt (by assumption) ?_); conv => whnf)
    | ((with_reducible refine on_nf (by assumption) ?_); conv => whnf)
    | ((with_reducible refine on_ndec_t (by first | assumption | rfl) ?_); conv => whnf)
    | ((with_reducible refine on_ndec_f (by assumption) ?_); conv => whnf)
    | ((with_reducible refine on_dec_t rfl ?_); conv => whnf)
    | ((with_reducible refine on_dec_f ?_ ?_); (focus ((try simp only [List.length_map, List.length_cons, List.length_nil, List.length_append]); omega)); conv => whnf)
    | ((with_reducible refine on_dec_t ?_ ?_); (focus ((try simp only [List.length_map, List.length_cons, List.length_nil, List.length_append]); omega)); conv => whnf)
    | ((with_reducible refine on_dec (fun h => ?_) (fun h => ?_)) <;> (try simp only [List.length_map] at h) <;> conv => whnf)
    | ((with_reducible refine on_ndec (fun h => ?_) (fun h => ?_)) <;> (try simp only [List.length_map] at h) <;> conv => whnf)
    | ((with_reducible refine on_not (fun h => ?_) (fun h => ?_)) <;> conv => whnf)
    | ((with_reducible refine onBool_split (fun h => ?_) (fun h => ?_)) <;> conv => whnf)
    | ((with_reducible refine call_go ?_); (first | refine call_step (run_data (xs := []) c9 _) ?_ | refine call_step (run_data (xs := [_]) (c12g j) _) ?_ | refine call_step (run_data (xs := [_]) (c13 e) _) ?_ | refine call_step (run_data (xs := [_]) (c14 j B.r B.n B.o) _) ?_ | refine call_step (run_data (xs := [_]) (c16 j B.r B.o) _) ?_); conv => whnf)
    | (refine ⟨[], [], (by decide +kernel), ?_⟩; conv => whnf)
    | (refine ⟨[], [(7, 1), (7, 3), (2, 1)], (by decide +kernel), ?_⟩; conv => whnf)
    | (refine ⟨[56], [(10, 1), (10, 5), (2, 1), (3, 1)], (by decide +kernel), ?_⟩; conv => whnf)
    | (refine ⟨⟨(by first | rfl | (simp; done)), cap_ok (by simp only [List.length_map, List.length_cons, List.length_nil, List.length_append]; omega) rfl⟩, ?_⟩; conv => whnf)
    | (refine ⟨mem_one ⟨rfl, rfl⟩, ?_⟩; conv => whnf)
    | (refine ⟨(by intro y hy; obtain ⟨x, _, rfl⟩ := List.mem_map.1 hy; first | rfl | exact ⟨rfl, rfl⟩), ?_⟩; conv => whnf)
    | (refine ⟨cap_ok (by first | omega | (simp only [List.length_map]; omega)) rfl, ?_⟩; conv => whnf)
    | (refine ix_map (by omega) ?_; conv => whnf)
    | (refine ix_str (by omega) ?_; conv => whnf)
    | (refine wrap64 (by omega) ?_; conv => whnf)
    | (exfalso; simp only [List.length_map, List.length_cons, List.length_nil, List.length_append] at h; omega)
    | ((with_reducible refine endx_go ?_); first | (exact endx rfl; done))
    | (refine ⟨rfl, ?_⟩; conv => whnf)
    | fail
    )

end Go.Proofs.YtjbipdppgoldlaaGreatDoor
