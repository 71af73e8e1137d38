/-
  Chapter 24: ChangesBack holds at every input: no condition of ours (its card lists two tables of the library, tied to the text).
-/
import Derived.Test.YtjbipdppgoldlaaGreatDoorGrpG
set_option linter.unusedVariables false
set_option linter.unusedSimpArgs false

/-! Yi -/
namespace Go.Proofs.YtjbipdppgoldlaaGreatDoor
open Go Dw
set_option maxRecDepth 10000
set_option linter.unusedVariables false
set_option linter.unusedSimpArgs false
attribute [local irreducible] Run
set_option maxHeartbeats 600000

attribute [local irreducible] jofR ofR jrnB encB first checkJ eventErr fewB shortB allR noted openB withI woI cbErr ev1
theorem ev1_nm {e : Evt} (h : shortB e = true) : (ev1 e).name.length < 1000000 ∧ (ev1 e).nn.length < 1000000 := by
  unfold shortB at h
  unfold ev1
  simp only [Bool.and_eq_true, decide_eq_true_eq, List.length_nil] at *
  omega
theorem ev1_f {e : Evt} : (ev1 e).file = e.file := by unfold ev1; rfl
theorem ev1_n {e : Evt} : (ev1 e).name = e.name := by unfold ev1; rfl
theorem ev1_r {e : Evt} : (ev1 e).reasons = e.reasons % 512 := by unfold ev1; rfl
theorem view_re {e : Evt} {n : Nat} {H : Heap} {r : Int} : view (n + 2) H (.agg [.d (i e.file.r), .d (i e.file.s), .d (i e.parent.r), .d (i e.parent.s), .d (i e.tick), .d (i r), .d (.str e.name), .d (i 0), .d (i 0), .d (.str [])]) = some ((ev1 e).re r).enc := by
  have : ((ev1 e).re r).enc = .agg [i e.file.r, i e.file.s, i e.parent.r, i e.parent.s, i e.tick, i r, .str e.name, i 0, i 0, .str []] := by unfold Evt.re ev1 Evt.enc; rfl
  rw [this]
  exact view_agg (vlc rfl (vlc rfl (vlc rfl (vlc rfl (vlc rfl (vlc rfl (vlc rfl (vlc rfl (vlc rfl (vlc rfl vln))))))))))
theorem run_dataW {f : Nat} {xs : List D} {r : D} {args : List AV} {H : Heap} (hf : Run Tryz.prog f (xs.map .d) [] (.d r) []) (hv : vl (view 8 H) args = some xs) (hre : args.flatMap (reach 8 H) = []) : Run Tryz.prog f args H (.d r) H := by
  have := run_viewF hf hv
  rw [hre] at this; exact this
theorem enc_ev1 {e : Evt} : (ev1 e).enc = .agg [i e.file.r, i e.file.s, i e.parent.r, i e.parent.s, i e.tick, i (e.reasons % 512), .str e.name, i 0, i 0, .str []] := by unfold ev1 Evt.enc; rfl
theorem enc_re {e : Evt} {r : Int} : ((ev1 e).re r).enc = .agg [i e.file.r, i e.file.s, i e.parent.r, i e.parent.s, i e.tick, i r, .str e.name, i 0, i 0, .str []] := by unfold Evt.re ev1 Evt.enc; rfl
theorem c21w {j a : Jrn} {e : Evt} {q : Int} (V : Valid j) (hs : shortB e = true) (h : allR j [ev1 e, (ev1 e).re q] = (a, 2, 0)) : Fn 21 [j.enc, .fs [.agg [i e.file.r, i e.file.s, i e.parent.r, i e.parent.s, i e.tick, i (e.reasons % 512), .str e.name, i 0, i 0, .str []], .agg [i e.file.r, i e.file.s, i e.parent.r, i e.parent.s, i e.tick, i q, .str e.name, i 0, i 0, .str []]]] (.tup [a.enc, i 2, i 0]) := by
  have := c21v V (ev1_nm hs) h
  rwa [enc_ev1, enc_re] at this
theorem c22w {j b : Jrn} {e : Evt} {q : Int} (V : Valid j) (hs : shortB e = true) (h : noted j ((ev1 e).re q) = (b, 0)) : Fn 22 [j.enc, .agg [i e.file.r, i e.file.s, i e.parent.r, i e.parent.s, i e.tick, i q, .str e.name, i 0, i 0, .str []]] (.tup [b.enc, i 0]) := by
  have := c22v (e := (ev1 e).re q) V (ev1_nm hs) h
  rwa [enc_re] at this

theorem c4es (j : Jrn) (e : Evt) (m : Int) (hm : 0 ≤ m ∧ m < 256) (hf : fewB j = true) (hs : shortB e = true) (hc : (checkJ j).2 = 0) (h20 : (jrnB j).length ≤ 20000) (hx : ¬ (eventErr (ev1 e) = 0 ∧ j.opens.length ≤ 62 ∧ j.recs.length ≤ 196 ∧ j.next ≤ 2147483247 ∧ 1 ≤ m)) : Fn 4 [j.enc, e.enc, .int .u8 m] (.bool true) := by
  have B := bd_few hf; have V := valid_of hc; have hbr := B.r; have hv := V.nums; have hz : 0 ≤ size e.name.length := (by unfold size; omega)
  refine run_walkF eok Tryz.func4 rfl (by kernel_rfl) ?_
  conv => whnf
  repeat' (first
    | ((with_reducible refine on_chgn (fun h => ?_) (fun h => ?_)) <;> conv => whnf)
    | ((with_reducible refine on_dec_t (by assumption) ?_); conv => whnf)
    | ((with_reducible refine on_dec_f (by assumption) ?_); conv => whnf)
    | ((with_reducible refine onBool_t (by assumption) ?_); conv => whnf)
    | ((with_reducible refine onBool_f (by assumption) ?_); conv => whnf)
    | ((with_reducible refine on_nt (by assumption) ?_); conv => whnf)
    | ((with_reducible refine on_nf (by assumption) ?_); conv => whnf)
    | ((with_reducible refine on_ndec_t (by first | assumption | rfl) ?_); conv => whnf)
    | ((with_reducible refine on_ndec_f (by assumption) ?_); conv => whnf)
    | ((with_reducible refine on_dec_t rfl ?_); conv => whnf)
    | ((with_reducible refine on_dec_f ?_ ?_); (focus ((try simp only [List.length_map, List.length_cons, List.length_nil, List.length_append]); omega)); conv => whnf)
    | ((with_reducible refine on_dec_t ?_ ?_); (focus ((try simp only [List.length_map, List.length_cons, List.length_nil, List.length_append]); omega)); conv => whnf)
    | ((with_reducible refine on_dec (fun h => ?_) (fun h => ?_)) <;> (try simp only [List.length_map] at h) <;> conv => whnf)
    | ((with_reducible refine on_ndec (fun h => ?_) (fun h => ?_)) <;> (try simp only [List.length_map] at h) <;> conv => whnf)
    | ((with_reducible refine on_not (fun h => ?_) (fun h => ?_)) <;> conv => whnf)
    | ((with_reducible refine onBool_split (fun h => ?_) (fun h => ?_)) <;> conv => whnf)
    | ((with_reducible refine call_go ?_); (first | refine call_step (run_data (xs := []) c9 _) ?_ | refine call_step (run_data (xs := [_]) (c12g j) _) ?_ | refine call_step (run_data (xs := [_]) (c13 e) _) ?_ | refine call_step (run_data (xs := [_]) (c14 j B.r B.n B.o) _) ?_ | refine call_step (run_data (xs := [_]) (c16 j B.r B.o) _) ?_ | refine call_step (run_data (xs := [_]) (c15v V) _) ?_ | refine call_step (run_data (xs := [_]) (c9v V h20) _) ?_ | refine call_step (run_data (xs := [_, _]) (c11s V) _) ?_ | refine call_step (run_data (xs := [_]) (c17v V (List.getElem_mem (by omega : k < j.recs.length))) _) ?_ | refine call_step (run_data (xs := [_]) (c7v V (List.getElem_mem (by omega : k < j.recs.length))) _) ?_ | refine call_step (run_data (xs := [_, _]) (c18g _) _) ?_ | refine call_step (run_view (c19 (ev1 e) (ev1_nm hs).1 (ev1_nm hs).2) rfl (vlc (view_ev1 rfl) vln)) ?_ | refine call_step (run_data (xs := [_, _]) (c20 (e.reasons % 512) m (by omega) (by omega)) _) ?_); conv => whnf)
    | (refine ⟨[], [], (by decide +kernel), ?_⟩; conv => whnf)
    | (refine ⟨[], [(7, 1), (7, 3), (2, 1)], (by decide +kernel), ?_⟩; conv => whnf)
    | (refine ⟨[56], [(10, 1), (10, 5), (2, 1), (3, 1)], (by decide +kernel), ?_⟩; conv => whnf)
    | ((with_reducible refine loop_go ?_); first | (refine loop1 (fun (k : Nat) => j.recs.length - k) (fun (k : Nat) => k ≤ j.recs.length) (fun (k : Nat) => [(2, .d (.int .u8 m)), (3, .ptr 0 0 0), (4, .ptr 1 0 0), (11, .d (i k))]) (fun (k : Nat) => [⟨[.d j.enc], 6, 0⟩, ⟨[.d e.enc], 10, 0⟩, ⟨[.d j.enc], 6, 0⟩]) (0) (by exact Nat.zero_le _) ?_ (fun k C hI hC => ?_); (exact ⟨[.old 0, .old 1, .old 2], rfl, rfl, ⟨(by first | (show (_ : D) = _; with_reducible rfl) | exact rfl), ⟨rfl, rfl, rfl⟩, ⟨rfl, rfl, rfl⟩, (by first | (show (_ : D) = _; with_reducible rfl) | exact congrArg (D.int .i64) (by omega) | exact congrArg (D.int .i64) (by simp only [List.length_map]) | exact rfl), trivial⟩, ⟨⟨rfl, rfl, .inl ⟨[_], rfl, rfl⟩⟩, ⟨rfl, rfl, .inl ⟨[_], rfl, rfl⟩⟩, ⟨rfl, rfl, .inl ⟨[_], rfl, rfl⟩⟩, trivial⟩⟩); all_goals (conv => whnf)))
    | ((with_reducible show C _ _); first | (refine hC (k + 1) _ _ ?_ (by omega) ?_; clear hC; rotate_left; (exact ⟨[.old 0, .old 1, .old 2], rfl, rfl, ⟨(by first | (show (_ : D) = _; with_reducible rfl) | exact rfl), ⟨rfl, rfl, rfl⟩, ⟨rfl, rfl, rfl⟩, (by first | (show (_ : D) = _; with_reducible rfl) | exact congrArg (D.int .i64) (by omega) | exact congrArg (D.int .i64) (by simp only [List.length_map]) | exact rfl), trivial⟩, ⟨⟨rfl, rfl, .inl ⟨[_], rfl, rfl⟩⟩, ⟨rfl, rfl, .inl ⟨[_], rfl, rfl⟩⟩, ⟨rfl, rfl, .inl ⟨[_], rfl, rfl⟩⟩, trivial⟩⟩); (exact (by omega : k + 1 ≤ j.recs.length))))
    | (refine ⟨⟨(by first | rfl | (simp; done)), cap_ok (by simp only [List.length_map, List.length_cons, List.length_nil, List.length_append]; omega) rfl⟩, ?_⟩; conv => whnf)
    | (refine ⟨mem_one ⟨rfl, rfl⟩, ?_⟩; conv => whnf)
    | (refine ⟨(by intro y hy; obtain ⟨x, _, rfl⟩ := List.mem_map.1 hy; first | rfl | exact ⟨rfl, rfl⟩), ?_⟩; conv => whnf)
    | (refine ⟨cap_ok (by first | omega | (simp only [List.length_map]; omega)) rfl, ?_⟩; conv => whnf)
    | (refine ix_map (by omega) ?_; conv => whnf)
    | (refine ix_str (by omega) ?_; conv => whnf)
    | (refine wrap64 (by omega) ?_; conv => whnf)
    | (refine wrap64 (by omega) ?_; conv => whnf)
    | (exfalso; exact hx ⟨by assumption, by omega, by omega, by omega, by omega⟩)
    | (exfalso; simp only [List.length_map, List.length_cons, List.length_nil, List.length_append] at h; omega)
    | ((with_reducible refine endx_go ?_); first | (exact endx rfl; done) | (exact absurd rfl h; done))
    | (refine ⟨rfl, ?_⟩; conv => whnf)
    | fail
    )

theorem c4xs (j : Jrn) (e : Evt) (m : Int) (hm : 0 ≤ m ∧ m < 256) (a b : Jrn) (o : Int) (Va : Valid a) (Vb : Valid b) (hA : allR j [ev1 e, (ev1 e).re m] = (a, 2, 0)) (hB : noted j ((ev1 e).re (withI (e.reasons % 512) m)) = (b, 0)) (hoa : openB a.opens e.file = o) (hob : openB b.opens e.file = o) (hF : refErr e.file = 0) (hn : a.next = b.next ∨ a.next = b.next + size e.name.length) (hna : a.next < 1000000000000) (hnb : 0 ≤ b.next) (hnc : b.next + size e.name.length < 1000000000000) (hf : fewB j = true) (hs : shortB e = true) (hc : (checkJ j).2 = 0) (h20 : (jrnB j).length ≤ 20000) (he : eventErr (ev1 e) = 0) (ho : j.opens.length ≤ 62) (hr : j.recs.length ≤ 196) (hj : j.next ≤ 2147483247) (h1 : 1 ≤ m) : Fn 4 [j.enc, e.enc, .int .u8 m] (.bool true) := by
  have B := bd_few hf; have V := valid_of hc; have hbr := B.r; have hv := V.nums; have hz : 0 ≤ size e.name.length := (by unfold size; omega)
  refine run_walkF eok Tryz.func4 rfl (by kernel_rfl) ?_
  conv => whnf
  repeat' (first
    | ((with_reducible refine on_chgn (fun h => ?_) (fun h => ?_)) <;> conv => whnf)
    | ((with_reducible refine on_dec_t (by assumption) ?_); conv => whnf)
    | ((with_reducible refine on_dec_f (by assumption) ?_); conv => whnf)
    | ((with_reducible refine onBool_t (by assumption) ?_); conv => whnf)
    | ((with_reducible refine onBool_f (by assumption) ?_); conv => whnf)
    | ((with_reducible refine on_nt (by assumption) ?_); conv => whnf)
    | ((with_reducible refine on_nf (by assumption) ?_); conv => whnf)
    | ((with_reducible refine on_ndec_t (by first | assumption | rfl) ?_); conv => whnf)
    | ((with_reducible refine on_ndec_f (by assumption) ?_); conv => whnf)
    | ((with_reducible refine on_dec_t rfl ?_); conv => whnf)
    | ((with_reducible refine on_dec_f ?_ ?_); (focus ((try simp only [List.length_map, List.length_cons, List.length_nil, List.length_append]); omega)); conv => whnf)
    | ((with_reducible refine on_dec_t ?_ ?_); (focus ((try simp only [List.length_map, List.length_cons, List.length_nil, List.length_append]); omega)); conv => whnf)
    | ((with_reducible refine on_dec (fun h => ?_) (fun h => ?_)) <;> (try simp only [List.length_map] at h) <;> conv => whnf)
    | ((with_reducible refine on_ndec (fun h => ?_) (fun h => ?_)) <;> (try simp only [List.length_map] at h) <;> conv => whnf)
    | ((with_reducible refine on_not (fun h => ?_) (fun h => ?_)) <;> conv => whnf)
    | ((with_reducible refine onBool_split (fun h => ?_) (fun h => ?_)) <;> conv => whnf)
    | ((with_reducible refine call_go ?_); (first | refine call_step (run_data (xs := []) c9 _) ?_ | refine call_step (run_data (xs := [_]) (c12g j) _) ?_ | refine call_step (run_data (xs := [_]) (c13 e) _) ?_ | refine call_step (run_data (xs := [_]) (c14 j B.r B.n B.o) _) ?_ | refine call_step (run_data (xs := [_]) (c16 j B.r B.o) _) ?_ | refine call_step (run_data (xs := [_]) (c15v V) _) ?_ | refine call_step (run_data (xs := [_]) (c9v V h20) _) ?_ | refine call_step (run_data (xs := [_, _]) (c11s V) _) ?_ | refine call_step (run_data (xs := [_]) (c17v V (List.getElem_mem (by omega : k < j.recs.length))) _) ?_ | refine call_step (run_data (xs := [_]) (c7v V (List.getElem_mem (by omega : k < j.recs.length))) _) ?_ | refine call_step (run_data (xs := [_, _]) (c18g _) _) ?_ | refine call_step (run_view (c19 (ev1 e) (ev1_nm hs).1 (ev1_nm hs).2) rfl (vlc (view_ev1 rfl) vln)) ?_ | refine call_step (run_data (xs := [_, _]) (c20 (e.reasons % 512) m (by omega) (by omega)) _) ?_ | refine call_step (run_data (xs := [_, _]) (c21w V hs hA) _) ?_ | refine call_step (run_data (xs := [_, _]) (c22w V hs hB) _) ?_ | refine call_step (run_dataW (c22v (e := (ev1 e).re (withI (e.reasons % 512) m)) V (ev1_nm hs) hB) (vlc rfl (vlc view_re vln)) rfl) ?_ | refine call_step (run_view (c23v Va hF hoa) rfl (vlc rfl (vlc (view_agg (vlc rfl (vlc rfl vln))) vln))) ?_ | refine call_step (run_view (c23v Vb hF hob) rfl (vlc rfl (vlc (view_agg (vlc rfl (vlc rfl vln))) vln))) ?_ | refine call_step (run_data (xs := [_]) (c24 e.name (short_bd hs).1) _) ?_); conv => whnf)
    | (refine ⟨[], [], (by decide +kernel), ?_⟩; conv => whnf)
    | (refine ⟨[], [(7, 1), (7, 3), (2, 1)], (by decide +kernel), ?_⟩; conv => whnf)
    | (refine ⟨[56], [(10, 1), (10, 5), (2, 1), (3, 1)], (by decide +kernel), ?_⟩; conv => whnf)
    | ((with_reducible refine loop_go ?_); first | (refine loop1 (fun (k : Nat) => j.recs.length - k) (fun (k : Nat) => k ≤ j.recs.length) (fun (k : Nat) => [(2, .d (.int .u8 m)), (3, .ptr 0 0 0), (4, .ptr 1 0 0), (11, .d (i k))]) (fun (k : Nat) => [⟨[.d j.enc], 6, 0⟩, ⟨[.d e.enc], 10, 0⟩, ⟨[.d j.enc], 6, 0⟩]) (0) (by exact Nat.zero_le _) ?_ (fun k C hI hC => ?_); (exact ⟨[.old 0, .old 1, .old 2], rfl, rfl, ⟨(by first | (show (_ : D) = _; with_reducible rfl) | exact rfl), ⟨rfl, rfl, rfl⟩, ⟨rfl, rfl, rfl⟩, (by first | (show (_ : D) = _; with_reducible rfl) | exact congrArg (D.int .i64) (by omega) | exact congrArg (D.int .i64) (by simp only [List.length_map]) | exact rfl), trivial⟩, ⟨⟨rfl, rfl, .inl ⟨[_], rfl, rfl⟩⟩, ⟨rfl, rfl, .inl ⟨[_], rfl, rfl⟩⟩, ⟨rfl, rfl, .inl ⟨[_], rfl, rfl⟩⟩, trivial⟩⟩); all_goals (conv => whnf)))
    | ((with_reducible show C _ _); first | (refine hC (k + 1) _ _ ?_ (by omega) ?_; clear hC; rotate_left; (exact ⟨[.old 0, .old 1, .old 2], rfl, rfl, ⟨(by first | (show (_ : D) = _; with_reducible rfl) | exact rfl), ⟨rfl, rfl, rfl⟩, ⟨rfl, rfl, rfl⟩, (by first | (show (_ : D) = _; with_reducible rfl) | exact congrArg (D.int .i64) (by omega) | exact congrArg (D.int .i64) (by simp only [List.length_map]) | exact rfl), trivial⟩, ⟨⟨rfl, rfl, .inl ⟨[_], rfl, rfl⟩⟩, ⟨rfl, rfl, .inl ⟨[_], rfl, rfl⟩⟩, ⟨rfl, rfl, .inl ⟨[_], rfl, rfl⟩⟩, trivial⟩⟩); (exact (by omega : k + 1 ≤ j.recs.length))))
    | (refine ⟨⟨(by first | rfl | (simp; done)), cap_ok (by simp only [List.length_map, List.length_cons, List.length_nil, List.length_append]; omega) rfl⟩, ?_⟩; conv => whnf)
    | (refine ⟨mem_one ⟨rfl, rfl⟩, ?_⟩; conv => whnf)
    | (refine ⟨(by intro y hy; obtain ⟨x, _, rfl⟩ := List.mem_map.1 hy; first | rfl | exact ⟨rfl, rfl⟩), ?_⟩; conv => whnf)
    | (refine ⟨cap_ok (by first | omega | (simp only [List.length_map]; omega)) rfl, ?_⟩; conv => whnf)
    | (refine ix_map (by omega) ?_; conv => whnf)
    | (refine ix_str (by omega) ?_; conv => whnf)
    | (refine wrap64 (by omega) ?_; conv => whnf)
    | (refine wrap64 (by omega) ?_; conv => whnf)
    | (exfalso; simp only [List.length_map, List.length_cons, List.length_nil, List.length_append] at h; omega)
    | ((with_reducible refine endx_go ?_); first | (exact endx rfl; done) | (exact absurd rfl h; done) | (exact endx (congrArg D.bool (decide_eq_true (by omega))); done))
    | (refine ⟨rfl, ?_⟩; conv => whnf)
    | fail
    )

theorem c4el (j : Jrn) (e : Evt) (m : Int) (hm : 0 ≤ m ∧ m < 256) (hf : fewB j = true) (hs : shortB e = true) (hc : (checkJ j).2 = 0) (h20 : ¬ (jrnB j).length ≤ 20000) (hx : ¬ (eventErr (ev1 e) = 0 ∧ j.opens.length ≤ 62 ∧ j.recs.length ≤ 196 ∧ j.next ≤ 2147483247 ∧ 1 ≤ m)) : Fn 4 [j.enc, e.enc, .int .u8 m] (.bool true) := by
  have B := bd_few hf; have V := valid_of hc; have hbr := B.r; have hv := V.nums; have hz : 0 ≤ size e.name.length := (by unfold size; omega)
  refine run_walkF eok Tryz.func4 rfl (by kernel_rfl) ?_
  conv => whnf
  repeat' (first
    | ((with_reducible refine on_chgn (fun h => ?_) (fun h => ?_)) <;> conv => whnf)
    | ((with_reducible refine on_dec_t (by assumption) ?_); conv => whnf)
    | ((with_reducible refine on_dec_f (by assumption) ?_); conv => whnf)
    | ((with_reducible refine onBool_t (by assumption) ?_); conv => whnf)
    | ((with_reducible refine onBool_f (by assumption) ?_); conv => whnf)
    | ((with_reducible refine on_nt (by assumption) ?_); conv => whnf)
    | ((with_reducible refine on_nf (by assumption) ?_); conv => whnf)
    | ((with_reducible refine on_ndec_t (by first | assumption | rfl) ?_); conv => whnf)
    | ((with_reducible refine on_ndec_f (by assumption) ?_); conv => whnf)
    | ((with_reducible refine on_dec_t rfl ?_); conv => whnf)
    | ((with_reducible refine on_dec_f ?_ ?_); (focus ((try simp only [List.length_map, List.length_cons, List.length_nil, List.length_append]); omega)); conv => whnf)
    | ((with_reducible refine on_dec_t ?_ ?_); (focus ((try simp only [List.length_map, List.length_cons, List.length_nil, List.length_append]); omega)); conv => whnf)
    | ((with_reducible refine on_dec (fun h => ?_) (fun h => ?_)) <;> (try simp only [List.length_map] at h) <;> conv => whnf)
    | ((with_reducible refine on_ndec (fun h => ?_) (fun h => ?_)) <;> (try simp only [List.length_map] at h) <;> conv => whnf)
    | ((with_reducible refine on_not (fun h => ?_) (fun h => ?_)) <;> conv => whnf)
    | ((with_reducible refine onBool_split (fun h => ?_) (fun h => ?_)) <;> conv => whnf)
    | ((with_reducible refine call_go ?_); (first | refine call_step (run_data (xs := []) c9 _) ?_ | refine call_step (run_data (xs := [_]) (c12g j) _) ?_ | refine call_step (run_data (xs := [_]) (c13 e) _) ?_ | refine call_step (run_data (xs := [_]) (c14 j B.r B.n B.o) _) ?_ | refine call_step (run_data (xs := [_]) (c16 j B.r B.o) _) ?_ | refine call_step (run_data (xs := [_]) (c15v V) _) ?_ | refine call_step (run_data (xs := [_]) (c9v V h20) _) ?_ | refine call_step (run_data (xs := [_, _]) (c11s V) _) ?_ | refine call_step (run_data (xs := [_]) (c17v V (List.getElem_mem (by omega : k < j.recs.length))) _) ?_ | refine call_step (run_data (xs := [_]) (c7v V (List.getElem_mem (by omega : k < j.recs.length))) _) ?_ | refine call_step (run_data (xs := [_, _]) (c18g _) _) ?_ | refine call_step (run_view (c19 (ev1 e) (ev1_nm hs).1 (ev1_nm hs).2) rfl (vlc (view_ev1 rfl) vln)) ?_ | refine call_step (run_data (xs := [_, _]) (c20 (e.reasons % 512) m (by omega) (by omega)) _) ?_ | refine call_step (run_data (xs := [_, _]) (c21w V hs hA) _) ?_ | refine call_step (run_data (xs := [_, _]) (c22w V hs hB) _) ?_ | refine call_step (run_dataW (c22v (e := (ev1 e).re (withI (e.reasons % 512) m)) V (ev1_nm hs) hB) (vlc rfl (vlc view_re vln)) rfl) ?_ | refine call_step (run_view (c23v Va hF hoa) rfl (vlc rfl (vlc (view_agg (vlc rfl (vlc rfl vln))) vln))) ?_ | refine call_step (run_view (c23v Vb hF hob) rfl (vlc rfl (vlc (view_agg (vlc rfl (vlc rfl vln))) vln))) ?_ | refine call_step (run_data (xs := [_]) (c24 e.name (short_bd hs).1) _) ?_); conv => whnf)
    | (refine ⟨[], [], (by decide +kernel), ?_⟩; conv => whnf)
    | (refine ⟨[], [(7, 1), (7, 3), (2, 1)], (by decide +kernel), ?_⟩; conv => whnf)
    | (refine ⟨[56], [(10, 1), (10, 5), (2, 1), (3, 1)], (by decide +kernel), ?_⟩; conv => whnf)
    | ((with_reducible refine loop_go ?_); first | (refine loop1 (fun (k : Nat) => j.recs.length - k) (fun (k : Nat) => k ≤ j.recs.length) (fun (k : Nat) => [(2, .d (.int .u8 m)), (3, .ptr 0 0 0), (4, .ptr 1 0 0), (11, .d (i k))]) (fun (k : Nat) => [⟨[.d j.enc], 6, 0⟩, ⟨[.d e.enc], 10, 0⟩]) (0) (by exact Nat.zero_le _) ?_ (fun k C hI hC => ?_); (exact ⟨[.old 0, .old 1], rfl, rfl, ⟨(by first | (show (_ : D) = _; with_reducible rfl) | exact rfl), ⟨rfl, rfl, rfl⟩, ⟨rfl, rfl, rfl⟩, (by first | (show (_ : D) = _; with_reducible rfl) | exact congrArg (D.int .i64) (by omega) | exact congrArg (D.int .i64) (by simp only [List.length_map]) | exact rfl), trivial⟩, ⟨⟨rfl, rfl, .inl ⟨[_], rfl, rfl⟩⟩, ⟨rfl, rfl, .inl ⟨[_], rfl, rfl⟩⟩, trivial⟩⟩); all_goals (conv => whnf)))
    | ((with_reducible show C _ _); first | (refine hC (k + 1) _ _ ?_ (by omega) ?_; clear hC; rotate_left; (exact ⟨[.old 0, .old 1], rfl, rfl, ⟨(by first | (show (_ : D) = _; with_reducible rfl) | exact rfl), ⟨rfl, rfl, rfl⟩, ⟨rfl, rfl, rfl⟩, (by first | (show (_ : D) = _; with_reducible rfl) | exact congrArg (D.int .i64) (by omega) | exact congrArg (D.int .i64) (by simp only [List.length_map]) | exact rfl), trivial⟩, ⟨⟨rfl, rfl, .inl ⟨[_], rfl, rfl⟩⟩, ⟨rfl, rfl, .inl ⟨[_], rfl, rfl⟩⟩, trivial⟩⟩); (exact (by omega : k + 1 ≤ j.recs.length))))
    | (refine ⟨⟨(by first | rfl | (simp; done)), cap_ok (by simp only [List.length_map, List.length_cons, List.length_nil, List.length_append]; omega) rfl⟩, ?_⟩; conv => whnf)
    | (refine ⟨mem_one ⟨rfl, rfl⟩, ?_⟩; conv => whnf)
    | (refine ⟨(by intro y hy; obtain ⟨x, _, rfl⟩ := List.mem_map.1 hy; first | rfl | exact ⟨rfl, rfl⟩), ?_⟩; conv => whnf)
    | (refine ⟨cap_ok (by first | omega | (simp only [List.length_map]; omega)) rfl, ?_⟩; conv => whnf)
    | (refine ix_map (by omega) ?_; conv => whnf)
    | (refine ix_str (by omega) ?_; conv => whnf)
    | (refine wrap64 (by omega) ?_; conv => whnf)
    | (refine wrap64 (by omega) ?_; conv => whnf)
    | (exfalso; exact hx ⟨by assumption, by omega, by omega, by omega, by omega⟩)
    | (exfalso; simp only [List.length_map, List.length_cons, List.length_nil, List.length_append] at h; omega)
    | ((with_reducible refine endx_go ?_); first | (exact endx rfl; done) | (exact absurd rfl h; done))
    | (refine ⟨rfl, ?_⟩; conv => whnf)
    | fail
    )

theorem c4xl (j : Jrn) (e : Evt) (m : Int) (hm : 0 ≤ m ∧ m < 256) (a b : Jrn) (o : Int) (Va : Valid a) (Vb : Valid b) (hA : allR j [ev1 e, (ev1 e).re m] = (a, 2, 0)) (hB : noted j ((ev1 e).re (withI (e.reasons % 512) m)) = (b, 0)) (hoa : openB a.opens e.file = o) (hob : openB b.opens e.file = o) (hF : refErr e.file = 0) (hn : a.next = b.next ∨ a.next = b.next + size e.name.length) (hna : a.next < 1000000000000) (hnb : 0 ≤ b.next) (hnc : b.next + size e.name.length < 1000000000000) (hf : fewB j = true) (hs : shortB e = true) (hc : (checkJ j).2 = 0) (h20 : ¬ (jrnB j).length ≤ 20000) (he : eventErr (ev1 e) = 0) (ho : j.opens.length ≤ 62) (hr : j.recs.length ≤ 196) (hj : j.next ≤ 2147483247) (h1 : 1 ≤ m) : Fn 4 [j.enc, e.enc, .int .u8 m] (.bool true) := by
  have B := bd_few hf; have V := valid_of hc; have hbr := B.r; have hv := V.nums; have hz : 0 ≤ size e.name.length := (by unfold size; omega)
  refine run_walkF eok Tryz.func4 rfl (by kernel_rfl) ?_
  conv => whnf
  repeat' (first
    | ((with_reducible refine on_chgn (fun h => ?_) (fun h => ?_)) <;> conv => whnf)
    | ((with_reducible refine on_dec_t (by assumption) ?_); conv => whnf)
    | ((with_reducible refine on_dec_f (by assumption) ?_); conv => whnf)
    | ((with_reducible refine onBool_t (by assumption) ?_); conv => whnf)
    | ((with_reducible refine onBool_f (by assumption) ?_); conv => whnf)
    | ((with_reducible refine on_nt (by assumption) ?_); conv => whnf)
    | ((with_reducible refine on_nf (by assumption) ?_); conv => whnf)
    | ((with_reducible refine on_ndec_t (by first | assumption | rfl) ?_); conv => whnf)
    | ((with_reducible refine on_ndec_f (by assumption) ?_); conv => whnf)
    | ((with_reducible refine on_dec_t rfl ?_); conv => whnf)
    | ((with_reducible refine on_dec_f ?_ ?_); (focus ((try simp only [List.length_map, List.length_cons, List.length_nil, List.length_append]); omega)); conv => whnf)
    | ((with_reducible refine on_dec_t ?_ ?_); (focus ((try simp only [List.length_map, List.length_cons, List.length_nil, List.length_append]); omega)); conv => whnf)
    | ((with_reducible refine on_dec (fun h => ?_) (fun h => ?_)) <;> (try simp only [List.length_map] at h) <;> conv => whnf)
    | ((with_reducible refine on_ndec (fun h => ?_) (fun h => ?_)) <;> (try simp only [List.length_map] at h) <;> conv => whnf)
    | ((with_reducible refine on_not (fun h => ?_) (fun h => ?_)) <;> conv => whnf)
    | ((with_reducible refine onBool_split (fun h => ?_) (fun h => ?_)) <;> conv => whnf)
    | ((with_reducible refine call_go ?_); (first | refine call_step (run_data (xs := []) c9 _) ?_ | refine call_step (run_data (xs := [_]) (c12g j) _) ?_ | refine call_step (run_data (xs := [_]) (c13 e) _) ?_ | refine call_step (run_data (xs := [_]) (c14 j B.r B.n B.o) _) ?_ | refine call_step (run_data (xs := [_]) (c16 j B.r B.o) _) ?_ | refine call_step (run_data (xs := [_]) (c15v V) _) ?_ | refine call_step (run_data (xs := [_]) (c9v V h20) _) ?_ | refine call_step (run_data (xs := [_, _]) (c11s V) _) ?_ | refine call_step (run_data (xs := [_]) (c17v V (List.getElem_mem (by omega : k < j.recs.length))) _) ?_ | refine call_step (run_data (xs := [_]) (c7v V (List.getElem_mem (by omega : k < j.recs.length))) _) ?_ | refine call_step (run_data (xs := [_, _]) (c18g _) _) ?_ | refine call_step (run_view (c19 (ev1 e) (ev1_nm hs).1 (ev1_nm hs).2) rfl (vlc (view_ev1 rfl) vln)) ?_ | refine call_step (run_data (xs := [_, _]) (c20 (e.reasons % 512) m (by omega) (by omega)) _) ?_ | refine call_step (run_data (xs := [_, _]) (c21w V hs hA) _) ?_ | refine call_step (run_data (xs := [_, _]) (c22w V hs hB) _) ?_ | refine call_step (run_dataW (c22v (e := (ev1 e).re (withI (e.reasons % 512) m)) V (ev1_nm hs) hB) (vlc rfl (vlc view_re vln)) rfl) ?_ | refine call_step (run_view (c23v Va hF hoa) rfl (vlc rfl (vlc (view_agg (vlc rfl (vlc rfl vln))) vln))) ?_ | refine call_step (run_view (c23v Vb hF hob) rfl (vlc rfl (vlc (view_agg (vlc rfl (vlc rfl vln))) vln))) ?_ | refine call_step (run_data (xs := [_]) (c24 e.name (short_bd hs).1) _) ?_); conv => whnf)
    | (refine ⟨[], [], (by decide +kernel), ?_⟩; conv => whnf)
    | (refine ⟨[], [(7, 1), (7, 3), (2, 1)], (by decide +kernel), ?_⟩; conv => whnf)
    | (refine ⟨[56], [(10, 1), (10, 5), (2, 1), (3, 1)], (by decide +kernel), ?_⟩; conv => whnf)
    | ((with_reducible refine loop_go ?_); first | (refine loop1 (fun (k : Nat) => j.recs.length - k) (fun (k : Nat) => k ≤ j.recs.length) (fun (k : Nat) => [(2, .d (.int .u8 m)), (3, .ptr 0 0 0), (4, .ptr 1 0 0), (11, .d (i k))]) (fun (k : Nat) => [⟨[.d j.enc], 6, 0⟩, ⟨[.d e.enc], 10, 0⟩]) (0) (by exact Nat.zero_le _) ?_ (fun k C hI hC => ?_); (exact ⟨[.old 0, .old 1], rfl, rfl, ⟨(by first | (show (_ : D) = _; with_reducible rfl) | exact rfl), ⟨rfl, rfl, rfl⟩, ⟨rfl, rfl, rfl⟩, (by first | (show (_ : D) = _; with_reducible rfl) | exact congrArg (D.int .i64) (by omega) | exact congrArg (D.int .i64) (by simp only [List.length_map]) | exact rfl), trivial⟩, ⟨⟨rfl, rfl, .inl ⟨[_], rfl, rfl⟩⟩, ⟨rfl, rfl, .inl ⟨[_], rfl, rfl⟩⟩, trivial⟩⟩); all_goals (conv => whnf)))
    | ((with_reducible show C _ _); first | (refine hC (k + 1) _ _ ?_ (by omega) ?_; clear hC; rotate_left; (exact ⟨[.old 0, .old 1], rfl, rfl, ⟨(by first | (show (_ : D) = _; with_reducible rfl) | exact rfl), ⟨rfl, rfl, rfl⟩, ⟨rfl, rfl, rfl⟩, (by first | (show (_ : D) = _; with_reducible rfl) | exact congrArg (D.int .i64) (by omega) | exact congrArg (D.int .i64) (by simp only [List.length_map]) | exact rfl), trivial⟩, ⟨⟨rfl, rfl, .inl ⟨[_], rfl, rfl⟩⟩, ⟨rfl, rfl, .inl ⟨[_], rfl, rfl⟩⟩, trivial⟩⟩); (exact (by omega : k + 1 ≤ j.recs.length))))
    | (refine ⟨⟨(by first | rfl | (simp; done)), cap_ok (by simp only [List.length_map, List.length_cons, List.length_nil, List.length_append]; omega) rfl⟩, ?_⟩; conv => whnf)
    | (refine ⟨mem_one ⟨rfl, rfl⟩, ?_⟩; conv => whnf)
    | (refine ⟨(by intro y hy; obtain ⟨x, _, rfl⟩ := List.mem_map.1 hy; first | rfl | exact ⟨rfl, rfl⟩), ?_⟩; conv => whnf)
    | (refine ⟨cap_ok (by first | omega | (simp only [List.length_map]; omega)) rfl, ?_⟩; conv => whnf)
    | (refine ix_map (by omega) ?_; conv => whnf)
    | (refine ix_str (by omega) ?_; conv => whnf)
    | (refine wrap64 (by omega) ?_; conv => whnf)
    | (refine wrap64 (by omega) ?_; conv => whnf)
    | (exfalso; simp only [List.length_map, List.length_cons, List.length_nil, List.length_append] at h; omega)
    | ((with_reducible refine endx_go ?_); first | (exact endx rfl; done) | (exact absurd rfl h; done) | (exact endx (congrArg D.bool (decide_eq_true (by omega))); done))
    | (refine ⟨rfl, ?_⟩; conv => whnf)
    | fail
    )

theorem c4 (j : Jrn) (e : Evt) (m : Int) (hm : 0 ≤ m ∧ m < 256) : Fn 4 [j.enc, e.enc, .int .u8 m] (.bool true) := by
  cases hf : fewB j with
  | false => exact c4f j e m hm hf
  | true =>
    cases hs : shortB e with
    | false => exact c4s j e m hm hf hs
    | true =>
      by_cases hc : (checkJ j).2 = 0
      · by_cases hx : eventErr (ev1 e) = 0 ∧ j.opens.length ≤ 62 ∧ j.recs.length ≤ 196 ∧ j.next ≤ 2147483247 ∧ 1 ≤ m
        · obtain ⟨he, ho, hr, hj, h1⟩ := hx
          have V := valid_of hc
          obtain ⟨a, b, Va, Vb, hA, hB, hab, hF, hn, hna, hnb, hnc⟩ := two_law V he (by rw [ev1_r]; omega) (q := m) (by omega) ho hr hj
          rw [ev1_r] at hB
          rw [ev1_f] at hab hF
          rw [ev1_n] at hn hnc
          by_cases h20 : (jrnB j).length ≤ 20000
          · exact c4xs j e m hm a b _ Va Vb hA hB hab rfl hF hn hna hnb hnc hf hs hc h20 he ho hr hj h1
          · exact c4xl j e m hm a b _ Va Vb hA hB hab rfl hF hn hna hnb hnc hf hs hc h20 he ho hr hj h1
        · by_cases h20 : (jrnB j).length ≤ 20000
          · exact c4es j e m hm hf hs hc h20 hx
          · exact c4el j e m hm hf hs hc h20 hx
      · exact c4c j e m hm hf hs hc

end Go.Proofs.YtjbipdppgoldlaaGreatDoor

/-! Lb -/
namespace Go.Proofs.YtjbipdppgoldlaaGreatDoor
open Go Dw Go.ChangeShapes Go.WideShapes Go.RowKit

section
attribute [local irreducible] Run
theorem hrun4 : ∀ xs, shps E 6 Tryz.f4.params.toList xs → Run Tryz.prog 4 (xs.map .d) [] (.d (.bool true)) [] := by
  intro xs h
  obtain ⟨x1, r1, rfl, h1, x2, r2, rfl, h2, x3, r3, rfl, h3, rfl⟩ := h
  obtain ⟨j, rfl⟩ := shpJrn h1
  obtain ⟨e, rfl⟩ := shpEvt h2
  obtain ⟨m, hm, rfl⟩ := shpU8 h3
  exact c4 j e m hm
end

set_option maxRecDepth 100000 in
theorem lifted4 (os : Os) (started : os.Started) (H : Type) (enc : TypeId × Value → H) :
    ReturnsInHanded {} Tryz.checked os 4 .any (fun w args => (Rows.changesBackSpec.pre enc Tryz.prog Tryz.f4 [] false w args ∧ laidMetH Tryz.prog laid24z w) ∧ sizedMet enc Tryz.prog Tryz.f4 (OpenSpec.ofChange Rows.changesBackSpec) false w args)
      (Rows.changesBackSpec.post enc Tryz.prog Tryz.f4 false true false false) := by
  refine returnsInHanded_of_change_and (C := Tryz.checked) (X := fun w _ => laidMetH Tryz.prog laid24z w) (fun _ _ _ hh h => h.of_heap hh) own24z started (by kernel_rfl) Tryz.func4
    (ChangeSpec.witness_shaped (enc := enc) (C := Tryz.checked) (os := os) (X := fun w _ => laidMetH Tryz.prog laid24z w) false (wit24z os) #[.agg #[.int .i64 0, .int .i64 0, .int .i64 0, .int .i64 0, .slice none 0 0, .slice none 0 0], .agg #[.int .i64 0, .int .i64 0, .int .i64 0, .int .i64 0, .int .i64 0, .int .i64 0, .string ⟨#[]⟩, .int .i64 0, .int .i64 0, .string ⟨#[]⟩], .int .u8 0] 8 rfl (shaped24z os _) (by kernel_rfl) (by kernel_rfl) (by kernel_rfl) (door_met24z os _)) ?_
  intro W base args ds gs before hval hW _ _ _ _
  refine law_lift (n := 6) (t4 := 4) eok Tryz.func4 (by kernel_rfl) rfl laidOut24z rfl ?_ rfl Tryz.underlying4 (by kernel_rfl) hrun4 W base args ds gs before hval hW
  intro H ds hds
  match ds, hds with
  | [a, b, c], _ => rfl

theorem over4 : Rows.ChangesBackSaid :=
  OpenClaim.holds_of_wide 4 Tryz.f4 rfl rfl rfl rfl rfl rfl rfl ⟨rfl, rfl, rfl, rfl, rfl⟩ rfl rfl rfl rfl rfl (by kernel_rfl) Tryz.func4 (by kernel_rfl)
    (of_decide_eq_true (by kernel_rfl)) (by unfold Func.isWrapper; first | (rw [if_pos (by decide +kernel)]; kernel_rfl) | (rw [if_neg (by decide +kernel)]; exact ⟨rfl, rfl⟩))
    (fun os started H enc _ => lifted4 os started H enc)

theorem changesBack_proved : Rows.ChangesBackCardSaid :=
  Claim7.holds_tied_plain_at .later [] [.data, .pinned] true (true, "1ddc22db80d1ccbc9293bf674042cece788f60955cd070cb4e7d0c12a2e93070") false
    over4 (fun _ h => by cases h) (by kernel_rfl) (fun _ h => by cases h) changesBack_row_tie rfl ⟨rfl, rfl⟩ (by kernel_rfl) rfl
    (card_hl (f0 := 4) (fn0 := Tryz.f4) (by kernel_rfl) Tryz.func4 (by kernel_rfl) (by kernel_rfl)) (by kernel_rfl)
end Go.Proofs.YtjbipdppgoldlaaGreatDoor
