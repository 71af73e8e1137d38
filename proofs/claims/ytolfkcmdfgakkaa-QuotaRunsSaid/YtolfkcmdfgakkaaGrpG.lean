/-
  Own lemmas, no conditions: Wo, Pf, Wp, Pg, Wq, Pe, Wr.
-/
import Derived.Test.YtolfkcmdfgakkaaGrpF
set_option linter.unusedVariables false
set_option linter.unusedSimpArgs false

/-! Wo -/
namespace Go.Proofs.Ytolfkcmdfgakkaa
open Go Dw
set_option maxRecDepth 10000
set_option linter.unusedVariables false
set_option linter.unusedSimpArgs false
attribute [local irreducible] Run
set_option maxHeartbeats 4000000

attribute [local irreducible] oE checkQ cnt isR ownR withR bsR fullQ put1 chg rls mov limErr limF actE doA resQ aftQ whoE limE numE goMin goMax actErr movErr filE iget iput upto eF srt isQ roomQ warned
def zO : AV := .agg [.d (i 0), .d (i 0), .d (i 0), .d (i 0), .d (i 0)]

theorem c95p (n : Nat) (hn : n < 1000) (h0 : 0 < n) : Run Try.prog 95 [.nilS, .d (i n)] [] (.sl 0 0 0 5 none) [⟨List.replicate n zO, 5, 0⟩] := by
  refine run_walkV eok Try.func95 rfl (by kernel_rfl) [] (by rfl) [] ?_
  conv => whnf
  repeat' (first
    | ((with_reducible refine on_dec_t (by assumption) ?_); conv => whnf)
    | ((with_reducible refine on_dec_f (by assumption) ?_); conv => whnf)
    | ((with_reducible refine onBool_t (by assumption) ?_); conv => whnf)
    | ((with_reducible refine onBool_f (by assumption) ?_); conv => whnf)
    | ((with_reducible refine on_nt (by assumption) ?_); conv => whnf)
    | ((with_reducible refine on_nf (by assumption) ?_); conv => whnf)
    | ((with_reducible refine on_ndec_t (by first | assumption | rfl) ?_); conv => whnf)
    | ((with_reducible refine on_ndec_f (by assumption) ?_); conv => whnf)
    | ((with_reducible refine on_dec_t rfl ?_); conv => whnf)
    | ((with_reducible refine on_dec_f ?_ ?_); (focus ((try simp only [List.length_map, List.length_cons, List.length_nil, List.length_append]); omega)); conv => whnf)
    | ((with_reducible refine on_dec_t ?_ ?_); (focus ((try simp only [List.length_map, List.length_cons, List.length_nil, List.length_append]); omega)); conv => whnf)
    | ((with_reducible refine on_dec (fun h => ?_) (fun h => ?_)) <;> (try simp only [List.length_map] at h) <;> conv => whnf)
    | ((with_reducible refine on_ndec (fun h => ?_) (fun h => ?_)) <;> (try simp only [List.length_map] at h) <;> conv => whnf)
    | ((with_reducible refine on_not (fun h => ?_) (fun h => ?_)) <;> conv => whnf)
    | ((with_reducible refine onBool_split (fun h => ?_) (fun h => ?_)) <;> conv => whnf)
    | (refine ⟨⟨(by first | rfl | (simp; done)), cap_ok (by simp only [List.length_map, List.length_cons, List.length_nil, List.length_append]; omega) rfl⟩, ?_⟩; conv => whnf)
    | (refine ⟨mem_one ⟨rfl, rfl⟩, ?_⟩; conv => whnf)
    | (refine ⟨(by intro y hy; obtain ⟨x, _, rfl⟩ := List.mem_map.1 hy; first | rfl | exact ⟨rfl, rfl⟩), ?_⟩; conv => whnf)
    | (refine ⟨cap_ok (by first | omega | (simp only [List.length_map]; omega)) rfl, ?_⟩; conv => whnf)
    | (refine ix_map (by omega) ?_; conv => whnf)
    | (refine ix_str (by omega) ?_; conv => whnf)
    | (refine wrap64 (by omega) ?_; conv => whnf)
    | (refine wrap64 (by omega) ?_; conv => whnf)
    | (refine own_sl 0 0 rfl rfl ⟨Nat.le_refl _, Nat.zero_le _⟩ ?_; conv => whnf)
    | (refine ⟨⟨rfl, rfl, rfl⟩, ?_⟩; conv => whnf)
    | (refine ⟨⟨by omega, by omega, (by rw [show (E (E 22).elem).bytes = 40 from rfl]; omega)⟩, ?_⟩; conv => whnf)
    | (refine ⟨(by rw [List.length_replicate, show (E (E 22).elem).bytes = 40 from rfl]; omega), ?_⟩; conv => whnf)
    | (exfalso; simp only [List.length_map, List.length_cons, List.length_nil, List.length_append] at h; omega)
    | ((with_reducible refine endx_go ?_); first | (rw [show ((n : Int) - (0 - 0)).toNat = n by omega]; exact endx_same rfl rfl; done))
    | (refine ⟨rfl, ?_⟩; conv => whnf)
    | fail
    )

theorem c95z : Run Try.prog 95 [.nilS, .d (i 0)] [] .nilS [] := by
  refine run_walkV eok Try.func95 rfl (by kernel_rfl) [] (by rfl) [] ?_
  conv => whnf
  repeat' (first
    | ((with_reducible refine on_dec_t (by assumption) ?_); conv => whnf)
    | ((with_reducible refine on_dec_f (by assumption) ?_); conv => whnf)
    | ((with_reducible refine onBool_t (by assumption) ?_); conv => whnf)
    | ((with_reducible refine onBool_f (by assumption) ?_); conv => whnf)
    | ((with_reducible refine on_nt (by assumption) ?_); conv => whnf)
    | ((with_reducible refine on_nf (by assumption) ?_); conv => whnf)
    | ((with_reducible refine on_ndec_t (by first | assumption | rfl) ?_); conv => whnf)
    | ((with_reducible refine on_ndec_f (by assumption) ?_); conv => whnf)
    | ((with_reducible refine on_dec_t rfl ?_); conv => whnf)
    | ((with_reducible refine on_dec_f ?_ ?_); (focus ((try simp only [List.length_map, List.length_cons, List.length_nil, List.length_append]); omega)); conv => whnf)
    | ((with_reducible refine on_dec_t ?_ ?_); (focus ((try simp only [List.length_map, List.length_cons, List.length_nil, List.length_append]); omega)); conv => whnf)
    | ((with_reducible refine on_dec (fun h => ?_) (fun h => ?_)) <;> (try simp only [List.length_map] at h) <;> conv => whnf)
    | ((with_reducible refine on_ndec (fun h => ?_) (fun h => ?_)) <;> (try simp only [List.length_map] at h) <;> conv => whnf)
    | ((with_reducible refine on_not (fun h => ?_) (fun h => ?_)) <;> conv => whnf)
    | ((with_reducible refine onBool_split (fun h => ?_) (fun h => ?_)) <;> conv => whnf)
    | (refine ⟨⟨(by first | rfl | (simp; done)), cap_ok (by simp only [List.length_map, List.length_cons, List.length_nil, List.length_append]; omega) rfl⟩, ?_⟩; conv => whnf)
    | (refine ⟨mem_one ⟨rfl, rfl⟩, ?_⟩; conv => whnf)
    | (refine ⟨(by intro y hy; obtain ⟨x, _, rfl⟩ := List.mem_map.1 hy; first | rfl | exact ⟨rfl, rfl⟩), ?_⟩; conv => whnf)
    | (refine ⟨cap_ok (by first | omega | (simp only [List.length_map]; omega)) rfl, ?_⟩; conv => whnf)
    | (refine ix_map (by omega) ?_; conv => whnf)
    | (refine ix_str (by omega) ?_; conv => whnf)
    | (refine wrap64 (by omega) ?_; conv => whnf)
    | (refine wrap64 (by omega) ?_; conv => whnf)
    | (exfalso; simp only [List.length_map, List.length_cons, List.length_nil, List.length_append] at h; omega)
    | ((with_reducible refine endx_go ?_); first | (refine endX_of (.inl ⟨[], rfl, rfl, ⟨trivial, trivial⟩, trivial⟩); done))
    | (refine ⟨rfl, ?_⟩; conv => whnf)
    | fail
    )

def cut1 (LL : List (List Own)) (k : Nat) : List Own := (LL.take k).flatten
theorem cut1_succ {LL : List (List Own)} {k : Nat} (h : k < LL.length) : cut1 LL (k + 1) = cut1 LL k ++ LL[k] := by
  unfold cut1; rw [List.take_succ_eq_append_getElem h, List.flatten_append]; simp
theorem cut1_end {LL : List (List Own)} {k : Nat} (h : ¬ k < LL.length) : cut1 LL k = LL.flatten := by unfold cut1; rw [List.take_of_length_le (by omega)]
theorem cut1_le {LL : List (List Own)} {k : Nat} (h : k < LL.length) : (cut1 LL k).length + LL[k].length ≤ LL.flatten.length := by
  have h1 : LL.flatten = cut1 LL (k + 1) ++ (LL.drop (k + 1)).flatten := by unfold cut1; rw [← List.flatten_append, List.take_append_drop]
  rw [h1, cut1_succ h, List.length_append, List.length_append]; omega
theorem cut1_len {LL : List (List Own)} {k : Nat} (h : k < LL.length) : (cut1 LL (k + 1)).length = (cut1 LL k).length + LL[k].length := by rw [cut1_succ h, List.length_append]
def cO (A : List Own) (m : Nat) : AO := ⟨(A.map Own.enc).map .d ++ List.replicate m zO, 5, 0⟩
theorem c95k {LL : List (List Own)} {k : Nat} (hk : ¬ (k : Int) < LL.length) (hf : LL.flatten.length < 1000) (h0 : 0 < LL.flatten.length) : Run Try.prog 95 [.nilS, .d (i (cut1 LL k).length)] [] (.sl 0 0 0 5 none) [cO [] LL.flatten.length] := by
  rw [cut1_end (by omega)]
  exact c95p _ hf h0
theorem c95l {LL : List (List Own)} {k : Nat} (hk : ¬ (k : Int) < LL.length) (h0 : LL.flatten.length = 0) : Run Try.prog 95 [.nilS, .d (i (cut1 LL k).length)] [] .nilS [] := by
  rw [cut1_end (by omega), h0]
  exact c95z
theorem wks_cO (μ : List Mu) : ∀ (A : List D) (m : Nat), wks μ (A.map .d ++ List.replicate m zO) (A.map .d ++ List.replicate m zO)
  | [], 0 => trivial
  | [], m + 1 => ⟨⟨rfl, rfl, rfl, rfl, rfl, trivial⟩, wks_cO μ [] m⟩
  | x :: A, m => ⟨rfl, wks_cO μ A m⟩
theorem over_cO (A B : List Own) (n : Nat) (h : A.length + B.length ≤ n) : over ((A.map Own.enc).map .d ++ List.replicate (n - A.length) zO) A.length ((B.map Own.enc).map .d) = ((A ++ B).map Own.enc).map .d ++ List.replicate (n - (A ++ B).length) zO := by
  unfold over
  have h1 : ((A.map Own.enc).map AV.d).length = A.length := by simp
  have h2 : ((A.map Own.enc).map AV.d ++ List.replicate (n - A.length) zO).take A.length = (A.map Own.enc).map AV.d := by
    rw [← h1, List.take_left]
  have h3 : ((A.map Own.enc).map AV.d ++ List.replicate (n - A.length) zO).drop (A.length + ((B.map Own.enc).map AV.d).length) = List.replicate (n - (A ++ B).length) zO := by
    have : A.length + ((B.map Own.enc).map AV.d).length = ((A.map Own.enc).map AV.d).length + B.length := by simp
    have e : (n - A.length) - B.length = n - (A ++ B).length := by rw [List.length_append]; omega
    rw [this, List.drop_append, List.drop_eq_nil_of_le (by omega), List.nil_append, Nat.add_sub_cancel_left, List.drop_replicate, e]
  rw [h2, h3]; simp
theorem cO_len (A : List Own) (m : Nat) : (cO A m).elems.length = A.length + m := by unfold cO; simp
theorem cO_0 (A : List Own) : cO A 0 = ⟨(A.map Own.enc).map .d, 5, 0⟩ := by unfold cO; simp
theorem wks_step (μ : List Mu) {LL : List (List Own)} {k : Nat} (h : k < LL.length) : wks μ (over (cO (cut1 LL k) (LL.flatten.length - (cut1 LL k).length)).elems (0 + (cut1 LL k).length) ((LL[k].map Own.enc).map .d)) (cO (cut1 LL (k + 1)) (LL.flatten.length - (cut1 LL (k + 1)).length)).elems := by
  have := cut1_le h
  rw [Nat.zero_add]
  show wks μ (over ((cut1 LL k).map Own.enc |>.map .d |> fun x => x ++ List.replicate (LL.flatten.length - (cut1 LL k).length) zO) _ _) _
  rw [cut1_succ h]
  have e := over_cO (cut1 LL k) LL[k] LL.flatten.length (by omega)
  show wks μ (over (((cut1 LL k).map Own.enc).map .d ++ List.replicate (LL.flatten.length - (cut1 LL k).length) zO) _ _) _
  rw [e]
  exact wks_cO μ _ _

theorem c74p (LL : List (List Own)) (hL : LL.length < 1000) (hf : LL.flatten.length < 1000) (h0 : 0 < LL.flatten.length) : Fn 74 [.fs (LL.map (fun l => .fs (l.map Own.enc)))] (.fs (LL.flatten.map Own.enc)) := by
  refine run_walkF eok Try.func74 rfl (by kernel_rfl) ?_
  conv => whnf
  repeat' (first
    | ((with_reducible refine on_dec_t (by assumption) ?_); conv => whnf)
    | ((with_reducible refine on_dec_f (by assumption) ?_); conv => whnf)
    | ((with_reducible refine onBool_t (by assumption) ?_); conv => whnf)
    | ((with_reducible refine onBool_f (by assumption) ?_); conv => whnf)
    | ((with_reducible refine on_nt (by assumption) ?_); conv => whnf)
    | ((with_reducible refine on_nf (by assumption) ?_); conv => whnf)
    | ((with_reducible refine on_ndec_t (by first | assumption | rfl) ?_); conv => whnf)
    | ((with_reducible refine on_ndec_f (by assumption) ?_); conv => whnf)
    | ((with_reducible refine on_dec_t rfl ?_); conv => whnf)
    | ((with_reducible refine on_dec_f ?_ ?_); (focus ((try simp only [List.length_map, List.length_cons, List.length_nil, List.length_append]); omega)); conv => whnf)
    | ((with_reducible refine on_dec_t ?_ ?_); (focus ((try simp only [List.length_map, List.length_cons, List.length_nil, List.length_append]); omega)); conv => whnf)
    | ((with_reducible refine on_dec (fun h => ?_) (fun h => ?_)) <;> (try simp only [List.length_map] at h) <;> conv => whnf)
    | ((with_reducible refine on_ndec (fun h => ?_) (fun h => ?_)) <;> (try simp only [List.length_map] at h) <;> conv => whnf)
    | ((with_reducible refine on_not (fun h => ?_) (fun h => ?_)) <;> conv => whnf)
    | ((with_reducible refine onBool_split (fun h => ?_) (fun h => ?_)) <;> conv => whnf)
    | ((with_reducible refine call_go ?_); (first | refine call_step (c95k (LL := LL) (by assumption) hf h0) ?_ | refine call_step (c95l (LL := LL) (by assumption) h0) ?_); conv => whnf)
    | ((with_reducible refine loop_go ?_); first | (refine loop1 (fun (k : Nat) => LL.length - k) (fun (k : Nat) => k ≤ LL.length) (fun (k : Nat) => [(6, .sl 0 0 (cut1 LL k).length 5 none), (25, .d (.fs (LL.map (fun l => .fs (l.map Own.enc))))), (26, .d (i LL.length)), (27, .d (i k))]) (fun (k : Nat) => [cO (cut1 LL k) (LL.flatten.length - (cut1 LL k).length)]) (0) (by exact Nat.zero_le _) ?_ (fun k Cb hIb hCb => ?_); (exact ⟨[.old 0], rfl, rfl, ⟨(by first | exact congrArg (D.int .i64) (by omega) | exact ⟨rfl, rfl, rfl⟩ | exact ⟨rfl, rfl, rfl, rfl, rfl⟩ | (show (_ : D) = _; with_reducible rfl)), (by first | (show (_ : D) = _; with_reducible rfl) | exact rfl), (by first | (show (_ : D) = _; with_reducible rfl) | exact congrArg (D.int .i64) (by omega) | exact congrArg (D.int .i64) (by simp only [List.length_map]) | exact rfl), (by first | (show (_ : D) = _; with_reducible rfl) | exact congrArg (D.int .i64) (by omega) | exact congrArg (D.int .i64) (by simp only [List.length_map]) | exact rfl), trivial⟩, ⟨⟨rfl, rfl, .inr (wks_cO _ [] _)⟩, trivial⟩⟩); all_goals (conv => whnf)) | (refine loop1 (fun (k : Nat) => LL.length - k) (fun (k : Nat) => k ≤ LL.length) (fun (k : Nat) => [(0, .d (.fs (LL.map (fun l => .fs (l.map Own.enc))))), (3, .d (i (cut1 LL k).length)), (9, .d (.fs (LL.map (fun l => .fs (l.map Own.enc))))), (10, .d (i LL.length)), (11, .d (i k))]) (fun (k : Nat) => []) (0) (by exact Nat.zero_le _) ?_ (fun k C hI hC => ?_); (exact ⟨[], rfl, rfl, ⟨(by first | (show (_ : D) = _; with_reducible rfl) | exact rfl), (by first | (show (_ : D) = _; with_reducible rfl) | exact congrArg (D.int .i64) (by omega) | exact congrArg (D.int .i64) (by simp only [List.length_map]) | exact rfl), (by first | (show (_ : D) = _; with_reducible rfl) | exact rfl), (by first | (show (_ : D) = _; with_reducible rfl) | exact congrArg (D.int .i64) (by omega) | exact congrArg (D.int .i64) (by simp only [List.length_map]) | exact rfl), (by first | (show (_ : D) = _; with_reducible rfl) | exact congrArg (D.int .i64) (by omega) | exact congrArg (D.int .i64) (by simp only [List.length_map]) | exact rfl), trivial⟩, trivial⟩); all_goals (conv => whnf)))
    | ((with_reducible show C _ _); first | (refine hC (k + 1) _ _ ?_ (by omega) ?_; clear hC; rotate_left; (exact ⟨[], rfl, rfl, ⟨(by first | (show (_ : D) = _; with_reducible rfl) | exact rfl), (by refine congrArg (D.int .i64) ?_; rw [cut1_len (by omega), List.length_map]; omega), (by first | (show (_ : D) = _; with_reducible rfl) | exact rfl), (by first | (show (_ : D) = _; with_reducible rfl) | exact congrArg (D.int .i64) (by omega) | exact congrArg (D.int .i64) (by simp only [List.length_map]) | exact rfl), (by first | (show (_ : D) = _; with_reducible rfl) | exact congrArg (D.int .i64) (by omega) | exact congrArg (D.int .i64) (by simp only [List.length_map]) | exact rfl), trivial⟩, trivial⟩); (exact (by omega : k + 1 ≤ LL.length))))
    | ((with_reducible show Cb _ _); first | (refine hCb (k + 1) _ _ ?_ (by omega) ?_; clear hCb; rotate_left; (exact ⟨[.old 0], rfl, rfl, ⟨⟨rfl, rfl, (by rw [cut1_len (by omega)]; simp), rfl, rfl⟩, (by first | (show (_ : D) = _; with_reducible rfl) | exact rfl), (by first | (show (_ : D) = _; with_reducible rfl) | exact congrArg (D.int .i64) (by omega) | exact congrArg (D.int .i64) (by simp only [List.length_map]) | exact rfl), (by first | (show (_ : D) = _; with_reducible rfl) | exact congrArg (D.int .i64) (by omega) | exact congrArg (D.int .i64) (by simp only [List.length_map]) | exact rfl), trivial⟩, ⟨⟨rfl, rfl, .inr (wks_step _ (by omega))⟩, trivial⟩⟩); (exact (by omega : k + 1 ≤ LL.length))))
    | (refine ⟨⟨(by first | rfl | (simp; done)), cap_ok (by simp only [List.length_map, List.length_cons, List.length_nil, List.length_append]; omega) rfl⟩, ?_⟩; conv => whnf)
    | (refine ⟨mem_one ⟨rfl, rfl⟩, ?_⟩; conv => whnf)
    | (refine ⟨(by intro y hy; obtain ⟨x, _, rfl⟩ := List.mem_map.1 hy; first | rfl | exact ⟨rfl, rfl⟩), ?_⟩; conv => whnf)
    | (refine ⟨cap_ok (by first | omega | (simp only [List.length_map]; omega)) rfl, ?_⟩; conv => whnf)
    | (refine ix_map (by omega) ?_; conv => whnf)
    | (refine ix_str (by omega) ?_; conv => whnf)
    | (refine wrap64 (by omega) ?_; conv => whnf)
    | (refine wrap64 (by omega) ?_; conv => whnf)
    | (refine wrap64 (by have hc := cut1_le (LL := LL) (k := k) (by omega); simp only [List.length_map]; omega) ?_; conv => whnf)
    | (exfalso; have hc := cut1_le (LL := LL) (k := k) (by omega); rw [cO_len] at h; omega)
    | (exfalso; simp only [List.length_map, List.length_cons, List.length_nil, List.length_append] at h; omega)
    | ((with_reducible refine endx_go ?_); first | (rw [cut1_end (by omega), Nat.sub_self, cO_0]; exact endxv (view_map rfl Nat.two_pos) rfl; done))
    | (refine ⟨rfl, ?_⟩; conv => whnf)
    | fail
    )

theorem c74z (LL : List (List Own)) (hL : LL.length < 1000) (hf : LL.flatten.length < 1000) (h0 : LL.flatten.length = 0) : Fn 74 [.fs (LL.map (fun l => .fs (l.map Own.enc)))] (.fs (LL.flatten.map Own.enc)) := by
  refine run_walkF eok Try.func74 rfl (by kernel_rfl) ?_
  conv => whnf
  repeat' (first
    | ((with_reducible refine on_dec_t (by assumption) ?_); conv => whnf)
    | ((with_reducible refine on_dec_f (by assumption) ?_); conv => whnf)
    | ((with_reducible refine onBool_t (by assumption) ?_); conv => whnf)
    | ((with_reducible refine onBool_f (by assumption) ?_); conv => whnf)
    | ((with_reducible refine on_nt (by assumption) ?_); conv => whnf)
    | ((with_reducible refine on_nf (by assumption) ?_); conv => whnf)
    | ((with_reducible refine on_ndec_t (by first | assumption | rfl) ?_); conv => whnf)
    | ((with_reducible refine on_ndec_f (by assumption) ?_); conv => whnf)
    | ((with_reducible refine on_dec_t rfl ?_); conv => whnf)
    | ((with_reducible refine on_dec_f ?_ ?_); (focus ((try simp only [List.length_map, List.length_cons, List.length_nil, List.length_append]); omega)); conv => whnf)
    | ((with_reducible refine on_dec_t ?_ ?_); (focus ((try simp only [List.length_map, List.length_cons, List.length_nil, List.length_append]); omega)); conv => whnf)
    | ((with_reducible refine on_dec (fun h => ?_) (fun h => ?_)) <;> (try simp only [List.length_map] at h) <;> conv => whnf)
    | ((with_reducible refine on_ndec (fun h => ?_) (fun h => ?_)) <;> (try simp only [List.length_map] at h) <;> conv => whnf)
    | ((with_reducible refine on_not (fun h => ?_) (fun h => ?_)) <;> conv => whnf)
    | ((with_reducible refine onBool_split (fun h => ?_) (fun h => ?_)) <;> conv => whnf)
    | ((with_reducible refine call_go ?_); (first | refine call_step (c95k (LL := LL) (by assumption) hf h0) ?_ | refine call_step (c95l (LL := LL) (by assumption) h0) ?_); conv => whnf)
    | ((with_reducible refine loop_go ?_); first | (refine loop1 (fun (k : Nat) => LL.length - k) (fun (k : Nat) => k ≤ LL.length) (fun (k : Nat) => [(6, .sl 0 0 (cut1 LL k).length 5 none), (25, .d (.fs (LL.map (fun l => .fs (l.map Own.enc))))), (26, .d (i LL.length)), (27, .d (i k))]) (fun (k : Nat) => [cO (cut1 LL k) (LL.flatten.length - (cut1 LL k).length)]) (0) (by exact Nat.zero_le _) ?_ (fun k Cb hIb hCb => ?_); (exact ⟨[.void 5], rfl, rfl, ⟨⟨rfl, rfl, rfl, rfl⟩, (by first | (show (_ : D) = _; with_reducible rfl) | exact rfl), (by first | (show (_ : D) = _; with_reducible rfl) | exact congrArg (D.int .i64) (by omega) | exact congrArg (D.int .i64) (by simp only [List.length_map]) | exact rfl), (by first | (show (_ : D) = _; with_reducible rfl) | exact congrArg (D.int .i64) (by omega) | exact congrArg (D.int .i64) (by simp only [List.length_map]) | exact rfl), trivial⟩, ⟨⟨(by rw [h0]; rfl), rfl, Nat.zero_lt_succ _, rfl⟩, trivial⟩⟩); all_goals (conv => whnf)) | (refine loop1 (fun (k : Nat) => LL.length - k) (fun (k : Nat) => k ≤ LL.length) (fun (k : Nat) => [(0, .d (.fs (LL.map (fun l => .fs (l.map Own.enc))))), (3, .d (i (cut1 LL k).length)), (9, .d (.fs (LL.map (fun l => .fs (l.map Own.enc))))), (10, .d (i LL.length)), (11, .d (i k))]) (fun (k : Nat) => []) (0) (by exact Nat.zero_le _) ?_ (fun k C hI hC => ?_); (exact ⟨[], rfl, rfl, ⟨(by first | (show (_ : D) = _; with_reducible rfl) | exact rfl), (by first | (show (_ : D) = _; with_reducible rfl) | exact congrArg (D.int .i64) (by omega) | exact congrArg (D.int .i64) (by simp only [List.length_map]) | exact rfl), (by first | (show (_ : D) = _; with_reducible rfl) | exact rfl), (by first | (show (_ : D) = _; with_reducible rfl) | exact congrArg (D.int .i64) (by omega) | exact congrArg (D.int .i64) (by simp only [List.length_map]) | exact rfl), (by first | (show (_ : D) = _; with_reducible rfl) | exact congrArg (D.int .i64) (by omega) | exact congrArg (D.int .i64) (by simp only [List.length_map]) | exact rfl), trivial⟩, trivial⟩); all_goals (conv => whnf)))
    | ((with_reducible show C _ _); first | (refine hC (k + 1) _ _ ?_ (by omega) ?_; clear hC; rotate_left; (exact ⟨[], rfl, rfl, ⟨(by first | (show (_ : D) = _; with_reducible rfl) | exact rfl), (by refine congrArg (D.int .i64) ?_; rw [cut1_len (by omega), List.length_map]; omega), (by first | (show (_ : D) = _; with_reducible rfl) | exact rfl), (by first | (show (_ : D) = _; with_reducible rfl) | exact congrArg (D.int .i64) (by omega) | exact congrArg (D.int .i64) (by simp only [List.length_map]) | exact rfl), (by first | (show (_ : D) = _; with_reducible rfl) | exact congrArg (D.int .i64) (by omega) | exact congrArg (D.int .i64) (by simp only [List.length_map]) | exact rfl), trivial⟩, trivial⟩); (exact (by omega : k + 1 ≤ LL.length))))
    | ((with_reducible show Cb _ _); first | (refine hCb (k + 1) _ _ ?_ (by omega) ?_; clear hCb; rotate_left; (exact ⟨[.old 0], rfl, rfl, ⟨⟨rfl, rfl, (by rw [cut1_len (by omega)]; simp), rfl, rfl⟩, (by first | (show (_ : D) = _; with_reducible rfl) | exact rfl), (by first | (show (_ : D) = _; with_reducible rfl) | exact congrArg (D.int .i64) (by omega) | exact congrArg (D.int .i64) (by simp only [List.length_map]) | exact rfl), (by first | (show (_ : D) = _; with_reducible rfl) | exact congrArg (D.int .i64) (by omega) | exact congrArg (D.int .i64) (by simp only [List.length_map]) | exact rfl), trivial⟩, ⟨⟨rfl, rfl, .inr (wks_step _ (by omega))⟩, trivial⟩⟩); (exact (by omega : k + 1 ≤ LL.length))))
    | (refine ⟨⟨(by first | rfl | (simp; done)), cap_ok (by simp only [List.length_map, List.length_cons, List.length_nil, List.length_append]; omega) rfl⟩, ?_⟩; conv => whnf)
    | (refine ⟨mem_one ⟨rfl, rfl⟩, ?_⟩; conv => whnf)
    | (refine ⟨(by intro y hy; obtain ⟨x, _, rfl⟩ := List.mem_map.1 hy; first | rfl | exact ⟨rfl, rfl⟩), ?_⟩; conv => whnf)
    | (refine ⟨cap_ok (by first | omega | (simp only [List.length_map]; omega)) rfl, ?_⟩; conv => whnf)
    | (refine ix_map (by omega) ?_; conv => whnf)
    | (refine ix_str (by omega) ?_; conv => whnf)
    | (refine wrap64 (by omega) ?_; conv => whnf)
    | (refine wrap64 (by omega) ?_; conv => whnf)
    | (refine wrap64 (by have hc := cut1_le (LL := LL) (k := k) (by omega); simp only [List.length_map]; omega) ?_; conv => whnf)
    | (exfalso; have hc := cut1_le (LL := LL) (k := k) (by omega); rw [cO_len] at h; omega)
    | (exfalso; simp only [List.length_map, List.length_cons, List.length_nil, List.length_append] at h; omega)
    | ((with_reducible refine endx_go ?_); first | (rw [cut1_end (by omega), Nat.sub_self, cO_0]; exact endxv (view_map rfl Nat.two_pos) rfl; done))
    | (refine ⟨rfl, ?_⟩; conv => whnf)
    | fail
    )

theorem c74 (LL : List (List Own)) (hL : LL.length < 1000) (hf : LL.flatten.length < 1000) : Fn 74 [.fs (LL.map (fun l => .fs (l.map Own.enc)))] (.fs (LL.flatten.map Own.enc)) := by
  rcases Nat.eq_zero_or_pos LL.flatten.length with h0 | h0
  · exact c74z LL hL hf h0
  · exact c74p LL hL hf h0

end Go.Proofs.Ytolfkcmdfgakkaa

/-! Pf -/
namespace Go.Proofs.Ytolfkcmdfgakkaa
open Go Dw
set_option maxRecDepth 100000
set_option linter.unusedVariables false

def bmap (l : List Int) : List (Int × D) := l.map (fun n => (n, D.bool true))
def bD (n : Int) : D := .agg [i n, .bool true]
def bmO (l : List Int) : AO := ⟨(l.map bD).map .d, 1, 3⟩
def addK (l : List Int) (n : Int) : List Int := if n ∈ l then l else l ++ [n]
theorem bmap_ent (l : List Int) : (bmap l).map (entA .i64) = (l.map bD).map .d := by
  unfold bmap
  rw [List.map_map, List.map_map]; rfl
theorem bmap_scal (l : List Int) : ∀ p ∈ bmap l, scalD p.2 = true := by
  intro p hp
  obtain ⟨q, _, rfl⟩ := List.mem_map.1 hp
  rfl
theorem mput_b (n : Int) : ∀ (l : List Int), mput (bmap l) n (.bool true) = bmap (addK l n)
  | [] => rfl
  | a :: l => by
    have ih := mput_b n l
    show (if n = a then (n, D.bool true) :: bmap l else (a, D.bool true) :: mput (bmap l) n (.bool true)) = bmap (addK (a :: l) n)
    rw [ih]
    unfold addK
    by_cases h : n = a
    · subst h; simp [bmap]
    · by_cases h2 : n ∈ l
      · simp [h, h2, bmap]
      · simp [h, h2, bmap]
theorem ents_gb {l : List AV} {L : List Int} {K : List (Int × D) → Prop} (hl : l = (L.map bD).map .d) (h : K (bmap L)) : entsK .i64 l K := by
  subst hl
  rw [← bmap_ent]
  exact entsK_of (bmap_scal L) h
theorem mput_bd (L : List Int) (n : Int) : (mput (bmap L) n (D.bool true)).map (entA .i64) = ((addK L n).map bD).map .d := by rw [mput_b, bmap_ent]
def allK (l : List Own) : List Int := l.foldl (fun ks o => addK ks o.who) []
theorem allK_snoc (l : List Own) (o : Own) : allK (l ++ [o]) = addK (allK l) o.who := by unfold allK; rw [List.foldl_append]; rfl
theorem allK_take {l : List Own} {k : Nat} (h : k < l.length) : allK (l.take (k + 1)) = addK (allK (l.take k)) l[k].who := by
  rw [List.take_succ_eq_append_getElem h, allK_snoc]
theorem addK_nodup {l : List Int} {n : Int} (h : l.Nodup) : (addK l n).Nodup := by
  unfold addK; split
  · exact h
  · rename_i hn
    refine List.nodup_append.2 ⟨h, by simp, fun a ha b hb e => ?_⟩
    simp only [List.mem_singleton] at hb
    subst hb; subst e; exact hn ha
theorem addK_mem {l : List Int} {n m : Int} : m ∈ addK l n ↔ m ∈ l ∨ m = n := by
  unfold addK; split
  · rename_i h; exact ⟨.inl, fun h2 => h2.elim id (fun e => e ▸ h)⟩
  · simp
theorem addK_len (l : List Int) (n : Int) : (addK l n).length ≤ l.length + 1 := by unfold addK; split <;> simp
theorem fold_nodup : ∀ (l : List Own) (ks : List Int), ks.Nodup → (l.foldl (fun ks o => addK ks o.who) ks).Nodup
  | [], _, h => h
  | o :: l, ks, h => fold_nodup l _ (addK_nodup h)
theorem fold_mem : ∀ (l : List Own) (ks : List Int) (n : Int), n ∈ l.foldl (fun ks o => addK ks o.who) ks ↔ n ∈ ks ∨ ∃ o ∈ l, o.who = n
  | [], _, _ => by simp
  | o :: l, ks, n => by
    rw [List.foldl_cons, fold_mem l, addK_mem]
    constructor
    · rintro ((h | h) | ⟨p, hp, e⟩)
      · exact .inl h
      · exact .inr ⟨o, by simp, h.symm⟩
      · exact .inr ⟨p, by simp [hp], e⟩
    · rintro (h | ⟨p, hp, e⟩)
      · exact .inl (.inl h)
      · rcases List.mem_cons.1 hp with rfl | hp
        · exact .inl (.inr e.symm)
        · exact .inr ⟨p, hp, e⟩
theorem fold_len : ∀ (l : List Own) (ks : List Int), (l.foldl (fun ks o => addK ks o.who) ks).length ≤ ks.length + l.length
  | [], _ => Nat.le_refl _
  | o :: l, ks => by
    have h1 := fold_len l (addK ks o.who)
    have h2 := addK_len ks o.who
    rw [List.foldl_cons, List.length_cons]; omega
theorem allK_nodup (l : List Own) : (allK l).Nodup := fold_nodup l [] List.nodup_nil
theorem allK_mem (l : List Own) (n : Int) : n ∈ allK l ↔ ∃ o ∈ l, o.who = n := by unfold allK; rw [fold_mem]; simp
theorem allK_len (l : List Own) : (allK l).length ≤ l.length := by have := fold_len l []; simpa [allK] using this
theorem bmap_keys (L : List Int) : (bmap L).map (·.1) = L := by
  unfold bmap
  rw [List.map_map]; exact List.map_id' L
def difU (a b : Quo) (w : Int) : Bool := !decide ((ownR a.os w).used = (ownR b.os w).used)
def mkG (a b : Quo) (w : Int) : Gap := ⟨w, (ownR a.os w).used, (ownR b.os w).used⟩
def gaps (a b : Quo) (ks : List Int) : List Gap := (ks.filter (difU a b)).map (mkG a b)
theorem gaps_t {a b : Quo} {ks : List Int} {k : Nat} (h : k < ks.length) (hu : ¬ (ownR a.os ks[k]).used = (ownR b.os ks[k]).used) : gaps a b (ks.take (k + 1)) = gaps a b (ks.take k) ++ [mkG a b ks[k]] := by
  unfold gaps; rw [List.take_succ_eq_append_getElem h, List.filter_append, List.map_append]; simp [difU, hu]
theorem gaps_f {a b : Quo} {ks : List Int} {k : Nat} (h : k < ks.length) (hu : (ownR a.os ks[k]).used = (ownR b.os ks[k]).used) : gaps a b (ks.take (k + 1)) = gaps a b (ks.take k) := by
  unfold gaps; rw [List.take_succ_eq_append_getElem h, List.filter_append, List.map_append]; simp [difU, hu]
theorem gaps_le (a b : Quo) (ks : List Int) : (gaps a b ks).length ≤ ks.length := by unfold gaps; rw [List.length_map]; exact List.length_filter_le _ _
def kys (a b : Quo) : List Int := srt (allK (a.os ++ b.os))
theorem kys_len (a b : Quo) : (kys a b).length = (allK (a.os ++ b.os)).length := srt_length _
def diffQ (a b : Quo) : List Gap × Int := if firstE [(checkQ a).2, (checkQ b).2] = 0 then (gaps a b (kys a b), 0) else ([], firstE [(checkQ a).2, (checkQ b).2])
theorem c72_96 {a b : Quo} (ha : VQ a) (hb : VQ b) :
    Run Try.prog 72 [.fn 96 [] [.ptr 0 0 0]] [bO 1, bmO (allK (a.os ++ b.os))] (.sl 2 0 (allK (a.os ++ b.os)).length 1 none) [bO 1, bmO (allK (a.os ++ b.os)), ⟨((kys a b).map i).map .d, 1, 0⟩] := by
  have hl := allK_len (a.os ++ b.os)
  rw [List.length_append] at hl
  have h1 := ha.len
  have h2 := hb.len
  have hr := run_keys96 (bmap (allK (a.os ++ b.os))) (bmap_scal _) (by rw [bmap_keys]; exact allK_nodup _) (fun p hp => by
    have hk : p.1 ∈ allK (a.os ++ b.os) := by rw [← bmap_keys (allK (a.os ++ b.os))]; exact List.mem_map.2 ⟨p, hp, rfl⟩
    obtain ⟨o, ho, e⟩ := (allK_mem _ _).1 hk
    have hw : whoE o.who = 0 := by
      rcases List.mem_append.1 ho with ho | ho
      · exact (ha.own o ho).who
      · exact (hb.own o ho).who
    have := whoE_0 hw
    rw [e] at this
    simp only [Lit.wf]
    simp [IntKind.min, IntKind.max, IntKind.bits, IntKind.signed]
    omega) (by unfold bmap; rw [List.length_map]; omega)
  rw [bmap_ent, bmap_keys] at hr
  unfold bmap at hr
  rw [List.length_map] at hr
  unfold bmO bO kys
  have e : ((srt (allK (a.os ++ b.os))).map i).map AV.d = (srt (allK (a.os ++ b.os))).map (fun n => .d (i n)) := by rw [List.map_map]; rfl
  rw [e]
  exact hr
theorem flat_bmO (L : List Int) : AV.flats (bmO L).elems = true ∧ (bmO L).st ≠ 1 := ⟨flats_map _ (fun x hx => by obtain ⟨p, _, rfl⟩ := List.mem_map.1 hx; rfl), by show (3 : Nat) ≠ 1; omega⟩
theorem ren_bmO (τ : Nat → Nat) (L : List Int) : renO τ (bmO L) = bmO L := by show AO.mk _ _ _ = _; rw [show rens τ (bmO L).elems = (bmO L).elems from rens_D _ _]
theorem c72bt {g n : Nat} {L : List Int} {ks : List Int} (hf : Run Try.prog 72 [.fn g [] [.ptr 0 0 0]] [bO 1, bmO L] (.sl 2 0 n 1 none) [bO 1, bmO L, ⟨(ks.map i).map .d, 1, 0⟩]) {H : Heap} {a b : Nat} (h1 : H[a]? = some (bO b)) (h2 : H[b]? = some (bmO L)) (hab : a ≠ b) :
    Run Try.prog 72 [.fn g [] [.ptr a 0 0]] H (.sl H.length 0 n 1 none) (H ++ [⟨(ks.map i).map .d, 1, 0⟩]) := by
  refine run_at (σ := [a, b]) (F := []) (fl := true) hf ?_ (fun _ h => by cases h) ⟨⟨rfl, trivial, ⟨⟨rfl, rfl, rfl⟩, trivial⟩⟩, trivial⟩ ?_ (fun _ => ⟨rfl, fun o ho => ?_⟩) ?_ ?_
  · simp [hab]
  · refine ⟨(nthK_iff _ _).2 ⟨_, h1, rfl, rfl, .inr ⟨rfl, trivial⟩⟩, (nthK_iff _ _).2 ⟨_, h2, rfl, rfl, .inl ⟨_, rfl, rfl⟩⟩, trivial⟩
  · simp only [List.mem_cons, List.not_mem_nil, or_false] at ho
    rcases ho with rfl | rfl | rfl
    · exact ⟨rfl, Nat.zero_ne_one⟩
    · exact flat_bmO _
    · exact ⟨flats_map _ (fun x hx => by obtain ⟨p, _, rfl⟩ := List.mem_map.1 hx; rfl), Nat.zero_ne_one⟩
  · simp [ren, tau]
  · have e1 : renO (tau [a, b] H.length) (bO 1) = bO b := rfl
    have e3 : renO (tau [a, b] H.length) (⟨(ks.map i).map .d, 1, 0⟩ : AO) = ⟨(ks.map i).map .d, 1, 0⟩ := by show AO.mk _ _ _ = _; rw [rens_D]
    simp only [outH, List.map_cons, List.map_nil, e1, e3, ren_bmO, setAll, List.length_cons, List.length_nil, List.drop_succ_cons, List.drop_zero, if_true]
    rw [set_same h1, set_same h2]
end Go.Proofs.Ytolfkcmdfgakkaa

/-! Wp -/
namespace Go.Proofs.Ytolfkcmdfgakkaa
open Go Dw
set_option maxRecDepth 10000
set_option linter.unusedVariables false
set_option linter.unusedSimpArgs false
attribute [local irreducible] Run
set_option maxHeartbeats 4000000

attribute [local irreducible] oE checkQ cnt isR ownR withR bsR fullQ put1 chg rls mov limErr limF actE doA resQ aftQ whoE limE numE goMin goMax actErr movErr filE iget iput upto eF srt isQ roomQ warned mget mput addK allK kys

theorem c75 (L : List Int) : Run Try.prog 75 [.mp 0] [bmO L] (.fn 96 [] [.ptr 1 0 0]) [bmO L, bO 0] := by
  refine run_walkV eok Try.func75 rfl (by kernel_rfl) [0] (by rfl) [] ?_
  conv => whnf
  repeat' (first
    | ((with_reducible refine on_dec_t (by assumption) ?_); conv => whnf)
    | ((with_reducible refine on_dec_f (by assumption) ?_); conv => whnf)
    | ((with_reducible refine onBool_t (by assumption) ?_); conv => whnf)
    | ((with_reducible refine onBool_f (by assumption) ?_); conv => whnf)
    | ((with_reducible refine on_nt (by assumption) ?_); conv => whnf)
    | ((with_reducible refine on_nf (by assumption) ?_); conv => whnf)
    | ((with_reducible refine on_ndec_t (by first | assumption | rfl) ?_); conv => whnf)
    | ((with_reducible refine on_ndec_f (by assumption) ?_); conv => whnf)
    | ((with_reducible refine on_dec_t rfl ?_); conv => whnf)
    | ((with_reducible refine on_dec_f ?_ ?_); (focus ((try simp only [List.length_map, List.length_cons, List.length_nil, List.length_append]); omega)); conv => whnf)
    | ((with_reducible refine on_dec_t ?_ ?_); (focus ((try simp only [List.length_map, List.length_cons, List.length_nil, List.length_append]); omega)); conv => whnf)
    | ((with_reducible refine on_dec (fun h => ?_) (fun h => ?_)) <;> (try simp only [List.length_map] at h) <;> conv => whnf)
    | ((with_reducible refine on_ndec (fun h => ?_) (fun h => ?_)) <;> (try simp only [List.length_map] at h) <;> conv => whnf)
    | ((with_reducible refine on_not (fun h => ?_) (fun h => ?_)) <;> conv => whnf)
    | ((with_reducible refine onBool_split (fun h => ?_) (fun h => ?_)) <;> conv => whnf)
    | (refine ⟨⟨(by first | rfl | (simp; done)), cap_ok (by simp only [List.length_map, List.length_cons, List.length_nil, List.length_append]; omega) rfl⟩, ?_⟩; conv => whnf)
    | (refine ⟨mem_one ⟨rfl, rfl⟩, ?_⟩; conv => whnf)
    | (refine ⟨(by intro y hy; obtain ⟨x, _, rfl⟩ := List.mem_map.1 hy; first | rfl | exact ⟨rfl, rfl⟩), ?_⟩; conv => whnf)
    | (refine ⟨cap_ok (by first | omega | (simp only [List.length_map]; omega)) rfl, ?_⟩; conv => whnf)
    | (refine ix_map (by omega) ?_; conv => whnf)
    | (refine ix_str (by omega) ?_; conv => whnf)
    | (refine wrap64 (by omega) ?_; conv => whnf)
    | (exfalso; simp only [List.length_map, List.length_cons, List.length_nil, List.length_append] at h; omega)
    | ((with_reducible refine endx_go ?_); first | (refine endX_of (.inl ⟨[.old 0, .old 1], rfl, rfl, ⟨⟨rfl, trivial, ⟨⟨rfl, rfl, rfl⟩, trivial⟩⟩, trivial⟩, ⟨⟨rfl, rfl, .inl ⟨_, rfl, rfl⟩⟩, ⟨rfl, rfl, .inr ⟨rfl, trivial⟩⟩, trivial⟩⟩); done))
    | (refine ⟨rfl, ?_⟩; conv => whnf)
    | fail
    )

theorem c75at (L : List Int) {H : Heap} {b : Nat} (h2 : H[b]? = some (bmO L)) : Run Try.prog 75 [.mp b] H (.fn 96 [] [.ptr H.length 0 0]) (H ++ [bO b]) := by
  refine run_at (σ := [b]) (F := []) (fl := true) (c75 L) (by simp) (fun _ h => by cases h) ⟨rfl, trivial⟩ ?_ (fun _ => ⟨rfl, fun o ho => ?_⟩) ?_ ?_
  · refine ⟨(nthK_iff _ _).2 ⟨_, h2, rfl, rfl, .inl ⟨_, rfl, rfl⟩⟩, trivial⟩
  · simp only [List.mem_cons, List.not_mem_nil, or_false] at ho
    rcases ho with rfl | rfl
    · exact flat_bmO _
    · exact ⟨rfl, Nat.zero_ne_one⟩
  · simp [ren, rens, tau]
  · have e1 : renO (tau [b] H.length) (bO 0) = bO b := rfl
    simp only [outH, List.map_cons, List.map_nil, e1, ren_bmO, setAll, List.length_cons, List.length_nil, List.drop_succ_cons, List.drop_zero, if_true]
    rw [set_same h2]
theorem c74ab (a b : List Own) (h : a.length + b.length < 1000) : Fn 74 [.fs [.fs (a.map Own.enc), .fs (b.map Own.enc)]] (.fs ((a ++ b).map Own.enc)) := by
  have := c74 [a, b] (by simp) (by simp; omega)
  rw [show [a, b].flatten = a ++ b by simp] at this
  exact this
theorem c72k {a b : Quo} (ha : VQ a) (hb : VQ b) {k : Nat} {ks : List Int} (hk : ks = allK ((a.os ++ b.os).take k)) (h : ¬ (k : Int) < (a.os ++ b.os).length) :
    Run Try.prog 72 [.fn 96 [] [.ptr 0 0 0]] [bO 1, bmO ks] (.sl 2 0 (allK (a.os ++ b.os)).length 1 none) [bO 1, bmO ks, ⟨((kys a b).map i).map .d, 1, 0⟩] := by
  rw [List.take_of_length_le (by omega)] at hk
  subst hk
  exact c72_96 ha hb
theorem nth_k {ks : List Int} {k j : Nat} {K : AV → Prop} (hj : j = k) (h : k < ks.length) (hk : K (.d (i ks[k]))) : nthK ((ks.map i).map .d) j K := nth_i hj h hk
theorem gap_of {a b : Quo} {ks : List Int} {k : Nat} {out : List Gap} (ho : out = gaps a b (ks.take k)) (h : k < ks.length) (hu : ¬ (ownR a.os ks[k]).used = (ownR b.os ks[k]).used) : out ++ [mkG a b ks[k]] = gaps a b (ks.take (k + 1)) := by rw [gaps_t h hu, ho]
theorem gap_no {a b : Quo} {ks : List Int} {k : Nat} {out : List Gap} (ho : out = gaps a b (ks.take k)) (h : k < ks.length) (hu : (ownR a.os ks[k]).used = (ownR b.os ks[k]).used) : out = gaps a b (ks.take (k + 1)) := by rw [gaps_f h hu, ho]

theorem c41x (a b : Quo) (ha : a.os.length < 1000) (hb : b.os.length < 1000) (hqa : ¬ (checkQ a).2 = 0) (hqb : (checkQ b).2 = 0) : Fn 41 [a.enc, b.enc] (.tup [.fs ((diffQ a b).1.map Gap.enc), i (diffQ a b).2]) := by
  have hv : firstE [(checkQ a).2, 0] = (checkQ a).2 := (by rw [firstE_cons, if_neg hqa]); have hn : ¬ firstE [(checkQ a).2, 0] = 0 := (by rw [hv]; assumption); have hv2 : firstE [(checkQ a).2, (checkQ b).2] = (checkQ a).2 := (by rw [firstE_cons, if_neg hqa]); have hd : diffQ a b = ([], (checkQ a).2) := (by unfold diffQ; rw [hv2, if_neg (by assumption)])
  refine run_walkF eok Try.func41 rfl (by kernel_rfl) ?_
  conv => whnf
  repeat' (first
    | ((with_reducible refine on_dec_t (by assumption) ?_); conv => whnf)
    | ((with_reducible refine on_dec_f (by assumption) ?_); conv => whnf)
    | ((with_reducible refine onBool_t (by assumption) ?_); conv => whnf)
    | ((with_reducible refine onBool_f (by assumption) ?_); conv => whnf)
    | ((with_reducible refine on_nt (by assumption) ?_); conv => whnf)
    | ((with_reducible refine on_nf (by assumption) ?_); conv => whnf)
    | ((with_reducible refine on_ndec_t (by first | assumption | rfl) ?_); conv => whnf)
    | ((with_reducible refine on_ndec_f (by assumption) ?_); conv => whnf)
    | ((with_reducible refine on_dec_t rfl ?_); conv => whnf)
    | ((with_reducible refine on_dec_f ?_ ?_); (focus ((try simp only [List.length_map, List.length_cons, List.length_nil, List.length_append]); omega)); conv => whnf)
    | ((with_reducible refine on_dec_t ?_ ?_); (focus ((try simp only [List.length_map, List.length_cons, List.length_nil, List.length_append]); omega)); conv => whnf)
    | ((with_reducible refine on_dec (fun h => ?_) (fun h => ?_)) <;> (try simp only [List.length_map] at h) <;> conv => whnf)
    | ((with_reducible refine on_ndec (fun h => ?_) (fun h => ?_)) <;> (try simp only [List.length_map] at h) <;> conv => whnf)
    | ((with_reducible refine on_not (fun h => ?_) (fun h => ?_)) <;> conv => whnf)
    | ((with_reducible refine onBool_split (fun h => ?_) (fun h => ?_)) <;> conv => whnf)
    | ((with_reducible refine call_go ?_); (first | refine call_step (c64r a ha hqa _) ?_ | refine call_step (c64n a ha hqa _) ?_ | refine call_step (c64r b hb hqb _) ?_ | refine call_step (c64n b hb hqb _) ?_ | refine call_step (run_view (c50 [_, _] (by simp)) rfl rfl) ?_); conv => whnf)
    | (refine ⟨⟨(by first | rfl | (simp; done)), cap_ok (by simp only [List.length_map, List.length_cons, List.length_nil, List.length_append]; omega) rfl⟩, ?_⟩; conv => whnf)
    | (refine ⟨mem_one ⟨rfl, rfl⟩, ?_⟩; conv => whnf)
    | (refine ⟨(by intro y hy; obtain ⟨x, _, rfl⟩ := List.mem_map.1 hy; first | rfl | exact ⟨rfl, rfl⟩), ?_⟩; conv => whnf)
    | (refine ⟨cap_ok (by first | omega | (simp only [List.length_map]; omega)) rfl, ?_⟩; conv => whnf)
    | (refine ix_map (by omega) ?_; conv => whnf)
    | (refine ix_str (by omega) ?_; conv => whnf)
    | (refine wrap64 (by omega) ?_; conv => whnf)
    | (refine wrap64 (by omega) ?_; conv => whnf)
    | (exfalso; simp only [List.length_map, List.length_cons, List.length_nil, List.length_append] at h; omega)
    | ((with_reducible refine endx_go ?_); first | (refine endxv (view_tup (vlc rfl (vlc rfl vln))) ?_; (rw [hd, hv]) <;> rfl; done))
    | (refine ⟨rfl, ?_⟩; conv => whnf)
    | fail
    )

theorem c41y (a b : Quo) (ha : a.os.length < 1000) (hb : b.os.length < 1000) (hqa : ¬ (checkQ a).2 = 0) (hqb : ¬ (checkQ b).2 = 0) : Fn 41 [a.enc, b.enc] (.tup [.fs ((diffQ a b).1.map Gap.enc), i (diffQ a b).2]) := by
  have hv : firstE [(checkQ a).2, (checkQ b).2] = (checkQ a).2 := (by rw [firstE_cons, if_neg hqa]); have hn : ¬ firstE [(checkQ a).2, (checkQ b).2] = 0 := (by rw [hv]; assumption); have hv2 : firstE [(checkQ a).2, (checkQ b).2] = (checkQ a).2 := (by rw [firstE_cons, if_neg hqa]); have hd : diffQ a b = ([], (checkQ a).2) := (by unfold diffQ; rw [hv2, if_neg (by assumption)])
  refine run_walkF eok Try.func41 rfl (by kernel_rfl) ?_
  conv => whnf
  repeat' (first
    | ((with_reducible refine on_dec_t (by assumption) ?_); conv => whnf)
    | ((with_reducible refine on_dec_f (by assumption) ?_); conv => whnf)
    | ((with_reducible refine onBool_t (by assumption) ?_); conv => whnf)
    | ((with_reducible refine onBool_f (by assumption) ?_); conv => whnf)
    | ((with_reducible refine on_nt (by assumption) ?_); conv => whnf)
    | ((with_reducible refine on_nf (by assumption) ?_); conv => whnf)
    | ((with_reducible refine on_ndec_t (by first | assumption | rfl) ?_); conv => whnf)
    | ((with_reducible refine on_ndec_f (by assumption) ?_); conv => whnf)
    | ((with_reducible refine on_dec_t rfl ?_); conv => whnf)
    | ((with_reducible refine on_dec_f ?_ ?_); (focus ((try simp only [List.length_map, List.length_cons, List.length_nil, List.length_append]); omega)); conv => whnf)
    | ((with_reducible refine on_dec_t ?_ ?_); (focus ((try simp only [List.length_map, List.length_cons, List.length_nil, List.length_append]); omega)); conv => whnf)
    | ((with_reducible refine on_dec (fun h => ?_) (fun h => ?_)) <;> (try simp only [List.length_map] at h) <;> conv => whnf)
    | ((with_reducible refine on_ndec (fun h => ?_) (fun h => ?_)) <;> (try simp only [List.length_map] at h) <;> conv => whnf)
    | ((with_reducible refine on_not (fun h => ?_) (fun h => ?_)) <;> conv => whnf)
    | ((with_reducible refine onBool_split (fun h => ?_) (fun h => ?_)) <;> conv => whnf)
    | ((with_reducible refine call_go ?_); (first | refine call_step (c64r a ha hqa _) ?_ | refine call_step (c64n a ha hqa _) ?_ | refine call_step (c64r b hb hqb _) ?_ | refine call_step (c64n b hb hqb _) ?_ | refine call_step (run_view (c50 [_, _] (by simp)) rfl rfl) ?_); conv => whnf)
    | (refine ⟨⟨(by first | rfl | (simp; done)), cap_ok (by simp only [List.length_map, List.length_cons, List.length_nil, List.length_append]; omega) rfl⟩, ?_⟩; conv => whnf)
    | (refine ⟨mem_one ⟨rfl, rfl⟩, ?_⟩; conv => whnf)
    | (refine ⟨(by intro y hy; obtain ⟨x, _, rfl⟩ := List.mem_map.1 hy; first | rfl | exact ⟨rfl, rfl⟩), ?_⟩; conv => whnf)
    | (refine ⟨cap_ok (by first | omega | (simp only [List.length_map]; omega)) rfl, ?_⟩; conv => whnf)
    | (refine ix_map (by omega) ?_; conv => whnf)
    | (refine ix_str (by omega) ?_; conv => whnf)
    | (refine wrap64 (by omega) ?_; conv => whnf)
    | (refine wrap64 (by omega) ?_; conv => whnf)
    | (exfalso; simp only [List.length_map, List.length_cons, List.length_nil, List.length_append] at h; omega)
    | ((with_reducible refine endx_go ?_); first | (refine endxv (view_tup (vlc rfl (vlc rfl vln))) ?_; (rw [hd, hv]) <;> rfl; done))
    | (refine ⟨rfl, ?_⟩; conv => whnf)
    | fail
    )

theorem c41z (a b : Quo) (ha : a.os.length < 1000) (hb : b.os.length < 1000) (hqa : (checkQ a).2 = 0) (hqb : ¬ (checkQ b).2 = 0) : Fn 41 [a.enc, b.enc] (.tup [.fs ((diffQ a b).1.map Gap.enc), i (diffQ a b).2]) := by
  have hv : firstE [0, (checkQ b).2] = (checkQ b).2 := (by rw [firstE_cons, if_pos rfl, firstE_cons, if_neg hqb]); have hn : ¬ firstE [0, (checkQ b).2] = 0 := (by rw [hv]; assumption); have hv2 : firstE [(checkQ a).2, (checkQ b).2] = (checkQ b).2 := (by rw [firstE_cons, if_pos hqa, firstE_cons, if_neg hqb]); have hd : diffQ a b = ([], (checkQ b).2) := (by unfold diffQ; rw [hv2, if_neg (by assumption)])
  refine run_walkF eok Try.func41 rfl (by kernel_rfl) ?_
  conv => whnf
  repeat' (first
    | ((with_reducible refine on_dec_t (by assumption) ?_); conv => whnf)
    | ((with_reducible refine on_dec_f (by assumption) ?_); conv => whnf)
    | ((with_reducible refine onBool_t (by assumption) ?_); conv => whnf)
    | ((with_reducible refine onBool_f (by assumption) ?_); conv => whnf)
    | ((with_reducible refine on_nt (by assumption) ?_); conv => whnf)
    | ((with_reducible refine on_nf (by assumption) ?_); conv => whnf)
    | ((with_reducible refine on_ndec_t (by first | assumption | rfl) ?_); conv => whnf)
    | ((with_reducible refine on_ndec_f (by assumption) ?_); conv => whnf)
    | ((with_reducible refine on_dec_t rfl ?_); conv => whnf)
    | ((with_reducible refine on_dec_f ?_ ?_); (focus ((try simp only [List.length_map, List.length_cons, List.length_nil, List.length_append]); omega)); conv => whnf)
    | ((with_reducible refine on_dec_t ?_ ?_); (focus ((try simp only [List.length_map, List.length_cons, List.length_nil, List.length_append]); omega)); conv => whnf)
    | ((with_reducible refine on_dec (fun h => ?_) (fun h => ?_)) <;> (try simp only [List.length_map] at h) <;> conv => whnf)
    | ((with_reducible refine on_ndec (fun h => ?_) (fun h => ?_)) <;> (try simp only [List.length_map] at h) <;> conv => whnf)
    | ((with_reducible refine on_not (fun h => ?_) (fun h => ?_)) <;> conv => whnf)
    | ((with_reducible refine onBool_split (fun h => ?_) (fun h => ?_)) <;> conv => whnf)
    | ((with_reducible refine call_go ?_); (first | refine call_step (c64r a ha hqa _) ?_ | refine call_step (c64n a ha hqa _) ?_ | refine call_step (c64r b hb hqb _) ?_ | refine call_step (c64n b hb hqb _) ?_ | refine call_step (run_view (c50 [_, _] (by simp)) rfl rfl) ?_); conv => whnf)
    | (refine ⟨⟨(by first | rfl | (simp; done)), cap_ok (by simp only [List.length_map, List.length_cons, List.length_nil, List.length_append]; omega) rfl⟩, ?_⟩; conv => whnf)
    | (refine ⟨mem_one ⟨rfl, rfl⟩, ?_⟩; conv => whnf)
    | (refine ⟨(by intro y hy; obtain ⟨x, _, rfl⟩ := List.mem_map.1 hy; first | rfl | exact ⟨rfl, rfl⟩), ?_⟩; conv => whnf)
    | (refine ⟨cap_ok (by first | omega | (simp only [List.length_map]; omega)) rfl, ?_⟩; conv => whnf)
    | (refine ix_map (by omega) ?_; conv => whnf)
    | (refine ix_str (by omega) ?_; conv => whnf)
    | (refine wrap64 (by omega) ?_; conv => whnf)
    | (refine wrap64 (by omega) ?_; conv => whnf)
    | (exfalso; simp only [List.length_map, List.length_cons, List.length_nil, List.length_append] at h; omega)
    | ((with_reducible refine endx_go ?_); first | (refine endxv (view_tup (vlc rfl (vlc rfl vln))) ?_; (rw [hd, hv]) <;> rfl; done))
    | (refine ⟨rfl, ?_⟩; conv => whnf)
    | fail
    )

theorem c41o (a b : Quo) (ha : a.os.length < 1000) (hb : b.os.length < 1000) (hqa : (checkQ a).2 = 0) (hqb : (checkQ b).2 = 0) : Fn 41 [a.enc, b.enc] (.tup [.fs ((diffQ a b).1.map Gap.enc), i (diffQ a b).2]) := by
  have hva := (checkQ_iff a).1 hqa; have hvb := (checkQ_iff b).1 hqb; have hla := hva.len; have hlb := hvb.len; have hfl : a.os.length + b.os.length < 1000 := (by omega); have hn : firstE [0, 0] = 0 := rfl; have hal := allK_len (a.os ++ b.os); rw [List.length_append] at hal; have hkl := kys_len a b
  refine run_walkF eok Try.func41 rfl (by kernel_rfl) ?_
  conv => whnf
  repeat' (first
    | ((with_reducible refine on_dec_t (by assumption) ?_); conv => whnf)
    | ((with_reducible refine on_dec_f (by assumption) ?_); conv => whnf)
    | ((with_reducible refine onBool_t (by assumption) ?_); conv => whnf)
    | ((with_reducible refine onBool_f (by assumption) ?_); conv => whnf)
    | ((with_reducible refine on_nt (by assumption) ?_); conv => whnf)
    | ((with_reducible refine on_nf (by assumption) ?_); conv => whnf)
    | ((with_reducible refine on_ndec_t (by first | assumption | rfl) ?_); conv => whnf)
    | ((with_reducible refine on_ndec_f (by assumption) ?_); conv => whnf)
    | ((with_reducible refine on_dec_t rfl ?_); conv => whnf)
    | ((refine ents_gb (by first | rfl | exact mput_bd _ _) ?_); conv => whnf)
    | ((with_reducible refine on_dec_f ?_ ?_); (focus ((try simp only [List.length_map, List.length_cons, List.length_nil, List.length_append]); omega)); conv => whnf)
    | ((with_reducible refine on_dec_t ?_ ?_); (focus ((try simp only [List.length_map, List.length_cons, List.length_nil, List.length_append]); omega)); conv => whnf)
    | ((with_reducible refine on_dec (fun h => ?_) (fun h => ?_)) <;> (try simp only [List.length_map] at h) <;> conv => whnf)
    | ((with_reducible refine on_ndec (fun h => ?_) (fun h => ?_)) <;> (try simp only [List.length_map] at h) <;> conv => whnf)
    | ((with_reducible refine on_not (fun h => ?_) (fun h => ?_)) <;> conv => whnf)
    | ((with_reducible refine onBool_split (fun h => ?_) (fun h => ?_)) <;> conv => whnf)
    | ((with_reducible refine call_go ?_); (first | refine call_step (c64r a ha hqa _) ?_ | refine call_step (c64n a ha hqa _) ?_ | refine call_step (c64r b hb hqb _) ?_ | refine call_step (c64n b hb hqb _) ?_ | refine call_step (run_view (c50 [_, _] (by simp)) rfl rfl) ?_ | refine call_step (run_viewF (c74ab a.os b.os hfl) rfl) ?_ | refine call_step (c75at _ rfl) ?_ | refine call_step (c72bt (c72k hva hvb hI.2 (by assumption)) rfl rfl (Nat.ne_of_beq_eq_false rfl)) ?_ | refine call_step (run_view (c65 a (by omega) hva.srt _) rfl (qview rfl rfl rfl (vlc rfl vln))) ?_ | refine call_step (run_view (c65 b (by omega) hvb.srt _) rfl (qview rfl rfl rfl (vlc rfl vln))) ?_); conv => whnf)
    | ((with_reducible refine loop_go ?_); first | (refine loop2 (fun (k : Nat) (out : List Gap) => (kys a b).length - k) (fun (k : Nat) (out : List Gap) => k ≤ (kys a b).length ∧ out.length ≤ k ∧ out = gaps a b ((kys a b).take k)) (fun (k : Nat) (out : List Gap) => [(6, .ptr 0 0 0), (8, .ptr 2 0 0), (13, .sl 5 0 out.length 3 none), (53, .sl 4 0 (allK (a.os ++ b.os)).length 1 none), (54, .d (i (allK (a.os ++ b.os)).length)), (55, .d (i k))]) (fun (k : Nat) (out : List Gap) => [qO a.enf a.os.length 1, rO a.os, qO b.enf b.os.length 3, rO b.os, ⟨((kys a b).map i).map .d, 1, 0⟩, ⟨(out.map Gap.enc).map .d, 3, 0⟩]) (0) ([]) (by exact ⟨Nat.zero_le _, Nat.le_refl _, rfl⟩) ?_ (fun k out Cb hIb hCb => ?_); (exact ⟨[.old 0, .old 1, .old 2, .old 3, .old 6, .void 3], rfl, rfl, ⟨⟨rfl, rfl, rfl⟩, ⟨rfl, rfl, rfl⟩, ⟨rfl, rfl, rfl, rfl⟩, (by first | exact congrArg (D.int .i64) (by omega) | exact ⟨rfl, rfl, rfl⟩ | exact ⟨rfl, rfl, rfl, rfl, rfl⟩ | (show (_ : D) = _; with_reducible rfl)), (by first | (show (_ : D) = _; with_reducible rfl) | exact congrArg (D.int .i64) (by omega) | exact congrArg (D.int .i64) (by simp only [List.length_map]) | exact rfl), (by first | (show (_ : D) = _; with_reducible rfl) | exact congrArg (D.int .i64) (by omega) | exact congrArg (D.int .i64) (by simp only [List.length_map]) | exact rfl), trivial⟩, ⟨⟨rfl, rfl, .inr ⟨⟨⟨rfl, rfl, rfl, rfl, rfl⟩, rfl, trivial⟩, trivial⟩⟩, ⟨rfl, rfl, .inl ⟨_, rfl, rfl⟩⟩, ⟨rfl, rfl, .inr ⟨⟨⟨rfl, rfl, rfl, rfl, rfl⟩, rfl, trivial⟩, trivial⟩⟩, ⟨rfl, rfl, .inl ⟨_, rfl, rfl⟩⟩, ⟨rfl, rfl, .inl ⟨_, rfl, rfl⟩⟩, ⟨rfl, rfl, Nat.zero_lt_succ _, rfl⟩, trivial⟩⟩); all_goals (conv => whnf)) | (refine loop2 (fun (k : Nat) (ks : List Int) => (a.os ++ b.os).length - k) (fun (k : Nat) (ks : List Int) => k ≤ (a.os ++ b.os).length ∧ ks = allK ((a.os ++ b.os).take k)) (fun (k : Nat) (ks : List Int) => [(6, .ptr 0 0 0), (8, .ptr 2 0 0), (10, .mp 4), (41, .d (.fs ((a.os ++ b.os).map Own.enc))), (42, .d (i (a.os ++ b.os).length)), (43, .d (i k))]) (fun (k : Nat) (ks : List Int) => [qO a.enf a.os.length 1, rO a.os, qO b.enf b.os.length 3, rO b.os, bmO ks]) (0) ([]) (by exact ⟨Nat.zero_le _, by unfold allK; rfl⟩) ?_ (fun k ks C hI hC => ?_); (exact ⟨[.old 2, .old 3, .old 4, .old 5, .old 7], rfl, rfl, ⟨⟨rfl, rfl, rfl⟩, ⟨rfl, rfl, rfl⟩, (by exact rfl), (by first | (show (_ : D) = _; with_reducible rfl) | exact rfl), (by first | (show (_ : D) = _; with_reducible rfl) | exact congrArg (D.int .i64) (by omega) | exact congrArg (D.int .i64) (by simp only [List.length_map]) | exact rfl), (by first | (show (_ : D) = _; with_reducible rfl) | exact congrArg (D.int .i64) (by omega) | exact congrArg (D.int .i64) (by simp only [List.length_map]) | exact rfl), trivial⟩, ⟨⟨rfl, rfl, .inr ⟨⟨⟨rfl, rfl, rfl, rfl, rfl⟩, rfl, trivial⟩, trivial⟩⟩, ⟨rfl, rfl, .inl ⟨_, rfl, rfl⟩⟩, ⟨rfl, rfl, .inr ⟨⟨⟨rfl, rfl, rfl, rfl, rfl⟩, rfl, trivial⟩, trivial⟩⟩, ⟨rfl, rfl, .inl ⟨_, rfl, rfl⟩⟩, ⟨rfl, rfl, .inl ⟨_, rfl, rfl⟩⟩, trivial⟩⟩); all_goals (conv => whnf)))
    | ((with_reducible show C _ _); first | (refine hC (k + 1) (addK ks (a.os ++ b.os)[k].who) _ _ ?_ (by omega) ?_; clear hC; rotate_left; (exact ⟨[.old 0, .old 1, .old 2, .old 3, .old 4], rfl, rfl, ⟨⟨rfl, rfl, rfl⟩, ⟨rfl, rfl, rfl⟩, (by exact rfl), (by first | (show (_ : D) = _; with_reducible rfl) | exact rfl), (by first | (show (_ : D) = _; with_reducible rfl) | exact congrArg (D.int .i64) (by omega) | exact congrArg (D.int .i64) (by simp only [List.length_map]) | exact rfl), (by first | (show (_ : D) = _; with_reducible rfl) | exact congrArg (D.int .i64) (by omega) | exact congrArg (D.int .i64) (by simp only [List.length_map]) | exact rfl), trivial⟩, ⟨⟨rfl, rfl, .inr ⟨⟨⟨rfl, rfl, rfl, rfl, rfl⟩, rfl, trivial⟩, trivial⟩⟩, ⟨rfl, rfl, .inl ⟨_, rfl, rfl⟩⟩, ⟨rfl, rfl, .inr ⟨⟨⟨rfl, rfl, rfl, rfl, rfl⟩, rfl, trivial⟩, trivial⟩⟩, ⟨rfl, rfl, .inl ⟨_, rfl, rfl⟩⟩, ⟨rfl, rfl, .inl ⟨_, mput_bd _ _, rfl⟩⟩, trivial⟩⟩); (exact ⟨by omega, by rw [hI.2, allK_take (by omega)]⟩)))
    | ((with_reducible show Cb _ _); first | (refine hCb (k + 1) (out ++ [mkG a b ((kys a b)[k]'(by rw [kys_len]; omega))]) _ _ ?_ (by omega) ?_; clear hCb; rotate_left; (exact ⟨[.old 0, .old 1, .old 2, .old 3, .old 4, .old 7], rfl, rfl, ⟨⟨rfl, rfl, rfl⟩, ⟨rfl, rfl, rfl⟩, ⟨rfl, rfl, (by simp), rfl, rfl⟩, (by first | exact congrArg (D.int .i64) (by omega) | exact ⟨rfl, rfl, rfl⟩ | exact ⟨rfl, rfl, rfl, rfl, rfl⟩ | (show (_ : D) = _; with_reducible rfl)), (by first | (show (_ : D) = _; with_reducible rfl) | exact congrArg (D.int .i64) (by omega) | exact congrArg (D.int .i64) (by simp only [List.length_map]) | exact rfl), (by first | (show (_ : D) = _; with_reducible rfl) | exact congrArg (D.int .i64) (by omega) | exact congrArg (D.int .i64) (by simp only [List.length_map]) | exact rfl), trivial⟩, ⟨⟨rfl, rfl, .inr ⟨⟨⟨rfl, rfl, rfl, rfl, rfl⟩, rfl, trivial⟩, trivial⟩⟩, ⟨rfl, rfl, .inl ⟨_, rfl, rfl⟩⟩, ⟨rfl, rfl, .inr ⟨⟨⟨rfl, rfl, rfl, rfl, rfl⟩, rfl, trivial⟩, trivial⟩⟩, ⟨rfl, rfl, .inl ⟨_, rfl, rfl⟩⟩, ⟨rfl, rfl, .inl ⟨_, rfl, rfl⟩⟩, ⟨rfl, rfl, .inr (wks_add (wksd _ _) ⟨rfl, rfl, rfl, rfl, trivial⟩)⟩, trivial⟩⟩); (exact ⟨by omega, by simp; omega, gap_of hIb.2.2 (by omega) (by assumption)⟩)) | (refine hCb (k + 1) (out) _ _ ?_ (by omega) ?_; clear hCb; rotate_left; (exact ⟨[.old 0, .old 1, .old 2, .old 3, .old 4, .old 5], rfl, rfl, ⟨⟨rfl, rfl, rfl⟩, ⟨rfl, rfl, rfl⟩, ⟨rfl, rfl, rfl, rfl, rfl⟩, (by first | exact congrArg (D.int .i64) (by omega) | exact ⟨rfl, rfl, rfl⟩ | exact ⟨rfl, rfl, rfl, rfl, rfl⟩ | (show (_ : D) = _; with_reducible rfl)), (by first | (show (_ : D) = _; with_reducible rfl) | exact congrArg (D.int .i64) (by omega) | exact congrArg (D.int .i64) (by simp only [List.length_map]) | exact rfl), (by first | (show (_ : D) = _; with_reducible rfl) | exact congrArg (D.int .i64) (by omega) | exact congrArg (D.int .i64) (by simp only [List.length_map]) | exact rfl), trivial⟩, ⟨⟨rfl, rfl, .inr ⟨⟨⟨rfl, rfl, rfl, rfl, rfl⟩, rfl, trivial⟩, trivial⟩⟩, ⟨rfl, rfl, .inl ⟨_, rfl, rfl⟩⟩, ⟨rfl, rfl, .inr ⟨⟨⟨rfl, rfl, rfl, rfl, rfl⟩, rfl, trivial⟩, trivial⟩⟩, ⟨rfl, rfl, .inl ⟨_, rfl, rfl⟩⟩, ⟨rfl, rfl, .inl ⟨_, rfl, rfl⟩⟩, ⟨rfl, rfl, .inl ⟨_, rfl, rfl⟩⟩, trivial⟩⟩); (exact ⟨by omega, by omega, gap_no hIb.2.2 (by omega) (by assumption)⟩)))
    | (refine ⟨⟨(by first | rfl | (simp; done)), cap_ok (by simp only [List.length_map, List.length_cons, List.length_nil, List.length_append]; omega) rfl⟩, ?_⟩; conv => whnf)
    | (refine ⟨mem_one ⟨rfl, rfl⟩, ?_⟩; conv => whnf)
    | (refine ⟨(by intro y hy; obtain ⟨x, _, rfl⟩ := List.mem_map.1 hy; first | rfl | exact ⟨rfl, rfl⟩), ?_⟩; conv => whnf)
    | (refine ⟨cap_ok (by first | omega | (simp only [List.length_map]; omega)) rfl, ?_⟩; conv => whnf)
    | (refine ix_map (by omega) ?_; conv => whnf)
    | (refine ix_str (by omega) ?_; conv => whnf)
    | (refine wrap64 (by omega) ?_; conv => whnf)
    | (refine wrap64 (by omega) ?_; conv => whnf)
    | (refine wrap64 (by have h8 : (a.os ++ b.os).length = a.os.length + b.os.length := List.length_append; omega) ?_; conv => whnf)
    | (refine ⟨⟨by omega, by omega⟩, ?_⟩; conv => whnf)
    | (refine nth_k (k := k) (by omega) (by omega) ?_; conv => whnf)
    | (refine ⟨Nat.le_refl _, ?_⟩; conv => whnf)
    | (refine ⟨⟨(by simp only [List.length_map, List.length_append]; omega), cap_ok (by obtain ⟨hJ1, hJ2, hJ3⟩ := hIb; simp only [List.length_map, List.length_cons, List.length_nil, List.length_append]; omega) rfl⟩, ?_⟩; conv => whnf)
    | (refine ⟨cap_ok (by obtain ⟨hJ1, hJ2, hJ3⟩ := hIb; simp only [List.length_map, List.length_cons, List.length_nil, List.length_append]; omega) rfl, ?_⟩; conv => whnf)
    | (exfalso; simp only [List.length_map, List.length_cons, List.length_nil, List.length_append] at h; omega)
    | ((with_reducible refine endx_go ?_); first | (refine cut_ (diffQ a b = (out, 0)) ?_ (fun hE => ?_); (focus (obtain ⟨hJ1, hJ2, hJ3⟩ := hIb; rw [List.take_of_length_le (by omega)] at hJ3; unfold diffQ; rw [firstE_cons, if_pos hqa, firstE_cons, if_pos hqb, firstE_nil, if_pos rfl, hJ3])); refine endxv (view_tup (vlc (view_map rfl Nat.two_pos) (vlc rfl vln))) ?_; (rw [hE]) <;> rfl; done))
    | (refine ⟨rfl, ?_⟩; conv => whnf)
    | fail
    )

theorem c41 (a b : Quo) (ha : a.os.length < 1000) (hb : b.os.length < 1000) : Fn 41 [a.enc, b.enc] (.tup [.fs ((diffQ a b).1.map Gap.enc), i (diffQ a b).2]) := by
  by_cases hqa : (checkQ a).2 = 0
  · by_cases hqb : (checkQ b).2 = 0
    · exact c41o a b ha hb hqa hqb
    · exact c41z a b ha hb hqa hqb
  · by_cases hqb : (checkQ b).2 = 0
    · exact c41x a b ha hb hqa hqb
    · exact c41y a b ha hb hqa hqb

end Go.Proofs.Ytolfkcmdfgakkaa

/-! Pg -/
namespace Go.Proofs.Ytolfkcmdfgakkaa
open Go Dw
set_option maxRecDepth 100000
set_option linter.unusedVariables false

def MX : Int := 2147483647
def stO (out : List Own) (f : Fil) : List Own := withR out { ownR out f.who with used := goMin ((ownR out f.who).used + f.bytes) 2147483647 }
def bgO (out : List Own) (f : Fil) : Bool := decide (2147483647 - (ownR out f.who).used < f.bytes)
def refF : List Fil → List Own → Bool → List Own × Bool
  | [], out, g => (out, g)
  | f :: l, out, g => refF l (stO out f) (g || bgO out f)
theorem refF_drop {l : List Fil} {k : Nat} (h : k < l.length) (out : List Own) (g : Bool) : refF (l.drop k) out g = refF (l.drop (k + 1)) (stO out l[k]) (g || bgO out l[k]) := by
  rw [List.drop_eq_getElem_cons h]; rfl
theorem refF_end {l : List Fil} {k : Nat} (h : ¬ k < l.length) (out : List Own) (g : Bool) : refF (l.drop k) out g = (out, g) := by
  rw [List.drop_eq_nil_of_le (by omega)]; rfl
def sref (l : List Fil) : Quo × Int :=
  if 100 < l.length then (emp, 8)
  else if ¬ (eF l 0).2 = 0 then (emp, (eF l 0).2)
  else if 30 < (refF l [] false).1.length then (emp, 16)
  else if (refF l [] false).2 = true then (emp, 8)
  else (⟨(refF l [] false).1, true⟩, 0)
theorem iget_put (n v m : Int) : ∀ (L : List (Int × Int)), iget (iput L n v) m = if m = n then v else iget L m
  | [] => by simp only [iput, iget]
  | p :: L => by
    have ih := iget_put n v m L
    simp only [iput]
    by_cases h : n = p.1
    · rw [if_pos h]
      simp only [iget]
      by_cases h2 : m = n
      · simp [h2]
      · have : ¬ m = p.1 := by omega
        simp [h2, this]
    · rw [if_neg h]
      simp only [iget, ih]
      by_cases h2 : m = n
      · subst h2; simp [h]
      · simp [h2]
theorem iget_none {n : Int} : ∀ {L : List (Int × Int)}, ¬ n ∈ ikeys L → iget L n = 0
  | [], _ => rfl
  | p :: L, h => by
    unfold ikeys at h
    simp only [List.map_cons, List.mem_cons, not_or] at h
    simp only [iget]
    rw [if_neg h.1]
    exact iget_none h.2
theorem ikeys_put (n v : Int) (L : List (Int × Int)) (m : Int) : m ∈ ikeys (iput L n v) ↔ m ∈ ikeys L ∨ m = n := by
  rw [iput_keys]
  split
  · rename_i h; exact ⟨.inl, fun h2 => h2.elim id (fun e => e ▸ h)⟩
  · simp
theorem isR_withR : ∀ (l : List Own) (o : Own) (w : Int), isR (withR l o) w = (decide (o.who = w) || isR l w)
  | [], o, w => rfl
  | y :: l, o, w => by
    simp only [withR]
    split
    · rw [isR_cons, isR_withR l, isR_cons]
      cases decide (y.who = w) <;> cases decide (o.who = w) <;> rfl
    · split
      · rename_i h2 h
        rw [isR_cons, isR_cons, h]
        cases decide (o.who = w) <;> rfl
      · rfl
structure InvS (n : Nat) (S : List (Int × Int)) (out : List Own) (g : Bool) : Prop where
  ord : SRT out
  mem : ∀ w, isR out w = true ↔ w ∈ ikeys S
  own : ∀ w, ownR out w = { newO w with used := goMin (iget S w) 2147483647 }
  big : g = true ↔ ∃ w, 2147483647 < iget S w
  rng : ∀ w, 0 ≤ iget S w ∧ iget S w ≤ n * 2147483647
theorem InvS.start : InvS 0 [] [] false := by
  refine ⟨List.Pairwise.nil, fun w => ?_, fun w => ?_, ?_, fun w => ?_⟩
  · simp [isR, ikeys]
  · simp [ownR, iget, newO, goMin]
  · simp [iget]
  · simp [iget]
theorem wrap_id {x : Int} (h : -9223372036854775808 ≤ x ∧ x ≤ 9223372036854775807) : IntKind.i64.wrap x = x := Go.IntWalk.i64_in _ (by omega)
theorem goMin_add {a b : Int} (hb : 0 ≤ b) : goMin (goMin a 2147483647 + b) 2147483647 = goMin (a + b) 2147483647 := by
  unfold goMin; split <;> split <;> (try split) <;> omega
theorem InvS.step {n : Nat} {S : List (Int × Int)} {out : List Own} {g : Bool} (h : InvS n S out g) (hn : n < 1000) {f : Fil} (hf : filE f = 0) : InvS (n + 1) (addW S f) (stO out f) (g || bgO out f) := by
  obtain ⟨_, hb1, hb2⟩ := filE_0 hf
  have hr := h.rng f.who
  have hS : addW S f = iput S f.who (iget S f.who + f.bytes) := by unfold addW; rw [wrap_id (by omega)]
  have hw : ({ ownR out f.who with used := goMin ((ownR out f.who).used + f.bytes) 2147483647 } : Own) = { newO f.who with used := goMin (iget S f.who + f.bytes) 2147483647 } := by
    rw [h.own f.who]
    show ({ newO f.who with used := goMin (goMin (iget S f.who) 2147483647 + f.bytes) 2147483647 } : Own) = _
    rw [goMin_add hb1]
  have hO : stO out f = withR out { newO f.who with used := goMin (iget S f.who + f.bytes) 2147483647 } := by unfold stO; rw [hw]
  rw [hS, hO]
  refine ⟨withR_srt h.ord, fun w => ?_, fun w => ?_, ?_, fun w => ?_⟩
  · rw [isR_withR, ikeys_put, ← h.mem w]
    show (decide (f.who = w) || isR out w) = true ↔ _
    simp only [Bool.or_eq_true, decide_eq_true_eq]
    constructor
    · rintro (e | e)
      · exact .inr e.symm
      · exact .inl e
    · rintro (e | e)
      · exact .inr e
      · exact .inl e.symm
  · rw [ownR_withR _ _ _ h.ord, iget_put]
    show (if f.who = w then _ else _) = _
    by_cases e : f.who = w
    · subst e; simp
    · rw [if_neg e, if_neg (by omega), h.own w]
  · have hu : (ownR out f.who).used = goMin (iget S f.who) 2147483647 := by rw [h.own f.who]
    rw [Bool.or_eq_true, h.big]
    unfold bgO
    rw [hu, decide_eq_true_eq]
    have hg : goMin (iget S f.who) 2147483647 = if 2147483647 < iget S f.who then 2147483647 else iget S f.who := rfl
    rw [hg]
    constructor
    · rintro (⟨w, hw⟩ | e)
      · refine ⟨w, ?_⟩
        rw [iget_put]
        split
        · rename_i e; subst e; omega
        · exact hw
      · refine ⟨f.who, ?_⟩
        rw [iget_put, if_pos rfl]
        split at e <;> omega
    · rintro ⟨w, hw⟩
      rw [iget_put] at hw
      split at hw
      · rename_i e
        by_cases h2 : 2147483647 < iget S f.who
        · exact .inl ⟨_, h2⟩
        · right; rw [if_neg h2]; omega
      · exact .inl ⟨w, hw⟩
  · rw [iget_put]
    have := h.rng w
    split <;> omega
theorem InvS.all : ∀ (l : List Fil) {n : Nat} {S : List (Int × Int)} {out : List Own} {g : Bool}, InvS n S out g → n + l.length < 1000 → (∀ f ∈ l, filE f = 0) → InvS (n + l.length) (upto l S) (refF l out g).1 (refF l out g).2
  | [], n, S, out, g, h, _, _ => h
  | f :: l, n, S, out, g, h, hn, hf => by
    simp only [List.length_cons] at hn
    have h1 := h.step (by omega) (hf f (by simp))
    have := InvS.all l h1 (by omega) (fun x hx => hf x (by simp [hx]))
    simp only [upto, hf f (by simp), if_true, refF]
    rw [List.length_cons, show n + (l.length + 1) = n + 1 + l.length by omega]
    exact this
theorem SRT_who {l : List Own} (h : SRT l) : srt (l.map Own.who) = l.map Own.who := by
  unfold srt
  refine List.mergeSort_of_pairwise ?_
  rw [List.pairwise_map]
  exact List.Pairwise.imp (fun {a b} hab => by have : a.who < b.who := hab; simp; omega) h
theorem SRT_nodup {l : List Own} (h : SRT l) : (l.map Own.who).Nodup := by
  unfold List.Nodup
  rw [List.pairwise_map]
  exact List.Pairwise.imp (fun {a b} hab => by have : a.who < b.who := hab; omega) h
theorem SRT_own : ∀ {l : List Own}, SRT l → (l.map Own.who).map (ownR l) = l
  | [], _ => rfl
  | o :: l, h => by
    have h' := h
    rw [SRT, List.pairwise_cons] at h'
    have ih := SRT_own (l := l) h'.2
    rw [List.map_cons, List.map_cons]
    congr 1
    · simp [ownR]
    · refine Eq.trans ?_ ih
      refine List.map_congr_left fun w hw => ?_
      obtain ⟨p, hp, rfl⟩ := List.mem_map.1 hw
      have : o.who < p.who := h'.1 p hp
      simp only [ownR]
      rw [if_neg (by omega)]
theorem perm_of {l m : List Int} (hl : l.Nodup) (hm : m.Nodup) (h : ∀ w, w ∈ l ↔ w ∈ m) : l.Perm m := (List.perm_ext_iff_of_nodup hl hm).2 h
theorem InvS.list {n : Nat} {S : List (Int × Int)} {out : List Own} {g : Bool} (h : InvS n S out g) (hS : (ikeys S).Nodup) : srt (ikeys S) = out.map Own.who ∧ out.length = S.length ∧ (g = false → (srt (ikeys S)).map (mkO S) = out) := by
  have hp : (ikeys S).Perm (out.map Own.who) := perm_of hS (SRT_nodup h.ord) fun w => by
    rw [← h.mem w, isR_iff, List.mem_map]
  have h1 : srt (ikeys S) = out.map Own.who := by rw [srt_perm hp, SRT_who h.ord]
  refine ⟨h1, ?_, fun hg => ?_⟩
  · have := hp.length_eq
    unfold ikeys at this
    simpa using this.symm
  · rw [h1]
    refine Eq.trans ?_ (SRT_own h.ord)
    refine List.map_congr_left fun w _ => ?_
    rw [h.own w]
    have : ¬ 2147483647 < iget S w := fun e => by
      have := h.big.2 ⟨w, e⟩
      rw [hg] at this; cases this
    unfold mkO
    have e : goMin (iget S w) 2147483647 = iget S w := by
      show (if 2147483647 < iget S w then 2147483647 else iget S w) = _
      rw [if_neg this]
    rw [e]
theorem bigK_iff {S : List (Int × Int)} : bigK S (srt (ikeys S)) = true ↔ ∃ w, 2147483647 < iget S w := by
  unfold bigK
  rw [List.any_eq_true]
  constructor
  · rintro ⟨w, _, h⟩; exact ⟨w, by simpa using h⟩
  · rintro ⟨w, h⟩
    refine ⟨w, ?_, by simpa using h⟩
    unfold srt
    rw [List.mem_mergeSort]
    by_cases hm : w ∈ ikeys S
    · exact hm
    · rw [iget_none hm] at h; omega
theorem sref_eq (l : List Fil) : sref l = sumsQ l := by
  unfold sref sumsQ
  by_cases h1 : 100 < l.length
  · rw [if_pos h1, if_pos h1]
  rw [if_neg h1, if_neg h1]
  by_cases h2 : (eF l 0).2 = 0
  · have h2' : ¬ ¬ (eF l 0).2 = 0 := not_not_intro h2
    rw [if_neg h2', if_neg h2']
    have hI := InvS.all l InvS.start (by omega) (eF_ok l 0 h2)
    obtain ⟨a1, a2, a3⟩ := hI.list (upto_nodup l [] (by simp [ikeys]))
    rw [a2]
    by_cases h3 : 30 < (upto l []).length
    · rw [if_pos h3, if_pos h3]
    rw [if_neg h3, if_neg h3]
    by_cases h4 : (refF l [] false).2 = true
    · rw [if_pos h4, if_pos (bigK_iff.2 (hI.big.1 h4))]
    · rw [if_neg h4, if_neg (fun e => h4 (hI.big.2 (bigK_iff.1 e))), a3 (by simpa using h4)]
  · rw [if_pos h2, if_pos h2]
theorem sref_ok {l : List Fil} (h : (sref l).2 = 0) : VQ (sref l).1 := by
  unfold sref at h ⊢
  by_cases h1 : 100 < l.length
  · rw [if_pos h1] at h; exact absurd h (show ¬ (8 : Int) = 0 by decide)
  rw [if_neg h1] at h ⊢
  by_cases h2 : (eF l 0).2 = 0
  · have h2' : ¬ ¬ (eF l 0).2 = 0 := not_not_intro h2
    rw [if_neg h2'] at h ⊢
    have hI := InvS.all l InvS.start (by omega) (eF_ok l 0 h2)
    by_cases h3 : 30 < (refF l [] false).1.length
    · rw [if_pos h3] at h; exact absurd h (show ¬ (16 : Int) = 0 by decide)
    rw [if_neg h3] at h ⊢
    by_cases h4 : (refF l [] false).2 = true
    · rw [if_pos h4] at h; exact absurd h (show ¬ (8 : Int) = 0 by decide)
    rw [if_neg h4] at h ⊢
    refine ⟨by show (refF l [] false).1.length ≤ 30; omega, hI.ord, fun o ho => ?_⟩
    have hm : o.who ∈ ikeys (upto l []) := (hI.mem o.who).1 ((isR_iff _ _).2 ⟨o, ho, rfl⟩)
    have hw : whoE o.who = 0 := by
      rcases upto_keys l [] (eF_ok l 0 h2) _ hm with hm | ⟨f, hf, e⟩
      · simp [ikeys] at hm
      · rw [← e]; exact (filE_0 (eF_ok l 0 h2 f hf)).1
    have hoo : o = { newO o.who with used := goMin (iget (upto l []) o.who) 2147483647 } := by
      rw [← hI.own o.who]
      have := SRT_own hI.ord
      have hmem := List.mem_iff_getElem.1 ho
      obtain ⟨j, hj, e⟩ := hmem
      have e2 := congrArg (fun x => x[j]?) this
      simp only [List.getElem?_map, List.getElem?_eq_getElem hj, Option.map_some] at e2
      rw [e] at e2
      exact (Option.some.inj e2).symm
    have hr := hI.rng o.who
    have hg : goMin (iget (upto l []) o.who) 2147483647 = if 2147483647 < iget (upto l []) o.who then 2147483647 else iget (upto l []) o.who := rfl
    rw [hoo]
    refine ⟨hw, ?_, ?_, ?_, ?_⟩
    · show 0 ≤ goMin _ _ ∧ goMin _ _ ≤ _
      rw [hg]; split <;> omega
    · show (-1 : Int) ≤ -1 ∧ (-1 : Int) ≤ _; omega
    · show (-1 : Int) ≤ -1 ∧ (-1 : Int) ≤ _; omega
    · show (0 : Int) ≤ 0 ∧ (0 : Int) ≤ _; omega
  · rw [if_pos h2] at h; exact absurd h h2
theorem gaps_self (x : Quo) (ks : List Int) : gaps x x ks = [] := by
  unfold gaps difU
  simp
def inU (a b : Quo) (w : Int) : Bool := (isR a.os w || isR b.os w) && difU a b w
def gapsR (a b : Quo) (n : Nat) : List Gap := (((List.range n).map (fun k : Nat => (k : Int))).filter (inU a b)).map (mkG a b)
theorem gapsR_t {a b : Quo} {k : Nat} (h : inU a b k = true) : gapsR a b (k + 1) = gapsR a b k ++ [mkG a b k] := by
  unfold gapsR; rw [List.range_succ, List.map_append, List.filter_append, List.map_append]; simp [h]
theorem gapsR_f {a b : Quo} {k : Nat} (h : inU a b k = false) : gapsR a b (k + 1) = gapsR a b k := by
  unfold gapsR; rw [List.range_succ, List.map_append, List.filter_append, List.map_append]; simp [h]
theorem gapsR_le (a b : Quo) (n : Nat) : (gapsR a b n).length ≤ n := by
  unfold gapsR; rw [List.length_map]
  have := List.length_filter_le (inU a b) ((List.range n).map (fun k : Nat => (k : Int)))
  simpa using this
theorem gapsR_eq {a b : Quo} (ha : VQ a) (hb : VQ b) : gapsR a b 1000 = gaps a b (kys a b) := by
  unfold gapsR gaps inU
  congr 1
  rw [show (fun w => (isR a.os w || isR b.os w) && difU a b w) = (fun w => difU a b w && (isR a.os w || isR b.os w)) from funext fun w => Bool.and_comm _ _, ← List.filter_filter]
  congr 1
  have hs : ((List.range 1000).map (fun k : Nat => (k : Int))).Pairwise (· < ·) := by
    rw [List.pairwise_map]
    exact List.Pairwise.imp (fun {a b} h => by omega) List.pairwise_lt_range
  have hs2 := List.Pairwise.filter (fun w => isR a.os w || isR b.os w) hs
  have hp : (((List.range 1000).map (fun k : Nat => (k : Int))).filter (fun w => isR a.os w || isR b.os w)).Perm (allK (a.os ++ b.os)) := by
    refine perm_of (hs2.imp (fun {a b} h => by omega)) (allK_nodup _) fun w => ?_
    rw [List.mem_filter, allK_mem, Bool.or_eq_true, isR_iff, isR_iff, List.mem_map]
    constructor
    · rintro ⟨_, (⟨o, ho, e⟩ | ⟨o, ho, e⟩)⟩
      · exact ⟨o, by simp [ho], e⟩
      · exact ⟨o, by simp [ho], e⟩
    · rintro ⟨o, ho, e⟩
      have hw : whoE o.who = 0 := by
        rcases List.mem_append.1 ho with ho | ho
        · exact (ha.own o ho).who
        · exact (hb.own o ho).who
      have h0 := whoE_0 hw
      refine ⟨⟨w.toNat, by simp; omega, by omega⟩, ?_⟩
      rcases List.mem_append.1 ho with ho | ho
      · exact .inl ⟨o, ho, e⟩
      · exact .inr ⟨o, ho, e⟩
  unfold kys
  rw [← srt_perm hp]
  unfold srt
  rw [List.mergeSort_of_pairwise (hs2.imp (fun {a b} h => by simp; omega))]
end Go.Proofs.Ytolfkcmdfgakkaa

/-! Wq -/
namespace Go.Proofs.Ytolfkcmdfgakkaa
open Go Dw
set_option maxRecDepth 10000
set_option linter.unusedVariables false
set_option linter.unusedSimpArgs false
attribute [local irreducible] Run
set_option maxHeartbeats 4000000

attribute [local irreducible] oE checkQ cnt isR ownR withR bsR fullQ put1 chg rls mov limErr limF actE doA resQ aftQ whoE limE numE goMin goMax actErr movErr filE iget iput upto eF srt isQ roomQ warned mget mput addK allK kys refF stO bgO gaps gapsR diffQ sref
theorem stO_len (out : List Own) (f : Fil) (hs : SRT out) : (stO out f).length ≤ out.length + 1 := by
  unfold stO; rw [withR_len _ _ hs]; split <;> omega
theorem stO_srt {out : List Own} {f : Fil} (hs : SRT out) : SRT (stO out f) := by unfold stO; exact withR_srt hs
/-- What sums hold: whole numbers that are small. -/
def smO (out : List Own) : Prop := ∀ w, 0 ≤ (ownR out w).used ∧ (ownR out w).used ≤ 2147483647
theorem smO_st {out : List Own} {f : Fil} (hs : SRT out) (h : smO out) (hf : filE f = 0) : smO (stO out f) := by
  intro w
  have := h f.who
  obtain ⟨_, h1, h2⟩ := filE_0 hf
  unfold stO
  rw [ownR_withR _ _ _ hs]
  split
  · show 0 ≤ goMin _ _ ∧ goMin _ _ ≤ _
    have hg : goMin ((ownR out f.who).used + f.bytes) 2147483647 = if 2147483647 < (ownR out f.who).used + f.bytes then 2147483647 else (ownR out f.who).used + f.bytes := by unfold goMin; rfl
    rw [hg]; split <;> omega
  · exact h w
theorem smO_nil : smO [] := by intro w; unfold ownR; exact ⟨Int.le_refl _, by show (0 : Int) ≤ _; omega⟩
theorem fil_1 {f : Fil} (h : ¬ whoE f.who = 0) : filE f = whoE f.who := by unfold filE; rw [firstE_cons, if_neg h]
theorem fil_2 {f : Fil} (h : whoE f.who = 0) (h2 : ¬ numE f.bytes = 0) : filE f = numE f.bytes := by unfold filE; rw [firstE_cons, if_pos h, firstE_cons, if_neg h2]
theorem fil_3 {f : Fil} (h : whoE f.who = 0) (h2 : numE f.bytes = 0) : filE f = 0 := by unfold filE; rw [firstE_cons, if_pos h, firstE_cons, if_pos h2]; rfl
theorem put_st (out : List Own) (f : Fil) : put1 ⟨out, true⟩ { ownR out f.who with used := goMin ((ownR out f.who).used + f.bytes) 2147483647 } = ⟨stO out f, true⟩ := by unfold put1 stO; rfl
theorem eF_at {l : List Fil} (h : (eF l 0).2 = 0) {k : Nat} (hk : k < l.length) : filE l[k] = 0 := eF_ok l 0 h _ (List.getElem_mem hk)

theorem c40e (l : List Fil) (hl : l.length < 1000) (h0 : ¬ (eF l 0).2 = 0) : Fn 40 [.fs (l.map Fil.enc)] (.tup [(sref l).1.enc, i (sref l).2]) := by
  refine run_walkF eok Try.func40 rfl (by kernel_rfl) ?_
  conv => whnf
  repeat' (first
    | ((with_reducible refine on_dec_t (by assumption) ?_); conv => whnf)
    | ((with_reducible refine on_dec_f (by assumption) ?_); conv => whnf)
    | ((with_reducible refine onBool_t (by assumption) ?_); conv => whnf)
    | ((with_reducible refine onBool_f (by assumption) ?_); conv => whnf)
    | ((with_reducible refine on_nt (by assumption) ?_); conv => whnf)
    | ((with_reducible refine on_nf (by assumption) ?_); conv => whnf)
    | ((with_reducible refine on_ndec_t (by first | assumption | rfl) ?_); conv => whnf)
    | ((with_reducible refine on_ndec_f (by assumption) ?_); conv => whnf)
    | ((with_reducible refine on_dec_t rfl ?_); conv => whnf)
    | ((with_reducible refine on_dec_f ?_ ?_); (focus ((try simp only [List.length_map, List.length_cons, List.length_nil, List.length_append]); omega)); conv => whnf)
    | ((with_reducible refine on_dec_t ?_ ?_); (focus ((try simp only [List.length_map, List.length_cons, List.length_nil, List.length_append]); omega)); conv => whnf)
    | ((with_reducible refine on_dec (fun h => ?_) (fun h => ?_)) <;> (try simp only [List.length_map] at h) <;> conv => whnf)
    | ((with_reducible refine on_ndec (fun h => ?_) (fun h => ?_)) <;> (try simp only [List.length_map] at h) <;> conv => whnf)
    | ((with_reducible refine on_not (fun h => ?_) (fun h => ?_)) <;> conv => whnf)
    | ((with_reducible refine onBool_split (fun h => ?_) (fun h => ?_)) <;> conv => whnf)
    | ((with_reducible refine call_go ?_); (first | refine call_step (run_view (c20 _) rfl rfl) ?_ | refine call_step (run_view (c63 _) rfl rfl) ?_ | refine call_step (run_view (c24 ⟨out, true⟩ (by show out.length < _; omega) l[k].who) rfl rfl) ?_ | refine call_step (run_dataV (c62p ⟨out, true⟩ { (ownR out l[k].who) with used := goMin ((ownR out l[k].who).used + l[k].bytes) 2147483647 } (by show out.length < _; omega) hIb.2.2.1) (vlc rfl (vlc (view_agg (vlc rfl (vlc rfl (vlc rfl (vlc rfl (vlc rfl vln)))))) vln)) rfl) ?_); conv => whnf)
    | (refine ⟨[], [(10, 6)], (by decide +kernel), ?_⟩; conv => whnf)
    | (refine ⟨[], [], (by decide +kernel), ?_⟩; conv => whnf)
    | ((with_reducible refine loop_go ?_); first | (refine loop1 (fun (k : Nat) => l.length - k) (fun (k : Nat) => k ≤ l.length ∧ eF l 0 = eF (l.drop k) k) (fun (k : Nat) => [(0, .d (.fs (l.map Fil.enc))), (2, .ptr 0 0 0), (4, .d (i k))]) (fun (k : Nat) => [⟨[.junk], 2, 0⟩]) (0) (by exact ⟨Nat.zero_le _, rfl⟩) ?_ (fun k C hI hC => ?_); (exact ⟨[.old 0], rfl, rfl, ⟨(by first | (show (_ : D) = _; with_reducible rfl) | exact rfl), ⟨rfl, rfl, rfl⟩, (by first | (show (_ : D) = _; with_reducible rfl) | exact congrArg (D.int .i64) (by omega) | exact congrArg (D.int .i64) (by simp only [List.length_map]) | exact rfl), trivial⟩, ⟨⟨rfl, rfl, .inr ⟨trivial, trivial⟩⟩, trivial⟩⟩); all_goals (conv => whnf)))
    | ((with_reducible show C _ _); first | (refine hC (k + 1) _ _ ?_ (by omega) ?_; clear hC; rotate_left; (exact ⟨[.old 0], rfl, rfl, ⟨(by first | (show (_ : D) = _; with_reducible rfl) | exact rfl), ⟨rfl, rfl, rfl⟩, (by first | (show (_ : D) = _; with_reducible rfl) | exact congrArg (D.int .i64) (by omega) | exact congrArg (D.int .i64) (by simp only [List.length_map]) | exact rfl), trivial⟩, ⟨⟨rfl, rfl, .inr ⟨trivial, trivial⟩⟩, trivial⟩⟩); (exact ⟨by omega, by rw [hI.2, eF_drop (by omega), if_pos (fil_3 (by assumption) (by assumption))]⟩)))
    | (refine ⟨⟨(by first | rfl | (simp; done)), cap_ok (by simp only [List.length_map, List.length_cons, List.length_nil, List.length_append]; omega) rfl⟩, ?_⟩; conv => whnf)
    | (refine ⟨mem_one ⟨rfl, rfl⟩, ?_⟩; conv => whnf)
    | (refine ⟨(by intro y hy; obtain ⟨x, _, rfl⟩ := List.mem_map.1 hy; first | rfl | exact ⟨rfl, rfl⟩), ?_⟩; conv => whnf)
    | (refine ⟨cap_ok (by first | omega | (simp only [List.length_map]; omega)) rfl, ?_⟩; conv => whnf)
    | (refine ix_map (by omega) ?_; conv => whnf)
    | (refine ix_str (by omega) ?_; conv => whnf)
    | (refine wrap64 (by omega) ?_; conv => whnf)
    | (refine wrap64 (by omega) ?_; conv => whnf)
    | (exfalso; rw [hI.2, eF_end (by omega)] at h0; exact h0 rfl)
    | (exfalso; simp only [List.length_map, List.length_cons, List.length_nil, List.length_append] at h; omega)
    | ((with_reducible refine endx_go ?_); first | (refine cut_ (sref l = (emp, 8)) ?_ (fun hE => ?_); (focus ((unfold sref; rw [if_pos (by omega)]))); refine endxv (view_tup (vlc (view_agg (vlc rfl (vlc rfl vln))) (vlc rfl vln))) ?_; rw [hE]; rfl; done) | (refine cut_ (sref l = (emp, whoE l[k].who)) ?_ (fun hE => ?_); (focus (have hx : (eF l 0).2 = whoE l[k].who := (by rw [hI.2, eF_drop (by omega), fil_1 (by assumption), if_neg (by assumption)]); unfold sref; rw [if_neg (by omega), if_pos (by rw [hx]; assumption), hx])); refine endxv (view_tup (vlc (view_agg (vlc rfl (vlc rfl vln))) (vlc rfl vln))) ?_; rw [hE]; rfl; done) | (refine cut_ (sref l = (emp, numE l[k].bytes)) ?_ (fun hE => ?_); (focus (have hx : (eF l 0).2 = numE l[k].bytes := (by rw [hI.2, eF_drop (by omega), fil_2 (by assumption) (by assumption), if_neg (by assumption)]); unfold sref; rw [if_neg (by omega), if_pos (by rw [hx]; assumption), hx])); refine endxv (view_tup (vlc (view_agg (vlc rfl (vlc rfl vln))) (vlc rfl vln))) ?_; rw [hE]; rfl; done))
    | (refine ⟨rfl, ?_⟩; conv => whnf)
    | fail
    )

theorem c40o (l : List Fil) (hl : l.length < 1000) (h0 : (eF l 0).2 = 0) : Fn 40 [.fs (l.map Fil.enc)] (.tup [(sref l).1.enc, i (sref l).2]) := by
  refine run_walkF eok Try.func40 rfl (by kernel_rfl) ?_
  conv => whnf
  repeat' (first
    | ((with_reducible refine on_dec_t (by assumption) ?_); conv => whnf)
    | ((with_reducible refine on_dec_f (by assumption) ?_); conv => whnf)
    | ((with_reducible refine onBool_t (by assumption) ?_); conv => whnf)
    | ((with_reducible refine onBool_f (by assumption) ?_); conv => whnf)
    | ((with_reducible refine on_nt (by assumption) ?_); conv => whnf)
    | ((with_reducible refine on_nf (by assumption) ?_); conv => whnf)
    | ((with_reducible refine on_ndec_t (by first | assumption | rfl) ?_); conv => whnf)
    | ((with_reducible refine on_ndec_f (by assumption) ?_); conv => whnf)
    | ((with_reducible refine on_dec_t rfl ?_); conv => whnf)
    | ((with_reducible refine on_dec_f ?_ ?_); (focus ((try simp only [List.length_map, List.length_cons, List.length_nil, List.length_append]); omega)); conv => whnf)
    | ((with_reducible refine on_dec_t ?_ ?_); (focus ((try simp only [List.length_map, List.length_cons, List.length_nil, List.length_append]); omega)); conv => whnf)
    | ((with_reducible refine on_dec (fun h => ?_) (fun h => ?_)) <;> (try simp only [List.length_map] at h) <;> conv => whnf)
    | ((with_reducible refine on_ndec (fun h => ?_) (fun h => ?_)) <;> (try simp only [List.length_map] at h) <;> conv => whnf)
    | ((with_reducible refine on_not (fun h => ?_) (fun h => ?_)) <;> conv => whnf)
    | ((with_reducible refine onBool_split (fun h => ?_) (fun h => ?_)) <;> conv => whnf)
    | ((with_reducible refine call_go ?_); (first | refine call_step (run_view (c20 _) rfl rfl) ?_ | refine call_step (run_view (c63 _) rfl rfl) ?_ | refine call_step (run_view (c24 ⟨out, true⟩ (by show out.length < _; omega) l[k].who) rfl rfl) ?_ | refine call_step (run_dataV (c62p ⟨out, true⟩ { (ownR out l[k].who) with used := goMin ((ownR out l[k].who).used + l[k].bytes) 2147483647 } (by show out.length < _; omega) hIb.2.2.1) (vlc rfl (vlc (view_agg (vlc rfl (vlc rfl (vlc rfl (vlc rfl (vlc rfl vln)))))) vln)) rfl) ?_); conv => whnf)
    | (refine ⟨[], [(10, 6)], (by decide +kernel), ?_⟩; conv => whnf)
    | (refine ⟨[], [], (by decide +kernel), ?_⟩; conv => whnf)
    | ((with_reducible refine loop_go ?_); first | (refine loop3 (fun (k : Nat) (out : List Own) (g : Bool) => l.length - k) (fun (k : Nat) (out : List Own) (g : Bool) => k ≤ l.length ∧ out.length ≤ k ∧ SRT out ∧ smO out ∧ refF l [] false = refF (l.drop k) out g) (fun (k : Nat) (out : List Own) (g : Bool) => [(0, .d (.fs (l.map Fil.enc))), (2, .ptr 0 0 0), (7, .ptr 1 0 0), (8, .d (.bool g)), (9, .d (i k))]) (fun (k : Nat) (out : List Own) (g : Bool) => [⟨[.junk], 2, 0⟩, ⟨[.d (Quo.enc ⟨out, true⟩)], 2, 0⟩]) (0) ([]) (false) (by exact ⟨Nat.zero_le _, Nat.le_refl _, List.Pairwise.nil, smO_nil, rfl⟩) ?_ (fun k out g Cb hIb hCb => ?_); (exact ⟨[.old 0, .old 1], rfl, rfl, ⟨(by first | (show (_ : D) = _; with_reducible rfl) | exact rfl), ⟨rfl, rfl, rfl⟩, ⟨rfl, rfl, rfl⟩, (by first | (show (_ : D) = _; with_reducible rfl) | (refine congrArg D.bool ?_; simp_all)), (by first | (show (_ : D) = _; with_reducible rfl) | exact congrArg (D.int .i64) (by omega) | exact congrArg (D.int .i64) (by simp only [List.length_map]) | exact rfl), trivial⟩, ⟨⟨rfl, rfl, .inr ⟨trivial, trivial⟩⟩, ⟨rfl, rfl, .inr ⟨⟨rfl, rfl, rfl, trivial⟩, trivial⟩⟩, trivial⟩⟩); all_goals (conv => whnf)) | (refine loop1 (fun (k : Nat) => l.length - k) (fun (k : Nat) => k ≤ l.length ∧ eF l 0 = eF (l.drop k) k) (fun (k : Nat) => [(0, .d (.fs (l.map Fil.enc))), (2, .ptr 0 0 0), (4, .d (i k))]) (fun (k : Nat) => [⟨[.junk], 2, 0⟩]) (0) (by exact ⟨Nat.zero_le _, rfl⟩) ?_ (fun k C hI hC => ?_); (exact ⟨[.old 0], rfl, rfl, ⟨(by first | (show (_ : D) = _; with_reducible rfl) | exact rfl), ⟨rfl, rfl, rfl⟩, (by first | (show (_ : D) = _; with_reducible rfl) | exact congrArg (D.int .i64) (by omega) | exact congrArg (D.int .i64) (by simp only [List.length_map]) | exact rfl), trivial⟩, ⟨⟨rfl, rfl, .inr ⟨trivial, trivial⟩⟩, trivial⟩⟩); all_goals (conv => whnf)))
    | ((with_reducible show C _ _); first | (refine hC (k + 1) _ _ ?_ (by omega) ?_; clear hC; rotate_left; (exact ⟨[.old 0], rfl, rfl, ⟨(by first | (show (_ : D) = _; with_reducible rfl) | exact rfl), ⟨rfl, rfl, rfl⟩, (by first | (show (_ : D) = _; with_reducible rfl) | exact congrArg (D.int .i64) (by omega) | exact congrArg (D.int .i64) (by simp only [List.length_map]) | exact rfl), trivial⟩, ⟨⟨rfl, rfl, .inr ⟨trivial, trivial⟩⟩, trivial⟩⟩); (exact ⟨by omega, by rw [hI.2, eF_drop (by omega), if_pos (fil_3 (by assumption) (by assumption))]⟩)))
    | ((with_reducible show Cb _ _); first | (refine hCb (k + 1) (stO out l[k]) (g || bgO out l[k]) _ _ ?_ (by omega) ?_; clear hCb; rotate_left; (exact ⟨[.old 0, .old 1], rfl, rfl, ⟨(by first | (show (_ : D) = _; with_reducible rfl) | exact rfl), ⟨rfl, rfl, rfl⟩, ⟨rfl, rfl, rfl⟩, (by refine congrArg D.bool ?_; first | (simp_all; done) | (rw [show g = false by assumption, Bool.false_or]; unfold bgO; rfl)), (by first | (show (_ : D) = _; with_reducible rfl) | exact congrArg (D.int .i64) (by omega) | exact congrArg (D.int .i64) (by simp only [List.length_map]) | exact rfl), trivial⟩, ⟨⟨rfl, rfl, .inr ⟨trivial, trivial⟩⟩, ⟨rfl, rfl, .inl ⟨[_], congrArg (fun q => [AV.d (Quo.enc q)]) (put_st out l[k]), rfl⟩⟩, trivial⟩⟩); (refine ⟨by omega, ?_, stO_srt hIb.2.2.1, smO_st hIb.2.2.1 hIb.2.2.2.1 (eF_at h0 (by omega)), by rw [hIb.2.2.2.2, refF_drop (by omega)]⟩; have := stO_len out l[k] hIb.2.2.1; omega)))
    | (refine ⟨⟨(by first | rfl | (simp; done)), cap_ok (by simp only [List.length_map, List.length_cons, List.length_nil, List.length_append]; omega) rfl⟩, ?_⟩; conv => whnf)
    | (refine ⟨mem_one ⟨rfl, rfl⟩, ?_⟩; conv => whnf)
    | (refine ⟨(by intro y hy; obtain ⟨x, _, rfl⟩ := List.mem_map.1 hy; first | rfl | exact ⟨rfl, rfl⟩), ?_⟩; conv => whnf)
    | (refine ⟨cap_ok (by first | omega | (simp only [List.length_map]; omega)) rfl, ?_⟩; conv => whnf)
    | (refine ix_map (by omega) ?_; conv => whnf)
    | (refine ix_str (by omega) ?_; conv => whnf)
    | (refine wrap64 (by omega) ?_; conv => whnf)
    | (refine wrap64 (by omega) ?_; conv => whnf)
    | (refine wrap64 (show -9223372036854775808 ≤ (ownR out l[k].who).used + l[k].bytes ∧ (ownR out l[k].who).used + l[k].bytes ≤ 9223372036854775807 from (by have hs2 := hIb.2.2.2.1 l[k].who; have hz := (filE_0 (eF_at h0 (k := k) (by omega))).2; omega)) ?_; conv => whnf)
    | (refine wrap64 (show -9223372036854775808 ≤ 2147483647 - (ownR out l[k].who).used ∧ 2147483647 - (ownR out l[k].who).used ≤ 9223372036854775807 from (by have hs2 := hIb.2.2.2.1 l[k].who; have hz := (filE_0 (eF_at h0 (k := k) (by omega))).2; omega)) ?_; conv => whnf)
    | (exfalso; simp only [List.length_map, List.length_cons, List.length_nil, List.length_append] at h; omega)
    | ((with_reducible refine endx_go ?_); first | (refine cut_ (sref l = (emp, 8)) ?_ (fun hE => ?_); (focus ((unfold sref; rw [if_pos (by omega)]))); refine endxv (view_tup (vlc (view_agg (vlc rfl (vlc rfl vln))) (vlc rfl vln))) ?_; rw [hE]; rfl; done) | (exfalso; have hz := eF_at h0 (k := k) (by omega); rw [fil_1 (by assumption)] at hz; exact absurd hz (by assumption); done) | (exfalso; have hz := eF_at h0 (k := k) (by omega); rw [fil_2 (by assumption) (by assumption)] at hz; exact absurd hz (by assumption); done) | (refine cut_ (sref l = (emp, 16)) ?_ (fun hE => ?_); (focus (have hR : refF l [] false = (out, g) := (by rw [hIb.2.2.2.2, refF_end (by omega)]); unfold sref; rw [if_neg (by omega), if_neg (not_not_intro h0), hR, if_pos (show 30 < out.length by omega)])); refine endxv (view_tup (vlc (view_agg (vlc rfl (vlc rfl vln))) (vlc rfl vln))) ?_; rw [hE]; rfl; done) | (refine cut_ (sref l = (emp, 8)) ?_ (fun hE => ?_); (focus (have hR : refF l [] false = (out, g) := (by rw [hIb.2.2.2.2, refF_end (by omega)]); unfold sref; rw [if_neg (by omega), if_neg (not_not_intro h0), hR, if_neg (show ¬ 30 < out.length by omega), if_pos (show g = true by assumption)])); refine endxv (view_tup (vlc (view_agg (vlc rfl (vlc rfl vln))) (vlc rfl vln))) ?_; rw [hE]; rfl; done) | (refine cut_ (sref l = (⟨out, true⟩, 0)) ?_ (fun hE => ?_); (focus (have hR : refF l [] false = (out, g) := (by rw [hIb.2.2.2.2, refF_end (by omega)]); unfold sref; rw [if_neg (by omega), if_neg (not_not_intro h0), hR, if_neg (show ¬ 30 < out.length by omega), if_neg (show ¬ g = true by simp [*])])); refine endxv (view_tup (vlc rfl (vlc rfl vln))) ?_; (rw [hE]) <;> rfl; done))
    | (refine ⟨rfl, ?_⟩; conv => whnf)
    | fail
    )

theorem c40 (l : List Fil) (hl : l.length < 1000) : Fn 40 [.fs (l.map Fil.enc)] (.tup [(sref l).1.enc, i (sref l).2]) := by
  by_cases h0 : (eF l 0).2 = 0
  · exact c40o l hl h0
  · exact c40e l hl h0

end Go.Proofs.Ytolfkcmdfgakkaa

/-! Pe -/
namespace Go.Proofs.Ytolfkcmdfgakkaa
open Go Dw

theorem isQ_aft (x : Quo) (a : Act) : isQ (aftQ x a).1 (aftQ x a).2 (aftQ x a).1 (aftQ x a).2 = true := by
  unfold isQ
  by_cases h : (aftQ x a).2 = 0 ∨ (aftQ x a).2 = 33
  · rcases h with h | h <;> simp [h]
  · have he : (aftQ x a).1 = emp := by
      unfold aftQ at *
      split at h
      · rename_i hq
        rw [if_pos hq]
        unfold resQ at *
        split at h
        · rename_i h2; exact absurd h2 h
        · rename_i h2; rw [if_neg h2]
      · rename_i hq; rw [if_neg hq]
    simp [he]
theorem res_len {r : Quo × Int} (h : VQ r.1) : (resQ r).1.os.length < 1000 := by
  have := h.len
  unfold resQ
  split
  · omega
  · exact Nat.zero_lt_succ _
theorem aft_len {x : Quo} {a : Act} (hk : kindOk a) : (aftQ x a).1.os.length < 1000 := by
  unfold aftQ
  split
  · rename_i hq
    exact res_len (doA_ok ((checkQ_iff x).1 hq) hk)
  · exact Nat.zero_lt_succ _
theorem kC (w b : Int) : kindOk (actC w b) := .inl rfl
theorem kR (w b : Int) : kindOk (actR w b) := .inr (.inl rfl)
theorem kM (f t b : Int) : kindOk (actM f t b) := .inr (.inr (.inl rfl))
theorem kL (l : Lim) : kindOk (actL l) := .inr (.inr (.inr rfl))
/-- A charge that fits. -/
theorem actErr_of {x : Quo} {w b : Int} (hv : VQ x) (hw : whoE w = 0) (hb : 0 ≤ b ∧ b ≤ 2147483647) : actErr x w b = 0 := by
  unfold actErr
  rw [firstE_z]
  intro e he
  simp only [List.mem_cons, List.not_mem_nil, or_false] at he
  rcases he with rfl | rfl | rfl
  · exact (checkQ_iff x).2 hv
  · exact hw
  · exact numE_iff.2 hb
theorem room_rng {x : Quo} (hv : VQ x) (w : Int) : 0 ≤ roomQ x w ∧ roomQ x w ≤ 2147483647 := by
  obtain ⟨h1, h2, h3⟩ := hv.nums w
  unfold roomQ goMax
  split
  · omega
  · split <;> omega
theorem res_2 (r : Quo × Int) : (resQ r).2 = r.2 := by unfold resQ; split <;> rfl
theorem room_ok {x : Quo} (hv : VQ x) {w : Int} (hw : whoE w = 0) : (aftQ x (actC w (roomQ x w))).2 = 0 ∨ (aftQ x (actC w (roomQ x w))).2 = 16 := by
  rw [aftC_0 (actErr_of hv hw (room_rng hv w)), res_2]
  obtain ⟨h1, h2, h3⟩ := hv.nums w
  have hr := room_rng hv w
  unfold chg
  by_cases c0 : roomQ x w = 0
  · rw [if_pos c0]; exact .inl rfl
  rw [if_neg c0]
  by_cases c1 : fullQ x w = true
  · rw [if_pos c1]; exact .inr rfl
  rw [if_neg c1]
  unfold roomQ goMax at *
  by_cases c2 : (!x.enf || decide ((ownR x.os w).lim = -1)) = true
  · rw [if_pos c2] at *
    rw [if_neg (by intro h; simp only [Bool.and_eq_true, Bool.or_eq_true, Bool.not_eq_true', decide_eq_true_eq, decide_eq_false_iff_not] at h c2; rcases c2 with c2 | c2
                   · rw [h.1] at c2; cases c2
                   · exact h.2.1 c2), if_neg (by omega)]
    exact .inl rfl
  · rw [if_neg c2] at *
    have hu : (ownR x.os w).used + (if (0 : Int) < (ownR x.os w).lim - (ownR x.os w).used then (ownR x.os w).lim - (ownR x.os w).used else 0) = (ownR x.os w).lim := by
      split
      · omega
      · rename_i h; rw [if_neg h] at c0; exact absurd rfl c0
    rw [hu, if_neg (by simp), if_neg (by omega)]
    exact .inl rfl
theorem room_more {x : Quo} (hv : VQ x) {w : Int} (hw : whoE w = 0) (hm : ¬ roomQ x w = 2147483647) :
    (aftQ x (actC w (roomQ x w + 1))).2 = 33 ∨ (aftQ x (actC w (roomQ x w + 1))).2 = 8 ∨ (aftQ x (actC w (roomQ x w + 1))).2 = 16 := by
  have hr := room_rng hv w
  rw [aftC_0 (actErr_of hv hw (by omega)), res_2]
  obtain ⟨h1, h2, h3⟩ := hv.nums w
  unfold chg
  rw [if_neg (by omega)]
  by_cases c1 : fullQ x w = true
  · rw [if_pos c1]; exact .inr (.inr rfl)
  rw [if_neg c1]
  by_cases c3 : (x.enf && (!decide ((ownR x.os w).lim = -1) && decide ((ownR x.os w).lim < (ownR x.os w).used + (roomQ x w + 1)))) = true
  · rw [if_pos c3]; exact .inl rfl
  rw [if_neg c3]
  have : 2147483647 < (ownR x.os w).used + (roomQ x w + 1) := by
    by_cases c2 : (!x.enf || decide ((ownR x.os w).lim = -1)) = true
    · unfold roomQ
      rw [if_pos c2]; omega
    · exfalso
      simp only [Bool.or_eq_true, Bool.not_eq_true', decide_eq_true_eq, not_or, Bool.not_eq_false] at c2
      apply c3
      have hl : (ownR x.os w).lim < (ownR x.os w).used + (roomQ x w + 1) := by
        unfold roomQ goMax
        rw [if_neg (by simp [c2])]
        split <;> omega
      simp [c2, hl]
  rw [if_pos this]
  exact .inr (.inl rfl)
/-- A release behind a charge. -/
theorem rel_back {x : Quo} {w b : Int} (h : (aftQ x (actC w b)).2 = 0) : (aftQ (aftQ x (actC w b)).1 (actR w b)).2 = 0 ∧ (ownR (aftQ (aftQ x (actC w b)).1 (actR w b)).1.os w).used = (ownR x.os w).used := by
  have h0 : actErr x w b = 0 := by
    by_cases h0 : actErr x w b = 0
    · exact h0
    · rw [aftC_e h0] at h; exact absurd h h0
  obtain ⟨hv, hw, hb⟩ := actErr_0 h0
  rw [aftC_0 h0] at h ⊢
  rw [res_2] at h
  have hc := chg_ok hv hw hb.1 (w := w) (b := b)
  have hres : resQ (chg x w b) = chg x w b := by unfold resQ; rw [if_pos (.inl h)]
  rw [hres, aftR_0 (actErr_of hc hw hb), res_2]
  obtain ⟨h1, h2, h3⟩ := hv.nums w
  unfold chg at h hc ⊢
  by_cases c0 : b = 0
  · rw [if_pos c0] at *
    subst c0
    have hr : rls x w 0 = (x, 0) := by unfold rls; rw [if_neg (by omega), if_neg (by decide)]
    rw [hr]
    exact ⟨rfl, rfl⟩
  rw [if_neg c0] at *
  by_cases c1 : fullQ x w = true
  · rw [if_pos c1] at h; exact absurd h (show ¬ (16 : Int) = 0 by decide)
  rw [if_neg c1] at *
  by_cases c3 : (x.enf && (!decide ((ownR x.os w).lim = -1) && decide ((ownR x.os w).lim < (ownR x.os w).used + b))) = true
  · rw [if_pos c3] at h; exact absurd h (show ¬ (33 : Int) = 0 by decide)
  rw [if_neg c3] at *
  by_cases c4 : 2147483647 < (ownR x.os w).used + b
  · rw [if_pos c4] at h; exact absurd h (show ¬ (8 : Int) = 0 by decide)
  rw [if_neg c4] at *
  have hwho : (ownR x.os w).who = w := ownR_who _ _
  have ho : ownR (put1 x { ownR x.os w with used := (ownR x.os w).used + b }).os w = { ownR x.os w with used := (ownR x.os w).used + b } := by
    show ownR (withR x.os _) w = _
    rw [ownR_withR _ _ _ hv.srt, if_pos hwho]
  have hr : rls (put1 x { ownR x.os w with used := (ownR x.os w).used + b }) w b = (put1 (put1 x { ownR x.os w with used := (ownR x.os w).used + b }) { ownR x.os w with used := (ownR x.os w).used + b - b }, 0) := by
    unfold rls
    rw [ho, if_neg (by show ¬ (ownR x.os w).used + b < b; omega), if_pos (by omega)]
  show (rls (put1 x { ownR x.os w with used := (ownR x.os w).used + b }) w b).2 = 0 ∧ (ownR (resQ (rls (put1 x { ownR x.os w with used := (ownR x.os w).used + b }) w b)).1.os w).used = (ownR x.os w).used
  rw [hr, resQ_0]
  refine ⟨rfl, ?_⟩
  show (ownR (withR (put1 x { ownR x.os w with used := (ownR x.os w).used + b }).os _) w).used = _
  rw [ownR_withR _ _ _ hc.srt, if_pos hwho]
  show (ownR x.os w).used + b - b = _
  omega
end Go.Proofs.Ytolfkcmdfgakkaa

/-! Wr -/
namespace Go.Proofs.Ytolfkcmdfgakkaa
open Go Dw
set_option maxRecDepth 10000
set_option linter.unusedVariables false
set_option linter.unusedSimpArgs false
attribute [local irreducible] Run
set_option maxHeartbeats 4000000

attribute [local irreducible] oE checkQ cnt isR ownR withR bsR fullQ put1 chg rls mov limErr limF actE doA resQ aftQ whoE limE numE goMin goMax actErr movErr filE iget iput upto eF srt isQ roomQ warned mget mput addK allK kys refF stO bgO gaps gapsR diffQ sref sumsQ
theorem c36s (x : Quo) (hx : x.os.length < 1000) : Fn 36 [x.enc, x.enc] (.bool true) := by
  have := c36 x x (by omega) (by omega); rw [decide_eq_true rfl] at this; exact this
theorem c39s (l : List Fil) (hl : l.length < 1000) : Fn 39 [.fs (l.map Fil.enc)] (.tup [(sref l).1.enc, i (sref l).2]) := by
  have := c39 l hl; rw [← sref_eq] at this; exact this
theorem sref_len {l : List Fil} (h : (sref l).2 = 0) : (sref l).1.os.length < 1000 := by have := (sref_ok h).len; omega
theorem sref_len2 (l : List Fil) : (sref l).1.os.length < 1000 := by
  by_cases h : (sref l).2 = 0
  · exact sref_len h
  · have e : (sref l).1 = emp := by
      unfold sref at h ⊢
      split
      · rfl
      · rename_i h1
        rw [if_neg h1] at h
        split
        · rfl
        · rename_i h2
          rw [if_neg h2] at h
          split
          · rfl
          · rename_i h3
            rw [if_neg h3] at h
            split
            · rfl
            · rename_i h4
              rw [if_neg h4] at h
              exact absurd rfl h
    rw [e]; exact emp_len
theorem reach_ds (n : Nat) (h : Heap) : ∀ (l : List D), (l.map AV.d).flatMap (reach (n + 1) h) = []
  | [] => rfl
  | x :: l => by rw [List.map_cons, List.flatMap_cons, reach_ds n h l]; rfl
theorem run_rowF {f : Nat} {l : List D} {k k' : Nat} {r : D} (hf : Run Try.prog f ([.fs l].map .d) [] (.d r) []) : Run Try.prog f [.sl 0 0 (l.map AV.d).length k' none] [⟨l.map .d, k, 0⟩] (.d r) [⟨l.map .d, k, 1⟩] := by
  have := run_viewF hf (H := [⟨l.map .d, k, 0⟩]) (args := [.sl 0 0 (l.map AV.d).length k' none]) (vlc (view_new rfl Nat.two_pos) vln)
  have e : [AV.sl 0 0 (l.map AV.d).length k' none].flatMap (reach 8 [⟨l.map .d, k, 0⟩]) = [0] := by
    show (0 :: (l.map AV.d).flatMap (reach 7 _)) ++ [] = [0]
    rw [reach_ds]; rfl
  rw [e] at this
  exact this
theorem c41s (x : Quo) (hv : VQ x) : Fn 41 [x.enc, x.enc] (.tup [.fs [], i 0]) := by
  have hl := hv.len
  have := c41 x x (by omega) (by omega)
  unfold diffQ at this
  have hq := (checkQ_iff x).2 hv
  rw [firstE_cons, if_pos hq, firstE_cons, if_pos hq, firstE_nil, if_pos rfl, gaps_self] at this
  exact this

theorem c9 (l : List Fil) : Fn 9 [.fs (l.map Fil.enc)] (.bool true) := by
  refine run_walkF eok Try.func9 rfl (by kernel_rfl) ?_
  conv => whnf
  repeat' (first
    | ((with_reducible refine on_dec_t (by assumption) ?_); conv => whnf)
    | ((with_reducible refine on_dec_f (by assumption) ?_); conv => whnf)
    | ((with_reducible refine onBool_t (by assumption) ?_); conv => whnf)
    | ((with_reducible refine onBool_f (by assumption) ?_); conv => whnf)
    | ((with_reducible refine on_nt (by assumption) ?_); conv => whnf)
    | ((with_reducible refine on_nf (by assumption) ?_); conv => whnf)
    | ((with_reducible refine on_ndec_t (by first | assumption | rfl) ?_); conv => whnf)
    | ((with_reducible refine on_ndec_f (by assumption) ?_); conv => whnf)
    | ((with_reducible refine on_dec_t rfl ?_); conv => whnf)
    | ((with_reducible refine on_dec_f ?_ ?_); (focus ((try simp only [List.length_map, List.length_cons, List.length_nil, List.length_append]); omega)); conv => whnf)
    | ((with_reducible refine on_dec_t ?_ ?_); (focus ((try simp only [List.length_map, List.length_cons, List.length_nil, List.length_append]); omega)); conv => whnf)
    | ((with_reducible refine on_dec (fun h => ?_) (fun h => ?_)) <;> (try simp only [List.length_map] at h) <;> conv => whnf)
    | ((with_reducible refine on_ndec (fun h => ?_) (fun h => ?_)) <;> (try simp only [List.length_map] at h) <;> conv => whnf)
    | ((with_reducible refine on_not (fun h => ?_) (fun h => ?_)) <;> conv => whnf)
    | ((with_reducible refine onBool_split (fun h => ?_) (fun h => ?_)) <;> conv => whnf)
    | ((with_reducible refine call_go ?_); (first | refine call_step (run_data c12 _) ?_ | refine call_step (run_rowF (c39s l (by omega))) ?_ | refine call_step (run_data (c40 l (by omega)) _) ?_ | refine call_step (run_data (c36s _ (sref_len2 l)) _) ?_ | refine call_step (run_data (c15 (sref l).1 (by have := sref_len2 l; omega)) _) ?_ | refine call_step (run_data (c41s _ (sref_ok (by assumption))) _) ?_); conv => whnf)
    | (refine ⟨[], [(2, 1)], (by decide +kernel), ?_⟩; conv => whnf)
    | (refine ⟨⟨(by first | rfl | (simp; done)), cap_ok (by simp only [List.length_map, List.length_cons, List.length_nil, List.length_append]; omega) rfl⟩, ?_⟩; conv => whnf)
    | (refine ⟨mem_one ⟨rfl, rfl⟩, ?_⟩; conv => whnf)
    | (refine ⟨(by intro y hy; obtain ⟨x, _, rfl⟩ := List.mem_map.1 hy; first | rfl | exact ⟨rfl, rfl⟩), ?_⟩; conv => whnf)
    | (refine ⟨cap_ok (by first | omega | (simp only [List.length_map]; omega)) rfl, ?_⟩; conv => whnf)
    | (refine ix_map (by omega) ?_; conv => whnf)
    | (refine ix_str (by omega) ?_; conv => whnf)
    | (refine wrap64 (by omega) ?_; conv => whnf)
    | (refine wrap64 (by omega) ?_; conv => whnf)
    | (refine ⟨Nat.le_refl _, ?_⟩; conv => whnf)
    | (refine ⟨⟨(by simp only [List.length_map, List.length_append]; omega), cap_ok (by skip; simp only [List.length_map, List.length_cons, List.length_nil, List.length_append]; omega) rfl⟩, ?_⟩; conv => whnf)
    | (refine ⟨cap_ok (by skip; simp only [List.length_map, List.length_cons, List.length_nil, List.length_append]; omega) rfl, ?_⟩; conv => whnf)
    | (exfalso; simp only [List.length_map, List.length_cons, List.length_nil, List.length_append] at h; omega)
    | ((with_reducible refine endx_go ?_); first | (exact endx rfl; done))
    | (refine ⟨rfl, ?_⟩; conv => whnf)
    | fail
    )

theorem gR_t {a b : Quo} {k : Nat} {out : List Gap} (ho : out = gapsR a b k) (h : inU a b k = true) : out ++ [mkG a b k] = gapsR a b (k + 1) := by rw [gapsR_t h, ho]
theorem gR_f {a b : Quo} {k : Nat} {out : List Gap} (ho : out = gapsR a b k) (h : inU a b k = false) : out = gapsR a b (k + 1) := by rw [gapsR_f h, ho]
theorem gR_0 (a b : Quo) : [] = gapsR a b 0 := by unfold gapsR; rfl

theorem c42 (a b : Quo) (ha : a.os.length < 1000) (hb : b.os.length < 1000) : Fn 42 [a.enc, b.enc] (.fs ((gapsR a b 1000).map Gap.enc)) := by
  refine run_walkF eok Try.func42 rfl (by kernel_rfl) ?_
  conv => whnf
  repeat' (first
    | ((with_reducible refine on_dec_t (by assumption) ?_); conv => whnf)
    | ((with_reducible refine on_dec_f (by assumption) ?_); conv => whnf)
    | ((with_reducible refine onBool_t (by assumption) ?_); conv => whnf)
    | ((with_reducible refine onBool_f (by assumption) ?_); conv => whnf)
    | ((with_reducible refine on_nt (by assumption) ?_); conv => whnf)
    | ((with_reducible refine on_nf (by assumption) ?_); conv => whnf)
    | ((with_reducible refine on_ndec_t (by first | assumption | rfl) ?_); conv => whnf)
    | ((with_reducible refine on_ndec_f (by assumption) ?_); conv => whnf)
    | ((with_reducible refine on_dec_t rfl ?_); conv => whnf)
    | ((with_reducible refine on_dec_f ?_ ?_); (focus ((try simp only [List.length_map, List.length_cons, List.length_nil, List.length_append]); omega)); conv => whnf)
    | ((with_reducible refine on_dec_t ?_ ?_); (focus ((try simp only [List.length_map, List.length_cons, List.length_nil, List.length_append]); omega)); conv => whnf)
    | ((with_reducible refine on_dec (fun h => ?_) (fun h => ?_)) <;> (try simp only [List.length_map] at h) <;> conv => whnf)
    | ((with_reducible refine on_ndec (fun h => ?_) (fun h => ?_)) <;> (try simp only [List.length_map] at h) <;> conv => whnf)
    | ((with_reducible refine on_not (fun h => ?_) (fun h => ?_)) <;> conv => whnf)
    | ((with_reducible refine onBool_split (fun h => ?_) (fun h => ?_)) <;> conv => whnf)
    | ((with_reducible refine call_go ?_); (first | refine call_step (run_view (c24 a (by omega) (k : Int)) rfl rfl) ?_ | refine call_step (run_view (c24 b (by omega) (k : Int)) rfl rfl) ?_); conv => whnf)
    | ((with_reducible refine loop_go ?_); first | (refine loop2 (fun (k : Nat) (out : List Gap) => 1000 - k) (fun (k : Nat) (out : List Gap) => k ≤ 1000 ∧ out.length ≤ k ∧ out = gapsR a b k) (fun (k : Nat) (out : List Gap) => [(2, .ptr 0 0 0), (3, .ptr 1 0 0), (5, .sl 2 0 out.length 3 none), (6, .d (i k))]) (fun (k : Nat) (out : List Gap) => [⟨[.d a.enc], 2, 0⟩, ⟨[.d b.enc], 2, 0⟩, ⟨(out.map Gap.enc).map .d, 3, 0⟩]) (0) ([]) (by exact ⟨Nat.zero_le _, Nat.le_refl _, gR_0 a b⟩) ?_ (fun k out C hI hC => ?_); (exact ⟨[.old 0, .old 1, .void 3], rfl, rfl, ⟨⟨rfl, rfl, rfl⟩, ⟨rfl, rfl, rfl⟩, ⟨rfl, rfl, rfl, rfl⟩, (by first | (show (_ : D) = _; with_reducible rfl) | exact congrArg (D.int .i64) (by omega) | exact congrArg (D.int .i64) (by simp only [List.length_map]) | exact rfl), trivial⟩, ⟨⟨rfl, rfl, .inl ⟨[_], rfl, rfl⟩⟩, ⟨rfl, rfl, .inl ⟨[_], rfl, rfl⟩⟩, ⟨rfl, rfl, Nat.zero_lt_succ _, rfl⟩, trivial⟩⟩); all_goals (conv => whnf)))
    | ((with_reducible show C _ _); first | (refine hC (k + 1) (out ++ [mkG a b k]) _ _ ?_ (by omega) ?_; clear hC; rotate_left; (exact ⟨[.old 0, .old 1, .old 6], rfl, rfl, ⟨⟨rfl, rfl, rfl⟩, ⟨rfl, rfl, rfl⟩, ⟨rfl, rfl, (by simp), rfl, rfl⟩, (by first | (show (_ : D) = _; with_reducible rfl) | exact congrArg (D.int .i64) (by omega) | exact congrArg (D.int .i64) (by simp only [List.length_map]) | exact rfl), trivial⟩, ⟨⟨rfl, rfl, .inl ⟨[_], rfl, rfl⟩⟩, ⟨rfl, rfl, .inl ⟨[_], rfl, rfl⟩⟩, ⟨rfl, rfl, .inr (wks_add (wksd _ _) ⟨rfl, rfl, rfl, rfl, trivial⟩)⟩, trivial⟩⟩); (exact ⟨by omega, by simp; omega, gR_t hI.2.2 (by unfold inU difU; simp [*])⟩)) | (refine hC (k + 1) (out) _ _ ?_ (by omega) ?_; clear hC; rotate_left; (exact ⟨[.old 0, .old 1, .old 2], rfl, rfl, ⟨⟨rfl, rfl, rfl⟩, ⟨rfl, rfl, rfl⟩, ⟨rfl, rfl, rfl, rfl, rfl⟩, (by first | (show (_ : D) = _; with_reducible rfl) | exact congrArg (D.int .i64) (by omega) | exact congrArg (D.int .i64) (by simp only [List.length_map]) | exact rfl), trivial⟩, ⟨⟨rfl, rfl, .inl ⟨[_], rfl, rfl⟩⟩, ⟨rfl, rfl, .inl ⟨[_], rfl, rfl⟩⟩, ⟨rfl, rfl, .inl ⟨_, rfl, rfl⟩⟩, trivial⟩⟩); (exact ⟨by omega, by omega, gR_f hI.2.2 (by unfold inU difU; simp [*])⟩)))
    | (refine ⟨⟨(by first | rfl | (simp; done)), cap_ok (by simp only [List.length_map, List.length_cons, List.length_nil, List.length_append]; omega) rfl⟩, ?_⟩; conv => whnf)
    | (refine ⟨mem_one ⟨rfl, rfl⟩, ?_⟩; conv => whnf)
    | (refine ⟨(by intro y hy; obtain ⟨x, _, rfl⟩ := List.mem_map.1 hy; first | rfl | exact ⟨rfl, rfl⟩), ?_⟩; conv => whnf)
    | (refine ⟨cap_ok (by first | omega | (simp only [List.length_map]; omega)) rfl, ?_⟩; conv => whnf)
    | (refine ix_map (by omega) ?_; conv => whnf)
    | (refine ix_str (by omega) ?_; conv => whnf)
    | (refine wrap64 (by omega) ?_; conv => whnf)
    | (refine wrap64 (by omega) ?_; conv => whnf)
    | (refine ⟨Nat.le_refl _, ?_⟩; conv => whnf)
    | (refine ⟨⟨(by simp only [List.length_map, List.length_append]; omega), cap_ok (by obtain ⟨hI1, hI2, hI3⟩ := hI; simp only [List.length_map, List.length_cons, List.length_nil, List.length_append]; omega) rfl⟩, ?_⟩; conv => whnf)
    | (refine ⟨cap_ok (by obtain ⟨hI1, hI2, hI3⟩ := hI; simp only [List.length_map, List.length_cons, List.length_nil, List.length_append]; omega) rfl, ?_⟩; conv => whnf)
    | (exfalso; simp only [List.length_map, List.length_cons, List.length_nil, List.length_append] at h; omega)
    | ((with_reducible refine endx_go ?_); first | (refine endxv (view_map rfl Nat.two_pos) ?_; obtain ⟨hI1, hI2, hI3⟩ := hI; have hk : k = 1000 := (by omega); subst hk; rw [hI3]; done))
    | (refine ⟨rfl, ?_⟩; conv => whnf)
    | fail
    )

theorem c41A (a b : Quo) (ha : a.os.length < 1000) (hb : b.os.length < 1000) (hqa : ¬ (checkQ a).2 = 0) : Fn 41 [a.enc, b.enc] (.tup [.fs [], i (checkQ a).2]) := by
  have h := c41 a b ha hb
  have e : firstE [(checkQ a).2, (checkQ b).2] = (checkQ a).2 := by rw [firstE_cons, if_neg hqa]
  unfold diffQ at h
  rw [e, if_neg hqa] at h
  exact h
theorem c41B (a b : Quo) (ha : a.os.length < 1000) (hb : b.os.length < 1000) (hqa : (checkQ a).2 = 0) (hqb : ¬ (checkQ b).2 = 0) : Fn 41 [a.enc, b.enc] (.tup [.fs [], i (checkQ b).2]) := by
  have h := c41 a b ha hb
  have e : firstE [(checkQ a).2, (checkQ b).2] = (checkQ b).2 := by rw [firstE_cons, if_pos hqa, firstE_cons, if_neg hqb]
  unfold diffQ at h
  rw [e, if_neg hqb] at h
  exact h
theorem c41K (a b : Quo) (ha : a.os.length < 1000) (hb : b.os.length < 1000) (hqa : (checkQ a).2 = 0) (hqb : (checkQ b).2 = 0) : Fn 41 [a.enc, b.enc] (.tup [.fs ((gaps a b (kys a b)).map Gap.enc), i 0]) := by
  have h := c41 a b ha hb
  have e : firstE [(checkQ a).2, (checkQ b).2] = 0 := by rw [firstE_cons, if_pos hqa, firstE_cons, if_pos hqb]; rfl
  unfold diffQ at h
  rw [e, if_pos rfl] at h
  exact h
theorem c42K (a b : Quo) (ha : a.os.length < 1000) (hb : b.os.length < 1000) (hqa : (checkQ a).2 = 0) (hqb : (checkQ b).2 = 0) : Fn 42 [a.enc, b.enc] (.fs ((gaps a b (kys a b)).map Gap.enc)) := by
  have h := c42 a b ha hb
  rw [gapsR_eq ((checkQ_iff a).1 hqa) ((checkQ_iff b).1 hqb)] at h
  exact h
theorem gaps_1000 {a b : Quo} (hqa : (checkQ a).2 = 0) (hqb : (checkQ b).2 = 0) : (gaps a b (kys a b)).length ≤ 1000 := by
  rw [← gapsR_eq ((checkQ_iff a).1 hqa) ((checkQ_iff b).1 hqb)]; exact gapsR_le a b 1000

theorem c10a (a b : Quo) (hqa : ¬ (checkQ a).2 = 0) : Fn 10 [a.enc, b.enc] (.bool true) := by
  refine run_walkF eok Try.func10 rfl (by kernel_rfl) ?_
  conv => whnf
  repeat' (first
    | ((with_reducible refine on_dec_t (by assumption) ?_); conv => whnf)
    | ((with_reducible refine on_dec_f (by assumption) ?_); conv => whnf)
    | ((with_reducible refine onBool_t (by assumption) ?_); conv => whnf)
    | ((with_reducible refine onBool_f (by assumption) ?_); conv => whnf)
    | ((with_reducible refine on_nt (by assumption) ?_); conv => whnf)
    | ((with_reducible refine on_nf (by assumption) ?_); conv => whnf)
    | ((with_reducible refine on_ndec_t (by first | assumption | rfl) ?_); conv => whnf)
    | ((with_reducible refine on_ndec_f (by assumption) ?_); conv => whnf)
    | ((with_reducible refine on_dec_t rfl ?_); conv => whnf)
    | ((with_reducible refine on_dec_f ?_ ?_); (focus ((try simp only [List.length_map, List.length_cons, List.length_nil, List.length_append]); omega)); conv => whnf)
    | ((with_reducible refine on_dec_t ?_ ?_); (focus ((try simp only [List.length_map, List.length_cons, List.length_nil, List.length_append]); omega)); conv => whnf)
    | ((with_reducible refine on_dec (fun h => ?_) (fun h => ?_)) <;> (try simp only [List.length_map] at h) <;> conv => whnf)
    | ((with_reducible refine on_ndec (fun h => ?_) (fun h => ?_)) <;> (try simp only [List.length_map] at h) <;> conv => whnf)
    | ((with_reducible refine on_not (fun h => ?_) (fun h => ?_)) <;> conv => whnf)
    | ((with_reducible refine onBool_split (fun h => ?_) (fun h => ?_)) <;> conv => whnf)
    | ((with_reducible refine call_go ?_); (first | refine call_step (run_data c12 _) ?_ | refine call_step (run_data (c13 a) _) ?_ | refine call_step (run_data (c13 b) _) ?_ | refine call_step (run_data (c15 a (by omega)) _) ?_ | refine call_step (run_data (c15 b (by omega)) _) ?_ | refine call_step (run_data (c41A a b (by omega) (by omega) hqa) _) ?_ | refine call_step (run_data (c41B a b (by omega) (by omega) hqa hqb) _) ?_ | refine call_step (run_data (c41K a b (by omega) (by omega) hqa hqb) _) ?_ | refine call_step (run_data (c31 a (by omega)) _) ?_ | refine call_step (run_data (c31 b (by omega)) _) ?_ | refine call_step (run_data (c42K a b (by omega) (by omega) hqa hqb) _) ?_); conv => whnf)
    | (refine ⟨[], [(2, 1)], (by decide +kernel), ?_⟩; conv => whnf)
    | (refine ⟨[], [], (by decide +kernel), ?_⟩; conv => whnf)
    | (refine ⟨⟨(by first | rfl | (simp; done)), cap_ok (by simp only [List.length_map, List.length_cons, List.length_nil, List.length_append]; omega) rfl⟩, ?_⟩; conv => whnf)
    | (refine ⟨mem_one ⟨rfl, rfl⟩, ?_⟩; conv => whnf)
    | (refine ⟨(by intro y hy; obtain ⟨x, _, rfl⟩ := List.mem_map.1 hy; first | rfl | exact ⟨rfl, rfl⟩), ?_⟩; conv => whnf)
    | (refine ⟨cap_ok (by first | omega | (simp only [List.length_map]; omega)) rfl, ?_⟩; conv => whnf)
    | (refine ix_map (by omega) ?_; conv => whnf)
    | (refine ix_str (by omega) ?_; conv => whnf)
    | (refine wrap64 (by omega) ?_; conv => whnf)
    | (refine wrap64 (by omega) ?_; conv => whnf)
    | (exfalso; simp_all; done)
    | (exfalso; simp only [List.length_map, List.length_cons, List.length_nil, List.length_append] at h; omega)
    | ((with_reducible refine endx_go ?_); first | (exact endx rfl; done) | (exfalso; simp [cellsEq, cellEq] at h; done))
    | (refine ⟨rfl, ?_⟩; conv => whnf)
    | fail
    )

theorem c10b (a b : Quo) (hqa : (checkQ a).2 = 0) (hqb : ¬ (checkQ b).2 = 0) : Fn 10 [a.enc, b.enc] (.bool true) := by
  refine run_walkF eok Try.func10 rfl (by kernel_rfl) ?_
  conv => whnf
  repeat' (first
    | ((with_reducible refine on_dec_t (by assumption) ?_); conv => whnf)
    | ((with_reducible refine on_dec_f (by assumption) ?_); conv => whnf)
    | ((with_reducible refine onBool_t (by assumption) ?_); conv => whnf)
    | ((with_reducible refine onBool_f (by assumption) ?_); conv => whnf)
    | ((with_reducible refine on_nt (by assumption) ?_); conv => whnf)
    | ((with_reducible refine on_nf (by assumption) ?_); conv => whnf)
    | ((with_reducible refine on_ndec_t (by first | assumption | rfl) ?_); conv => whnf)
    | ((with_reducible refine on_ndec_f (by assumption) ?_); conv => whnf)
    | ((with_reducible refine on_dec_t rfl ?_); conv => whnf)
    | ((with_reducible refine on_dec_f ?_ ?_); (focus ((try simp only [List.length_map, List.length_cons, List.length_nil, List.length_append]); omega)); conv => whnf)
    | ((with_reducible refine on_dec_t ?_ ?_); (focus ((try simp only [List.length_map, List.length_cons, List.length_nil, List.length_append]); omega)); conv => whnf)
    | ((with_reducible refine on_dec (fun h => ?_) (fun h => ?_)) <;> (try simp only [List.length_map] at h) <;> conv => whnf)
    | ((with_reducible refine on_ndec (fun h => ?_) (fun h => ?_)) <;> (try simp only [List.length_map] at h) <;> conv => whnf)
    | ((with_reducible refine on_not (fun h => ?_) (fun h => ?_)) <;> conv => whnf)
    | ((with_reducible refine onBool_split (fun h => ?_) (fun h => ?_)) <;> conv => whnf)
    | ((with_reducible refine call_go ?_); (first | refine call_step (run_data c12 _) ?_ | refine call_step (run_data (c13 a) _) ?_ | refine call_step (run_data (c13 b) _) ?_ | refine call_step (run_data (c15 a (by omega)) _) ?_ | refine call_step (run_data (c15 b (by omega)) _) ?_ | refine call_step (run_data (c41A a b (by omega) (by omega) hqa) _) ?_ | refine call_step (run_data (c41B a b (by omega) (by omega) hqa hqb) _) ?_ | refine call_step (run_data (c41K a b (by omega) (by omega) hqa hqb) _) ?_ | refine call_step (run_data (c31 a (by omega)) _) ?_ | refine call_step (run_data (c31 b (by omega)) _) ?_ | refine call_step (run_data (c42K a b (by omega) (by omega) hqa hqb) _) ?_); conv => whnf)
    | (refine ⟨[], [(2, 1)], (by decide +kernel), ?_⟩; conv => whnf)
    | (refine ⟨[], [], (by decide +kernel), ?_⟩; conv => whnf)
    | (refine ⟨⟨(by first | rfl | (simp; done)), cap_ok (by simp only [List.length_map, List.length_cons, List.length_nil, List.length_append]; omega) rfl⟩, ?_⟩; conv => whnf)
    | (refine ⟨mem_one ⟨rfl, rfl⟩, ?_⟩; conv => whnf)
    | (refine ⟨(by intro y hy; obtain ⟨x, _, rfl⟩ := List.mem_map.1 hy; first | rfl | exact ⟨rfl, rfl⟩), ?_⟩; conv => whnf)
    | (refine ⟨cap_ok (by first | omega | (simp only [List.length_map]; omega)) rfl, ?_⟩; conv => whnf)
    | (refine ix_map (by omega) ?_; conv => whnf)
    | (refine ix_str (by omega) ?_; conv => whnf)
    | (refine wrap64 (by omega) ?_; conv => whnf)
    | (refine wrap64 (by omega) ?_; conv => whnf)
    | (exfalso; simp_all; done)
    | (exfalso; simp only [List.length_map, List.length_cons, List.length_nil, List.length_append] at h; omega)
    | ((with_reducible refine endx_go ?_); first | (exact endx rfl; done) | (exfalso; simp [cellsEq, cellEq] at h; done))
    | (refine ⟨rfl, ?_⟩; conv => whnf)
    | fail
    )

theorem c10c (a b : Quo) (hqa : (checkQ a).2 = 0) (hqb : (checkQ b).2 = 0) : Fn 10 [a.enc, b.enc] (.bool true) := by
  have hgl := gaps_1000 hqa hqb
  refine run_walkF eok Try.func10 rfl (by kernel_rfl) ?_
  conv => whnf
  repeat' (first
    | ((with_reducible refine on_dec_t (by assumption) ?_); conv => whnf)
    | ((with_reducible refine on_dec_f (by assumption) ?_); conv => whnf)
    | ((with_reducible refine onBool_t (by assumption) ?_); conv => whnf)
    | ((with_reducible refine onBool_f (by assumption) ?_); conv => whnf)
    | ((with_reducible refine on_nt (by assumption) ?_); conv => whnf)
    | ((with_reducible refine on_nf (by assumption) ?_); conv => whnf)
    | ((with_reducible refine on_ndec_t (by first | assumption | rfl) ?_); conv => whnf)
    | ((with_reducible refine on_ndec_f (by assumption) ?_); conv => whnf)
    | ((with_reducible refine on_dec_t rfl ?_); conv => whnf)
    | ((with_reducible refine on_dec_f ?_ ?_); (focus ((try simp only [List.length_map, List.length_cons, List.length_nil, List.length_append]); omega)); conv => whnf)
    | ((with_reducible refine on_dec_t ?_ ?_); (focus ((try simp only [List.length_map, List.length_cons, List.length_nil, List.length_append]); omega)); conv => whnf)
    | ((with_reducible refine on_dec (fun h => ?_) (fun h => ?_)) <;> (try simp only [List.length_map] at h) <;> conv => whnf)
    | ((with_reducible refine on_ndec (fun h => ?_) (fun h => ?_)) <;> (try simp only [List.length_map] at h) <;> conv => whnf)
    | ((with_reducible refine on_not (fun h => ?_) (fun h => ?_)) <;> conv => whnf)
    | ((with_reducible refine onBool_split (fun h => ?_) (fun h => ?_)) <;> conv => whnf)
    | ((with_reducible refine call_go ?_); (first | refine call_step (run_data c12 _) ?_ | refine call_step (run_data (c13 a) _) ?_ | refine call_step (run_data (c13 b) _) ?_ | refine call_step (run_data (c15 a (by omega)) _) ?_ | refine call_step (run_data (c15 b (by omega)) _) ?_ | refine call_step (run_data (c41A a b (by omega) (by omega) hqa) _) ?_ | refine call_step (run_data (c41B a b (by omega) (by omega) hqa hqb) _) ?_ | refine call_step (run_data (c41K a b (by omega) (by omega) hqa hqb) _) ?_ | refine call_step (run_data (c31 a (by omega)) _) ?_ | refine call_step (run_data (c31 b (by omega)) _) ?_ | refine call_step (run_data (c42K a b (by omega) (by omega) hqa hqb) _) ?_); conv => whnf)
    | (refine ⟨[], [(2, 1)], (by decide +kernel), ?_⟩; conv => whnf)
    | (refine ⟨[], [], (by decide +kernel), ?_⟩; conv => whnf)
    | ((with_reducible refine loop_go ?_); first | (refine loop1 (fun (k : Nat) => (gaps a b (kys a b)).length - k) (fun (k : Nat) => k ≤ (gaps a b (kys a b)).length) (fun (k : Nat) => [(5, .d (.fs ((gaps a b (kys a b)).map Gap.enc))), (8, .d (.fs ((gaps a b (kys a b)).map Gap.enc))), (9, .d (i k))]) (fun (k : Nat) => []) (0) (by exact Nat.zero_le _) ?_ (fun k C hI hC => ?_); (exact ⟨[], rfl, rfl, ⟨(by first | (show (_ : D) = _; with_reducible rfl) | exact rfl), (by first | (show (_ : D) = _; with_reducible rfl) | exact rfl), (by first | (show (_ : D) = _; with_reducible rfl) | exact congrArg (D.int .i64) (by omega) | exact congrArg (D.int .i64) (by simp only [List.length_map]) | exact rfl), trivial⟩, trivial⟩); all_goals (conv => whnf)))
    | ((with_reducible show C _ _); first | (refine hC (k + 1) _ _ ?_ (by omega) ?_; clear hC; rotate_left; (exact ⟨[], rfl, rfl, ⟨(by first | (show (_ : D) = _; with_reducible rfl) | exact rfl), (by first | (show (_ : D) = _; with_reducible rfl) | exact rfl), (by first | (show (_ : D) = _; with_reducible rfl) | exact congrArg (D.int .i64) (by omega) | exact congrArg (D.int .i64) (by simp only [List.length_map]) | exact rfl), trivial⟩, trivial⟩); (exact (by omega : k + 1 ≤ (gaps a b (kys a b)).length))))
    | (refine ⟨⟨(by first | rfl | (simp; done)), cap_ok (by simp only [List.length_map, List.length_cons, List.length_nil, List.length_append]; omega) rfl⟩, ?_⟩; conv => whnf)
    | (refine ⟨mem_one ⟨rfl, rfl⟩, ?_⟩; conv => whnf)
    | (refine ⟨(by intro y hy; obtain ⟨x, _, rfl⟩ := List.mem_map.1 hy; first | rfl | exact ⟨rfl, rfl⟩), ?_⟩; conv => whnf)
    | (refine ⟨cap_ok (by first | omega | (simp only [List.length_map]; omega)) rfl, ?_⟩; conv => whnf)
    | (refine ix_map (by omega) ?_; conv => whnf)
    | (refine ix_str (by omega) ?_; conv => whnf)
    | (refine wrap64 (by omega) ?_; conv => whnf)
    | (refine wrap64 (by omega) ?_; conv => whnf)
    | (exfalso; simp_all; done)
    | (exfalso; simp only [List.length_map, List.length_cons, List.length_nil, List.length_append] at h; omega)
    | ((with_reducible refine endx_go ?_); first | (exact endx rfl; done) | (exfalso; simp [cellsEq, cellEq] at h; done))
    | (refine ⟨rfl, ?_⟩; conv => whnf)
    | fail
    )

theorem c10 (a b : Quo) : Fn 10 [a.enc, b.enc] (.bool true) := by
  by_cases hqa : (checkQ a).2 = 0
  · by_cases hqb : (checkQ b).2 = 0
    · exact c10c a b hqa hqb
    · exact c10b a b hqa hqb
  · exact c10a a b hqa

end Go.Proofs.Ytolfkcmdfgakkaa
