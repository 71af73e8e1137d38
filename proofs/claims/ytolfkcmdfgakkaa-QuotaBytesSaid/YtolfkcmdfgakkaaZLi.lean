/-
  Chapter 19: QuotaBytes holds at every input: no condition of ours.
-/
import Derived.Test.YtolfkcmdfgakkaaGrpJ
set_option linter.unusedVariables false
set_option linter.unusedSimpArgs false

/-! Ww -/
namespace Go.Proofs.Ytolfkcmdfgakkaa
open Go Dw
set_option maxRecDepth 10000
set_option linter.unusedVariables false
set_option linter.unusedSimpArgs false
attribute [local irreducible] Run
set_option maxHeartbeats 4000000

theorem leB4 (n : Nat) : Dw.leB n 4 = Dw.leB (n % 65536) 2 ++ Dw.leB (n / 65536) 2 := by
  simp only [Dw.leB, List.cons_append, List.nil_append]
  congr 1
  · congr 1; omega
  · congr 1
    · congr 1; omega
    · congr 1
      · congr 1; omega
      · congr 1; congr 1; omega
theorem leB4_map (n : Nat) : (Dw.leB n 4).map byteV = (Dw.leB (n % 65536) 2).map byteV ++ [.d (.int .u8 (n / 65536 % 256 : Nat)), .d (.int .u8 (n / 16777216 % 256 : Nat))] := by
  rw [leB4, List.map_append, leB2_map (n / 65536), Nat.div_div_eq_div_mul]

theorem c77 (l : List UInt8) (x : Int) (hx : 0 ≤ x ∧ x < 65536) (hl : l.length < 3000000) : BufTo Try.prog 77 [.int .u16 x] l (Dw.leB x.toNat 2) := by
  obtain ⟨n, rfl⟩ := Int.eq_ofNat_of_zero_le hx.1; rw [Int.toNat_natCast]; unfold BufTo
  refine run_walkV eok Try.func77 rfl (by kernel_rfl) [0] (by rfl) [] ?_
  conv => whnf
  repeat' (first
    | ((with_reducible refine on_dec_f ?_ ?_); (focus ((try simp only [List.length_map, List.length_cons, List.length_nil, List.length_append]); omega)); conv => whnf)
    | ((with_reducible refine on_dec_t ?_ ?_); (focus ((try simp only [List.length_map, List.length_cons, List.length_nil, List.length_append]); omega)); conv => whnf)
    | ((with_reducible refine on_dec (fun h => ?_) (fun h => ?_)) <;> (try simp only [List.length_map] at h) <;> conv => whnf)
    | ((with_reducible refine on_ndec (fun h => ?_) (fun h => ?_)) <;> (try simp only [List.length_map] at h) <;> conv => whnf)
    | ((with_reducible refine on_not (fun h => ?_) (fun h => ?_)) <;> conv => whnf)
    | ((with_reducible refine onBool_split (fun h => ?_) (fun h => ?_)) <;> conv => whnf)
    | (refine ⟨⟨(by first | rfl | (simp; done)), cap_ok (by simp only [List.length_map, List.length_cons, List.length_nil, List.length_append]; omega) rfl⟩, ?_⟩; conv => whnf)
    | (refine ⟨mem_one ⟨rfl, rfl⟩, ?_⟩; conv => whnf)
    | (refine ⟨(by intro y hy; obtain ⟨x, _, rfl⟩ := List.mem_map.1 hy; first | rfl | exact ⟨rfl, rfl⟩), ?_⟩; conv => whnf)
    | (refine ⟨cap_ok (by first | omega | (simp only [List.length_map]; omega)) rfl, ?_⟩; conv => whnf)
    | (refine ix_map (by omega) ?_; conv => whnf)
    | (refine ix_str (by omega) ?_; conv => whnf)
    | (refine wrap64 (by omega) ?_; conv => whnf)
    | (refine wrapU32 (by omega) ?_; conv => whnf)
    | (refine wrapU16 (by omega) ?_; conv => whnf)
    | (refine wrapU8n ?_; conv => whnf)
    | (refine wrapU16n ?_; conv => whnf)
    | (refine shr_n 256 rfl rfl ?_; conv => whnf)
    | (refine shr_n 65536 rfl rfl ?_; conv => whnf)
    | (refine shr_n 16777216 rfl rfl ?_; conv => whnf)
    | (refine ⟨Nat.le_refl _, ?_⟩; conv => whnf)
    | (refine ⟨⟨(by simp only [List.length_map, List.length_append]; omega), cap_ok (by simp only [List.length_map, List.length_cons, List.length_nil, List.length_append, Dw.leB_length]; omega) rfl⟩, ?_⟩; conv => whnf)
    | (refine ⟨cap_ok (by simp only [List.length_map, List.length_cons, List.length_nil, List.length_append, Dw.leB_length]; omega) rfl, ?_⟩; conv => whnf)
    | (exfalso; simp only [List.length_map, List.length_cons, List.length_nil, List.length_append] at h; omega)
    | ((with_reducible refine endx_go ?_); first | (refine endX_of (.inl ⟨[.dead, .old 2], rfl, rfl, ⟨⟨rfl, rfl, ?_, rfl, rfl⟩, trivial⟩, ⟨rfl, wkO_bytes (l ++ Dw.leB n 2) rfl rfl rfl ?_ rfl, trivial⟩⟩); (simp only [List.length_append, Dw.leB_length]; rfl); (simp only [List.map_append, leB2_map]; rfl); done))
    | (refine ⟨rfl, ?_⟩; conv => whnf)
    | fail
    )

theorem c76 (l : List UInt8) (x : Int) (hx : 0 ≤ x ∧ x < 4294967296) (hl : l.length < 2500000) : BufTo Try.prog 76 [.int .u32 x] l (Dw.leB x.toNat 4) := by
  obtain ⟨n, rfl⟩ := Int.eq_ofNat_of_zero_le hx.1; rw [Int.toNat_natCast]; unfold BufTo
  refine run_walkV eok Try.func76 rfl (by kernel_rfl) [0] (by rfl) [] ?_
  conv => whnf
  repeat' (first
    | ((with_reducible refine on_dec_f ?_ ?_); (focus ((try simp only [List.length_map, List.length_cons, List.length_nil, List.length_append]); omega)); conv => whnf)
    | ((with_reducible refine on_dec_t ?_ ?_); (focus ((try simp only [List.length_map, List.length_cons, List.length_nil, List.length_append]); omega)); conv => whnf)
    | ((with_reducible refine on_dec (fun h => ?_) (fun h => ?_)) <;> (try simp only [List.length_map] at h) <;> conv => whnf)
    | ((with_reducible refine on_ndec (fun h => ?_) (fun h => ?_)) <;> (try simp only [List.length_map] at h) <;> conv => whnf)
    | ((with_reducible refine on_not (fun h => ?_) (fun h => ?_)) <;> conv => whnf)
    | ((with_reducible refine onBool_split (fun h => ?_) (fun h => ?_)) <;> conv => whnf)
    | ((with_reducible refine call_go ?_); (first | refine call_step (run_buf (c77 l _ (by omega) (by omega)) rfl rfl rfl rfl) ?_); conv => whnf)
    | (refine ⟨⟨(by first | rfl | (simp; done)), cap_ok (by simp only [List.length_map, List.length_cons, List.length_nil, List.length_append]; omega) rfl⟩, ?_⟩; conv => whnf)
    | (refine ⟨mem_one ⟨rfl, rfl⟩, ?_⟩; conv => whnf)
    | (refine ⟨(by intro y hy; obtain ⟨x, _, rfl⟩ := List.mem_map.1 hy; first | rfl | exact ⟨rfl, rfl⟩), ?_⟩; conv => whnf)
    | (refine ⟨cap_ok (by first | omega | (simp only [List.length_map]; omega)) rfl, ?_⟩; conv => whnf)
    | (refine ix_map (by omega) ?_; conv => whnf)
    | (refine ix_str (by omega) ?_; conv => whnf)
    | (refine wrap64 (by omega) ?_; conv => whnf)
    | (refine wrapU32 (by omega) ?_; conv => whnf)
    | (refine wrapU16 (by omega) ?_; conv => whnf)
    | (refine wrapU8n ?_; conv => whnf)
    | (refine wrapU16n ?_; conv => whnf)
    | (refine shr_n 256 rfl rfl ?_; conv => whnf)
    | (refine shr_n 65536 rfl rfl ?_; conv => whnf)
    | (refine shr_n 16777216 rfl rfl ?_; conv => whnf)
    | (refine ⟨Nat.le_refl _, ?_⟩; conv => whnf)
    | (refine ⟨⟨(by simp only [List.length_map, List.length_append]; omega), cap_ok (by simp only [List.length_map, List.length_cons, List.length_nil, List.length_append, Dw.leB_length]; omega) rfl⟩, ?_⟩; conv => whnf)
    | (refine ⟨cap_ok (by simp only [List.length_map, List.length_cons, List.length_nil, List.length_append, Dw.leB_length]; omega) rfl, ?_⟩; conv => whnf)
    | (exfalso; simp only [List.length_map, List.length_cons, List.length_nil, List.length_append] at h; omega)
    | ((with_reducible refine endx_go ?_); first | (refine endX_of (.inl ⟨[.dead, .old 3], rfl, rfl, ⟨⟨rfl, rfl, ?_, rfl, rfl⟩, trivial⟩, ⟨rfl, wkO_bytes (l ++ Dw.leB n 4) rfl rfl rfl ?_ rfl, trivial⟩⟩); (simp only [List.length_append, Dw.leB_length]; rfl); (simp only [List.map_append, leB4_map, ← List.append_assoc]; rfl); done))
    | (refine ⟨rfl, ?_⟩; conv => whnf)
    | fail
    )

end Go.Proofs.Ytolfkcmdfgakkaa

/-! Wx -/
namespace Go.Proofs.Ytolfkcmdfgakkaa
open Go Dw
set_option maxRecDepth 10000
set_option linter.unusedVariables false
set_option linter.unusedSimpArgs false
attribute [local irreducible] Run
set_option maxHeartbeats 4000000

theorem c83 (n0 c : Nat) (hn : n0 < 9223372036854775808) (hc : c < 1000) : Fn 83 [i n0, i c] (.str (Dw.leB n0 c)) := by
  refine run_walkF eok Try.func83 rfl (by kernel_rfl) ?_
  conv => whnf
  repeat' (first
    | ((with_reducible refine on_dec_f ?_ ?_); (focus ((try simp only [List.length_map, List.length_cons, List.length_nil, List.length_append]); omega)); conv => whnf)
    | ((with_reducible refine on_dec_t ?_ ?_); (focus ((try simp only [List.length_map, List.length_cons, List.length_nil, List.length_append]); omega)); conv => whnf)
    | ((with_reducible refine on_dec (fun h => ?_) (fun h => ?_)) <;> (try simp only [List.length_map] at h) <;> conv => whnf)
    | ((with_reducible refine on_ndec (fun h => ?_) (fun h => ?_)) <;> (try simp only [List.length_map] at h) <;> conv => whnf)
    | ((with_reducible refine on_not (fun h => ?_) (fun h => ?_)) <;> conv => whnf)
    | ((with_reducible refine onBool_split (fun h => ?_) (fun h => ?_)) <;> conv => whnf)
    | ((with_reducible refine loop_go ?_); first | (refine loop3 (fun (k : Nat) (n : Nat) (acc : List UInt8) => c - k) (fun (k : Nat) (n : Nat) (acc : List UInt8) => k ≤ c ∧ acc.length = k ∧ n < 9223372036854775808 ∧ acc ++ Dw.leB n (c - k) = Dw.leB n0 c) (fun (k : Nat) (n : Nat) (acc : List UInt8) => [(0, .d (i n)), (1, .d (i c)), (5, .sl 0 0 acc.length 1 none), (6, .d (i k))]) (fun (k : Nat) (n : Nat) (acc : List UInt8) => [⟨acc.map byteV, 1, 0⟩]) (0) (n0) ([]) (by exact ⟨Nat.zero_le _, rfl, hn, rfl⟩) ?_ (fun k n acc C hI hC => ?_); (exact ⟨[.void 1], rfl, rfl, ⟨rfl, rfl, ⟨rfl, rfl, rfl, rfl⟩, rfl, trivial⟩, ⟨⟨rfl, rfl, (by decide), rfl⟩, trivial⟩⟩); all_goals (conv => whnf)))
    | ((with_reducible show C _ _); first | (refine hC (k + 1) (n / 256) (acc ++ [UInt8.ofNat (n % 256)]) _ _ ?_ (by omega) ?_; clear hC; rotate_left; (exact ⟨[.old 2], rfl, rfl, ⟨(by first | (show (_ : D) = _; with_reducible rfl) | exact congrArg (D.int .i64) (by omega) | exact congrArg (D.int .i64) (by simp only [List.length_map]) | exact rfl), (by first | (show (_ : D) = _; with_reducible rfl) | exact congrArg (D.int .i64) (by omega) | exact congrArg (D.int .i64) (by simp only [List.length_map]) | exact rfl), ⟨rfl, rfl, (by first | rfl | (simp only [List.length_append]; rfl)), rfl, rfl⟩, (by first | (show (_ : D) = _; with_reducible rfl) | exact congrArg (D.int .i64) (by omega) | exact congrArg (D.int .i64) (by simp only [List.length_map]) | exact rfl), trivial⟩, ⟨wkO_bytes (acc ++ [UInt8.ofNat (n % 256)]) rfl rfl rfl (by simp only [List.map_append, List.map_cons, List.map_nil, byteV_ofNat (Nat.mod_lt _ (by decide : 0 < 256))]; rfl) rfl, trivial⟩⟩); (exact ⟨by omega, by simp; omega, by omega, by rw [List.append_assoc, ← hI.2.2.2]; congr 1; rw [show c - k = (c - (k + 1)) + 1 by omega]; rfl⟩)))
    | (refine ⟨⟨(by first | rfl | (simp; done)), cap_ok (by simp only [List.length_map, List.length_cons, List.length_nil, List.length_append]; omega) rfl⟩, ?_⟩; conv => whnf)
    | (refine ⟨mem_one ⟨rfl, rfl⟩, ?_⟩; conv => whnf)
    | (refine ⟨(by intro y hy; obtain ⟨x, _, rfl⟩ := List.mem_map.1 hy; first | rfl | exact ⟨rfl, rfl⟩), ?_⟩; conv => whnf)
    | (refine ⟨cap_ok (by first | omega | (simp only [List.length_map]; omega)) rfl, ?_⟩; conv => whnf)
    | (refine ix_map (by omega) ?_; conv => whnf)
    | (refine ix_str (by omega) ?_; conv => whnf)
    | (refine wrap64 (by omega) ?_; conv => whnf)
    | (refine rem_256 ?_; conv => whnf)
    | (refine div_256 hI.2.2.1 ?_; conv => whnf)
    | (refine wrapU8 (by omega) ?_; conv => whnf)
    | (refine ⟨Nat.le_refl _, ?_⟩; conv => whnf)
    | (refine ⟨⟨(by simp only [List.length_map]; omega), cap_ok (by simp only [List.length_cons, List.length_nil]; omega) rfl⟩, ?_⟩; conv => whnf)
    | (refine ⟨acc, ⟨(by simp), (by rw [List.drop_zero]; exact List.take_of_length_le (by simp))⟩, ?_⟩; conv => whnf)
    | (exfalso; simp only [List.length_map, List.length_cons, List.length_nil, List.length_append] at h; omega)
    | ((with_reducible refine endx_go ?_); first | (exact endx (congrArg D.str (by rw [← hI.2.2.2, show c - k = 0 by omega]; simp [Dw.leB])); done))
    | (refine ⟨rfl, ?_⟩; conv => whnf)
    | fail
    )

end Go.Proofs.Ytolfkcmdfgakkaa

/-! Wy -/
namespace Go.Proofs.Ytolfkcmdfgakkaa
open Go Dw
set_option maxRecDepth 10000
set_option linter.unusedVariables false
set_option linter.unusedSimpArgs false
attribute [local irreducible] Run
set_option maxHeartbeats 4000000

/-- The number that bytes are, the lowest first. -/
def leN : List UInt8 → Nat
  | [] => 0
  | b :: l => b.toNat + 256 * leN l
theorem leN_lt : ∀ (l : List UInt8), leN l < 256 ^ l.length
  | [] => by simp [leN]
  | b :: l => by
    have h1 := leN_lt l
    have h2 := b.toNat_lt
    simp only [leN, List.length_cons, Nat.pow_succ]
    omega
def nAt (s : List UInt8) (a c : Nat) : Nat := leN ((s.drop a).take c)
theorem nAt_lt (s : List UInt8) (a c : Nat) : nAt s a c < 256 ^ c := by
  refine Nat.lt_of_lt_of_le (leN_lt _) (Nat.pow_le_pow_right (by omega) ?_)
  rw [List.length_take]; omega
theorem nAt_0 (s : List UInt8) (a : Nat) : nAt s a 0 = 0 := by unfold nAt; rw [List.take_zero]; rfl
theorem nAt_step {s : List UInt8} {a c : Nat} (h : a < s.length) : nAt s a (c + 1) = s[a].toNat + 256 * nAt s (a + 1) c := by
  unfold nAt
  rw [List.drop_eq_getElem_cons h, List.take_succ_cons]; rfl
theorem ix_stri {s : List UInt8} {n : Int} (k : Nat) (hn : n = k) {K : UInt8 → Prop} (h : k < s.length) (hk : K s[k]) : 0 ≤ n ∧ nthK s n.toNat K := by
  subst hn; exact ix_str h hk

theorem c82 (s : List UInt8) (a c : Nat) (hc : c ≤ 4) (h : a + c ≤ s.length) (hs : s.length < 1000000) : Fn 82 [.str s, i a, i c] (i (nAt s a c)) := by
  refine run_walkF eok Try.func82 rfl (by kernel_rfl) ?_
  conv => whnf
  repeat' (first
    | ((with_reducible refine on_dec_t (by assumption) ?_); conv => whnf)
    | ((with_reducible refine on_dec_f (by assumption) ?_); conv => whnf)
    | ((with_reducible refine onBool_t (by assumption) ?_); conv => whnf)
    | ((with_reducible refine onBool_f (by assumption) ?_); conv => whnf)
    | ((with_reducible refine on_nt (by assumption) ?_); conv => whnf)
    | ((with_reducible refine on_nf (by assumption) ?_); conv => whnf)
    | ((with_reducible refine on_ndec_t (by first | assumption | rfl) ?_); conv => whnf)
    | ((with_reducible refine on_ndec_f (by assumption) ?_); conv => whnf)
    | ((with_reducible refine on_dec_t rfl ?_); conv => whnf)
    | ((with_reducible refine on_dec_f ?_ ?_); (focus ((try simp only [List.length_map, List.length_cons, List.length_nil, List.length_append]); omega)); conv => whnf)
    | ((with_reducible refine on_dec_t ?_ ?_); (focus ((try simp only [List.length_map, List.length_cons, List.length_nil, List.length_append]); omega)); conv => whnf)
    | ((with_reducible refine on_dec (fun h => ?_) (fun h => ?_)) <;> (try simp only [List.length_map] at h) <;> conv => whnf)
    | ((with_reducible refine on_ndec (fun h => ?_) (fun h => ?_)) <;> (try simp only [List.length_map] at h) <;> conv => whnf)
    | ((with_reducible refine on_not (fun h => ?_) (fun h => ?_)) <;> conv => whnf)
    | ((with_reducible refine onBool_split (fun h => ?_) (fun h => ?_)) <;> conv => whnf)
    | ((with_reducible refine loop_go ?_); first | (refine loop1 (fun (k : Nat) => k) (fun (k : Nat) => k ≤ c) (fun (k : Nat) => [(0, .d (.str s)), (1, .d (i a)), (7, .d (i (nAt s (a + k) (c - k)))), (8, .d (i ((k : Int) - 1)))]) (fun (k : Nat) => []) (c) (by exact Nat.le_refl _) ?_ (fun k C hI hC => ?_); (exact ⟨[], rfl, rfl, ⟨(by first | (show (_ : D) = _; with_reducible rfl) | exact rfl), (by first | (show (_ : D) = _; with_reducible rfl) | exact congrArg (D.int .i64) (by omega) | exact congrArg (D.int .i64) (by simp only [List.length_map]) | exact rfl), (by refine congrArg (D.int .i64) ?_; rw [Nat.sub_self, nAt_0]; rfl), (by first | (show (_ : D) = _; with_reducible rfl) | exact congrArg (D.int .i64) (by omega) | exact congrArg (D.int .i64) (by simp only [List.length_map]) | exact rfl), trivial⟩, trivial⟩); all_goals (conv => whnf)))
    | ((with_reducible show C _ _); first | (refine hC (k - 1) _ _ ?_ (by omega) ?_; clear hC; rotate_left; (exact ⟨[], rfl, rfl, ⟨(by first | (show (_ : D) = _; with_reducible rfl) | exact rfl), (by first | (show (_ : D) = _; with_reducible rfl) | exact congrArg (D.int .i64) (by omega) | exact congrArg (D.int .i64) (by simp only [List.length_map]) | exact rfl), (by refine congrArg (D.int .i64) ?_; have e := nAt_step (s := s) (a := a + (k - 1)) (c := c - k) (by omega); rw [show a + (k - 1) + 1 = a + k by omega] at e; rw [show c - (k - 1) = c - k + 1 by omega, e]; omega), (by first | (show (_ : D) = _; with_reducible rfl) | exact congrArg (D.int .i64) (by omega) | exact congrArg (D.int .i64) (by simp only [List.length_map]) | exact rfl), trivial⟩, trivial⟩); (exact (by omega : k - 1 ≤ c))))
    | (refine ⟨⟨(by first | rfl | (simp; done)), cap_ok (by simp only [List.length_map, List.length_cons, List.length_nil, List.length_append]; omega) rfl⟩, ?_⟩; conv => whnf)
    | (refine ⟨mem_one ⟨rfl, rfl⟩, ?_⟩; conv => whnf)
    | (refine ⟨(by intro y hy; obtain ⟨x, _, rfl⟩ := List.mem_map.1 hy; first | rfl | exact ⟨rfl, rfl⟩), ?_⟩; conv => whnf)
    | (refine ⟨cap_ok (by first | omega | (simp only [List.length_map]; omega)) rfl, ?_⟩; conv => whnf)
    | (refine ix_map (by omega) ?_; conv => whnf)
    | (refine ix_str (by omega) ?_; conv => whnf)
    | (refine wrap64 (by omega) ?_; conv => whnf)
    | (refine wrap64 (by omega) ?_; conv => whnf)
    | (refine ix_stri (a + (k - 1)) (by omega) (by omega) ?_; conv => whnf)
    | (refine wrap64u8 ?_; conv => whnf)
    | (refine wrap64 (by have h1 := nAt_lt s (a + k) (c - k); have h2 : 256 ^ (c - k) ≤ 256 ^ 4 := Nat.pow_le_pow_right (by omega) (by omega); have h3 : (256 : Nat) ^ 4 = 4294967296 := rfl; have h4 := (s[a + (k - 1)]'(by omega)).toNat_lt; omega) ?_; conv => whnf)
    | (exfalso; simp only [List.length_map, List.length_cons, List.length_nil, List.length_append] at h; omega)
    | ((with_reducible refine endx_go ?_); first | (refine endx (congrArg i ?_); have hk : k = 0 := (by omega); subst hk; (rw [Nat.add_zero, Nat.sub_zero]) <;> rfl; done))
    | (refine ⟨rfl, ?_⟩; conv => whnf)
    | fail
    )

end Go.Proofs.Ytolfkcmdfgakkaa

/-! Pj -/
namespace Go.Proofs.Ytolfkcmdfgakkaa
open Go Dw
theorem leB_leN : ∀ (l : List UInt8), Dw.leB (leN l) l.length = l
  | [] => rfl
  | b :: l => by
    have h2 := b.toNat_lt
    simp only [leN, List.length_cons, Dw.leB]
    rw [show (b.toNat + 256 * leN l) % 256 = b.toNat by omega, show (b.toNat + 256 * leN l) / 256 = leN l by omega, leB_leN l]
    simp
theorem leN_leB : ∀ (k n : Nat), leN (Dw.leB n k) = n % 256 ^ k
  | 0, n => by simp [Dw.leB, leN, Nat.mod_one]
  | k + 1, n => by
    simp only [Dw.leB, leN, leN_leB k, Nat.pow_succ]
    have : (UInt8.ofNat (n % 256)).toNat = n % 256 := by simp [UInt8.toNat_ofNat']
    rw [this, Nat.mul_comm (256 ^ k) 256, Nat.mod_mul]
theorem leB_nAt {s : List UInt8} {a c : Nat} (h : a + c ≤ s.length) : Dw.leB (nAt s a c) c = (s.drop a).take c := by
  have e : ((s.drop a).take c).length = c := by rw [List.length_take, List.length_drop]; omega
  have := leB_leN ((s.drop a).take c)
  rw [e] at this
  exact this
theorem nAt_win {s : List UInt8} {a m i c : Nat} (h : i + c ≤ m) : nAt ((s.drop a).take m) i c = nAt s (a + i) c := by
  unfold nAt
  rw [List.drop_take, List.drop_drop, List.take_take, Nat.min_eq_left (by omega)]

/-- The bytes of an owner, of a quota. -/
def encO (o : Own) : List UInt8 := Dw.leB o.who.toNat 4 ++ Dw.leB o.used.toNat 4 ++ Dw.leB (o.warn + 1).toNat 4 ++ Dw.leB (o.lim + 1).toNat 4 ++ Dw.leB o.ref.toNat 2
def bitB (b : Bool) : Nat := if b then 1 else 0
def encQ (x : Quo) : List UInt8 := Dw.leB (bitB x.enf) 1 ++ Dw.leB x.os.length 1 ++ x.os.flatMap encO
def ownAt (s : List UInt8) (a : Nat) : Own := ⟨nAt s a 4, nAt s (a + 4) 4, (nAt s (a + 8) 4 : Int) - 1, (nAt s (a + 12) 4 : Int) - 1, nAt s (a + 16) 2⟩
theorem encO_len (o : Own) : (encO o).length = 18 := by simp [encO, Dw.leB_length]
theorem encs_len : ∀ (l : List Own), (l.flatMap encO).length = 18 * l.length
  | [] => rfl
  | o :: l => by rw [List.flatMap_cons, List.length_append, encs_len l, encO_len, List.length_cons]; omega
theorem encQ_len (x : Quo) : (encQ x).length = 2 + 18 * x.os.length := by
  simp only [encQ, List.length_append, Dw.leB_length, encs_len]
theorem encO_ownAt {s : List UInt8} {a : Nat} (h : a + 18 ≤ s.length) : encO (ownAt s a) = (s.drop a).take 18 := by
  have e : ∀ n : Nat, ((n : Int) - 1 + 1).toNat = n := fun n => by omega
  simp only [encO, ownAt, e, Int.toNat_natCast]
  rw [leB_nAt (by omega), leB_nAt (by omega), leB_nAt (by omega), leB_nAt (by omega), leB_nAt (by omega)]
  have k : ∀ m c, m + c ≤ 18 → (s.drop a).take m ++ (s.drop (a + m)).take c = (s.drop a).take (m + c) := fun m c _ => by rw [List.take_add, List.drop_drop]
  rw [k 4 4 (by omega), k 8 4 (by omega), k 12 4 (by omega), k 16 2 (by omega)]
theorem wins_app (s : List UInt8) (a : Nat) : ∀ (n : Nat), (List.range n).flatMap (fun k => (s.drop (a + 18 * k)).take 18) = (s.drop a).take (18 * n)
  | 0 => by simp
  | n + 1 => by
    rw [List.range_succ, List.flatMap_append, wins_app s a n]
    simp only [List.flatMap_cons, List.flatMap_nil, List.append_nil]
    rw [show 18 * (n + 1) = 18 * n + 18 by omega, List.take_add, List.drop_drop]
def byAt (s : List UInt8) (k : Nat) : Nat := nAt s k 1
theorem byAt_eq {s : List UInt8} {k : Nat} (h : k < s.length) : byAt s k = s[k].toNat := by
  unfold byAt nAt
  rw [List.drop_eq_getElem_cons h, List.take_succ_cons]
  simp [leN]
def ownsAt (s : List UInt8) (n : Nat) : List Own := (List.range n).map fun k => ownAt s (2 + 18 * k)
theorem enc_owns {s : List UInt8} {n : Nat} (h : s.length = 2 + 18 * n) : (ownsAt s n).flatMap encO = s.drop 2 := by
  unfold ownsAt
  rw [List.flatMap_map]
  have := wins_app s 2 n
  rw [List.take_of_length_le (by rw [List.length_drop]; omega)] at this
  rw [← this, List.flatMap_def, List.flatMap_def]
  congr 1
  apply List.map_congr_left
  intro k hk
  rw [List.mem_range] at hk
  exact encO_ownAt (by omega)
/-- What was accepted is written as it was. -/
theorem enc_dec {s : List UInt8} {n : Nat} {b : Bool} (h : s.length = 2 + 18 * n) (hn : n = byAt s 1) (hb : byAt s 0 ≤ 1) (e : b = decide (byAt s 0 = 1)) : encQ ⟨ownsAt s n, b⟩ = s := by
  have hl : (ownsAt s n).length = n := by simp [ownsAt]
  have hb2 : bitB b = byAt s 0 := by
    subst e; unfold bitB
    by_cases h : byAt s 0 = 1
    · simp [h]
    · simp [h]; omega
  simp only [encQ, hl, hb2, enc_owns h]
  have e1 : Dw.leB n 1 = (s.drop 1).take 1 := by rw [hn]; exact leB_nAt (by omega)
  have e0 : Dw.leB (byAt s 0) 1 = (s.drop 0).take 1 := leB_nAt (by omega)
  rw [e1, e0, List.drop_zero]
  conv => rhs; rw [← List.take_append_drop 2 s, show 2 = 1 + 1 by rfl, List.take_add]
theorem drop_enc : ∀ (l : List Own) (k : Nat) (h : k < l.length), ((l.flatMap encO).drop (18 * k)).take 18 = encO l[k]
  | o :: l, 0, h => by
    rw [Nat.mul_zero, List.drop_zero, List.flatMap_cons, List.take_append_of_le_length (by rw [encO_len]; omega), List.take_of_length_le (by rw [encO_len]; omega)]; rfl
  | o :: l, k + 1, h => by
    rw [List.flatMap_cons, show 18 * (k + 1) = (encO o).length + 18 * k by rw [encO_len]; omega, ← List.drop_drop, List.drop_left']
    · exact drop_enc l k (by simpa using h)
    · rfl
def okO (o : Own) : Prop := (0 ≤ o.who ∧ o.who ≤ 2147483647) ∧ (0 ≤ o.used ∧ o.used ≤ 2147483647) ∧ (-1 ≤ o.warn ∧ o.warn ≤ 2147483646) ∧ (-1 ≤ o.lim ∧ o.lim ≤ 2147483646) ∧ 0 ≤ o.ref ∧ o.ref ≤ 65535
theorem ownAt_enc {o : Own} (h : okO o) : ownAt (encO o) 0 = o := by
  obtain ⟨w, u, a, b, r⟩ := o
  obtain ⟨h1, h2, h3, h4, h5⟩ := h
  simp only at h1 h2 h3 h4 h5
  have key : ∀ (p m q : List UInt8) (i c n : Nat), p.length = i → m = Dw.leB n c → n < 256 ^ c → nAt (p ++ m ++ q) i c = n := by
    intro p m q i c n hp hm hn
    unfold nAt
    rw [List.append_assoc, ← hp, List.drop_left' rfl, hm]
    rw [List.take_append_of_le_length (by rw [Dw.leB_length]; omega), List.take_of_length_le (by rw [Dw.leB_length]; omega), leN_leB, Nat.mod_eq_of_lt hn]
  have p4 : (256 : Nat) ^ 4 = 4294967296 := rfl
  have p2 : (256 : Nat) ^ 2 = 65536 := rfl
  simp only [ownAt, encO, Own.mk.injEq, Nat.zero_add]
  refine ⟨?_, ?_, ?_, ?_, ?_⟩
  · have := key [] (Dw.leB w.toNat 4) (Dw.leB u.toNat 4 ++ Dw.leB (a + 1).toNat 4 ++ Dw.leB (b + 1).toNat 4 ++ Dw.leB r.toNat 2) 0 4 w.toNat rfl rfl (by omega)
    simp only [List.nil_append, List.append_assoc] at this ⊢
    rw [this]; omega
  · have := key (Dw.leB w.toNat 4) (Dw.leB u.toNat 4) (Dw.leB (a + 1).toNat 4 ++ Dw.leB (b + 1).toNat 4 ++ Dw.leB r.toNat 2) 4 4 u.toNat (Dw.leB_length _ _) rfl (by omega)
    simp only [List.append_assoc] at this ⊢
    rw [this]; omega
  · have := key (Dw.leB w.toNat 4 ++ Dw.leB u.toNat 4) (Dw.leB (a + 1).toNat 4) (Dw.leB (b + 1).toNat 4 ++ Dw.leB r.toNat 2) 8 4 (a + 1).toNat (by simp [Dw.leB_length]) rfl (by omega)
    simp only [List.append_assoc] at this ⊢
    rw [this]; omega
  · have := key (Dw.leB w.toNat 4 ++ Dw.leB u.toNat 4 ++ Dw.leB (a + 1).toNat 4) (Dw.leB (b + 1).toNat 4) (Dw.leB r.toNat 2) 12 4 (b + 1).toNat (by simp [Dw.leB_length]) rfl (by omega)
    simp only [List.append_assoc] at this ⊢
    rw [this]; omega
  · have := key (Dw.leB w.toNat 4 ++ Dw.leB u.toNat 4 ++ Dw.leB (a + 1).toNat 4 ++ Dw.leB (b + 1).toNat 4) (Dw.leB r.toNat 2) [] 16 2 r.toNat (by simp [Dw.leB_length]) rfl (by omega)
    simp only [List.append_assoc, List.append_nil] at this ⊢
    rw [this]; omega
theorem ownAt_win (s : List UInt8) (a : Nat) : ownAt ((s.drop a).take 18) 0 = ownAt s a := by
  simp only [ownAt, Nat.zero_add]
  rw [nAt_win (by omega), nAt_win (by omega), nAt_win (by omega), nAt_win (by omega), nAt_win (by omega)]
  rfl
theorem encQ_drop (x : Quo) : (encQ x).drop 2 = x.os.flatMap encO := by
  unfold encQ
  exact List.drop_left' (by simp [Dw.leB_length])
theorem owns_enc {x : Quo} (h : ∀ o ∈ x.os, okO o) : ownsAt (encQ x) x.os.length = x.os := by
  apply List.ext_getElem (by simp [ownsAt])
  intro k h1 h2
  simp only [ownsAt, List.getElem_map, List.getElem_range]
  rw [← ownAt_win, ← List.drop_drop, encQ_drop, drop_enc _ k h2]
  exact ownAt_enc (h _ (List.getElem_mem _))
theorem by_enc {x : Quo} (h : x.os.length ≤ 30) : byAt (encQ x) 0 = bitB x.enf ∧ byAt (encQ x) 1 = x.os.length := by
  have hb : bitB x.enf ≤ 1 := by unfold bitB; split <;> omega
  constructor
  · unfold byAt nAt encQ
    rw [List.drop_zero, List.append_assoc, List.take_append_of_le_length (by rw [Dw.leB_length]; omega), List.take_of_length_le (by rw [Dw.leB_length]; omega), leN_leB]
    omega
  · unfold byAt nAt encQ
    rw [List.append_assoc, List.drop_left' (Dw.leB_length _ _), List.take_append_of_le_length (by rw [Dw.leB_length]; omega), List.take_of_length_le (by rw [Dw.leB_length]; omega), leN_leB]
    omega
end Go.Proofs.Ytolfkcmdfgakkaa

/-! Wz -/
namespace Go.Proofs.Ytolfkcmdfgakkaa
open Go Dw
set_option maxRecDepth 10000
set_option linter.unusedVariables false
set_option linter.unusedSimpArgs false
attribute [local irreducible] Run
set_option maxHeartbeats 4000000

abbrev u8 (b : UInt8) : D := .int .u8 b.toNat
theorem or_add {a b n : Nat} (ha : a < 2 ^ n) : a ||| b * 2 ^ n = a + b * 2 ^ n := by
  have := Nat.two_pow_add_eq_or_of_lt ha b
  rw [Nat.or_comm, Nat.mul_comm b, ← this, Nat.add_comm]
theorem or_u16 {a b : Nat} {x y : Int} {K : Int → Prop} (ha : a < 256) (hb : b < 256) (hx : x = a) (hy : y = (b : Int) * 256) (hk : K ((a + 256 * b : Nat) : Int)) : bitK .or .u16 x y K := by
  refine bit_raw ?_
  have e : bitsOf .or .u16 x y = ((a + 256 * b : Nat) : Int) := by
    subst hx
    have hy2 : y = ((b * 256 : Nat) : Int) := by omega
    subst hy2
    have e1 : (BitVec.ofInt 16 (a : Int)).toNat = a := by rw [BitVec.toNat_ofInt]; omega
    have e2 : (BitVec.ofInt 16 ((b * 256 : Nat) : Int)).toNat = b * 256 := by rw [BitVec.toNat_ofInt]; omega
    show IntKind.u16.wrap (((BitVec.ofInt 16 (a : Int)) ||| (BitVec.ofInt 16 ((b * 256 : Nat) : Int))).toNat : Int) = _
    rw [BitVec.toNat_or, e1, e2, or_add (n := 8) ha]
    simp only [IntKind.wrap, IntKind.bits, IntKind.signed, Bool.false_and, Bool.false_eq_true, if_false]; omega
  rw [e]; exact hk
theorem or_u32 {a b : Nat} {x y : Int} {K : Int → Prop} (ha : a < 65536) (hb : b < 65536) (hx : x = a) (hy : y = (b : Int) * 65536) (hk : K ((a + 65536 * b : Nat) : Int)) : bitK .or .u32 x y K := by
  refine bit_raw ?_
  have e : bitsOf .or .u32 x y = ((a + 65536 * b : Nat) : Int) := by
    subst hx
    have hy2 : y = ((b * 65536 : Nat) : Int) := by omega
    subst hy2
    have e1 : (BitVec.ofInt 32 (a : Int)).toNat = a := by rw [BitVec.toNat_ofInt]; omega
    have e2 : (BitVec.ofInt 32 ((b * 65536 : Nat) : Int)).toNat = b * 65536 := by rw [BitVec.toNat_ofInt]; omega
    show IntKind.u32.wrap (((BitVec.ofInt 32 (a : Int)) ||| (BitVec.ofInt 32 ((b * 65536 : Nat) : Int))).toNat : Int) = _
    rw [BitVec.toNat_or, e1, e2, or_add (n := 16) ha]
    simp only [IntKind.wrap, IntKind.bits, IntKind.signed, Bool.false_and, Bool.false_eq_true, if_false]; omega
  rw [e]; exact hk
theorem leN_app : ∀ (a b : List UInt8), leN (a ++ b) = leN a + 256 ^ a.length * leN b
  | [], b => by simp [leN]
  | x :: a, b => by
    simp only [List.cons_append, leN, leN_app a b, List.length_cons, Nat.pow_succ, Nat.mul_add]
    rw [Nat.mul_comm (256 ^ a.length) 256, Nat.mul_assoc, Nat.add_assoc]
theorem nAt_add {s : List UInt8} {a m n : Nat} (h : a + m ≤ s.length) : nAt s a (m + n) = nAt s a m + 256 ^ m * nAt s (a + m) n := by
  unfold nAt
  rw [List.take_add, leN_app, List.drop_drop, List.length_take, List.length_drop, Nat.min_eq_left (by omega)]
theorem nAt_1 {s : List UInt8} {a : Nat} (h : a < s.length) : nAt s a 1 = s[a].toNat := byAt_eq h
theorem nAt_2 {s : List UInt8} (h : 2 ≤ s.length) : nAt s 0 2 = (s[0]'(by omega)).toNat + 256 * (s[1]'(by omega)).toNat := by
  rw [show 2 = 1 + 1 by rfl, nAt_add (by omega), nAt_1 (by omega), nAt_1 (by omega)]
theorem nAt_sl {s : List UInt8} {a c n : Nat} (hn : n = s.length) : nAt ((s.take n).drop a) 0 c = nAt s a c := by
  subst hn
  unfold nAt
  rw [List.take_length, List.drop_zero]
theorem nAt_4 {s : List UInt8} (h : 4 ≤ s.length) : nAt s 0 4 = nAt s 0 2 + 65536 * nAt ((s.take s.length).drop 2) 0 2 := by
  rw [nAt_sl rfl, show 4 = 2 + 2 by rfl, nAt_add (by omega)]
theorem nAt_lt2 (s : List UInt8) (a : Nat) : nAt s a 2 < 65536 := nAt_lt s a 2
theorem nAt_lt4 (s : List UInt8) (a : Nat) : nAt s a 4 < 4294967296 := nAt_lt s a 4
attribute [local irreducible] nAt

theorem c81 (w : List UInt8) (h : 2 ≤ w.length) : Fn 81 [.fs (w.map u8)] (.int .u16 (nAt w 0 2)) := by
  refine run_walkF eok Try.func81 rfl (by kernel_rfl) ?_
  conv => whnf
  repeat' (first
    | ((with_reducible refine on_dec_f ?_ ?_); (focus ((try simp only [List.length_map, List.length_cons, List.length_nil, List.length_append]); omega)); conv => whnf)
    | ((with_reducible refine on_dec_t ?_ ?_); (focus ((try simp only [List.length_map, List.length_cons, List.length_nil, List.length_append]); omega)); conv => whnf)
    | ((with_reducible refine on_dec (fun h => ?_) (fun h => ?_)) <;> (try simp only [List.length_map] at h) <;> conv => whnf)
    | ((with_reducible refine on_ndec (fun h => ?_) (fun h => ?_)) <;> (try simp only [List.length_map] at h) <;> conv => whnf)
    | ((with_reducible refine on_not (fun h => ?_) (fun h => ?_)) <;> conv => whnf)
    | ((with_reducible refine onBool_split (fun h => ?_) (fun h => ?_)) <;> conv => whnf)
    | (refine ⟨[], [], (by decide +kernel), ?_⟩; conv => whnf)
    | (refine ⟨⟨(by first | rfl | (simp; done)), cap_ok (by simp only [List.length_map, List.length_cons, List.length_nil, List.length_append]; omega) rfl⟩, ?_⟩; conv => whnf)
    | (refine ⟨mem_one ⟨rfl, rfl⟩, ?_⟩; conv => whnf)
    | (refine ⟨(by intro y hy; obtain ⟨x, _, rfl⟩ := List.mem_map.1 hy; first | rfl | exact ⟨rfl, rfl⟩), ?_⟩; conv => whnf)
    | (refine ⟨cap_ok (by first | omega | (simp only [List.length_map]; omega)) rfl, ?_⟩; conv => whnf)
    | (refine ix_map (by omega) ?_; conv => whnf)
    | (refine ix_str (by omega) ?_; conv => whnf)
    | (refine wrap64 (by omega) ?_; conv => whnf)
    | (refine ix_at (f := u8) (l := w) 0 rfl (by omega) ?_; conv => whnf)
    | (refine ix_at (f := u8) (l := w) 1 rfl (by omega) ?_; conv => whnf)
    | (refine wrapU16 (by have h0 := (w[0]'(by omega)).toNat_lt; have h1 := (w[1]'(by omega)).toNat_lt; omega) ?_; conv => whnf)
    | (refine shl_at 256 rfl rfl ?_; conv => whnf)
    | (refine or_u16 (w[0]'(by omega)).toNat_lt (w[1]'(by omega)).toNat_lt rfl rfl ?_; conv => whnf)
    | (exfalso; simp only [List.length_map, List.length_cons, List.length_nil, List.length_append] at h; omega)
    | ((with_reducible refine endx_go ?_); first | (exact endx (congrArg (D.int .u16) (by rw [nAt_2 h])); done))
    | (refine ⟨rfl, ?_⟩; conv => whnf)
    | fail
    )

theorem c80 (w : List UInt8) (h : 4 ≤ w.length) (hw : w.length < 1000000) : Fn 80 [.fs (w.map u8)] (.int .u32 (nAt w 0 4)) := by
  refine run_walkF eok Try.func80 rfl (by kernel_rfl) ?_
  conv => whnf
  repeat' (first
    | ((with_reducible refine on_dec_f ?_ ?_); (focus ((try simp only [List.length_map, List.length_cons, List.length_nil, List.length_append]); omega)); conv => whnf)
    | ((with_reducible refine on_dec_t ?_ ?_); (focus ((try simp only [List.length_map, List.length_cons, List.length_nil, List.length_append]); omega)); conv => whnf)
    | ((with_reducible refine on_dec (fun h => ?_) (fun h => ?_)) <;> (try simp only [List.length_map] at h) <;> conv => whnf)
    | ((with_reducible refine on_ndec (fun h => ?_) (fun h => ?_)) <;> (try simp only [List.length_map] at h) <;> conv => whnf)
    | ((with_reducible refine on_not (fun h => ?_) (fun h => ?_)) <;> conv => whnf)
    | ((with_reducible refine onBool_split (fun h => ?_) (fun h => ?_)) <;> conv => whnf)
    | ((with_reducible refine call_go ?_); (first | refine call_step (run_data (xs := [_]) (c81 w (by omega)) _) ?_ | refine call_step (run_data (xs := [_]) (c81 ((w.take w.length).drop 2) (by rw [List.length_drop, List.length_take]; omega)) _) ?_); conv => whnf)
    | (refine ⟨[], [], (by decide +kernel), ?_⟩; conv => whnf)
    | (refine ⟨⟨(by first | rfl | (simp; done)), cap_ok (by simp only [List.length_map, List.length_cons, List.length_nil, List.length_append]; omega) rfl⟩, ?_⟩; conv => whnf)
    | (refine ⟨mem_one ⟨rfl, rfl⟩, ?_⟩; conv => whnf)
    | (refine ⟨(by intro y hy; obtain ⟨x, _, rfl⟩ := List.mem_map.1 hy; first | rfl | exact ⟨rfl, rfl⟩), ?_⟩; conv => whnf)
    | (refine ⟨cap_ok (by first | omega | (simp only [List.length_map]; omega)) rfl, ?_⟩; conv => whnf)
    | (refine ix_map (by omega) ?_; conv => whnf)
    | (refine ix_str (by omega) ?_; conv => whnf)
    | (refine wrap64 (by omega) ?_; conv => whnf)
    | (refine sl_map (f := u8) (l := w) 2 w.length rfl (by simp) ⟨by omega, Nat.le_refl _⟩ (fun x => rfl) ?_; conv => whnf)
    | (refine wrapU32 (by have h0 := nAt_lt2 w 0; have h1 := nAt_lt2 ((w.take w.length).drop 2) 0; omega) ?_; conv => whnf)
    | (refine shl_at 65536 rfl rfl ?_; conv => whnf)
    | (refine or_u32 (nAt_lt2 w 0) (nAt_lt2 ((w.take w.length).drop 2) 0) rfl rfl ?_; conv => whnf)
    | (exfalso; simp only [List.length_map, List.length_cons, List.length_nil, List.length_append] at h; omega)
    | ((with_reducible refine endx_go ?_); first | (exact endx (congrArg (D.int .u32) (by rw [nAt_4 h])); done))
    | (refine ⟨rfl, ?_⟩; conv => whnf)
    | fail
    )

theorem c79 (w : List UInt8) (k : Nat) (h : 4 * k + 4 ≤ w.length) (hw : w.length < 1000000) : Fn 79 [i k, .fp (.fs (w.map u8)) 0] (i (nAt w (4 * k) 4)) := by
  refine run_walkF eok Try.func79 rfl (by kernel_rfl) ?_
  conv => whnf
  repeat' (first
    | ((with_reducible refine on_dec_f ?_ ?_); (focus ((try simp only [List.length_map, List.length_cons, List.length_nil, List.length_append]); omega)); conv => whnf)
    | ((with_reducible refine on_dec_t ?_ ?_); (focus ((try simp only [List.length_map, List.length_cons, List.length_nil, List.length_append]); omega)); conv => whnf)
    | ((with_reducible refine on_dec (fun h => ?_) (fun h => ?_)) <;> (try simp only [List.length_map] at h) <;> conv => whnf)
    | ((with_reducible refine on_ndec (fun h => ?_) (fun h => ?_)) <;> (try simp only [List.length_map] at h) <;> conv => whnf)
    | ((with_reducible refine on_not (fun h => ?_) (fun h => ?_)) <;> conv => whnf)
    | ((with_reducible refine onBool_split (fun h => ?_) (fun h => ?_)) <;> conv => whnf)
    | ((with_reducible refine call_go ?_); (first | refine call_step (run_data (xs := [_]) (c80 ((w.take w.length).drop (4 * k)) (by rw [List.length_drop, List.length_take]; omega) (by rw [List.length_drop, List.length_take]; omega)) _) ?_); conv => whnf)
    | (refine ⟨⟨(by first | rfl | (simp; done)), cap_ok (by simp only [List.length_map, List.length_cons, List.length_nil, List.length_append]; omega) rfl⟩, ?_⟩; conv => whnf)
    | (refine ⟨mem_one ⟨rfl, rfl⟩, ?_⟩; conv => whnf)
    | (refine ⟨(by intro y hy; obtain ⟨x, _, rfl⟩ := List.mem_map.1 hy; first | rfl | exact ⟨rfl, rfl⟩), ?_⟩; conv => whnf)
    | (refine ⟨cap_ok (by first | omega | (simp only [List.length_map]; omega)) rfl, ?_⟩; conv => whnf)
    | (refine ix_map (by omega) ?_; conv => whnf)
    | (refine ix_str (by omega) ?_; conv => whnf)
    | (refine wrap64 (by omega) ?_; conv => whnf)
    | (refine wrap64 (by omega) ?_; conv => whnf)
    | (refine sl_map (f := u8) (l := w) (4 * k) w.length (by omega) (by simp) ⟨by omega, Nat.le_refl _⟩ (fun x => rfl) ?_; conv => whnf)
    | (refine wrap64 (by have h0 := nAt_lt4 ((w.take w.length).drop (4 * k)) 0; omega) ?_; conv => whnf)
    | (exfalso; simp only [List.length_map, List.length_cons, List.length_nil, List.length_append] at h; omega)
    | ((with_reducible refine endx_go ?_); first | (exact endx (congrArg i (by rw [nAt_sl rfl])); done))
    | (refine ⟨rfl, ?_⟩; conv => whnf)
    | fail
    )

def winG (b : List UInt8) (k : Nat) : List D := [.fs (((b.drop (18 * k)).take 18).map u8)]
theorem win_eq {b : List UInt8} {k : Nat} {x y : Int} (hx : x = (18 * k : Nat)) (hy : y = (18 * k + 18 : Nat)) : winG b k = [.fs (((b.map u8).take y.toNat).drop x.toNat)] := by
  subst hx; subst hy
  unfold winG
  rw [Int.toNat_natCast, Int.toNat_natCast, ← List.map_take, ← List.map_drop, List.drop_take, Nat.add_sub_cancel_left]
theorem min18 {x : Int} (h : 18 ≤ x) : goMin 18 x = 18 := by unfold goMin; split <;> omega
theorem wrap_to {x : Int} {K : Int → Prop} (y : Int) (e : x = y) (h : -9223372036854775808 ≤ y ∧ y ≤ 9223372036854775807) (hk : K y) : wrapK .i64 x K := by
  subst e; exact wrap64 h hk
attribute [local irreducible] goMin winG

theorem c78 (b : List UInt8) : Run Try.prog 78 [.d (.fs (b.map u8)), .d (i 18)] [] (.d (.fn 97 [] [.fp (.fs (b.map u8)) 0, .fp (i 18) 0])) [] := by
  refine run_walkF eok Try.func78 rfl (by kernel_rfl) ?_
  conv => whnf
  repeat' (first
    | ((with_reducible refine on_dec_f ?_ ?_); (focus ((try simp only [List.length_map, List.length_cons, List.length_nil, List.length_append]); omega)); conv => whnf)
    | ((with_reducible refine on_dec_t ?_ ?_); (focus ((try simp only [List.length_map, List.length_cons, List.length_nil, List.length_append]); omega)); conv => whnf)
    | ((with_reducible refine on_dec (fun h => ?_) (fun h => ?_)) <;> (try simp only [List.length_map] at h) <;> conv => whnf)
    | ((with_reducible refine on_ndec (fun h => ?_) (fun h => ?_)) <;> (try simp only [List.length_map] at h) <;> conv => whnf)
    | ((with_reducible refine on_not (fun h => ?_) (fun h => ?_)) <;> conv => whnf)
    | ((with_reducible refine onBool_split (fun h => ?_) (fun h => ?_)) <;> conv => whnf)
    | (refine ⟨⟨(by first | rfl | (simp; done)), cap_ok (by simp only [List.length_map, List.length_cons, List.length_nil, List.length_append]; omega) rfl⟩, ?_⟩; conv => whnf)
    | (refine ⟨mem_one ⟨rfl, rfl⟩, ?_⟩; conv => whnf)
    | (refine ⟨(by intro y hy; obtain ⟨x, _, rfl⟩ := List.mem_map.1 hy; first | rfl | exact ⟨rfl, rfl⟩), ?_⟩; conv => whnf)
    | (refine ⟨cap_ok (by first | omega | (simp only [List.length_map]; omega)) rfl, ?_⟩; conv => whnf)
    | (refine ix_map (by omega) ?_; conv => whnf)
    | (refine ix_str (by omega) ?_; conv => whnf)
    | (refine wrap64 (by omega) ?_; conv => whnf)
    | (exfalso; simp only [List.length_map, List.length_cons, List.length_nil, List.length_append] at h; omega)
    | ((with_reducible refine endx_go ?_); first | (exact endxv rfl rfl; done))
    | (refine ⟨rfl, ?_⟩; conv => whnf)
    | fail
    )

theorem it97 (b : List UInt8) (n : Nat) (hb : b.length = 18 * n) (hl : b.length < 1000000) : IterR Try.prog 97 [] [.fp (.fs (b.map u8)) 0, .fp (i 18) 0] ((List.range n).map (winG b)) := by
  refine iter_rg eok Try.func97 rfl (by kernel_rfl) (fun s ll hs => ?_)
  conv => whnf
  repeat' (first
    | ((with_reducible refine on_dec_f ?_ ?_); (focus ((try simp only [List.length_map, List.length_cons, List.length_nil, List.length_append]); omega)); conv => whnf)
    | ((with_reducible refine on_dec_t ?_ ?_); (focus ((try simp only [List.length_map, List.length_cons, List.length_nil, List.length_append]); omega)); conv => whnf)
    | ((with_reducible refine on_dec (fun h => ?_) (fun h => ?_)) <;> (try simp only [List.length_map] at h) <;> conv => whnf)
    | ((with_reducible refine on_ndec (fun h => ?_) (fun h => ?_)) <;> (try simp only [List.length_map] at h) <;> conv => whnf)
    | ((with_reducible refine on_not (fun h => ?_) (fun h => ?_)) <;> conv => whnf)
    | ((with_reducible refine onBool_split (fun h => ?_) (fun h => ?_)) <;> conv => whnf)
    | (refine ⟨[], [], (by decide +kernel), ?_⟩; conv => whnf)
    | ((with_reducible refine loop_go ?_); first | (refine loop1 (fun (k : Nat) => n - k) (fun (k : Nat) => k ≤ n ∧ k ≤ s) (fun (k : Nat) => [(0, .raw (.func (.yield ll) #[] #[])), (1, .d (.fp (.fs (b.map u8)) 0)), (2, .d (.fp (i 18) 0)), (4, .d (i (18 * k : Nat)))]) (fun (k : Nat) => [trO k]) (0) (by exact ⟨Nat.zero_le _, Nat.zero_le _⟩) ?_ (fun k C hI hC => ?_); (exact ⟨[.old 0], rfl, rfl, ⟨(by exact rfl), (by first | (show (_ : D) = _; with_reducible rfl) | exact rfl), (by first | (show (_ : D) = _; with_reducible rfl) | exact rfl), (by first | (show (_ : D) = _; with_reducible rfl) | exact congrArg (D.int .i64) (by omega) | exact congrArg (D.int .i64) (by simp only [List.length_map]) | exact rfl), trivial⟩, ⟨trO_same _, trivial⟩⟩); all_goals (conv => whnf)))
    | ((with_reducible show C _ _); first | (refine hC (k + 1) _ _ ?_ (by omega) ?_; clear hC; rotate_left; (exact ⟨[.old 0], rfl, rfl, ⟨(by exact rfl), (by first | (show (_ : D) = _; with_reducible rfl) | exact rfl), (by first | (show (_ : D) = _; with_reducible rfl) | exact rfl), (by first | (show (_ : D) = _; with_reducible rfl) | exact congrArg (D.int .i64) (by omega) | exact congrArg (D.int .i64) (by simp only [List.length_map]) | exact rfl), trivial⟩, ⟨trO_same _, trivial⟩⟩); (exact ⟨by omega, by omega⟩)))
    | (refine ⟨⟨(by first | rfl | (simp; done)), cap_ok (by simp only [List.length_map, List.length_cons, List.length_nil, List.length_append]; omega) rfl⟩, ?_⟩; conv => whnf)
    | (refine ⟨mem_one ⟨rfl, rfl⟩, ?_⟩; conv => whnf)
    | (refine ⟨(by intro y hy; obtain ⟨x, _, rfl⟩ := List.mem_map.1 hy; first | rfl | exact ⟨rfl, rfl⟩), ?_⟩; conv => whnf)
    | (refine ⟨cap_ok (by first | omega | (simp only [List.length_map]; omega)) rfl, ?_⟩; conv => whnf)
    | (refine ix_map (by omega) ?_; conv => whnf)
    | (refine ix_str (by omega) ?_; conv => whnf)
    | (refine wrap64 (by omega) ?_; conv => whnf)
    | ((with_reducible refine yield_go ?_); (refine yield_rg1 (i := k) (by omega) (by (try simp only [List.length_map] at *); omega) (win_eq rfl (by omega)) ?_); conv => whnf)
    | (refine sl_map (f := u8) (l := b) (18 * k) b.length (by omega) (by simp) ⟨by ((try simp only [List.length_map] at *); omega), Nat.le_refl _⟩ (fun x => rfl) ?_; conv => whnf)
    | (refine wrap_to ((18 * k + 18 : Nat) : Int) (by rw [min18 (by simp only [List.length_map, List.length_drop, List.length_take]; (try simp only [List.length_map] at *); omega)]; omega) (by omega) ?_; conv => whnf)
    | (refine wrap_to ((18 * (k + 1) : Nat) : Int) (by omega) (by omega) ?_; conv => whnf)
    | (refine ⟨⟨by omega, by omega, by omega, by ((try simp only [List.length_map] at *); omega), fun y hy => (by obtain ⟨x, _, rfl⟩ := List.mem_map.1 hy; rfl)⟩, ?_⟩; conv => whnf)
    | (exfalso; simp only [List.length_map, List.length_cons, List.length_nil, List.length_append] at h; omega)
    | ((with_reducible refine endx_go ?_); first | (exact endx_tr (by first | omega | ((try simp only [List.length_map] at *); omega)); done))
    | (refine ⟨rfl, ?_⟩; conv => whnf)
    | fail
    )

end Go.Proofs.Ytolfkcmdfgakkaa

/-! Xa -/
namespace Go.Proofs.Ytolfkcmdfgakkaa
open Go Dw
set_option maxRecDepth 10000
set_option linter.unusedVariables false
set_option linter.unusedSimpArgs false
attribute [local irreducible] Run
set_option maxHeartbeats 4000000

/-- The quota that bytes are, or the error. -/
def decQ (s : Bs) : Quo := ⟨ownsAt s (byAt s 1), decide (byAt s 0 = 1)⟩
def decR (s : Bs) : Quo × Int :=
  if s.length < 2 then (emp, 37) else if 30 < byAt s 1 then (emp, 8) else if s.length < 2 + 18 * byAt s 1 then (emp, 37) else if 1 < byAt s 0 ∨ 2 + 18 * byAt s 1 < s.length then (emp, 3)
  else if (checkQ (decQ s)).2 = 0 then (decQ s, 0) else (emp, (checkQ (decQ s)).2)
theorem ownsAt_len (s : Bs) (n : Nat) : (ownsAt s n).length = n := by simp [ownsAt]
theorem ownsAt_succ (s : Bs) (n : Nat) : ownsAt s (n + 1) = ownsAt s n ++ [ownAt s (2 + 18 * n)] := by
  unfold ownsAt; rw [List.range_succ, List.map_append]; rfl
theorem decR_s {s : Bs} (h : s.length < 2) : decR s = (emp, 37) := by unfold decR; rw [if_pos h]
theorem bit_e {b : UInt8} {n : Nat} (h : n = b.toNat) : decide ((b.toNat : Int) = 1) = decide (n = 1) := by
  subst h; exact decide_eq_decide.2 (by omega)
theorem wrap_to' {x : Int} {K : Int → Prop} (y : Nat) (e : x = (y : Int)) (h : y ≤ 9223372036854775807) (hk : K (y : Int)) : wrapK .i64 x K := wrap_to (y : Int) e (by omega) hk
attribute [local irreducible] checkQ ownsAt ownAt nAt byAt

theorem c45s (s : Bs) (hs : s.length < 1000000) (h2 : s.length < 2) : Fn 45 [.str s] (.tup [(decR s).1.enc, i (decR s).2]) := by
  refine run_walkF eok Try.func45 rfl (by kernel_rfl) ?_
  conv => whnf
  repeat' (first
    | ((with_reducible refine on_dec_f ?_ ?_); (focus ((try simp only [List.length_map, List.length_cons, List.length_nil, List.length_append]); omega)); conv => whnf)
    | ((with_reducible refine on_dec_t ?_ ?_); (focus ((try simp only [List.length_map, List.length_cons, List.length_nil, List.length_append]); omega)); conv => whnf)
    | ((with_reducible refine on_dec (fun h => ?_) (fun h => ?_)) <;> (try simp only [List.length_map] at h) <;> conv => whnf)
    | ((with_reducible refine on_ndec (fun h => ?_) (fun h => ?_)) <;> (try simp only [List.length_map] at h) <;> conv => whnf)
    | ((with_reducible refine on_not (fun h => ?_) (fun h => ?_)) <;> conv => whnf)
    | ((with_reducible refine onBool_split (fun h => ?_) (fun h => ?_)) <;> conv => whnf)
    | (refine ⟨[], [(1, 4), (1, 8), (1, 12), (1, 17), (1, 22), (1, 24)], (by decide +kernel), ?_⟩; conv => whnf)
    | (refine ⟨⟨(by first | rfl | (simp; done)), cap_ok (by simp only [List.length_map, List.length_cons, List.length_nil, List.length_append]; omega) rfl⟩, ?_⟩; conv => whnf)
    | (refine ⟨mem_one ⟨rfl, rfl⟩, ?_⟩; conv => whnf)
    | (refine ⟨(by intro y hy; obtain ⟨x, _, rfl⟩ := List.mem_map.1 hy; first | rfl | exact ⟨rfl, rfl⟩), ?_⟩; conv => whnf)
    | (refine ⟨cap_ok (by first | omega | (simp only [List.length_map]; omega)) rfl, ?_⟩; conv => whnf)
    | (refine ix_map (by omega) ?_; conv => whnf)
    | (refine ix_str (by omega) ?_; conv => whnf)
    | (refine wrap64 (by omega) ?_; conv => whnf)
    | (refine ix_stri 0 rfl (by omega) ?_; conv => whnf)
    | (refine ix_stri 1 rfl (by omega) ?_; conv => whnf)
    | (refine wrap64u8 ?_; conv => whnf)
    | (refine wrap64 (by omega) ?_; conv => whnf)
    | (exfalso; simp only [List.length_map, List.length_cons, List.length_nil, List.length_append] at h; omega)
    | ((with_reducible refine endx_go ?_); first | (rw [decR_s h2]; exact endxv (view_tup (vlc (view_agg (vlc rfl (vlc rfl vln))) (vlc rfl vln))) rfl; done))
    | (refine ⟨rfl, ?_⟩; conv => whnf)
    | fail
    )

theorem c45l (s : Bs) (hs : s.length < 1000000) (h2 : 2 ≤ s.length) : Fn 45 [.str s] (.tup [(decR s).1.enc, i (decR s).2]) := by
  have hb0 := byAt_eq (s := s) (k := 0) (by omega); have hb1 := byAt_eq (s := s) (k := 1) (by omega); have hl0 := (s[0]'(by omega)).toNat_lt; have hl1 := (s[1]'(by omega)).toNat_lt
  refine run_walkF eok Try.func45 rfl (by kernel_rfl) ?_
  conv => whnf
  repeat' (first
    | ((with_reducible refine on_dec_t (by assumption) ?_); conv => whnf)
    | ((with_reducible refine on_dec_f (by assumption) ?_); conv => whnf)
    | ((with_reducible refine onBool_t (by assumption) ?_); conv => whnf)
    | ((with_reducible refine onBool_f (by assumption) ?_); conv => whnf)
    | ((with_reducible refine on_nt (by assumption) ?_); conv => whnf)
    | ((with_reducible refine on_nf (by assumption) ?_); conv => whnf)
    | ((with_reducible refine on_ndec_t (by first | assumption | rfl) ?_); conv => whnf)
    | ((with_reducible refine on_ndec_f (by assumption) ?_); conv => whnf)
    | ((with_reducible refine on_dec_t rfl ?_); conv => whnf)
    | ((with_reducible refine on_dec_f ?_ ?_); (focus ((try simp only [List.length_map, List.length_cons, List.length_nil, List.length_append]); omega)); conv => whnf)
    | ((with_reducible refine on_dec_t ?_ ?_); (focus ((try simp only [List.length_map, List.length_cons, List.length_nil, List.length_append]); omega)); conv => whnf)
    | ((with_reducible refine on_dec (fun h => ?_) (fun h => ?_)) <;> (try simp only [List.length_map] at h) <;> conv => whnf)
    | ((with_reducible refine on_ndec (fun h => ?_) (fun h => ?_)) <;> (try simp only [List.length_map] at h) <;> conv => whnf)
    | ((with_reducible refine on_not (fun h => ?_) (fun h => ?_)) <;> conv => whnf)
    | ((with_reducible refine onBool_split (fun h => ?_) (fun h => ?_)) <;> conv => whnf)
    | ((with_reducible refine call_go ?_); (first | refine call_step (run_data (xs := [_, _, _]) (c82 s (2 + 18 * k) 4 (by omega) (by omega) hs) _) ?_ | refine call_step (run_data (xs := [_, _, _]) (c82 s (2 + 18 * k + 4) 4 (by omega) (by omega) hs) _) ?_ | refine call_step (run_data (xs := [_, _, _]) (c82 s (2 + 18 * k + 8) 4 (by omega) (by omega) hs) _) ?_ | refine call_step (run_data (xs := [_, _, _]) (c82 s (2 + 18 * k + 12) 4 (by omega) (by omega) hs) _) ?_ | refine call_step (run_data (xs := [_, _, _]) (c82 s (2 + 18 * k + 16) 2 (by omega) (by omega) hs) _) ?_ | refine call_step (run_view (c31 ⟨out, decide (byAt s 0 = 1)⟩ (by show out.length < 1000; omega)) rfl (vlc (view_agg (vlc (view_map rfl Nat.two_pos) (vlc rfl vln))) vln)) ?_); conv => whnf)
    | (refine ⟨[], [(1, 4), (1, 8), (1, 12), (1, 17), (1, 22), (1, 24)], (by decide +kernel), ?_⟩; conv => whnf)
    | ((with_reducible refine loop_go ?_); first | (refine loop2 (fun (k : Nat) (out : List Own) => (s[1]'(by omega)).toNat - k) (fun (k : Nat) (out : List Own) => k ≤ (s[1]'(by omega)).toNat ∧ out.length = k ∧ out = ownsAt s k) (fun (k : Nat) (out : List Own) => [(0, .d (.str s)), (2, .ptr 0 0 0), (4, .ptr 1 0 0), (5, .d (i k))]) (fun (k : Nat) (out : List Own) => [⟨[.junk], 2, 0⟩, ⟨[.agg [.sl 2 0 out.length 5 none, .d (.bool (decide (byAt s 0 = 1)))]], 2, 0⟩, ⟨(out.map Own.enc).map .d, 5, 0⟩]) (0) ([]) (by exact ⟨Nat.zero_le _, rfl, by unfold ownsAt; rfl⟩) ?_ (fun k out C hI hC => ?_); (exact ⟨[.old 0, .old 1, .void 5], rfl, rfl, ⟨(by first | (show (_ : D) = _; with_reducible rfl) | exact rfl), ⟨rfl, rfl, rfl⟩, ⟨rfl, rfl, rfl⟩, (by first | (show (_ : D) = _; with_reducible rfl) | exact congrArg (D.int .i64) (by omega) | exact congrArg (D.int .i64) (by simp only [List.length_map]) | exact rfl), trivial⟩, ⟨⟨rfl, rfl, .inr ⟨trivial, trivial⟩⟩, ⟨rfl, rfl, .inr ⟨⟨⟨rfl, rfl, rfl, rfl⟩, (congrArg D.bool (bit_e hb0)), trivial⟩, trivial⟩⟩, ⟨rfl, rfl, (by decide), rfl⟩, trivial⟩⟩); all_goals (conv => whnf)))
    | ((with_reducible show C _ _); first | (refine hC (k + 1) (out ++ [ownAt s (2 + 18 * k)]) _ _ ?_ (by omega) ?_; clear hC; rotate_left; (exact ⟨[.old 0, .old 1, .old 4], rfl, rfl, ⟨(by first | (show (_ : D) = _; with_reducible rfl) | exact rfl), ⟨rfl, rfl, rfl⟩, ⟨rfl, rfl, rfl⟩, (by first | (show (_ : D) = _; with_reducible rfl) | exact congrArg (D.int .i64) (by omega) | exact congrArg (D.int .i64) (by simp only [List.length_map]) | exact rfl), trivial⟩, ⟨⟨rfl, rfl, .inr ⟨trivial, trivial⟩⟩, ⟨rfl, rfl, .inr ⟨⟨⟨rfl, rfl, (by simp), rfl, rfl⟩, rfl, trivial⟩, trivial⟩⟩, ⟨rfl, rfl, .inr (wks_add (wksd _ _) (by unfold ownAt; exact ⟨rfl, rfl, rfl, rfl, rfl, rfl, trivial⟩))⟩, trivial⟩⟩); (exact ⟨by omega, by simp [hI.2.1], by rw [ownsAt_succ, hI.2.2]⟩)))
    | (refine ⟨⟨(by first | rfl | (simp; done)), cap_ok (by simp only [List.length_map, List.length_cons, List.length_nil, List.length_append]; omega) rfl⟩, ?_⟩; conv => whnf)
    | (refine ⟨mem_one ⟨rfl, rfl⟩, ?_⟩; conv => whnf)
    | (refine ⟨(by intro y hy; obtain ⟨x, _, rfl⟩ := List.mem_map.1 hy; first | rfl | exact ⟨rfl, rfl⟩), ?_⟩; conv => whnf)
    | (refine ⟨cap_ok (by first | omega | (simp only [List.length_map]; omega)) rfl, ?_⟩; conv => whnf)
    | (refine ix_map (by omega) ?_; conv => whnf)
    | (refine ix_str (by omega) ?_; conv => whnf)
    | (refine ix_stri 0 rfl (by omega) ?_; conv => whnf)
    | (refine ix_stri 1 rfl (by omega) ?_; conv => whnf)
    | (refine wrap64u8 ?_; conv => whnf)
    | (refine wrap_to' (18 * k) (by omega) (by omega) ?_; conv => whnf)
    | (refine wrap_to' (2 + 18 * k) (by omega) (by omega) ?_; conv => whnf)
    | (refine wrap_to' (2 + 18 * k + 4) (by omega) (by omega) ?_; conv => whnf)
    | (refine wrap_to' (2 + 18 * k + 8) (by omega) (by omega) ?_; conv => whnf)
    | (refine wrap_to' (2 + 18 * k + 12) (by omega) (by omega) ?_; conv => whnf)
    | (refine wrap_to' (2 + 18 * k + 16) (by omega) (by omega) ?_; conv => whnf)
    | (refine wrap_to' (k + 1) (by omega) (by omega) ?_; conv => whnf)
    | (refine wrap64 (by omega) ?_; conv => whnf)
    | (refine wrap64 (by have hn := nAt_lt4 s (2 + 18 * k); have hn8 := nAt_lt4 s (2 + 18 * k + 8); have hn12 := nAt_lt4 s (2 + 18 * k + 12); omega) ?_; conv => whnf)
    | (refine ⟨Nat.le_refl _, ?_⟩; conv => whnf)
    | (refine ⟨⟨(by simp only [List.length_map, List.length_append]; omega), cap_ok (by obtain ⟨hI1, hI2, hI3⟩ := hI; simp only [List.length_map, List.length_cons, List.length_nil, List.length_append]; omega) rfl⟩, ?_⟩; conv => whnf)
    | (refine ⟨cap_ok (by obtain ⟨hI1, hI2, hI3⟩ := hI; simp only [List.length_map, List.length_cons, List.length_nil, List.length_append]; omega) rfl, ?_⟩; conv => whnf)
    | (exfalso; simp only [List.length_map, List.length_cons, List.length_nil, List.length_append] at h; omega)
    | ((with_reducible refine endx_go ?_); first | (refine cut_ (decR s = (emp, 8)) ?_ (fun hE => ?_); (focus (unfold decR; rw [hb0, hb1]; rw [if_neg (by omega)]; rw [if_pos (by omega)])); ((refine endxv (view_tup (vlc (view_agg (vlc rfl (vlc rfl vln))) (vlc rfl vln))) ?_; (rw [hE]) <;> rfl)); done) | (refine cut_ (decR s = (emp, 37)) ?_ (fun hE => ?_); (focus (unfold decR; rw [hb0, hb1]; rw [if_neg (by omega)]; rw [if_neg (by omega)]; rw [if_pos (by omega)])); ((refine endxv (view_tup (vlc (view_agg (vlc rfl (vlc rfl vln))) (vlc rfl vln))) ?_; (rw [hE]) <;> rfl)); done) | (refine cut_ (decR s = (emp, 3)) ?_ (fun hE => ?_); (focus (unfold decR; rw [hb0, hb1]; rw [if_neg (by omega)]; rw [if_neg (by omega)]; rw [if_neg (by omega)]; rw [if_pos (by omega)])); ((refine endxv (view_tup (vlc (view_agg (vlc rfl (vlc rfl vln))) (vlc rfl vln))) ?_; (rw [hE]) <;> rfl)); done) | (have hk : k = (s[1]'(by omega)).toNat := (by omega); have ho : (⟨out, decide (byAt s 0 = 1)⟩ : Quo) = decQ s := (by unfold decQ; rw [hI.2.2, hk, hb1]); have hne : ¬ (checkQ (decQ s)).2 = 0 := (by rw [← ho]; assumption); rw [ho]; refine cut_ (decR s = (emp, (checkQ (decQ s)).2)) ?_ (fun hE => ?_); (focus (unfold decR; rw [if_neg (by omega), if_neg (by omega), if_neg (by omega), if_neg (by omega)]; rw [if_neg hne])); ((refine endxv (view_tup (vlc (view_agg (vlc rfl (vlc rfl vln))) (vlc rfl vln))) ?_; (rw [hE]) <;> rfl)); done) | (have hk : k = (s[1]'(by omega)).toNat := (by omega); have ho : (⟨out, decide (byAt s 0 = 1)⟩ : Quo) = decQ s := (by unfold decQ; rw [hI.2.2, hk, hb1]); refine cut_ (decR s = (⟨out, decide (byAt s 0 = 1)⟩, 0)) ?_ (fun hE => ?_); (focus (unfold decR; rw [if_neg (by omega), if_neg (by omega), if_neg (by omega), if_neg (by omega)]; rw [← ho]; rw [if_pos (by assumption)])); ((refine endxv (view_tup (vlc (view_agg (vlc (view_map rfl Nat.two_pos) (vlc rfl vln))) (vlc rfl vln))) ?_; (rw [hE]) <;> rfl)); done))
    | (refine ⟨rfl, ?_⟩; conv => whnf)
    | fail
    )

theorem c45 (s : Bs) (hs : s.length < 1000000) : Fn 45 [.str s] (.tup [(decR s).1.enc, i (decR s).2]) := by
  by_cases h : s.length < 2
  · exact c45s s hs h
  · exact c45l s hs (by omega)

end Go.Proofs.Ytolfkcmdfgakkaa

/-! Xb -/
namespace Go.Proofs.Ytolfkcmdfgakkaa
open Go Dw
set_option maxRecDepth 10000
set_option linter.unusedVariables false
set_option linter.unusedSimpArgs false
attribute [local irreducible] Run
set_option maxHeartbeats 4000000

theorem byte_at {s : Bs} {j : Nat} (k : Nat) (hj : j = k) {K : AV → Prop} (h : k < s.length) (hk : K (.d (.int .u8 s[k].toNat))) : nthK (s.map byteV) j K := by
  subst hj
  exact (nthK_iff _ _).2 ⟨_, by rw [List.getElem?_map, List.getElem?_eq_getElem h]; rfl, hk⟩
theorem view_byt {H : Heap} {id a n m st : Nat} {c : Option Nat} {s : Bs} (h : H[id]? = some ⟨s.map byteV, 1, st⟩) (hst : st < 2) (hn : a + n = s.length) : view (m + 2) H (.sl id a n 1 c) = some (.fs ((s.drop a).map u8)) := by
  have e : ((s.map byteV).drop a).take n = ((s.drop a).map u8).map .d := by
    rw [List.take_of_length_le (by simp; omega), ← List.map_drop, byteV_map]
  show (match H[id]? with
    | some o => if o.st < 2 then (if a + n ≤ o.elems.length then (vl (view (m + 1) H) ((o.elems.drop a).take n)).map D.fs else none) else none
    | none => none) = _
  simp only [h, if_pos hst]
  rw [if_pos (by simp; omega), e, vl_map_d]
  rfl
theorem reach_bytes (n : Nat) (H : Heap) (s : Bs) : (s.map byteV).flatMap (reach n H) = [] := by
  induction s with
  | nil => rfl
  | cons b s ih =>
    rw [List.map_cons, List.flatMap_cons, ih]
    cases n <;> rfl
theorem reach_sl {H : Heap} {id a n m st : Nat} {c : Option Nat} {s : Bs} (h : H[id]? = some ⟨s.map byteV, 1, st⟩) : reach (m + 1) H (.sl id a n 1 c) = [id] := by
  show id :: (match H[id]? with | some o => o.elems.flatMap (reach m H) | none => []) = _
  simp only [h, reach_bytes]
/-- A call on a row of bytes that is only looked at from then on. -/
theorem run_frz {f id a n : Nat} {c : Option Nat} {s : Bs} {x r : D} {H H' : Heap} (hf : Run Try.prog f [.d (.fs ((s.drop a).map u8)), .d x] [] (.d r) []) (h : H[id]? = some ⟨s.map byteV, 1, 0⟩) (hn : a + n = s.length) (hH : Dw.freeze H [id] = H') :
    Run Try.prog f [.sl id a n 1 c, .d x] H (.d r) H' := by
  have hv : vl (view 8 H) [.sl id a n 1 c, .d x] = some [.fs ((s.drop a).map u8), x] := vlc (view_byt h (by decide) hn) (vlc rfl vln)
  have := run_viewF (P := Try.prog) (f := f) (xs := [.fs ((s.drop a).map u8), x]) hf hv
  rw [show ([AV.sl id a n 1 c, .d x]).flatMap (reach 8 H) = [id] by rw [List.flatMap_cons, reach_sl h]; rfl, hH] at this
  exact this
theorem fe_dec (a b c : Bool) : firstE [if a = true then 0 else 8, if b = true then 0 else 37, if c = true then 0 else 3] = if a = true then (if b = true then (if c = true then 0 else 3) else 37) else 8 := by
  cases a <;> cases b <;> cases c <;> rfl
section
variable {s : Bs} {a b c : Bool} (h2 : 2 ≤ s.length) (ha : a = true ↔ byAt s 1 ≤ 30) (hb : b = true ↔ 2 + 18 * byAt s 1 ≤ s.length) (hc : c = true ↔ byAt s 0 ≤ 1 ∧ s.length = 2 + 18 * byAt s 1)
include h2 ha hb hc
theorem decR_e (h : ¬ firstE [if a = true then 0 else 8, if b = true then 0 else 37, if c = true then 0 else 3] = 0) : decR s = (emp, firstE [if a = true then 0 else 8, if b = true then 0 else 37, if c = true then 0 else 3]) := by
  rw [fe_dec] at *
  unfold decR
  rw [if_neg (by omega)]
  by_cases e1 : a = true
  · rw [if_pos e1] at *
    rw [ha] at e1
    rw [if_neg (by omega)]
    by_cases e2 : b = true
    · rw [if_pos e2] at *
      rw [hb] at e2
      rw [if_neg (by omega)]
      by_cases e3 : c = true
      · rw [if_pos e3] at h; exact absurd rfl h
      · rw [if_neg e3]
        rw [hc] at e3
        rw [if_pos (by omega)]
    · rw [if_neg e2]
      rw [hb] at e2
      rw [if_pos (by omega)]
  · rw [if_neg e1]
    rw [ha] at e1
    rw [if_pos (by omega)]
end
theorem decR_0 {s : Bs} {a b c : Bool} (h2 : 2 ≤ s.length) (ha : a = true ↔ byAt s 1 ≤ 30) (hb : b = true ↔ 2 + 18 * byAt s 1 ≤ s.length) (hc : c = true ↔ byAt s 0 ≤ 1 ∧ s.length = 2 + 18 * byAt s 1) (h : firstE [if a = true then 0 else 8, if b = true then 0 else 37, if c = true then 0 else 3] = 0) : byAt s 1 ≤ 30 ∧ s.length = 2 + 18 * byAt s 1 ∧ byAt s 0 ≤ 1 := by
  rw [fe_dec] at h
  by_cases e1 : a = true
  · by_cases e2 : b = true
    · by_cases e3 : c = true
      · exact ⟨ha.1 e1, (hc.1 e3).2, (hc.1 e3).1⟩
      · rw [if_pos e1, if_pos e2, if_neg e3] at h; cases h
    · rw [if_pos e1, if_neg e2] at h; cases h
  · rw [if_neg e1] at h; cases h
/-- The bytes of an owner. -/
abbrev winB (s : Bs) (k : Nat) : Bs := ((s.drop 2).drop (18 * k)).take 18
theorem winB_len {s : Bs} {n k : Nat} (h : s.length = 2 + 18 * n) (hk : k < n) : (winB s k).length = 18 := by
  simp only [winB, List.length_take, List.length_drop]; omega
theorem winB_own (s : Bs) (k : Nat) : ownAt s (2 + 18 * k) = ⟨nAt (winB s k) (4 * 0) 4, nAt (winB s k) (4 * 1) 4, (nAt (winB s k) (4 * 2) 4 : Int) - 1, (nAt (winB s k) (4 * 3) 4 : Int) - 1, nAt (((winB s k).take (winB s k).length).drop 16) 0 2⟩ := by
  rw [nAt_sl rfl]
  unfold winB
  rw [List.drop_drop, nAt_win (by omega), nAt_win (by omega), nAt_win (by omega), nAt_win (by omega), nAt_win (by omega)]
  unfold ownAt; rfl
theorem winG_eq (s : Bs) (k : Nat) : winG (s.drop 2) k = [.fs ((winB s k).map u8)] := by unfold winG; rfl
attribute [local irreducible] checkQ ownsAt ownAt nAt byAt winG firstE

theorem c44s (s : Bs) (hs : s.length < 1000000) (h2 : s.length < 2) : Fn 44 [.str s] (.tup [(decR s).1.enc, i (decR s).2]) := by
  refine run_walkF eok Try.func44 rfl (by kernel_rfl) ?_
  conv => whnf
  repeat' (first
    | ((with_reducible refine on_dec_f ?_ ?_); (focus ((try simp only [List.length_map, List.length_cons, List.length_nil, List.length_append]); omega)); conv => whnf)
    | ((with_reducible refine on_dec_t ?_ ?_); (focus ((try simp only [List.length_map, List.length_cons, List.length_nil, List.length_append]); omega)); conv => whnf)
    | ((with_reducible refine on_dec (fun h => ?_) (fun h => ?_)) <;> (try simp only [List.length_map] at h) <;> conv => whnf)
    | ((with_reducible refine on_ndec (fun h => ?_) (fun h => ?_)) <;> (try simp only [List.length_map] at h) <;> conv => whnf)
    | ((with_reducible refine on_not (fun h => ?_) (fun h => ?_)) <;> conv => whnf)
    | ((with_reducible refine onBool_split (fun h => ?_) (fun h => ?_)) <;> conv => whnf)
    | ((with_reducible refine call_go ?_); (first | refine call_step (run_view (c52 _ _) rfl rfl) ?_ | refine call_step (run_view (c50 [_, _] (by simp)) rfl rfl) ?_ | refine call_step (run_view (c50 [_, _, _, _, _] (by simp)) rfl rfl) ?_ | refine call_step (run_view (c50 [_, _, _, _, _, _] (by simp)) rfl rfl) ?_); conv => whnf)
    | (refine ⟨[], [(10, 2), (10, 7)], (by decide +kernel), ?_⟩; conv => whnf)
    | (refine ⟨[], [(1, 3), (1, 5), (1, 7), (1, 10), (1, 14), (1, 17), (12, 3), (12, 5), (12, 7), (12, 10)], (by decide +kernel), ?_⟩; conv => whnf)
    | (refine ⟨⟨(by first | rfl | (simp; done)), cap_ok (by simp only [List.length_map, List.length_cons, List.length_nil, List.length_append]; omega) rfl⟩, ?_⟩; conv => whnf)
    | (refine ⟨mem_one ⟨rfl, rfl⟩, ?_⟩; conv => whnf)
    | (refine ⟨(by intro y hy; obtain ⟨x, _, rfl⟩ := List.mem_map.1 hy; first | rfl | exact ⟨rfl, rfl⟩), ?_⟩; conv => whnf)
    | (refine ⟨cap_ok (by first | omega | (simp only [List.length_map]; omega)) rfl, ?_⟩; conv => whnf)
    | (refine ix_map (by omega) ?_; conv => whnf)
    | (refine ix_str (by omega) ?_; conv => whnf)
    | (refine wrap64 (by omega) ?_; conv => whnf)
    | (refine byte_at 0 rfl (by omega) ?_; conv => whnf)
    | (refine byte_at 1 rfl (by omega) ?_; conv => whnf)
    | (refine wrap64u8 ?_; conv => whnf)
    | (refine ⟨⟨by omega, by omega⟩, ?_⟩; conv => whnf)
    | (refine wrap64 (by omega) ?_; conv => whnf)
    | (exfalso; simp only [List.length_map, List.length_cons, List.length_nil, List.length_append] at h; omega)
    | ((with_reducible refine endx_go ?_); first | (rw [decR_s h2]; exact endxv (view_tup (vlc (view_agg (vlc rfl (vlc rfl vln))) (vlc rfl vln))) rfl; done))
    | (refine ⟨rfl, ?_⟩; conv => whnf)
    | fail
    )

theorem c44l (s : Bs) (hs : s.length < 1000000) (h2 : 2 ≤ s.length) : Fn 44 [.str s] (.tup [(decR s).1.enc, i (decR s).2]) := by
  have hb0 := byAt_eq (s := s) (k := 0) (by omega); have hb1 := byAt_eq (s := s) (k := 1) (by omega); have hl0 := (s[0]'(by omega)).toNat_lt; have hl1 := (s[1]'(by omega)).toNat_lt
  refine run_walkRF eok Try.func44 rfl (by kernel_rfl) ?_
  conv => whnf
  repeat' (first
    | ((with_reducible refine range_go ?_); obtain ⟨hz1, hz2, hz3⟩ := decR_0 h2 (by simp; try omega) (by simp; try omega) (by simp; try omega) h; refine rounds_st (σ := List Own) (it97 (s.drop 2) (byAt s 1) (by rw [List.length_drop]; omega) (by rw [List.length_drop]; omega)) (fun k out => out.length = k ∧ out = ownsAt s k) (fun _ _ => [(2, .ptr 0 0 0), (8, .ptr 1 0 0)]) (fun _ out => [⟨[.junk], 2, 0⟩, ⟨[.agg [.sl 2 0 out.length 5 none, .d (.bool (decide (byAt s 0 = 1)))]], 2, 0⟩, ⟨(out.map Own.enc).map .d, 5, 0⟩]) [] ⟨rfl, by unfold ownsAt; rfl⟩ (.inr ⟨[.old 0, .old 3, .void 5], rfl, rfl, ⟨⟨rfl, rfl, rfl⟩, ⟨rfl, rfl, rfl⟩, trivial⟩, ⟨⟨rfl, rfl, .inr ⟨trivial, trivial⟩⟩, ⟨rfl, rfl, .inr ⟨⟨⟨rfl, rfl, rfl, rfl⟩, (congrArg D.bool (bit_e hb0)), trivial⟩, trivial⟩⟩, ⟨rfl, rfl, (by decide), rfl⟩, trivial⟩⟩) (fun k out hk C hI hC => ?_) (fun out hI => ?_); (focus (rw [winG_eq]; refine ⟨_, rfl, ?_⟩)); all_goals (conv => whnf))
    | ((with_reducible show C _); refine hC (out ++ [ownAt s (2 + 18 * k)]) _ ⟨by simp [hI.1], by rw [ownsAt_succ, hI.2]⟩ (.inr ⟨[.old 0, .old 1, .old 5], rfl, rfl, ⟨⟨rfl, rfl, rfl⟩, ⟨rfl, rfl, rfl⟩, trivial⟩, ⟨⟨rfl, rfl, .inr ⟨trivial, trivial⟩⟩, ⟨rfl, rfl, .inr ⟨⟨⟨rfl, rfl, (by simp), rfl, rfl⟩, rfl, trivial⟩, trivial⟩⟩, ⟨rfl, rfl, .inr (wks_add (wksd _ _) (by rw [winB_own]; exact ⟨rfl, rfl, rfl, rfl, rfl, rfl, trivial⟩))⟩, trivial⟩⟩))
    | ((with_reducible refine on_dec_t (by assumption) ?_); conv => whnf)
    | ((with_reducible refine on_dec_f (by assumption) ?_); conv => whnf)
    | ((with_reducible refine onBool_t (by assumption) ?_); conv => whnf)
    | ((with_reducible refine onBool_f (by assumption) ?_); conv => whnf)
    | ((with_reducible refine on_nt (by assumption) ?_); conv => whnf)
    | ((with_reducible refine on_nf (by assumption) ?_); conv => whnf)
    | ((with_reducible refine on_ndec_t (by first | assumption | rfl) ?_); conv => whnf)
    | ((with_reducible refine on_ndec_f (by assumption) ?_); conv => whnf)
    | ((with_reducible refine on_dec_t rfl ?_); conv => whnf)
    | ((with_reducible refine on_dec_f ?_ ?_); (focus ((try simp only [List.length_map, List.length_cons, List.length_nil, List.length_append]); omega)); conv => whnf)
    | ((with_reducible refine on_dec_t ?_ ?_); (focus ((try simp only [List.length_map, List.length_cons, List.length_nil, List.length_append]); omega)); conv => whnf)
    | ((with_reducible refine on_dec (fun h => ?_) (fun h => ?_)) <;> (try simp only [List.length_map] at h) <;> conv => whnf)
    | ((with_reducible refine on_ndec (fun h => ?_) (fun h => ?_)) <;> (try simp only [List.length_map] at h) <;> conv => whnf)
    | ((with_reducible refine on_not (fun h => ?_) (fun h => ?_)) <;> conv => whnf)
    | ((with_reducible refine onBool_split (fun h => ?_) (fun h => ?_)) <;> conv => whnf)
    | ((with_reducible refine call_go ?_); (first | refine call_step (run_view (c52 _ _) rfl rfl) ?_ | refine call_step (run_view (c50 [_, _, _] (by simp)) rfl rfl) ?_ | refine call_step (run_frz (c78 (s.drop 2)) rfl (by omega) rfl) ?_ | refine call_step (run_data (xs := [_]) (c81 (((winB s k).take (winB s k).length).drop 16) (by rw [List.length_drop, List.length_take, winB_len hz2 hk]; omega)) _) ?_ | refine call_step (run_view (c14 ⟨out, decide (byAt s 0 = 1)⟩ (by show out.length < 1000; omega)) rfl (vlc (view_agg (vlc (view_map rfl Nat.two_pos) (vlc rfl vln))) vln)) ?_ | refine call_step (run_view (c79 (winB s k) 0 (by rw [winB_len hz2 hk]; omega) (by rw [winB_len hz2 hk]; omega)) rfl rfl) ?_ | refine call_step (run_view (c79 (winB s k) 1 (by rw [winB_len hz2 hk]; omega) (by rw [winB_len hz2 hk]; omega)) rfl rfl) ?_ | refine call_step (run_view (c79 (winB s k) 2 (by rw [winB_len hz2 hk]; omega) (by rw [winB_len hz2 hk]; omega)) rfl rfl) ?_ | refine call_step (run_view (c79 (winB s k) 3 (by rw [winB_len hz2 hk]; omega) (by rw [winB_len hz2 hk]; omega)) rfl rfl) ?_); conv => whnf)
    | (refine ⟨[], [(10, 2), (10, 7)], (by decide +kernel), ?_⟩; conv => whnf)
    | (refine ⟨[], [(1, 3), (1, 5), (1, 7), (1, 10), (1, 14), (1, 17), (12, 3), (12, 5), (12, 7), (12, 10)], (by decide +kernel), ?_⟩; conv => whnf)
    | (refine ⟨⟨(by first | rfl | (simp; done)), cap_ok (by simp only [List.length_map, List.length_cons, List.length_nil, List.length_append]; omega) rfl⟩, ?_⟩; conv => whnf)
    | (refine ⟨mem_one ⟨rfl, rfl⟩, ?_⟩; conv => whnf)
    | (refine ⟨(by intro y hy; obtain ⟨x, _, rfl⟩ := List.mem_map.1 hy; first | rfl | exact ⟨rfl, rfl⟩), ?_⟩; conv => whnf)
    | (refine ⟨cap_ok (by first | omega | (simp only [List.length_map]; omega)) rfl, ?_⟩; conv => whnf)
    | (refine ix_map (by omega) ?_; conv => whnf)
    | (refine ix_str (by omega) ?_; conv => whnf)
    | (refine byte_at 0 rfl (by omega) ?_; conv => whnf)
    | (refine byte_at 1 rfl (by omega) ?_; conv => whnf)
    | (refine wrap64u8 ?_; conv => whnf)
    | (refine ⟨⟨by omega, by omega⟩, ?_⟩; conv => whnf)
    | (refine own_sl 2 s.length rfl rfl ⟨by omega, Nat.le_refl _⟩ ?_; conv => whnf)
    | (refine sl_map (f := u8) (l := winB s k) 16 (winB s k).length rfl (by simp only [List.length_map]) ⟨by rw [winB_len hz2 hk]; omega, Nat.le_refl _⟩ (fun x => rfl) ?_; conv => whnf)
    | (refine wrap64 (by omega) ?_; conv => whnf)
    | (refine wrap64 (by have hn := nAt_lt4 (winB s k) (4 * 2); have hn2 := nAt_lt4 (winB s k) (4 * 3); have hn3 := nAt_lt2 (((winB s k).take (winB s k).length).drop 16) 0; omega) ?_; conv => whnf)
    | (refine ⟨Nat.le_refl _, ?_⟩; conv => whnf)
    | (refine ⟨⟨(by simp only [List.length_map, List.length_append]; omega), cap_ok (by obtain ⟨hI1, hI2⟩ := hI; simp only [List.length_map, List.length_cons, List.length_nil, List.length_append]; omega) rfl⟩, ?_⟩; conv => whnf)
    | (refine ⟨cap_ok (by obtain ⟨hI1, hI2⟩ := hI; simp only [List.length_map, List.length_cons, List.length_nil, List.length_append]; omega) rfl, ?_⟩; conv => whnf)
    | (exfalso; simp only [List.length_map, List.length_cons, List.length_nil, List.length_append] at h; omega)
    | ((with_reducible refine endx_go ?_); first | (have hE := decR_e h2 (by simp; try omega) (by simp; try omega) (by simp; try omega) h; (refine endxv (view_tup (vlc (view_agg (vlc rfl (vlc rfl vln))) (vlc rfl vln))) ?_; (rw [hE]) <;> rfl); done) | (have ho : (⟨out, decide (byAt s 0 = 1)⟩ : Quo) = decQ s := (by unfold decQ; rw [hI.2]); have hne : ¬ (checkQ (decQ s)).2 = 0 := (by rw [← ho]; assumption); rw [ho]; refine cut_ (decR s = (emp, (checkQ (decQ s)).2)) ?_ (fun hE => ?_); (focus (unfold decR; rw [if_neg (by omega), if_neg (by omega), if_neg (by omega), if_neg (by omega)]; rw [if_neg hne])); ((refine endxv (view_tup (vlc (view_agg (vlc rfl (vlc rfl vln))) (vlc rfl vln))) ?_; (rw [hE]) <;> rfl)); done) | (have ho : (⟨out, decide (byAt s 0 = 1)⟩ : Quo) = decQ s := (by unfold decQ; rw [hI.2]); refine cut_ (decR s = (⟨out, decide (byAt s 0 = 1)⟩, 0)) ?_ (fun hE => ?_); (focus (unfold decR; rw [if_neg (by omega), if_neg (by omega), if_neg (by omega), if_neg (by omega)]; rw [← ho]; rw [if_pos (by assumption)])); ((refine endxv (view_tup (vlc (view_agg (vlc (view_map rfl Nat.two_pos) (vlc rfl vln))) (vlc rfl vln))) ?_; (rw [hE]) <;> rfl)); done))
    | (refine ⟨rfl, ?_⟩; conv => whnf)
    | fail
    )

theorem c44 (s : Bs) (hs : s.length < 1000000) : Fn 44 [.str s] (.tup [(decR s).1.enc, i (decR s).2]) := by
  by_cases h : s.length < 2
  · exact c44s s hs h
  · exact c44l s hs (by omega)

end Go.Proofs.Ytolfkcmdfgakkaa

/-! Xc -/
namespace Go.Proofs.Ytolfkcmdfgakkaa
open Go Dw
set_option maxRecDepth 10000
set_option linter.unusedVariables false
set_option linter.unusedSimpArgs false
attribute [local irreducible] Run
set_option maxHeartbeats 4000000

/-- A function that appends bytes to a full row, which stays as it is. -/
def BufF (P : Program) (f : Nat) (xs : List D) (l m : List UInt8) : Prop :=
  Run P f (.sl 0 0 l.length 1 (some l.length) :: xs.map .d) [⟨l.map byteV, 1, 0⟩] (.sl 1 0 (l.length + m.length) 1 none) [⟨l.map byteV, 1, 0⟩, ⟨(l ++ m).map byteV, 1, 0⟩]
theorem run_buff {P : Program} {f : Nat} {xs : List D} {l m : List UInt8} (hf : BufF P f xs l m) {H : Heap} {id : Nat} (h : H[id]? = some ⟨l.map byteV, 1, 0⟩) {args : List AV} (hv : vl (view 8 H) args = some xs) (hr : args.flatMap (reach 8 H) = []) {n : Nat} (hn : n = l.length) :
    Run P f (.sl id 0 n 1 (some n) :: args) H (.sl H.length 0 (n + m.length) 1 none) (H.set id ⟨l.map byteV, 1, 0⟩ ++ [⟨(l ++ m).map byteV, 1, 0⟩]) := by
  subst hn
  refine run_at (σ := [id]) (F := []) (fl := true) hf (by simp) (fun _ h => by cases h) ⟨⟨rfl, rfl, rfl, rfl, rfl⟩, ?_⟩ ⟨(nthK_iff _ _).2 ⟨_, h, rfl, rfl, .inl ⟨_, byteV_map l, byteV_map l⟩⟩, trivial⟩ (fun _ => ⟨rfl, fun o ho => ?_⟩) rfl ?_
  · have := embs_views H args xs [] (by rw [hr]; simp) hv
    have key : ∀ (ys : List D) (bs : List AV), embs [] [] H (ys.map .d) bs → embs [id] [] H (ys.map .d) bs := by
      intro ys
      induction ys with
      | nil => intro bs h; cases bs with
        | nil => trivial
        | cons a bs => exact h.elim
      | cons y ys ih => intro bs h; cases bs with
        | nil => exact h.elim
        | cons a bs => exact ⟨h.1, ih bs h.2⟩
    exact key xs args this
  · simp only [List.mem_cons, List.not_mem_nil, or_false] at ho
    rcases ho with rfl | rfl
    · exact ⟨flats_byteV _, Nat.zero_ne_one⟩
    · exact ⟨flats_byteV _, Nat.zero_ne_one⟩
  · show setAll H [id] _ ++ _ = _
    simp only [setAll, List.map_cons, List.map_nil, List.length_cons, List.length_nil, List.drop_succ_cons, List.drop_zero, renO, rens_byteV]
theorem c83q (a : Int) (c : Nat) (ha : 0 ≤ a ∧ a < 9223372036854775808) (hc : c < 1000) : Fn 83 [i a, i c] (.str (Dw.leB a.toNat c)) := by
  obtain ⟨n, rfl⟩ := Int.eq_ofNat_of_zero_le ha.1
  exact c83 n c (by omega) hc
theorem bit_n (b : Bool) : ((if b = true then 1 else 0 : Int)).toNat = bitB b := by cases b <;> rfl
theorem bit_r (b : Bool) : 0 ≤ (if b = true then 1 else 0 : Int) ∧ (if b = true then 1 else 0 : Int) < 9223372036854775808 := by cases b <;> simp
/-- The bytes of the first owners. -/
def encK (x : Quo) (k : Nat) : Bs := Dw.leB (bitB x.enf) 1 ++ Dw.leB x.os.length 1 ++ (x.os.take k).flatMap encO
theorem encK_0 (x : Quo) : encK x 0 = Dw.leB (bitB x.enf) 1 ++ Dw.leB x.os.length 1 := by unfold encK; simp
theorem encK_s {x : Quo} {k : Nat} (h : k < x.os.length) : encK x (k + 1) = encK x k ++ encO x.os[k] := by
  unfold encK
  rw [List.take_succ_eq_append_getElem h, List.flatMap_append]; simp
theorem encK_all {x : Quo} {k : Nat} (h : x.os.length ≤ k) : encK x k = encQ x := by
  unfold encK encQ; rw [List.take_of_length_le h]
theorem encK_len {x : Quo} {k : Nat} (h : k ≤ x.os.length) : (encK x k).length = 2 + 18 * k := by
  unfold encK
  simp only [List.length_append, Dw.leB_length, encs_len, List.length_take]; omega
/-- An owner's numbers. -/
structure NO (o : Own) : Prop where
  w : 0 ≤ o.who ∧ o.who ≤ 999
  u : 0 ≤ o.used ∧ o.used ≤ 2147483647
  a : -1 ≤ o.warn ∧ o.warn ≤ 2147483646
  l : -1 ≤ o.lim ∧ o.lim ≤ 2147483646
  r : 0 ≤ o.ref ∧ o.ref ≤ 65535
theorem VQ.no {x : Quo} (h : VQ x) {k : Nat} (hk : k < x.os.length) : NO x.os[k] := by
  have := h.own _ (List.getElem_mem hk)
  exact ⟨whoE_0 this.who, this.used, this.warn, this.lim, this.ref⟩
attribute [local irreducible] encK encO bitB

theorem c77f (l : List UInt8) (x : Int) (hx : 0 ≤ x ∧ x < 65536) (hl : l.length < 3000000) : BufF Try.prog 77 [.int .u16 x] l (Dw.leB x.toNat 2) := by
  obtain ⟨n, rfl⟩ := Int.eq_ofNat_of_zero_le hx.1; rw [Int.toNat_natCast]; unfold BufF
  refine run_walkV eok Try.func77 rfl (by kernel_rfl) [] (by rfl) [] ?_
  conv => whnf
  repeat' (first
    | ((with_reducible refine on_dec_f ?_ ?_); (focus ((try simp only [List.length_map, List.length_cons, List.length_nil, List.length_append]); omega)); conv => whnf)
    | ((with_reducible refine on_dec_t ?_ ?_); (focus ((try simp only [List.length_map, List.length_cons, List.length_nil, List.length_append]); omega)); conv => whnf)
    | ((with_reducible refine on_dec (fun h => ?_) (fun h => ?_)) <;> (try simp only [List.length_map] at h) <;> conv => whnf)
    | ((with_reducible refine on_ndec (fun h => ?_) (fun h => ?_)) <;> (try simp only [List.length_map] at h) <;> conv => whnf)
    | ((with_reducible refine on_not (fun h => ?_) (fun h => ?_)) <;> conv => whnf)
    | ((with_reducible refine onBool_split (fun h => ?_) (fun h => ?_)) <;> conv => whnf)
    | (refine ⟨⟨(by first | rfl | (simp; done)), cap_ok (by simp only [List.length_map, List.length_cons, List.length_nil, List.length_append]; omega) rfl⟩, ?_⟩; conv => whnf)
    | (refine ⟨mem_one ⟨rfl, rfl⟩, ?_⟩; conv => whnf)
    | (refine ⟨(by intro y hy; obtain ⟨x, _, rfl⟩ := List.mem_map.1 hy; first | rfl | exact ⟨rfl, rfl⟩), ?_⟩; conv => whnf)
    | (refine ⟨cap_ok (by first | omega | (simp only [List.length_map]; omega)) rfl, ?_⟩; conv => whnf)
    | (refine ix_map (by omega) ?_; conv => whnf)
    | (refine ix_str (by omega) ?_; conv => whnf)
    | (refine wrap64 (by omega) ?_; conv => whnf)
    | (refine wrapU32 (by omega) ?_; conv => whnf)
    | (refine wrapU16 (by omega) ?_; conv => whnf)
    | (refine wrapU8n ?_; conv => whnf)
    | (refine wrapU16n ?_; conv => whnf)
    | (refine shr_n 256 rfl rfl ?_; conv => whnf)
    | (refine shr_n 65536 rfl rfl ?_; conv => whnf)
    | (refine shr_n 16777216 rfl rfl ?_; conv => whnf)
    | (refine ⟨Nat.le_refl _, ?_⟩; conv => whnf)
    | (refine ⟨⟨(by simp only [List.length_map, List.length_append]; omega), cap_ok (by simp only [List.length_map, List.length_cons, List.length_nil, List.length_append, Dw.leB_length]; omega) rfl⟩, ?_⟩; conv => whnf)
    | (refine ⟨cap_ok (by simp only [List.length_map, List.length_cons, List.length_nil, List.length_append, Dw.leB_length]; omega) rfl, ?_⟩; conv => whnf)
    | (exfalso; simp only [List.length_map, List.length_cons, List.length_nil, List.length_append] at h; omega)
    | ((with_reducible refine endx_go ?_); first | (refine endX_of (.inl ⟨[.old 0, .old 2], rfl, rfl, ⟨⟨rfl, rfl, ?_, rfl, rfl⟩, trivial⟩, ⟨wkO_bytes l rfl rfl rfl rfl rfl, wkO_bytes (l ++ Dw.leB n 2) rfl rfl rfl ?_ rfl, trivial⟩⟩); (simp only [List.length_append, Dw.leB_length]; rfl); (rw [List.drop_zero, List.take_of_length_le (by simp)]; simp only [List.map_append, leB2_map]; rfl); done))
    | (refine ⟨rfl, ?_⟩; conv => whnf)
    | fail
    )

theorem c76f (l : List UInt8) (x : Int) (hx : 0 ≤ x ∧ x < 4294967296) (hl : l.length < 2500000) : BufF Try.prog 76 [.int .u32 x] l (Dw.leB x.toNat 4) := by
  obtain ⟨n, rfl⟩ := Int.eq_ofNat_of_zero_le hx.1; rw [Int.toNat_natCast]; unfold BufF
  refine run_walkV eok Try.func76 rfl (by kernel_rfl) [] (by rfl) [] ?_
  conv => whnf
  repeat' (first
    | ((with_reducible refine on_dec_f ?_ ?_); (focus ((try simp only [List.length_map, List.length_cons, List.length_nil, List.length_append]); omega)); conv => whnf)
    | ((with_reducible refine on_dec_t ?_ ?_); (focus ((try simp only [List.length_map, List.length_cons, List.length_nil, List.length_append]); omega)); conv => whnf)
    | ((with_reducible refine on_dec (fun h => ?_) (fun h => ?_)) <;> (try simp only [List.length_map] at h) <;> conv => whnf)
    | ((with_reducible refine on_ndec (fun h => ?_) (fun h => ?_)) <;> (try simp only [List.length_map] at h) <;> conv => whnf)
    | ((with_reducible refine on_not (fun h => ?_) (fun h => ?_)) <;> conv => whnf)
    | ((with_reducible refine onBool_split (fun h => ?_) (fun h => ?_)) <;> conv => whnf)
    | ((with_reducible refine call_go ?_); (first | refine call_step (run_buff (c77f l _ (by omega) (by omega)) rfl rfl rfl rfl) ?_); conv => whnf)
    | (refine ⟨⟨(by first | rfl | (simp; done)), cap_ok (by simp only [List.length_map, List.length_cons, List.length_nil, List.length_append]; omega) rfl⟩, ?_⟩; conv => whnf)
    | (refine ⟨mem_one ⟨rfl, rfl⟩, ?_⟩; conv => whnf)
    | (refine ⟨(by intro y hy; obtain ⟨x, _, rfl⟩ := List.mem_map.1 hy; first | rfl | exact ⟨rfl, rfl⟩), ?_⟩; conv => whnf)
    | (refine ⟨cap_ok (by first | omega | (simp only [List.length_map]; omega)) rfl, ?_⟩; conv => whnf)
    | (refine ix_map (by omega) ?_; conv => whnf)
    | (refine ix_str (by omega) ?_; conv => whnf)
    | (refine wrap64 (by omega) ?_; conv => whnf)
    | (refine wrapU32 (by omega) ?_; conv => whnf)
    | (refine wrapU16 (by omega) ?_; conv => whnf)
    | (refine wrapU8n ?_; conv => whnf)
    | (refine wrapU16n ?_; conv => whnf)
    | (refine shr_n 256 rfl rfl ?_; conv => whnf)
    | (refine shr_n 65536 rfl rfl ?_; conv => whnf)
    | (refine shr_n 16777216 rfl rfl ?_; conv => whnf)
    | (refine ⟨Nat.le_refl _, ?_⟩; conv => whnf)
    | (refine ⟨⟨(by simp only [List.length_map, List.length_append]; omega), cap_ok (by simp only [List.length_map, List.length_cons, List.length_nil, List.length_append, Dw.leB_length]; omega) rfl⟩, ?_⟩; conv => whnf)
    | (refine ⟨cap_ok (by simp only [List.length_map, List.length_cons, List.length_nil, List.length_append, Dw.leB_length]; omega) rfl, ?_⟩; conv => whnf)
    | (exfalso; simp only [List.length_map, List.length_cons, List.length_nil, List.length_append] at h; omega)
    | ((with_reducible refine endx_go ?_); first | (refine endX_of (.inl ⟨[.old 0, .old 3], rfl, rfl, ⟨⟨rfl, rfl, ?_, rfl, rfl⟩, trivial⟩, ⟨wkO_bytes l rfl rfl rfl rfl rfl, wkO_bytes (l ++ Dw.leB n 4) rfl rfl rfl ?_ rfl, trivial⟩⟩); (simp only [List.length_append, Dw.leB_length]; rfl); (simp only [List.map_append, leB4_map, ← List.append_assoc]; rfl); done))
    | (refine ⟨rfl, ?_⟩; conv => whnf)
    | fail
    )

theorem c46 (x : Quo) (hv : VQ x) : Fn 46 [x.enc] (.str (encQ x)) := by
  have hl30 := hv.len
  refine run_walkF eok Try.func46 rfl (by kernel_rfl) ?_
  conv => whnf
  repeat' (first
    | ((with_reducible refine on_dec_f ?_ ?_); (focus ((try simp only [List.length_map, List.length_cons, List.length_nil, List.length_append]); omega)); conv => whnf)
    | ((with_reducible refine on_dec_t ?_ ?_); (focus ((try simp only [List.length_map, List.length_cons, List.length_nil, List.length_append]); omega)); conv => whnf)
    | ((with_reducible refine on_dec (fun h => ?_) (fun h => ?_)) <;> (try simp only [List.length_map] at h) <;> conv => whnf)
    | ((with_reducible refine on_ndec (fun h => ?_) (fun h => ?_)) <;> (try simp only [List.length_map] at h) <;> conv => whnf)
    | ((with_reducible refine on_not (fun h => ?_) (fun h => ?_)) <;> conv => whnf)
    | ((with_reducible refine onBool_split (fun h => ?_) (fun h => ?_)) <;> conv => whnf)
    | ((with_reducible refine call_go ?_); (first | refine call_step (run_data (xs := [_]) (c84 x.enf) _) ?_ | refine call_step (run_data (xs := [_, _]) (c83q (if x.enf = true then 1 else 0) 1 (bit_r _) (by omega)) _) ?_ | refine call_step (run_data (xs := [_, _]) (c83q ((x.os.map Own.enc).length : Int) 1 (by rw [List.length_map]; omega) (by omega)) _) ?_ | refine call_step (run_data (xs := [_, _]) (c83q ((x.os[k]'(by omega)).who) 4 (by have hno := hv.no (k := k) (by omega); obtain ⟨hw1, hu1, ha1, hl1, hr1⟩ := hno; omega) (by omega)) _) ?_ | refine call_step (run_data (xs := [_, _]) (c83q ((x.os[k]'(by omega)).used) 4 (by have hno := hv.no (k := k) (by omega); obtain ⟨hw1, hu1, ha1, hl1, hr1⟩ := hno; omega) (by omega)) _) ?_ | refine call_step (run_data (xs := [_, _]) (c83q ((x.os[k]'(by omega)).warn + 1) 4 (by have hno := hv.no (k := k) (by omega); obtain ⟨hw1, hu1, ha1, hl1, hr1⟩ := hno; omega) (by omega)) _) ?_ | refine call_step (run_data (xs := [_, _]) (c83q ((x.os[k]'(by omega)).lim + 1) 4 (by have hno := hv.no (k := k) (by omega); obtain ⟨hw1, hu1, ha1, hl1, hr1⟩ := hno; omega) (by omega)) _) ?_ | refine call_step (run_data (xs := [_, _]) (c83q ((x.os[k]'(by omega)).ref) 2 (by have hno := hv.no (k := k) (by omega); obtain ⟨hw1, hu1, ha1, hl1, hr1⟩ := hno; omega) (by omega)) _) ?_); conv => whnf)
    | (refine ⟨[], [(5, 2), (5, 3)], (by decide +kernel), ?_⟩; conv => whnf)
    | (refine ⟨[], [(6, 3), (10, 3), (15, 3), (20, 3), (10, 7), (15, 7), (20, 7), (15, 12), (20, 12), (20, 17)], (by decide +kernel), ?_⟩; conv => whnf)
    | ((with_reducible refine loop_go ?_); first | (refine loop1 (fun (k : Nat) => x.os.length - k) (fun (k : Nat) => k ≤ x.os.length) (fun (k : Nat) => [(1, .ptr 0 0 0), (3, .d (.str (encK x k))), (4, .d (i k))]) (fun (k : Nat) => [⟨[.d x.enc], 2, 0⟩]) (0) (by exact Nat.zero_le _) ?_ (fun k C hI hC => ?_); (exact ⟨[.old 0], rfl, rfl, ⟨⟨rfl, rfl, rfl⟩, (congrArg D.str (by rw [bit_n, Int.toNat_natCast, List.length_map, encK_0])), (by first | (show (_ : D) = _; with_reducible rfl) | exact congrArg (D.int .i64) (by omega) | exact congrArg (D.int .i64) (by simp only [List.length_map]) | exact rfl), trivial⟩, ⟨⟨rfl, rfl, .inl ⟨[_], rfl, rfl⟩⟩, trivial⟩⟩); all_goals (conv => whnf)))
    | ((with_reducible show C _ _); first | (refine hC (k + 1) _ _ ?_ (by omega) ?_; clear hC; rotate_left; (exact ⟨[.old 0], rfl, rfl, ⟨⟨rfl, rfl, rfl⟩, (congrArg D.str (by rw [encK_s (by omega)]; unfold encO; simp only [List.append_assoc])), (by first | (show (_ : D) = _; with_reducible rfl) | exact congrArg (D.int .i64) (by omega) | exact congrArg (D.int .i64) (by simp only [List.length_map]) | exact rfl), trivial⟩, ⟨⟨rfl, rfl, .inl ⟨[_], rfl, rfl⟩⟩, trivial⟩⟩); (exact (by omega : k + 1 ≤ x.os.length))))
    | (refine ⟨⟨(by first | rfl | (simp; done)), cap_ok (by simp only [List.length_map, List.length_cons, List.length_nil, List.length_append]; omega) rfl⟩, ?_⟩; conv => whnf)
    | (refine ⟨mem_one ⟨rfl, rfl⟩, ?_⟩; conv => whnf)
    | (refine ⟨(by intro y hy; obtain ⟨x, _, rfl⟩ := List.mem_map.1 hy; first | rfl | exact ⟨rfl, rfl⟩), ?_⟩; conv => whnf)
    | (refine ⟨cap_ok (by first | omega | (simp only [List.length_map]; omega)) rfl, ?_⟩; conv => whnf)
    | (refine ix_map (by omega) ?_; conv => whnf)
    | (refine ix_str (by omega) ?_; conv => whnf)
    | (refine wrap64 (by omega) ?_; conv => whnf)
    | (refine wrap64 (by omega) ?_; conv => whnf)
    | (refine str_add (by (try rw [encK_len (by omega)]); (try simp only [List.length_append, Dw.leB_length]); (try rw [encK_len (by omega)]); omega) ?_; conv => whnf)
    | (refine wrap64 (by have hno := hv.no (k := k) (by omega); obtain ⟨hw1, hu1, ha1, hl1, hr1⟩ := hno; omega) ?_; conv => whnf)
    | (exfalso; simp only [List.length_map, List.length_cons, List.length_nil, List.length_append] at h; omega)
    | ((with_reducible refine endx_go ?_); first | (exact endx (congrArg D.str (encK_all (by omega))); done))
    | (refine ⟨rfl, ?_⟩; conv => whnf)
    | fail
    )

end Go.Proofs.Ytolfkcmdfgakkaa

/-! Xd -/
namespace Go.Proofs.Ytolfkcmdfgakkaa
open Go Dw
set_option maxRecDepth 10000
set_option linter.unusedVariables false
set_option linter.unusedSimpArgs false
attribute [local irreducible] Run
set_option maxHeartbeats 4000000

/-- A loop whose first round starts from a state of its own. -/
theorem loopS1 {α : Type} {n0 : Nat} {V : List Nat} {W : Env → Heap → (Ex → Env → Heap → Prop) → Prop} {K : Ex → Env → Heap → Prop} {A : Env} {h : Heap} (A0 : Env) (H0 : Heap) (M : Nat) (m : α → Nat) (I : α → Prop) (As : α → Env) (hs : α → Heap)
    (hw : WkF V n0 A h A0 H0)
    (first : ∀ (C : Env → Heap → Prop), (∀ (a' : α) A' h', I a' → m a' < M → WkF V n0 A' h' (As a') (hs a') → C A' h') →
      W A0 H0 (fun ex A' h' => match ex with
        | .normal => C A' h'
        | .exit id => K (.exit id) A' h'
        | .ret => K .ret A' h'))
    (step : ∀ (a : α) (C : Env → Heap → Prop), I a → (∀ (a' : α) A' h', I a' → m a' < m a → WkF V n0 A' h' (As a') (hs a') → C A' h') →
      W (As a) (hs a) (fun ex A' h' => match ex with
        | .normal => C A' h'
        | .exit id => K (.exit id) A' h'
        | .ret => K .ret A' h')) : ∃ n, iterF V n0 W K n A h :=
  loopF (σ := Option α) (fun s => match s with | none => M | some a => m a) (fun s => match s with | none => True | some a => I a) (fun s => match s with | none => A0 | some a => As a) (fun s => match s with | none => H0 | some a => hs a) none trivial hw
    (fun s C hI hC => match s, hI, hC with
      | none, _, hC => first C (fun a' A' h' h1 h2 h3 => hC (some a') A' h' h1 h2 h3)
      | some a, hI, hC => step a C hI (fun a' A' h' h1 h2 h3 => hC (some a') A' h' h1 h2 h3))
def encR (x : Quo) : Bs × Int := if (checkQ x).2 = 0 then (encQ x, 0) else ([], (checkQ x).2)
theorem leB1_map (n : Nat) : (Dw.leB n 1).map byteV = [.d (.int .u8 (n % 256 : Nat))] := by
  simp only [Dw.leB, List.map_cons, List.map_nil, byteV_ofNat (Nat.mod_lt _ (by decide : 0 < 256))]
theorem enc0_map {x : Quo} {n : Nat} {b : Int} (hb : b = (bitB x.enf : Nat)) (hn : n = x.os.length) : [AV.d (.int .u8 b), AV.d (.int .u8 (n % 256 : Nat))] = (encK x 0).map byteV := by
  subst hn; subst hb
  have h : bitB x.enf % 256 = bitB x.enf := by unfold bitB; split <;> rfl
  rw [encK_0, List.map_append, leB1_map, leB1_map, h]
  rfl
theorem bit_t {x : Quo} (h : x.enf = true) : (1 : Int) = (bitB x.enf : Nat) := by rw [h]; unfold bitB; rfl
theorem bit_f {x : Quo} (h : x.enf = false) : (0 : Int) = (bitB x.enf : Nat) := by rw [h]; unfold bitB; rfl
attribute [local irreducible] checkQ encK encO bitB encQ

theorem c43e (x : Quo) (hx : x.os.length < 1000) (h0 : ¬ (checkQ x).2 = 0) : Fn 43 [x.enc] (.tup [.str (encR x).1, i (encR x).2]) := by
  refine run_walkF eok Try.func43 rfl (by kernel_rfl) ?_
  conv => whnf
  repeat' (first
    | ((with_reducible refine on_dec_t (by assumption) ?_); conv => whnf)
    | ((with_reducible refine on_dec_f (by assumption) ?_); conv => whnf)
    | ((with_reducible refine onBool_t (by assumption) ?_); conv => whnf)
    | ((with_reducible refine onBool_f (by assumption) ?_); conv => whnf)
    | ((with_reducible refine on_nt (by assumption) ?_); conv => whnf)
    | ((with_reducible refine on_nf (by assumption) ?_); conv => whnf)
    | ((with_reducible refine on_ndec_t (by first | assumption | rfl) ?_); conv => whnf)
    | ((with_reducible refine on_ndec_f (by assumption) ?_); conv => whnf)
    | ((with_reducible refine on_dec_t rfl ?_); conv => whnf)
    | ((with_reducible refine on_dec_f ?_ ?_); (focus ((try simp only [List.length_map, List.length_cons, List.length_nil, List.length_append]); omega)); conv => whnf)
    | ((with_reducible refine on_dec_t ?_ ?_); (focus ((try simp only [List.length_map, List.length_cons, List.length_nil, List.length_append]); omega)); conv => whnf)
    | ((with_reducible refine on_dec (fun h => ?_) (fun h => ?_)) <;> (try simp only [List.length_map] at h) <;> conv => whnf)
    | ((with_reducible refine on_ndec (fun h => ?_) (fun h => ?_)) <;> (try simp only [List.length_map] at h) <;> conv => whnf)
    | ((with_reducible refine on_not (fun h => ?_) (fun h => ?_)) <;> conv => whnf)
    | ((with_reducible refine onBool_split (fun h => ?_) (fun h => ?_)) <;> conv => whnf)
    | ((with_reducible refine call_go ?_); (first | refine call_step (run_data (xs := [_]) (c14 x hx) _) ?_); conv => whnf)
    | (refine ⟨⟨(by first | rfl | (simp; done)), cap_ok (by simp only [List.length_map, List.length_cons, List.length_nil, List.length_append]; omega) rfl⟩, ?_⟩; conv => whnf)
    | (refine ⟨mem_one ⟨rfl, rfl⟩, ?_⟩; conv => whnf)
    | (refine ⟨(by intro y hy; obtain ⟨x, _, rfl⟩ := List.mem_map.1 hy; first | rfl | exact ⟨rfl, rfl⟩), ?_⟩; conv => whnf)
    | (refine ⟨cap_ok (by first | omega | (simp only [List.length_map]; omega)) rfl, ?_⟩; conv => whnf)
    | (refine ix_map (by omega) ?_; conv => whnf)
    | (refine ix_str (by omega) ?_; conv => whnf)
    | (refine wrap64 (by omega) ?_; conv => whnf)
    | (exfalso; simp only [List.length_map, List.length_cons, List.length_nil, List.length_append] at h; omega)
    | ((with_reducible refine endx_go ?_); first | (refine endx2 ?_; unfold encR; (rw [if_neg h0]) <;> rfl; done))
    | (refine ⟨rfl, ?_⟩; conv => whnf)
    | fail
    )

theorem c43o (x : Quo) (hx : x.os.length < 1000) (h0 : (checkQ x).2 = 0) : Fn 43 [x.enc] (.tup [.str (encR x).1, i (encR x).2]) := by
  have hv := (checkQ_iff x).1 h0; have hl30 := hv.len
  refine run_walkF eok Try.func43 rfl (by kernel_rfl) ?_
  conv => whnf
  repeat' (first
    | ((with_reducible refine on_dec_t (by assumption) ?_); conv => whnf)
    | ((with_reducible refine on_dec_f (by assumption) ?_); conv => whnf)
    | ((with_reducible refine onBool_t (by assumption) ?_); conv => whnf)
    | ((with_reducible refine onBool_f (by assumption) ?_); conv => whnf)
    | ((with_reducible refine on_nt (by assumption) ?_); conv => whnf)
    | ((with_reducible refine on_nf (by assumption) ?_); conv => whnf)
    | ((with_reducible refine on_ndec_t (by first | assumption | rfl) ?_); conv => whnf)
    | ((with_reducible refine on_ndec_f (by assumption) ?_); conv => whnf)
    | ((with_reducible refine on_dec_t rfl ?_); conv => whnf)
    | ((with_reducible refine on_dec_f ?_ ?_); (focus ((try simp only [List.length_map, List.length_cons, List.length_nil, List.length_append]); omega)); conv => whnf)
    | ((with_reducible refine on_dec_t ?_ ?_); (focus ((try simp only [List.length_map, List.length_cons, List.length_nil, List.length_append]); omega)); conv => whnf)
    | ((with_reducible refine on_dec (fun h => ?_) (fun h => ?_)) <;> (try simp only [List.length_map] at h) <;> conv => whnf)
    | ((with_reducible refine on_ndec (fun h => ?_) (fun h => ?_)) <;> (try simp only [List.length_map] at h) <;> conv => whnf)
    | ((with_reducible refine on_not (fun h => ?_) (fun h => ?_)) <;> conv => whnf)
    | ((with_reducible refine onBool_split (fun h => ?_) (fun h => ?_)) <;> conv => whnf)
    | ((with_reducible refine call_go ?_); (first | refine call_step (run_data (xs := [_]) (c14 x hx) _) ?_ | refine call_step (run_buf (c76 (encK x k) ((x.os[k]'(by omega)).who) (by have hno := hv.no (k := k) (by omega); obtain ⟨hw1, hu1, ha1, hl1, hr1⟩ := hno; omega) (by rw [encK_len (by omega)]; omega)) rfl rfl rfl rfl) ?_ | refine call_step (run_buf (c76 ((encK x k) ++ Dw.leB ((x.os[k]'(by omega)).who).toNat 4) ((x.os[k]'(by omega)).used) (by have hno := hv.no (k := k) (by omega); obtain ⟨hw1, hu1, ha1, hl1, hr1⟩ := hno; omega) (by simp only [List.length_append, Dw.leB_length]; rw [encK_len (by omega)]; omega)) rfl rfl rfl (by simp only [List.length_append, Dw.leB_length]; (try rw [encK_len (by omega)]))) ?_ | refine call_step (run_buf (c76 (((encK x k) ++ Dw.leB ((x.os[k]'(by omega)).who).toNat 4) ++ Dw.leB ((x.os[k]'(by omega)).used).toNat 4) (((x.os[k]'(by omega)).warn + 1)) (by have hno := hv.no (k := k) (by omega); obtain ⟨hw1, hu1, ha1, hl1, hr1⟩ := hno; omega) (by simp only [List.length_append, Dw.leB_length]; rw [encK_len (by omega)]; omega)) rfl rfl rfl (by simp only [List.length_append, Dw.leB_length]; (try rw [encK_len (by omega)]))) ?_ | refine call_step (run_buf (c76 ((((encK x k) ++ Dw.leB ((x.os[k]'(by omega)).who).toNat 4) ++ Dw.leB ((x.os[k]'(by omega)).used).toNat 4) ++ Dw.leB (((x.os[k]'(by omega)).warn + 1)).toNat 4) (((x.os[k]'(by omega)).lim + 1)) (by have hno := hv.no (k := k) (by omega); obtain ⟨hw1, hu1, ha1, hl1, hr1⟩ := hno; omega) (by simp only [List.length_append, Dw.leB_length]; rw [encK_len (by omega)]; omega)) rfl rfl rfl (by simp only [List.length_append, Dw.leB_length]; (try rw [encK_len (by omega)]))) ?_ | refine call_step (run_buff (c76f (encK x 0) ((x.os[0]'(by omega)).who) (by have hno := hv.no (k := 0) (by omega); obtain ⟨hw1, hu1, ha1, hl1, hr1⟩ := hno; omega) (by rw [encK_len (by omega)]; omega)) rfl rfl rfl (by rw [encK_len (by omega)])) ?_ | refine call_step (run_buf (c76 ((encK x 0) ++ Dw.leB ((x.os[0]'(by omega)).who).toNat 4) ((x.os[0]'(by omega)).used) (by have hno := hv.no (k := 0) (by omega); obtain ⟨hw1, hu1, ha1, hl1, hr1⟩ := hno; omega) (by simp only [List.length_append, Dw.leB_length]; rw [encK_len (by omega)]; omega)) rfl rfl rfl (by simp only [List.length_append, Dw.leB_length]; (try rw [encK_len (by omega)]))) ?_ | refine call_step (run_buf (c76 (((encK x 0) ++ Dw.leB ((x.os[0]'(by omega)).who).toNat 4) ++ Dw.leB ((x.os[0]'(by omega)).used).toNat 4) (((x.os[0]'(by omega)).warn + 1)) (by have hno := hv.no (k := 0) (by omega); obtain ⟨hw1, hu1, ha1, hl1, hr1⟩ := hno; omega) (by simp only [List.length_append, Dw.leB_length]; rw [encK_len (by omega)]; omega)) rfl rfl rfl (by simp only [List.length_append, Dw.leB_length]; (try rw [encK_len (by omega)]))) ?_ | refine call_step (run_buf (c76 ((((encK x 0) ++ Dw.leB ((x.os[0]'(by omega)).who).toNat 4) ++ Dw.leB ((x.os[0]'(by omega)).used).toNat 4) ++ Dw.leB (((x.os[0]'(by omega)).warn + 1)).toNat 4) (((x.os[0]'(by omega)).lim + 1)) (by have hno := hv.no (k := 0) (by omega); obtain ⟨hw1, hu1, ha1, hl1, hr1⟩ := hno; omega) (by simp only [List.length_append, Dw.leB_length]; rw [encK_len (by omega)]; omega)) rfl rfl rfl (by simp only [List.length_append, Dw.leB_length]; (try rw [encK_len (by omega)]))) ?_ | refine call_step (run_buf (c77 (((((encK x k) ++ Dw.leB ((x.os[k]'(by omega)).who).toNat 4) ++ Dw.leB ((x.os[k]'(by omega)).used).toNat 4) ++ Dw.leB (((x.os[k]'(by omega)).warn + 1)).toNat 4) ++ Dw.leB (((x.os[k]'(by omega)).lim + 1)).toNat 4) ((x.os[k]'(by omega)).ref) (by have hno := hv.no (k := k) (by omega); obtain ⟨hw1, hu1, ha1, hl1, hr1⟩ := hno; omega) (by simp only [List.length_append, Dw.leB_length]; rw [encK_len (by omega)]; omega)) rfl rfl rfl (by simp only [List.length_append, Dw.leB_length]; (try rw [encK_len (by omega)]))) ?_ | refine call_step (run_buf (c77 (((((encK x 0) ++ Dw.leB ((x.os[0]'(by omega)).who).toNat 4) ++ Dw.leB ((x.os[0]'(by omega)).used).toNat 4) ++ Dw.leB (((x.os[0]'(by omega)).warn + 1)).toNat 4) ++ Dw.leB (((x.os[0]'(by omega)).lim + 1)).toNat 4) ((x.os[0]'(by omega)).ref) (by have hno := hv.no (k := 0) (by omega); obtain ⟨hw1, hu1, ha1, hl1, hr1⟩ := hno; omega) (by simp only [List.length_append, Dw.leB_length]; rw [encK_len (by omega)]; omega)) rfl rfl rfl (by simp only [List.length_append, Dw.leB_length]; (try rw [encK_len (by omega)]))) ?_); conv => whnf)
    | (refine ⟨⟨(by first | rfl | (simp; done)), cap_ok (by simp only [List.length_map, List.length_cons, List.length_nil, List.length_append]; omega) rfl⟩, ?_⟩; conv => whnf)
    | (refine ⟨mem_one ⟨rfl, rfl⟩, ?_⟩; conv => whnf)
    | (refine ⟨(by intro y hy; obtain ⟨x, _, rfl⟩ := List.mem_map.1 hy; first | rfl | exact ⟨rfl, rfl⟩), ?_⟩; conv => whnf)
    | (refine ⟨cap_ok (by first | omega | (simp only [List.length_map]; omega)) rfl, ?_⟩; conv => whnf)
    | (refine ix_map (by omega) ?_; conv => whnf)
    | (refine ix_str (by omega) ?_; conv => whnf)
    | (refine wrap64 (by omega) ?_; conv => whnf)
    | ((with_reducible refine loop_go ?_); refine loopS1 [(6, .sl 1 0 2 1 (some 2)), (29, .d (.fs (x.os.map Own.enc))), (30, .d (i x.os.length)), (31, .d (i 0))] [⟨[.junk], 2, 0⟩, ⟨(encK x 0).map byteV, 1, 0⟩] (x.os.length + 1) (fun k => x.os.length - k) (fun k => k ≤ x.os.length) (fun k => [(6, .sl 1 0 (encK x k).length 1 none), (29, .d (.fs (x.os.map Own.enc))), (30, .d (i x.os.length)), (31, .d (i k))]) (fun k => [⟨[.junk], 2, 0⟩, ⟨(encK x k).map byteV, 1, 0⟩]) ⟨[.old 0, .old 1], rfl, rfl, ⟨⟨rfl, rfl, rfl, rfl, rfl⟩, rfl, congrArg (fun z => D.int .i64 z) (by simp only [List.length_map]), rfl, trivial⟩, ⟨⟨rfl, rfl, .inr ⟨trivial, trivial⟩⟩, wkO_bytes (encK x 0) rfl rfl rfl (enc0_map (by first | exact bit_t h | exact bit_f h) (by simp only [List.length_map])) rfl, trivial⟩⟩ (fun C hC => ?_) (fun k C hI hC => ?_); all_goals (conv => whnf))
    | (refine ⟨[(6, .sl 1 0 (encK x k).length 1 none), (8, .ptr 2 0 0), (29, .d (.fs (x.os.map Own.enc))), (30, .d (i x.os.length)), (31, .d (i k)), (45, .agg [.d (i (x.os[k]'(by omega)).who), .d (i (x.os[k]'(by omega)).used), .d (i ((x.os[k]'(by omega)).warn + 1)), .d (i ((x.os[k]'(by omega)).lim + 1))]), (46, .d (i 0))], _, .inl ⟨rfl, rfl, rfl, rfl, rfl, rfl, rfl, rfl, trivial⟩, ?_⟩; conv => whnf)
    | (refine ⟨[(6, .sl 3 0 ((encK x k).length + (Dw.leB ((x.os[k]'(by omega)).who).toNat 4).length) 1 none), (8, .ptr 2 0 0), (29, .d (.fs (x.os.map Own.enc))), (30, .d (i x.os.length)), (31, .d (i k)), (45, .agg [.d (i (x.os[k]'(by omega)).who), .d (i (x.os[k]'(by omega)).used), .d (i ((x.os[k]'(by omega)).warn + 1)), .d (i ((x.os[k]'(by omega)).lim + 1))]), (46, .d (i 1))], _, .inl ⟨rfl, rfl, rfl, rfl, rfl, rfl, rfl, rfl, trivial⟩, ?_⟩; conv => whnf)
    | (refine ⟨[(6, .sl 4 0 (((encK x k).length + (Dw.leB ((x.os[k]'(by omega)).who).toNat 4).length) + (Dw.leB ((x.os[k]'(by omega)).used).toNat 4).length) 1 none), (8, .ptr 2 0 0), (29, .d (.fs (x.os.map Own.enc))), (30, .d (i x.os.length)), (31, .d (i k)), (45, .agg [.d (i (x.os[k]'(by omega)).who), .d (i (x.os[k]'(by omega)).used), .d (i ((x.os[k]'(by omega)).warn + 1)), .d (i ((x.os[k]'(by omega)).lim + 1))]), (46, .d (i 2))], _, .inl ⟨rfl, rfl, rfl, rfl, rfl, rfl, rfl, rfl, trivial⟩, ?_⟩; conv => whnf)
    | (refine ⟨[(6, .sl 5 0 ((((encK x k).length + (Dw.leB ((x.os[k]'(by omega)).who).toNat 4).length) + (Dw.leB ((x.os[k]'(by omega)).used).toNat 4).length) + (Dw.leB (((x.os[k]'(by omega)).warn + 1)).toNat 4).length) 1 none), (8, .ptr 2 0 0), (29, .d (.fs (x.os.map Own.enc))), (30, .d (i x.os.length)), (31, .d (i k)), (45, .agg [.d (i (x.os[k]'(by omega)).who), .d (i (x.os[k]'(by omega)).used), .d (i ((x.os[k]'(by omega)).warn + 1)), .d (i ((x.os[k]'(by omega)).lim + 1))]), (46, .d (i 3))], _, .inl ⟨rfl, rfl, rfl, rfl, rfl, rfl, rfl, rfl, trivial⟩, ?_⟩; conv => whnf)
    | (refine ⟨[(6, .sl 6 0 (((((encK x k).length + (Dw.leB ((x.os[k]'(by omega)).who).toNat 4).length) + (Dw.leB ((x.os[k]'(by omega)).used).toNat 4).length) + (Dw.leB (((x.os[k]'(by omega)).warn + 1)).toNat 4).length) + (Dw.leB (((x.os[k]'(by omega)).lim + 1)).toNat 4).length) 1 none), (8, .ptr 2 0 0), (29, .d (.fs (x.os.map Own.enc))), (30, .d (i x.os.length)), (31, .d (i k)), (45, .agg [.d (i (x.os[k]'(by omega)).who), .d (i (x.os[k]'(by omega)).used), .d (i ((x.os[k]'(by omega)).warn + 1)), .d (i ((x.os[k]'(by omega)).lim + 1))]), (46, .d (i 4))], _, .inl ⟨rfl, rfl, rfl, rfl, rfl, rfl, rfl, rfl, trivial⟩, ?_⟩; conv => whnf)
    | (refine ⟨[(6, .sl 1 0 2 1 (some 2)), (8, .ptr 2 0 0), (29, .d (.fs (x.os.map Own.enc))), (30, .d (i x.os.length)), (31, .d (i 0)), (45, .agg [.d (i (x.os[0]'(by omega)).who), .d (i (x.os[0]'(by omega)).used), .d (i ((x.os[0]'(by omega)).warn + 1)), .d (i ((x.os[0]'(by omega)).lim + 1))]), (46, .d (i 0))], _, .inl ⟨rfl, rfl, rfl, rfl, rfl, rfl, rfl, rfl, trivial⟩, ?_⟩; conv => whnf)
    | (refine ⟨[(6, .sl 3 0 (2 + (Dw.leB ((x.os[0]'(by omega)).who).toNat 4).length) 1 none), (8, .ptr 2 0 0), (29, .d (.fs (x.os.map Own.enc))), (30, .d (i x.os.length)), (31, .d (i 0)), (45, .agg [.d (i (x.os[0]'(by omega)).who), .d (i (x.os[0]'(by omega)).used), .d (i ((x.os[0]'(by omega)).warn + 1)), .d (i ((x.os[0]'(by omega)).lim + 1))]), (46, .d (i 1))], _, .inl ⟨rfl, rfl, rfl, rfl, rfl, rfl, rfl, rfl, trivial⟩, ?_⟩; conv => whnf)
    | (refine ⟨[(6, .sl 4 0 ((2 + (Dw.leB ((x.os[0]'(by omega)).who).toNat 4).length) + (Dw.leB ((x.os[0]'(by omega)).used).toNat 4).length) 1 none), (8, .ptr 2 0 0), (29, .d (.fs (x.os.map Own.enc))), (30, .d (i x.os.length)), (31, .d (i 0)), (45, .agg [.d (i (x.os[0]'(by omega)).who), .d (i (x.os[0]'(by omega)).used), .d (i ((x.os[0]'(by omega)).warn + 1)), .d (i ((x.os[0]'(by omega)).lim + 1))]), (46, .d (i 2))], _, .inl ⟨rfl, rfl, rfl, rfl, rfl, rfl, rfl, rfl, trivial⟩, ?_⟩; conv => whnf)
    | (refine ⟨[(6, .sl 5 0 (((2 + (Dw.leB ((x.os[0]'(by omega)).who).toNat 4).length) + (Dw.leB ((x.os[0]'(by omega)).used).toNat 4).length) + (Dw.leB (((x.os[0]'(by omega)).warn + 1)).toNat 4).length) 1 none), (8, .ptr 2 0 0), (29, .d (.fs (x.os.map Own.enc))), (30, .d (i x.os.length)), (31, .d (i 0)), (45, .agg [.d (i (x.os[0]'(by omega)).who), .d (i (x.os[0]'(by omega)).used), .d (i ((x.os[0]'(by omega)).warn + 1)), .d (i ((x.os[0]'(by omega)).lim + 1))]), (46, .d (i 3))], _, .inl ⟨rfl, rfl, rfl, rfl, rfl, rfl, rfl, rfl, trivial⟩, ?_⟩; conv => whnf)
    | (refine ⟨[(6, .sl 6 0 ((((2 + (Dw.leB ((x.os[0]'(by omega)).who).toNat 4).length) + (Dw.leB ((x.os[0]'(by omega)).used).toNat 4).length) + (Dw.leB (((x.os[0]'(by omega)).warn + 1)).toNat 4).length) + (Dw.leB (((x.os[0]'(by omega)).lim + 1)).toNat 4).length) 1 none), (8, .ptr 2 0 0), (29, .d (.fs (x.os.map Own.enc))), (30, .d (i x.os.length)), (31, .d (i 0)), (45, .agg [.d (i (x.os[0]'(by omega)).who), .d (i (x.os[0]'(by omega)).used), .d (i ((x.os[0]'(by omega)).warn + 1)), .d (i ((x.os[0]'(by omega)).lim + 1))]), (46, .d (i 4))], _, .inl ⟨rfl, rfl, rfl, rfl, rfl, rfl, rfl, rfl, trivial⟩, ?_⟩; conv => whnf)
    | ((with_reducible refine loop_go ?_); refine ⟨5, ?_⟩; conv => whnf)
    | (refine hC (k + 1) _ _ ?_ (by omega) ?_; clear hC; rotate_left; (exact ⟨[.old 0, .old 7], rfl, rfl, ⟨⟨rfl, rfl, (by rw [encK_len (by omega)]; first | (simp only [Dw.leB_length]; done) | (simp only [Dw.leB_length]; (try rw [encK_len (by omega)]); omega)), rfl, rfl⟩, rfl, rfl, congrArg (fun z => D.int .i64 z) (by omega), trivial⟩, ⟨⟨rfl, rfl, .inr ⟨trivial, trivial⟩⟩, wkO_bytes (encK x (k + 1)) rfl rfl rfl (by rw [encK_s (k := k) (by omega)]; unfold encO; simp only [List.append_assoc]) rfl, trivial⟩⟩); (omega))
    | (refine hC (1) _ _ ?_ (by omega) ?_; clear hC; rotate_left; (exact ⟨[.old 0, .old 7], rfl, rfl, ⟨⟨rfl, rfl, (by rw [encK_len (by omega)]; first | (simp only [Dw.leB_length]; done) | (simp only [Dw.leB_length]; (try rw [encK_len (by omega)]); omega)), rfl, rfl⟩, rfl, rfl, congrArg (fun z => D.int .i64 z) (by omega), trivial⟩, ⟨⟨rfl, rfl, .inr ⟨trivial, trivial⟩⟩, wkO_bytes (encK x (0 + 1)) rfl rfl rfl (by rw [encK_s (k := 0) (by omega)]; unfold encO; simp only [List.append_assoc]) rfl, trivial⟩⟩); (omega))
    | (refine wrap_to 1 rfl (by omega) ?_; conv => whnf)
    | (refine wrap_to 2 rfl (by omega) ?_; conv => whnf)
    | (refine wrap_to 3 rfl (by omega) ?_; conv => whnf)
    | (refine wrap_to 4 rfl (by omega) ?_; conv => whnf)
    | (refine wrap64 (by omega) ?_; conv => whnf)
    | (refine wrapU8n ?_; conv => whnf)
    | (refine ⟨⟨by omega, by show (_ : Int) < 4; omega⟩, ?_⟩; conv => whnf)
    | (refine ⟨⟨by omega, by omega⟩, ?_⟩; conv => whnf)
    | (refine ix_at 0 rfl (by omega) ?_; conv => whnf)
    | (refine wrapU32 (by have hno := hv.no (k := k) (by omega); obtain ⟨hw1, hu1, ha1, hl1, hr1⟩ := hno; omega) ?_; conv => whnf)
    | (refine wrapU32 (by have hno := hv.no (k := 0) (by omega); obtain ⟨hw1, hu1, ha1, hl1, hr1⟩ := hno; omega) ?_; conv => whnf)
    | (refine wrapU16 (by have hno := hv.no (k := k) (by omega); obtain ⟨hw1, hu1, ha1, hl1, hr1⟩ := hno; omega) ?_; conv => whnf)
    | (refine wrapU16 (by have hno := hv.no (k := 0) (by omega); obtain ⟨hw1, hu1, ha1, hl1, hr1⟩ := hno; omega) ?_; conv => whnf)
    | (refine wrap64 (by have hno := hv.no (k := k) (by omega); obtain ⟨hw1, hu1, ha1, hl1, hr1⟩ := hno; omega) ?_; conv => whnf)
    | (refine wrap64 (by have hno := hv.no (k := 0) (by omega); obtain ⟨hw1, hu1, ha1, hl1, hr1⟩ := hno; omega) ?_; conv => whnf)
    | (refine ⟨encK x k, ⟨?_, ?_⟩, ?_⟩; rotate_left; rotate_left; (conv => whnf); rotate_right; rotate_right; (focus (first | (simp; done) | (rw [List.length_map, encK_len (by omega)]; omega))); (focus (rw [List.drop_zero]; refine List.take_of_length_le ?_; first | (simp; done) | (rw [List.length_map, encK_len (by omega)]; omega))))
    | (refine ⟨encK x 0, ⟨?_, ?_⟩, ?_⟩; rotate_left; rotate_left; (conv => whnf); rotate_right; rotate_right; (focus (first | (simp; done) | (rw [List.length_map, encK_len (by omega)]; omega))); (focus (rw [List.drop_zero]; refine List.take_of_length_le ?_; first | (simp; done) | (rw [List.length_map, encK_len (by omega)]; omega))))
    | (exfalso; simp only [List.length_map, List.length_cons, List.length_nil, List.length_append] at h; omega)
    | ((with_reducible refine endx_go ?_); first | (refine endx2 ?_; unfold encR; (rw [if_pos h0, encK_all (by omega)]) <;> rfl; done))
    | (refine ⟨rfl, ?_⟩; conv => whnf)
    | fail
    )

theorem c43 (x : Quo) (hx : x.os.length < 1000) : Fn 43 [x.enc] (.tup [.str (encR x).1, i (encR x).2]) := by
  by_cases h0 : (checkQ x).2 = 0
  · exact c43o x hx h0
  · exact c43e x hx h0

end Go.Proofs.Ytolfkcmdfgakkaa

/-! Xe -/
namespace Go.Proofs.Ytolfkcmdfgakkaa
open Go Dw
set_option maxRecDepth 10000
set_option linter.unusedVariables false
set_option linter.unusedSimpArgs false
attribute [local irreducible] Run
set_option maxHeartbeats 4000000

theorem decR_len (s : Bs) : (decR s).1.os.length < 1000 := by
  have hb : byAt s 1 < 256 := by unfold byAt; exact nAt_lt s 1 1
  unfold decR
  split
  · decide
  · split
    · decide
    · split
      · decide
      · split
        · decide
        · split
          · show (decQ s).os.length < 1000
            unfold decQ; rw [ownsAt_len]; omega
          · show emp.os.length < 1000; decide
theorem decR_ok {s : Bs} (h : (decR s).2 = 0) : (checkQ (decR s).1).2 = 0 ∧ encQ (decR s).1 = s := by
  have key : ¬ s.length < 2 ∧ ¬ 30 < byAt s 1 ∧ ¬ s.length < 2 + 18 * byAt s 1 ∧ ¬ (1 < byAt s 0 ∨ 2 + 18 * byAt s 1 < s.length) ∧ (checkQ (decQ s)).2 = 0 ∧ decR s = (decQ s, 0) := by
    unfold decR at h ⊢
    by_cases h1 : s.length < 2
    · rw [if_pos h1] at h; exact absurd h (by decide)
    · rw [if_neg h1] at h ⊢
      by_cases h2 : 30 < byAt s 1
      · rw [if_pos h2] at h; exact absurd h (by decide)
      · rw [if_neg h2] at h ⊢
        by_cases h3 : s.length < 2 + 18 * byAt s 1
        · rw [if_pos h3] at h; exact absurd h (by decide)
        · rw [if_neg h3] at h ⊢
          by_cases h4 : 1 < byAt s 0 ∨ 2 + 18 * byAt s 1 < s.length
          · rw [if_pos h4] at h; exact absurd h (by decide)
          · rw [if_neg h4] at h ⊢
            by_cases h5 : (checkQ (decQ s)).2 = 0
            · rw [if_pos h5]; exact ⟨h1, h2, h3, h4, h5, rfl⟩
            · rw [if_neg h5] at h; exact absurd h h5
  obtain ⟨h1, h2, h3, h4, h5, h6⟩ := key
  rw [h6]
  refine ⟨h5, ?_⟩
  show encQ (decQ s) = s
  unfold decQ
  exact enc_dec (by omega) rfl (by omega) rfl
theorem VO.ok {o : Own} (h : VO o) : okO o := by
  have hw := whoE_0 h.who
  exact ⟨⟨hw.1, by omega⟩, h.used, h.warn, h.lim, h.ref⟩
theorem dec_enc {x : Quo} (hv : VQ x) : decR (encQ x) = (x, 0) := by
  have hl := hv.len
  have hn := encQ_len x
  obtain ⟨b0, b1⟩ := by_enc hl
  have hb : bitB x.enf ≤ 1 := by unfold bitB; split <;> omega
  have hq : decQ (encQ x) = x := by
    unfold decQ
    rw [b0, b1, owns_enc fun o ho => (hv.own o ho).ok]
    have : decide (bitB x.enf = 1) = x.enf := by cases x.enf <;> rfl
    rw [this]
  unfold decR
  rw [b0, b1, if_neg (by omega), if_neg (by omega), if_neg (by omega), if_neg (by omega), hq, if_pos ((checkQ_iff x).2 hv)]
theorem encR_0 {x : Quo} (h : (checkQ x).2 = 0) : encR x = (encQ x, 0) := by unfold encR; rw [if_pos h]
theorem encR_e {x : Quo} (h : ¬ (checkQ x).2 = 0) : encR x = ([], (checkQ x).2) := by unfold encR; rw [if_neg h]
attribute [local irreducible] checkQ encR decR encQ

theorem c11ee (x : Quo) (s : Bs) (hx : x.os.length ≤ 32) (hs : s.length ≤ 700) (h0 : ¬ (checkQ x).2 = 0) (hd : ¬ (decR s).2 = 0) : Fn 11 [x.enc, .str s] (.bool true) := by
  have hy := decR_len s; have e1 : (encR x).2 = (checkQ x).2 := (by rw [encR_e h0]); have e2 : (encR x).1 = [] := (by rw [encR_e h0])
  refine run_walkF eok Try.func11 rfl (by kernel_rfl) ?_
  conv => whnf
  repeat' (first
    | ((with_reducible refine on_dec_t (by assumption) ?_); conv => whnf)
    | ((with_reducible refine on_dec_f (by assumption) ?_); conv => whnf)
    | ((with_reducible refine onBool_t (by assumption) ?_); conv => whnf)
    | ((with_reducible refine onBool_f (by assumption) ?_); conv => whnf)
    | ((with_reducible refine on_nt (by assumption) ?_); conv => whnf)
    | ((with_reducible refine on_nf (by assumption) ?_); conv => whnf)
    | ((with_reducible refine on_ndec_t (by first | assumption | rfl) ?_); conv => whnf)
    | ((with_reducible refine on_ndec_f (by assumption) ?_); conv => whnf)
    | ((with_reducible refine on_dec_t rfl ?_); conv => whnf)
    | ((with_reducible refine on_dec_f ?_ ?_); (focus ((try simp only [List.length_map, List.length_cons, List.length_nil, List.length_append]); omega)); conv => whnf)
    | ((with_reducible refine on_dec_t ?_ ?_); (focus ((try simp only [List.length_map, List.length_cons, List.length_nil, List.length_append]); omega)); conv => whnf)
    | ((with_reducible refine on_dec (fun h => ?_) (fun h => ?_)) <;> (try simp only [List.length_map] at h) <;> conv => whnf)
    | ((with_reducible refine on_ndec (fun h => ?_) (fun h => ?_)) <;> (try simp only [List.length_map] at h) <;> conv => whnf)
    | ((with_reducible refine on_not (fun h => ?_) (fun h => ?_)) <;> conv => whnf)
    | ((with_reducible refine onBool_split (fun h => ?_) (fun h => ?_)) <;> conv => whnf)
    | ((with_reducible refine call_go ?_); (first | refine call_step (run_data (xs := []) c12 _) ?_ | refine call_step (run_data (xs := [_]) (c13 x) _) ?_ | refine call_step (run_data (xs := [_]) (c15 x (by omega)) _) ?_ | refine call_step (run_data (xs := [_]) (c15 (decR s).1 (by omega)) _) ?_ | refine call_step (run_data (xs := [_]) (c43 x (by omega)) _) ?_ | refine call_step (run_data (xs := [_]) (c43 (decR s).1 hy) _) ?_ | refine call_step (run_data (xs := [_]) (c44 s (by omega)) _) ?_ | refine call_step (run_data (xs := [_]) (c44 (encR x).1 (by rw [e2, encQ_len]; omega)) _) ?_ | refine call_step (run_data (xs := [_]) (c45 s (by omega)) _) ?_ | refine call_step (run_data (xs := [_, _]) (c36 (decR s).1 (decR s).1 (by omega) (by omega)) _) ?_ | refine call_step (run_data (xs := [_, _]) (c36 (decR (encR x).1).1 x (by rw [e6]; omega) (by omega)) _) ?_ | refine call_step (run_data (xs := [_]) (c31 x (by omega)) _) ?_ | refine call_step (run_data (xs := [_]) (c46 x hv) _) ?_); conv => whnf)
    | (refine ⟨⟨(by first | rfl | (simp; done)), cap_ok (by simp only [List.length_map, List.length_cons, List.length_nil, List.length_append]; omega) rfl⟩, ?_⟩; conv => whnf)
    | (refine ⟨mem_one ⟨rfl, rfl⟩, ?_⟩; conv => whnf)
    | (refine ⟨(by intro y hy; obtain ⟨x, _, rfl⟩ := List.mem_map.1 hy; first | rfl | exact ⟨rfl, rfl⟩), ?_⟩; conv => whnf)
    | (refine ⟨cap_ok (by first | omega | (simp only [List.length_map]; omega)) rfl, ?_⟩; conv => whnf)
    | (refine ix_map (by omega) ?_; conv => whnf)
    | (refine ix_str (by omega) ?_; conv => whnf)
    | (refine wrap64 (by omega) ?_; conv => whnf)
    | (refine wrap64 (by omega) ?_; conv => whnf)
    | (exfalso; simp only [List.length_map, List.length_cons, List.length_nil, List.length_append] at h; omega)
    | ((with_reducible refine endx_go ?_); first | (exact endx rfl; done) | (exact endx (congrArg D.bool (decide_eq_true (by assumption))); done))
    | (refine ⟨rfl, ?_⟩; conv => whnf)
    | fail
    )

theorem c11eo (x : Quo) (s : Bs) (hx : x.os.length ≤ 32) (hs : s.length ≤ 700) (h0 : ¬ (checkQ x).2 = 0) (hd : (decR s).2 = 0) : Fn 11 [x.enc, .str s] (.bool true) := by
  have hy := decR_len s; have e1 : (encR x).2 = (checkQ x).2 := (by rw [encR_e h0]); have e2 : (encR x).1 = [] := (by rw [encR_e h0]); obtain ⟨d1, d2⟩ := decR_ok hd; have e3 : (encR (decR s).1).2 = 0 := (by rw [encR_0 d1]); have e4 : (encR (decR s).1).1 = s := (by rw [encR_0 d1]; exact d2)
  refine run_walkF eok Try.func11 rfl (by kernel_rfl) ?_
  conv => whnf
  repeat' (first
    | ((with_reducible refine on_dec_t (by assumption) ?_); conv => whnf)
    | ((with_reducible refine on_dec_f (by assumption) ?_); conv => whnf)
    | ((with_reducible refine onBool_t (by assumption) ?_); conv => whnf)
    | ((with_reducible refine onBool_f (by assumption) ?_); conv => whnf)
    | ((with_reducible refine on_nt (by assumption) ?_); conv => whnf)
    | ((with_reducible refine on_nf (by assumption) ?_); conv => whnf)
    | ((with_reducible refine on_ndec_t (by first | assumption | rfl) ?_); conv => whnf)
    | ((with_reducible refine on_ndec_f (by assumption) ?_); conv => whnf)
    | ((with_reducible refine on_dec_t rfl ?_); conv => whnf)
    | ((with_reducible refine on_dec_f ?_ ?_); (focus ((try simp only [List.length_map, List.length_cons, List.length_nil, List.length_append]); omega)); conv => whnf)
    | ((with_reducible refine on_dec_t ?_ ?_); (focus ((try simp only [List.length_map, List.length_cons, List.length_nil, List.length_append]); omega)); conv => whnf)
    | ((with_reducible refine on_dec (fun h => ?_) (fun h => ?_)) <;> (try simp only [List.length_map] at h) <;> conv => whnf)
    | ((with_reducible refine on_ndec (fun h => ?_) (fun h => ?_)) <;> (try simp only [List.length_map] at h) <;> conv => whnf)
    | ((with_reducible refine on_not (fun h => ?_) (fun h => ?_)) <;> conv => whnf)
    | ((with_reducible refine onBool_split (fun h => ?_) (fun h => ?_)) <;> conv => whnf)
    | ((with_reducible refine call_go ?_); (first | refine call_step (run_data (xs := []) c12 _) ?_ | refine call_step (run_data (xs := [_]) (c13 x) _) ?_ | refine call_step (run_data (xs := [_]) (c15 x (by omega)) _) ?_ | refine call_step (run_data (xs := [_]) (c15 (decR s).1 (by omega)) _) ?_ | refine call_step (run_data (xs := [_]) (c43 x (by omega)) _) ?_ | refine call_step (run_data (xs := [_]) (c43 (decR s).1 hy) _) ?_ | refine call_step (run_data (xs := [_]) (c44 s (by omega)) _) ?_ | refine call_step (run_data (xs := [_]) (c44 (encR x).1 (by rw [e2, encQ_len]; omega)) _) ?_ | refine call_step (run_data (xs := [_]) (c45 s (by omega)) _) ?_ | refine call_step (run_data (xs := [_, _]) (c36 (decR s).1 (decR s).1 (by omega) (by omega)) _) ?_ | refine call_step (run_data (xs := [_, _]) (c36 (decR (encR x).1).1 x (by rw [e6]; omega) (by omega)) _) ?_ | refine call_step (run_data (xs := [_]) (c31 x (by omega)) _) ?_ | refine call_step (run_data (xs := [_]) (c46 x hv) _) ?_); conv => whnf)
    | (refine ⟨⟨(by first | rfl | (simp; done)), cap_ok (by simp only [List.length_map, List.length_cons, List.length_nil, List.length_append]; omega) rfl⟩, ?_⟩; conv => whnf)
    | (refine ⟨mem_one ⟨rfl, rfl⟩, ?_⟩; conv => whnf)
    | (refine ⟨(by intro y hy; obtain ⟨x, _, rfl⟩ := List.mem_map.1 hy; first | rfl | exact ⟨rfl, rfl⟩), ?_⟩; conv => whnf)
    | (refine ⟨cap_ok (by first | omega | (simp only [List.length_map]; omega)) rfl, ?_⟩; conv => whnf)
    | (refine ix_map (by omega) ?_; conv => whnf)
    | (refine ix_str (by omega) ?_; conv => whnf)
    | (refine wrap64 (by omega) ?_; conv => whnf)
    | (refine wrap64 (by omega) ?_; conv => whnf)
    | (exfalso; simp only [List.length_map, List.length_cons, List.length_nil, List.length_append] at h; omega)
    | ((with_reducible refine endx_go ?_); first | (exact endx rfl; done) | (exact endx (congrArg D.bool (decide_eq_true (by assumption))); done))
    | (refine ⟨rfl, ?_⟩; conv => whnf)
    | fail
    )

theorem c11oe (x : Quo) (s : Bs) (hx : x.os.length ≤ 32) (hs : s.length ≤ 700) (h0 : (checkQ x).2 = 0) (hd : ¬ (decR s).2 = 0) : Fn 11 [x.enc, .str s] (.bool true) := by
  have hy := decR_len s; have hv := (checkQ_iff x).1 h0; have hl30 := hv.len; have e1 : (encR x).2 = 0 := (by rw [encR_0 h0]); have e2 : (encR x).1 = encQ x := (by rw [encR_0 h0]); have e5 : (decR (encR x).1).2 = 0 := (by rw [e2, dec_enc hv]); have e6 : (decR (encR x).1).1 = x := (by rw [e2, dec_enc hv])
  refine run_walkF eok Try.func11 rfl (by kernel_rfl) ?_
  conv => whnf
  repeat' (first
    | ((with_reducible refine on_dec_t (by assumption) ?_); conv => whnf)
    | ((with_reducible refine on_dec_f (by assumption) ?_); conv => whnf)
    | ((with_reducible refine onBool_t (by assumption) ?_); conv => whnf)
    | ((with_reducible refine onBool_f (by assumption) ?_); conv => whnf)
    | ((with_reducible refine on_nt (by assumption) ?_); conv => whnf)
    | ((with_reducible refine on_nf (by assumption) ?_); conv => whnf)
    | ((with_reducible refine on_ndec_t (by first | assumption | rfl) ?_); conv => whnf)
    | ((with_reducible refine on_ndec_f (by assumption) ?_); conv => whnf)
    | ((with_reducible refine on_dec_t rfl ?_); conv => whnf)
    | ((with_reducible refine on_dec_f ?_ ?_); (focus ((try simp only [List.length_map, List.length_cons, List.length_nil, List.length_append]); omega)); conv => whnf)
    | ((with_reducible refine on_dec_t ?_ ?_); (focus ((try simp only [List.length_map, List.length_cons, List.length_nil, List.length_append]); omega)); conv => whnf)
    | ((with_reducible refine on_dec (fun h => ?_) (fun h => ?_)) <;> (try simp only [List.length_map] at h) <;> conv => whnf)
    | ((with_reducible refine on_ndec (fun h => ?_) (fun h => ?_)) <;> (try simp only [List.length_map] at h) <;> conv => whnf)
    | ((with_reducible refine on_not (fun h => ?_) (fun h => ?_)) <;> conv => whnf)
    | ((with_reducible refine onBool_split (fun h => ?_) (fun h => ?_)) <;> conv => whnf)
    | ((with_reducible refine call_go ?_); (first | refine call_step (run_data (xs := []) c12 _) ?_ | refine call_step (run_data (xs := [_]) (c13 x) _) ?_ | refine call_step (run_data (xs := [_]) (c15 x (by omega)) _) ?_ | refine call_step (run_data (xs := [_]) (c15 (decR s).1 (by omega)) _) ?_ | refine call_step (run_data (xs := [_]) (c43 x (by omega)) _) ?_ | refine call_step (run_data (xs := [_]) (c43 (decR s).1 hy) _) ?_ | refine call_step (run_data (xs := [_]) (c44 s (by omega)) _) ?_ | refine call_step (run_data (xs := [_]) (c44 (encR x).1 (by rw [e2, encQ_len]; omega)) _) ?_ | refine call_step (run_data (xs := [_]) (c45 s (by omega)) _) ?_ | refine call_step (run_data (xs := [_, _]) (c36 (decR s).1 (decR s).1 (by omega) (by omega)) _) ?_ | refine call_step (run_data (xs := [_, _]) (c36 (decR (encR x).1).1 x (by rw [e6]; omega) (by omega)) _) ?_ | refine call_step (run_data (xs := [_]) (c31 x (by omega)) _) ?_ | refine call_step (run_data (xs := [_]) (c46 x hv) _) ?_); conv => whnf)
    | (refine ⟨⟨(by first | rfl | (simp; done)), cap_ok (by simp only [List.length_map, List.length_cons, List.length_nil, List.length_append]; omega) rfl⟩, ?_⟩; conv => whnf)
    | (refine ⟨mem_one ⟨rfl, rfl⟩, ?_⟩; conv => whnf)
    | (refine ⟨(by intro y hy; obtain ⟨x, _, rfl⟩ := List.mem_map.1 hy; first | rfl | exact ⟨rfl, rfl⟩), ?_⟩; conv => whnf)
    | (refine ⟨cap_ok (by first | omega | (simp only [List.length_map]; omega)) rfl, ?_⟩; conv => whnf)
    | (refine ix_map (by omega) ?_; conv => whnf)
    | (refine ix_str (by omega) ?_; conv => whnf)
    | (refine wrap64 (by omega) ?_; conv => whnf)
    | (refine wrap64 (by omega) ?_; conv => whnf)
    | (exfalso; simp only [List.length_map, List.length_cons, List.length_nil, List.length_append] at h; omega)
    | ((with_reducible refine endx_go ?_); first | (exact endx rfl; done) | (exact endx (congrArg D.bool (decide_eq_true (by assumption))); done))
    | (refine ⟨rfl, ?_⟩; conv => whnf)
    | fail
    )

theorem c11oo (x : Quo) (s : Bs) (hx : x.os.length ≤ 32) (hs : s.length ≤ 700) (h0 : (checkQ x).2 = 0) (hd : (decR s).2 = 0) : Fn 11 [x.enc, .str s] (.bool true) := by
  have hy := decR_len s; have hv := (checkQ_iff x).1 h0; have hl30 := hv.len; have e1 : (encR x).2 = 0 := (by rw [encR_0 h0]); have e2 : (encR x).1 = encQ x := (by rw [encR_0 h0]); have e5 : (decR (encR x).1).2 = 0 := (by rw [e2, dec_enc hv]); have e6 : (decR (encR x).1).1 = x := (by rw [e2, dec_enc hv]); obtain ⟨d1, d2⟩ := decR_ok hd; have e3 : (encR (decR s).1).2 = 0 := (by rw [encR_0 d1]); have e4 : (encR (decR s).1).1 = s := (by rw [encR_0 d1]; exact d2)
  refine run_walkF eok Try.func11 rfl (by kernel_rfl) ?_
  conv => whnf
  repeat' (first
    | ((with_reducible refine on_dec_t (by assumption) ?_); conv => whnf)
    | ((with_reducible refine on_dec_f (by assumption) ?_); conv => whnf)
    | ((with_reducible refine onBool_t (by assumption) ?_); conv => whnf)
    | ((with_reducible refine onBool_f (by assumption) ?_); conv => whnf)
    | ((with_reducible refine on_nt (by assumption) ?_); conv => whnf)
    | ((with_reducible refine on_nf (by assumption) ?_); conv => whnf)
    | ((with_reducible refine on_ndec_t (by first | assumption | rfl) ?_); conv => whnf)
    | ((with_reducible refine on_ndec_f (by assumption) ?_); conv => whnf)
    | ((with_reducible refine on_dec_t rfl ?_); conv => whnf)
    | ((with_reducible refine on_dec_f ?_ ?_); (focus ((try simp only [List.length_map, List.length_cons, List.length_nil, List.length_append]); omega)); conv => whnf)
    | ((with_reducible refine on_dec_t ?_ ?_); (focus ((try simp only [List.length_map, List.length_cons, List.length_nil, List.length_append]); omega)); conv => whnf)
    | ((with_reducible refine on_dec (fun h => ?_) (fun h => ?_)) <;> (try simp only [List.length_map] at h) <;> conv => whnf)
    | ((with_reducible refine on_ndec (fun h => ?_) (fun h => ?_)) <;> (try simp only [List.length_map] at h) <;> conv => whnf)
    | ((with_reducible refine on_not (fun h => ?_) (fun h => ?_)) <;> conv => whnf)
    | ((with_reducible refine onBool_split (fun h => ?_) (fun h => ?_)) <;> conv => whnf)
    | ((with_reducible refine call_go ?_); (first | refine call_step (run_data (xs := []) c12 _) ?_ | refine call_step (run_data (xs := [_]) (c13 x) _) ?_ | refine call_step (run_data (xs := [_]) (c15 x (by omega)) _) ?_ | refine call_step (run_data (xs := [_]) (c15 (decR s).1 (by omega)) _) ?_ | refine call_step (run_data (xs := [_]) (c43 x (by omega)) _) ?_ | refine call_step (run_data (xs := [_]) (c43 (decR s).1 hy) _) ?_ | refine call_step (run_data (xs := [_]) (c44 s (by omega)) _) ?_ | refine call_step (run_data (xs := [_]) (c44 (encR x).1 (by rw [e2, encQ_len]; omega)) _) ?_ | refine call_step (run_data (xs := [_]) (c45 s (by omega)) _) ?_ | refine call_step (run_data (xs := [_, _]) (c36 (decR s).1 (decR s).1 (by omega) (by omega)) _) ?_ | refine call_step (run_data (xs := [_, _]) (c36 (decR (encR x).1).1 x (by rw [e6]; omega) (by omega)) _) ?_ | refine call_step (run_data (xs := [_]) (c31 x (by omega)) _) ?_ | refine call_step (run_data (xs := [_]) (c46 x hv) _) ?_); conv => whnf)
    | (refine ⟨⟨(by first | rfl | (simp; done)), cap_ok (by simp only [List.length_map, List.length_cons, List.length_nil, List.length_append]; omega) rfl⟩, ?_⟩; conv => whnf)
    | (refine ⟨mem_one ⟨rfl, rfl⟩, ?_⟩; conv => whnf)
    | (refine ⟨(by intro y hy; obtain ⟨x, _, rfl⟩ := List.mem_map.1 hy; first | rfl | exact ⟨rfl, rfl⟩), ?_⟩; conv => whnf)
    | (refine ⟨cap_ok (by first | omega | (simp only [List.length_map]; omega)) rfl, ?_⟩; conv => whnf)
    | (refine ix_map (by omega) ?_; conv => whnf)
    | (refine ix_str (by omega) ?_; conv => whnf)
    | (refine wrap64 (by omega) ?_; conv => whnf)
    | (refine wrap64 (by omega) ?_; conv => whnf)
    | (exfalso; simp only [List.length_map, List.length_cons, List.length_nil, List.length_append] at h; omega)
    | ((with_reducible refine endx_go ?_); first | (exact endx rfl; done) | (exact endx (congrArg D.bool (decide_eq_true (by assumption))); done))
    | (refine ⟨rfl, ?_⟩; conv => whnf)
    | fail
    )

theorem c11s (x : Quo) (s : Bs) (h : ¬ (x.os.length ≤ 32 ∧ s.length ≤ 700)) : Fn 11 [x.enc, .str s] (.bool true) := by
  refine run_walkF eok Try.func11 rfl (by kernel_rfl) ?_
  conv => whnf
  repeat' (first
    | ((with_reducible refine on_dec_t (by assumption) ?_); conv => whnf)
    | ((with_reducible refine on_dec_f (by assumption) ?_); conv => whnf)
    | ((with_reducible refine onBool_t (by assumption) ?_); conv => whnf)
    | ((with_reducible refine onBool_f (by assumption) ?_); conv => whnf)
    | ((with_reducible refine on_nt (by assumption) ?_); conv => whnf)
    | ((with_reducible refine on_nf (by assumption) ?_); conv => whnf)
    | ((with_reducible refine on_ndec_t (by first | assumption | rfl) ?_); conv => whnf)
    | ((with_reducible refine on_ndec_f (by assumption) ?_); conv => whnf)
    | ((with_reducible refine on_dec_t rfl ?_); conv => whnf)
    | ((with_reducible refine on_dec_f ?_ ?_); (focus ((try simp only [List.length_map, List.length_cons, List.length_nil, List.length_append]); omega)); conv => whnf)
    | ((with_reducible refine on_dec_t ?_ ?_); (focus ((try simp only [List.length_map, List.length_cons, List.length_nil, List.length_append]); omega)); conv => whnf)
    | ((with_reducible refine on_dec (fun h => ?_) (fun h => ?_)) <;> (try simp only [List.length_map] at h) <;> conv => whnf)
    | ((with_reducible refine on_ndec (fun h => ?_) (fun h => ?_)) <;> (try simp only [List.length_map] at h) <;> conv => whnf)
    | ((with_reducible refine on_not (fun h => ?_) (fun h => ?_)) <;> conv => whnf)
    | ((with_reducible refine onBool_split (fun h => ?_) (fun h => ?_)) <;> conv => whnf)
    | ((with_reducible refine call_go ?_); (first | refine call_step (run_data (xs := []) c12 _) ?_ | refine call_step (run_data (xs := [_]) (c13 x) _) ?_ | refine call_step (run_data (xs := [_]) (c15 x (by omega)) _) ?_ | refine call_step (run_data (xs := [_]) (c15 (decR s).1 (by omega)) _) ?_ | refine call_step (run_data (xs := [_]) (c43 x (by omega)) _) ?_ | refine call_step (run_data (xs := [_]) (c43 (decR s).1 hy) _) ?_ | refine call_step (run_data (xs := [_]) (c44 s (by omega)) _) ?_ | refine call_step (run_data (xs := [_]) (c44 (encR x).1 (by rw [e2, encQ_len]; omega)) _) ?_ | refine call_step (run_data (xs := [_]) (c45 s (by omega)) _) ?_ | refine call_step (run_data (xs := [_, _]) (c36 (decR s).1 (decR s).1 (by omega) (by omega)) _) ?_ | refine call_step (run_data (xs := [_, _]) (c36 (decR (encR x).1).1 x (by rw [e6]; omega) (by omega)) _) ?_ | refine call_step (run_data (xs := [_]) (c31 x (by omega)) _) ?_ | refine call_step (run_data (xs := [_]) (c46 x hv) _) ?_); conv => whnf)
    | (refine ⟨⟨(by first | rfl | (simp; done)), cap_ok (by simp only [List.length_map, List.length_cons, List.length_nil, List.length_append]; omega) rfl⟩, ?_⟩; conv => whnf)
    | (refine ⟨mem_one ⟨rfl, rfl⟩, ?_⟩; conv => whnf)
    | (refine ⟨(by intro y hy; obtain ⟨x, _, rfl⟩ := List.mem_map.1 hy; first | rfl | exact ⟨rfl, rfl⟩), ?_⟩; conv => whnf)
    | (refine ⟨cap_ok (by first | omega | (simp only [List.length_map]; omega)) rfl, ?_⟩; conv => whnf)
    | (refine ix_map (by omega) ?_; conv => whnf)
    | (refine ix_str (by omega) ?_; conv => whnf)
    | (refine wrap64 (by omega) ?_; conv => whnf)
    | (refine wrap64 (by omega) ?_; conv => whnf)
    | (exfalso; omega)
    | (exfalso; simp only [List.length_map, List.length_cons, List.length_nil, List.length_append] at h; omega)
    | ((with_reducible refine endx_go ?_); first | (exact endx rfl; done) | (exact endx (congrArg D.bool (decide_eq_true (by assumption))); done) | (exfalso; omega; done))
    | (refine ⟨rfl, ?_⟩; conv => whnf)
    | fail
    )

theorem c11 (x : Quo) (s : Bs) : Fn 11 [x.enc, .str s] (.bool true) := by
  by_cases h : x.os.length ≤ 32 ∧ s.length ≤ 700
  · by_cases h0 : (checkQ x).2 = 0
    · by_cases hd : (decR s).2 = 0
      · exact c11oo x s h.1 h.2 h0 hd
      · exact c11oe x s h.1 h.2 h0 hd
    · by_cases hd : (decR s).2 = 0
      · exact c11eo x s h.1 h.2 h0 hd
      · exact c11ee x s h.1 h.2 h0 hd
  · exact c11s x s h

end Go.Proofs.Ytolfkcmdfgakkaa

/-! Li -/
namespace Go.Proofs.Ytolfkcmdfgakkaa
open Go Dw Go.ChangeShapes Go.RowKit
theorem own11 : ownKnob Try.prog.godebug = none := by kernel_rfl
theorem laidOut11 : laidOutB Try.prog = true := by kernel_rfl

section
attribute [local irreducible] Run
theorem hrun11 : ∀ xs, shps E 5 Try.f11.params.toList xs → Run Try.prog 11 (xs.map .d) [] (.d (.bool true)) [] := by
  intro xs h
  obtain ⟨x1, r1, rfl, h1, x2, r2, rfl, h2, rfl⟩ := h
  obtain ⟨q, rfl⟩ := shpQuo h1
  obtain ⟨s, rfl, _⟩ := h2
  exact c11 q s
end

set_option maxRecDepth 100000 in
theorem lifted11 (os : Os) (started : os.Started) (H : Type) (enc : TypeId × Value → H) :
    ReturnsInHanded {} Try.checked os 11 .any (Rows.quotaBytesSpec.pre6 enc Try.prog Try.f11 Rows.quotaBytesRow.domain false) (Rows.quotaBytesSpec.post enc Try.prog Try.f11 false true false false) := by
  refine returnsInHanded_of_change (C := Try.checked) own11 started (by kernel_rfl) Try.func11
    (ChangeSpec.witness6 (enc := enc) (C := Try.checked) false ⟨#[], #[.agg #[.slice none 0 0, .bool false], .string ⟨#[]⟩], []⟩ 8 (by kernel_rfl) (by kernel_rfl) (by kernel_rfl) (by kernel_rfl)) ?_
  intro W base args ds gs before hval hW _ _
  refine law_lift (n := 5) (t4 := 4) eok Try.func11 (by kernel_rfl) rfl laidOut11 rfl ?_ rfl Try.underlying4 (by kernel_rfl) hrun11 W base args ds gs before hval hW
  intro H ds hds
  match ds, hds with
  | [a, b], _ => rfl

theorem over11 : Rows.quotaBytesRow.holds Try.pinned (OpenSpec.ofChange Rows.quotaBytesSpec) :=
  OpenClaim.holds_of_wide 11 Try.f11 rfl rfl rfl rfl rfl rfl rfl ⟨rfl, rfl, rfl, rfl, rfl⟩ rfl rfl rfl rfl rfl (by kernel_rfl) Try.func11 (by kernel_rfl)
    (of_decide_eq_true (by kernel_rfl)) (by unfold Func.isWrapper; first | (rw [if_pos (by decide +kernel)]; kernel_rfl) | (rw [if_neg (by decide +kernel)]; exact ⟨rfl, rfl⟩))
    (fun os started H enc _ => lifted11 os started H enc)
theorem quotaBytes_proved : Rows.QuotaBytesSaid := over11
end Go.Proofs.Ytolfkcmdfgakkaa
