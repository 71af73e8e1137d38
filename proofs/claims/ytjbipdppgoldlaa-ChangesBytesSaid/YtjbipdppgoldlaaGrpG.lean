/-
  Own lemmas, no conditions: Wx, Wy, Wz, Xa, Xb.
-/
import Derived.Test.YtjbipdppgoldlaaGrpF
set_option linter.unusedVariables false
set_option linter.unusedSimpArgs false

/-! Wx -/
namespace Go.Proofs.Ytjbipdppgoldlaa
open Go Dw
set_option maxRecDepth 10000
set_option linter.unusedVariables false
set_option linter.unusedSimpArgs false
attribute [local irreducible] Run
set_option maxHeartbeats 2000000

theorem leB4 (n : Nat) : leB n 4 = leB (n % 65536) 2 ++ leB (n / 65536) 2 := by
  simp only [leB, List.cons_append, List.nil_append]
  congr 1
  · congr 1; omega
  · congr 1
    · congr 1; omega
    · congr 1
      · congr 1; omega
      · congr 1; congr 1; omega
theorem leB4_map (n : Nat) : (leB n 4).map byteV = (leB (n % 65536) 2).map byteV ++ [.d (.int .u8 (n / 65536 % 256 : Nat)), .d (.int .u8 (n / 16777216 % 256 : Nat))] := by
  rw [leB4, List.map_append, leB2_map (n / 65536), Nat.div_div_eq_div_mul]

theorem c80 (l : List UInt8) (x : Int) (hx : 0 ≤ x ∧ x < 65536) (hl : l.length < 3000000) : BufTo Try.prog 80 [.int .u16 x] l (leB x.toNat 2) := by
  obtain ⟨n, rfl⟩ := Int.eq_ofNat_of_zero_le hx.1; rw [Int.toNat_natCast]; unfold BufTo
  refine run_walkV eok Try.func80 rfl (by kernel_rfl) [0] (by rfl) [] ?_
  conv => whnf
  repeat' (first
    | ((with_reducible refine on_dec_f ?_ ?_); (focus ((try simp only [List.length_map, List.length_cons, List.length_nil, List.length_append]); omega)); conv => whnf)
    | ((with_reducible refine on_dec_t ?_ ?_); (focus ((try simp only [List.length_map, List.length_cons, List.length_nil, List.length_append]); omega)); conv => whnf)
    | ((with_reducible refine on_dec (fun h => ?_) (fun h => ?_)) <;> (try simp only [List.length_map] at h) <;> conv => whnf)
    | ((with_reducible refine on_ndec (fun h => ?_) (fun h => ?_)) <;> (try simp only [List.length_map] at h) <;> conv => whnf)
    | ((with_reducible refine on_not (fun h => ?_) (fun h => ?_)) <;> conv => whnf)
    | ((with_reducible refine onBool_split (fun h => ?_) (fun h => ?_)) <;> conv => whnf)
    | (refine ⟨⟨(by first | rfl | (simp; done)), cap_ok (by simp only [List.length_map, List.length_cons, List.length_nil, List.length_append]; omega) rfl⟩, ?_⟩; conv => whnf)
    | (refine ⟨mem_one ⟨rfl, rfl⟩, ?_⟩; conv => whnf)
    | (refine ⟨(by intro y hy; obtain ⟨x, _, rfl⟩ := List.mem_map.1 hy; first | rfl | exact ⟨rfl, rfl⟩), ?_⟩; conv => whnf)
    | (refine ⟨cap_ok (by first | omega | (simp only [List.length_map]; omega)) rfl, ?_⟩; conv => whnf)
    | (refine ix_map (by omega) ?_; conv => whnf)
    | (refine ix_str (by omega) ?_; conv => whnf)
    | (refine wrap64 (by omega) ?_; conv => whnf)
    | (refine wrapU32 (by omega) ?_; conv => whnf)
    | (refine wrapU16 (by omega) ?_; conv => whnf)
    | (refine wrapU8n ?_; conv => whnf)
    | (refine wrapU16n ?_; conv => whnf)
    | (refine shr_n 256 rfl rfl ?_; conv => whnf)
    | (refine shr_n 65536 rfl rfl ?_; conv => whnf)
    | (refine shr_n 16777216 rfl rfl ?_; conv => whnf)
    | (refine ⟨Nat.le_refl _, ?_⟩; conv => whnf)
    | (refine ⟨⟨(by simp only [List.length_map, List.length_append]; omega), cap_ok (by simp only [List.length_map, List.length_cons, List.length_nil, List.length_append, leB_length]; omega) rfl⟩, ?_⟩; conv => whnf)
    | (refine ⟨cap_ok (by simp only [List.length_map, List.length_cons, List.length_nil, List.length_append, leB_length]; omega) rfl, ?_⟩; conv => whnf)
    | (exfalso; simp only [List.length_map, List.length_cons, List.length_nil, List.length_append] at h; omega)
    | ((with_reducible refine endx_go ?_); first | (refine endX_of (.inl ⟨[.dead, .old 2], rfl, rfl, ⟨⟨rfl, rfl, ?_, rfl, rfl⟩, trivial⟩, ⟨rfl, wkO_bytes (l ++ leB n 2) rfl rfl rfl ?_ rfl, trivial⟩⟩); (simp only [List.length_append, leB_length]; rfl); (simp only [List.map_append, leB2_map]; rfl); done))
    | (refine ⟨rfl, ?_⟩; conv => whnf)
    | fail
    )

theorem c80n (x : Int) (hx : 0 ≤ x ∧ x < 65536) : BufNil Try.prog 80 [.int .u16 x] (leB x.toNat 2) := by
  obtain ⟨n, rfl⟩ := Int.eq_ofNat_of_zero_le hx.1; rw [Int.toNat_natCast]; unfold BufNil
  refine run_walkV eok Try.func80 rfl (by kernel_rfl) [] (by rfl) [] ?_
  conv => whnf
  repeat' (first
    | ((with_reducible refine on_dec_f ?_ ?_); (focus ((try simp only [List.length_map, List.length_cons, List.length_nil, List.length_append]); omega)); conv => whnf)
    | ((with_reducible refine on_dec_t ?_ ?_); (focus ((try simp only [List.length_map, List.length_cons, List.length_nil, List.length_append]); omega)); conv => whnf)
    | ((with_reducible refine on_dec (fun h => ?_) (fun h => ?_)) <;> (try simp only [List.length_map] at h) <;> conv => whnf)
    | ((with_reducible refine on_ndec (fun h => ?_) (fun h => ?_)) <;> (try simp only [List.length_map] at h) <;> conv => whnf)
    | ((with_reducible refine on_not (fun h => ?_) (fun h => ?_)) <;> conv => whnf)
    | ((with_reducible refine onBool_split (fun h => ?_) (fun h => ?_)) <;> conv => whnf)
    | (refine ⟨⟨(by first | rfl | (simp; done)), cap_ok (by simp only [List.length_map, List.length_cons, List.length_nil, List.length_append]; omega) rfl⟩, ?_⟩; conv => whnf)
    | (refine ⟨mem_one ⟨rfl, rfl⟩, ?_⟩; conv => whnf)
    | (refine ⟨(by intro y hy; obtain ⟨x, _, rfl⟩ := List.mem_map.1 hy; first | rfl | exact ⟨rfl, rfl⟩), ?_⟩; conv => whnf)
    | (refine ⟨cap_ok (by first | omega | (simp only [List.length_map]; omega)) rfl, ?_⟩; conv => whnf)
    | (refine ix_map (by omega) ?_; conv => whnf)
    | (refine ix_str (by omega) ?_; conv => whnf)
    | (refine wrap64 (by omega) ?_; conv => whnf)
    | (refine wrapU32 (by omega) ?_; conv => whnf)
    | (refine wrapU16 (by omega) ?_; conv => whnf)
    | (refine wrapU8n ?_; conv => whnf)
    | (refine wrapU16n ?_; conv => whnf)
    | (refine shr_n 256 rfl rfl ?_; conv => whnf)
    | (refine shr_n 65536 rfl rfl ?_; conv => whnf)
    | (refine shr_n 16777216 rfl rfl ?_; conv => whnf)
    | (refine ⟨Nat.le_refl _, ?_⟩; conv => whnf)
    | (refine ⟨⟨(by simp only [List.length_map, List.length_append]; omega), cap_ok (by simp only [List.length_map, List.length_cons, List.length_nil, List.length_append, leB_length]; omega) rfl⟩, ?_⟩; conv => whnf)
    | (refine ⟨cap_ok (by simp only [List.length_map, List.length_cons, List.length_nil, List.length_append, leB_length]; omega) rfl, ?_⟩; conv => whnf)
    | (exfalso; simp only [List.length_map, List.length_cons, List.length_nil, List.length_append] at h; omega)
    | ((with_reducible refine endx_go ?_); first | (refine endX_of (.inl ⟨[.old 1], rfl, rfl, ⟨⟨rfl, rfl, ?_, rfl, rfl⟩, trivial⟩, ⟨wkO_bytes (leB n 2) rfl rfl rfl ?_ rfl, trivial⟩⟩); (simp only [List.length_append, leB_length]; rfl); (simp only [List.map_append, leB2_map]; rfl); done))
    | (refine ⟨rfl, ?_⟩; conv => whnf)
    | fail
    )

theorem c79 (l : List UInt8) (x : Int) (hx : 0 ≤ x ∧ x < 4294967296) (hl : l.length < 2500000) : BufTo Try.prog 79 [.int .u32 x] l (leB x.toNat 4) := by
  obtain ⟨n, rfl⟩ := Int.eq_ofNat_of_zero_le hx.1; rw [Int.toNat_natCast]; unfold BufTo
  refine run_walkV eok Try.func79 rfl (by kernel_rfl) [0] (by rfl) [] ?_
  conv => whnf
  repeat' (first
    | ((with_reducible refine on_dec_f ?_ ?_); (focus ((try simp only [List.length_map, List.length_cons, List.length_nil, List.length_append]); omega)); conv => whnf)
    | ((with_reducible refine on_dec_t ?_ ?_); (focus ((try simp only [List.length_map, List.length_cons, List.length_nil, List.length_append]); omega)); conv => whnf)
    | ((with_reducible refine on_dec (fun h => ?_) (fun h => ?_)) <;> (try simp only [List.length_map] at h) <;> conv => whnf)
    | ((with_reducible refine on_ndec (fun h => ?_) (fun h => ?_)) <;> (try simp only [List.length_map] at h) <;> conv => whnf)
    | ((with_reducible refine on_not (fun h => ?_) (fun h => ?_)) <;> conv => whnf)
    | ((with_reducible refine onBool_split (fun h => ?_) (fun h => ?_)) <;> conv => whnf)
    | ((with_reducible refine call_go ?_); (first | refine call_step (run_buf (c80 l _ (by omega) (by omega)) rfl rfl rfl rfl) ?_); conv => whnf)
    | (refine ⟨⟨(by first | rfl | (simp; done)), cap_ok (by simp only [List.length_map, List.length_cons, List.length_nil, List.length_append]; omega) rfl⟩, ?_⟩; conv => whnf)
    | (refine ⟨mem_one ⟨rfl, rfl⟩, ?_⟩; conv => whnf)
    | (refine ⟨(by intro y hy; obtain ⟨x, _, rfl⟩ := List.mem_map.1 hy; first | rfl | exact ⟨rfl, rfl⟩), ?_⟩; conv => whnf)
    | (refine ⟨cap_ok (by first | omega | (simp only [List.length_map]; omega)) rfl, ?_⟩; conv => whnf)
    | (refine ix_map (by omega) ?_; conv => whnf)
    | (refine ix_str (by omega) ?_; conv => whnf)
    | (refine wrap64 (by omega) ?_; conv => whnf)
    | (refine wrapU32 (by omega) ?_; conv => whnf)
    | (refine wrapU16 (by omega) ?_; conv => whnf)
    | (refine wrapU8n ?_; conv => whnf)
    | (refine wrapU16n ?_; conv => whnf)
    | (refine shr_n 256 rfl rfl ?_; conv => whnf)
    | (refine shr_n 65536 rfl rfl ?_; conv => whnf)
    | (refine shr_n 16777216 rfl rfl ?_; conv => whnf)
    | (refine ⟨Nat.le_refl _, ?_⟩; conv => whnf)
    | (refine ⟨⟨(by simp only [List.length_map, List.length_append]; omega), cap_ok (by simp only [List.length_map, List.length_cons, List.length_nil, List.length_append, leB_length]; omega) rfl⟩, ?_⟩; conv => whnf)
    | (refine ⟨cap_ok (by simp only [List.length_map, List.length_cons, List.length_nil, List.length_append, leB_length]; omega) rfl, ?_⟩; conv => whnf)
    | (exfalso; simp only [List.length_map, List.length_cons, List.length_nil, List.length_append] at h; omega)
    | ((with_reducible refine endx_go ?_); first | (refine endX_of (.inl ⟨[.dead, .old 3], rfl, rfl, ⟨⟨rfl, rfl, ?_, rfl, rfl⟩, trivial⟩, ⟨rfl, wkO_bytes (l ++ leB n 4) rfl rfl rfl ?_ rfl, trivial⟩⟩); (simp only [List.length_append, leB_length]; rfl); (simp only [List.map_append, leB4_map, ← List.append_assoc]; rfl); done))
    | (refine ⟨rfl, ?_⟩; conv => whnf)
    | fail
    )

theorem c79n (x : Int) (hx : 0 ≤ x ∧ x < 4294967296) : BufNil Try.prog 79 [.int .u32 x] (leB x.toNat 4) := by
  obtain ⟨n, rfl⟩ := Int.eq_ofNat_of_zero_le hx.1; rw [Int.toNat_natCast]; unfold BufNil
  refine run_walkV eok Try.func79 rfl (by kernel_rfl) [] (by rfl) [] ?_
  conv => whnf
  repeat' (first
    | ((with_reducible refine on_dec_f ?_ ?_); (focus ((try simp only [List.length_map, List.length_cons, List.length_nil, List.length_append]); omega)); conv => whnf)
    | ((with_reducible refine on_dec_t ?_ ?_); (focus ((try simp only [List.length_map, List.length_cons, List.length_nil, List.length_append]); omega)); conv => whnf)
    | ((with_reducible refine on_dec (fun h => ?_) (fun h => ?_)) <;> (try simp only [List.length_map] at h) <;> conv => whnf)
    | ((with_reducible refine on_ndec (fun h => ?_) (fun h => ?_)) <;> (try simp only [List.length_map] at h) <;> conv => whnf)
    | ((with_reducible refine on_not (fun h => ?_) (fun h => ?_)) <;> conv => whnf)
    | ((with_reducible refine onBool_split (fun h => ?_) (fun h => ?_)) <;> conv => whnf)
    | ((with_reducible refine call_go ?_); (first | refine call_step (run_bufn (c80n _ (by omega)) rfl rfl) ?_); conv => whnf)
    | (refine ⟨⟨(by first | rfl | (simp; done)), cap_ok (by simp only [List.length_map, List.length_cons, List.length_nil, List.length_append]; omega) rfl⟩, ?_⟩; conv => whnf)
    | (refine ⟨mem_one ⟨rfl, rfl⟩, ?_⟩; conv => whnf)
    | (refine ⟨(by intro y hy; obtain ⟨x, _, rfl⟩ := List.mem_map.1 hy; first | rfl | exact ⟨rfl, rfl⟩), ?_⟩; conv => whnf)
    | (refine ⟨cap_ok (by first | omega | (simp only [List.length_map]; omega)) rfl, ?_⟩; conv => whnf)
    | (refine ix_map (by omega) ?_; conv => whnf)
    | (refine ix_str (by omega) ?_; conv => whnf)
    | (refine wrap64 (by omega) ?_; conv => whnf)
    | (refine wrapU32 (by omega) ?_; conv => whnf)
    | (refine wrapU16 (by omega) ?_; conv => whnf)
    | (refine wrapU8n ?_; conv => whnf)
    | (refine wrapU16n ?_; conv => whnf)
    | (refine shr_n 256 rfl rfl ?_; conv => whnf)
    | (refine shr_n 65536 rfl rfl ?_; conv => whnf)
    | (refine shr_n 16777216 rfl rfl ?_; conv => whnf)
    | (refine ⟨Nat.le_refl _, ?_⟩; conv => whnf)
    | (refine ⟨⟨(by simp only [List.length_map, List.length_append]; omega), cap_ok (by simp only [List.length_map, List.length_cons, List.length_nil, List.length_append, leB_length]; omega) rfl⟩, ?_⟩; conv => whnf)
    | (refine ⟨cap_ok (by simp only [List.length_map, List.length_cons, List.length_nil, List.length_append, leB_length]; omega) rfl, ?_⟩; conv => whnf)
    | (exfalso; simp only [List.length_map, List.length_cons, List.length_nil, List.length_append] at h; omega)
    | ((with_reducible refine endx_go ?_); first | (refine endX_of (.inl ⟨[.old 2], rfl, rfl, ⟨⟨rfl, rfl, ?_, rfl, rfl⟩, trivial⟩, ⟨wkO_bytes (leB n 4) rfl rfl rfl ?_ rfl, trivial⟩⟩); (simp only [List.length_append, leB_length]; rfl); (simp only [List.map_append, leB4_map, ← List.append_assoc]; rfl); done))
    | (refine ⟨rfl, ?_⟩; conv => whnf)
    | fail
    )

def refB (r : Ref) : List UInt8 := leB r.r.toNat 4 ++ leB r.s.toNat 2
theorem refB_length (r : Ref) : (refB r).length = 6 := by simp [refB, leB_length]

theorem c81 (l : List UInt8) (r : Ref) (hr : 0 ≤ r.r ∧ r.r < 4294967296) (hs : 0 ≤ r.s ∧ r.s < 65536) (hl : l.length < 2000000) : BufTo Try.prog 81 [r.enc] l (refB r) := by
  unfold BufTo
  refine run_walkV eok Try.func81 rfl (by kernel_rfl) [0] (by rfl) [] ?_
  conv => whnf
  repeat' (first
    | ((with_reducible refine on_dec_f ?_ ?_); (focus ((try simp only [List.length_map, List.length_cons, List.length_nil, List.length_append]); omega)); conv => whnf)
    | ((with_reducible refine on_dec_t ?_ ?_); (focus ((try simp only [List.length_map, List.length_cons, List.length_nil, List.length_append]); omega)); conv => whnf)
    | ((with_reducible refine on_dec (fun h => ?_) (fun h => ?_)) <;> (try simp only [List.length_map] at h) <;> conv => whnf)
    | ((with_reducible refine on_ndec (fun h => ?_) (fun h => ?_)) <;> (try simp only [List.length_map] at h) <;> conv => whnf)
    | ((with_reducible refine on_not (fun h => ?_) (fun h => ?_)) <;> conv => whnf)
    | ((with_reducible refine onBool_split (fun h => ?_) (fun h => ?_)) <;> conv => whnf)
    | ((with_reducible refine call_go ?_); (first | refine call_step (run_buf (c79 l _ (by omega) (by omega)) rfl rfl rfl rfl) ?_ | refine call_step (run_buf (c80 (l ++ leB r.r.toNat 4) _ (by omega) (by simp only [List.length_append, leB_length]; omega)) rfl rfl rfl (by simp only [List.length_append])) ?_); conv => whnf)
    | (refine ⟨[], [(6, 4)], (by decide +kernel), ?_⟩; conv => whnf)
    | (refine ⟨⟨(by first | rfl | (simp; done)), cap_ok (by simp only [List.length_map, List.length_cons, List.length_nil, List.length_append]; omega) rfl⟩, ?_⟩; conv => whnf)
    | (refine ⟨mem_one ⟨rfl, rfl⟩, ?_⟩; conv => whnf)
    | (refine ⟨(by intro y hy; obtain ⟨x, _, rfl⟩ := List.mem_map.1 hy; first | rfl | exact ⟨rfl, rfl⟩), ?_⟩; conv => whnf)
    | (refine ⟨cap_ok (by first | omega | (simp only [List.length_map]; omega)) rfl, ?_⟩; conv => whnf)
    | (refine ix_map (by omega) ?_; conv => whnf)
    | (refine ix_str (by omega) ?_; conv => whnf)
    | (refine wrap64 (by omega) ?_; conv => whnf)
    | (refine wrapU32 (by omega) ?_; conv => whnf)
    | (refine wrapU16 (by omega) ?_; conv => whnf)
    | (refine wrapU8n ?_; conv => whnf)
    | (refine wrapU16n ?_; conv => whnf)
    | (refine shr_n 256 rfl rfl ?_; conv => whnf)
    | (refine shr_n 65536 rfl rfl ?_; conv => whnf)
    | (refine shr_n 16777216 rfl rfl ?_; conv => whnf)
    | (refine ⟨Nat.le_refl _, ?_⟩; conv => whnf)
    | (refine ⟨⟨(by simp only [List.length_map, List.length_append]; omega), cap_ok (by simp only [List.length_map, List.length_cons, List.length_nil, List.length_append, leB_length, refB_length]; omega) rfl⟩, ?_⟩; conv => whnf)
    | (refine ⟨cap_ok (by simp only [List.length_map, List.length_cons, List.length_nil, List.length_append, leB_length, refB_length]; omega) rfl, ?_⟩; conv => whnf)
    | (exfalso; simp only [List.length_map, List.length_cons, List.length_nil, List.length_append] at h; omega)
    | ((with_reducible refine endx_go ?_); first | (refine endX_of (.inl ⟨[.dead, .old 3], rfl, rfl, ⟨⟨rfl, rfl, ?_, rfl, rfl⟩, trivial⟩, ⟨rfl, wkO_bytes (l ++ refB r) rfl rfl rfl ?_ rfl, trivial⟩⟩); (simp only [leB_length, refB_length] <;> omega); (simp only [refB, ← List.append_assoc]; done); done))
    | (refine ⟨rfl, ?_⟩; conv => whnf)
    | fail
    )

end Go.Proofs.Ytjbipdppgoldlaa

/-! Wy -/
namespace Go.Proofs.Ytjbipdppgoldlaa
open Go Dw
set_option maxRecDepth 10000
set_option linter.unusedVariables false
set_option linter.unusedSimpArgs false
attribute [local irreducible] Run
set_option maxHeartbeats 2000000

theorem refErr_bd {r : Ref} (h : refErr r = 0) : (0 ≤ r.r ∧ r.r ≤ 95) ∧ 1 ≤ r.s ∧ r.s ≤ 65535 := by
  unfold refErr at h
  split at h
  · rename_i h1
    simp only [Bool.and_eq_true] at h1
    exact ⟨within_iff.1 h1.1, within_iff.1 h1.2⟩
  · exact absurd h (by decide)
def sz (x : Chg) : Nat := (size x.name.length).toNat
def encH (x : Chg) : List UInt8 := leB (sz x) 4 ++ leB x.usn.toNat 4 ++ refB x.file ++ refB x.parent ++ leB x.tick.toNat 4 ++ leB x.reasons.toNat 2 ++ leB x.name.length 2
def encB (x : Chg) : List UInt8 := encH x ++ [0, 0, 0, 0] ++ x.name ++ List.replicate (sz x - 32 - x.name.length) 0
theorem encH_length (x : Chg) : (encH x).length = 28 := by simp [encH, leB_length, refB_length]
attribute [local irreducible] leB refB size sz

def encA (x : Chg) : List UInt8 := encH x ++ [0, 0, 0, 0] ++ x.name
theorem encA_length (x : Chg) : (encA x).length = 32 + x.name.length := by simp only [encA, List.length_append, encH_length, List.length_cons, List.length_nil]
theorem encB_eq (x : Chg) : encB x = encA x ++ List.replicate (sz x - 32 - x.name.length) 0 := rfl
theorem rep_byteV (n : Nat) : List.replicate n (AV.d (.int .u8 0)) = (List.replicate n (0 : UInt8)).map byteV := by
  simp [byteV]

theorem c75 (x : Chg) (hu : 0 ≤ x.usn ∧ x.usn ≤ 2147483647) (hv : recordErr x = 0) : Fn 75 [x.enc] (.str (encB x)) := by
  obtain ⟨v1, v2, v3, v4, v5⟩ := recordErr_ok hv; have v6 := nameErr_ok v5; have v7 := refErr_bd v1; have v8 := refErr_bd v2; have v9 : 32 + (x.name.length : Int) ≤ size x.name.length ∧ size x.name.length ≤ 72 := (by unfold size; omega); have hB : encB x = encA x ++ List.replicate (size x.name.length - ((32 + x.name.length : Nat) : Int)).toNat 0 := (by rw [encB_eq]; congr 2; unfold sz; omega)
  refine run_walkV eok Try.func75 rfl (by kernel_rfl) [] (by rfl) [9] ?_
  conv => whnf
  repeat' (first
    | ((with_reducible refine on_dec_f ?_ ?_); (focus ((try simp only [List.length_map, List.length_cons, List.length_nil, List.length_append]); omega)); conv => whnf)
    | ((with_reducible refine on_dec_t ?_ ?_); (focus ((try simp only [List.length_map, List.length_cons, List.length_nil, List.length_append]); omega)); conv => whnf)
    | ((with_reducible refine on_dec (fun h => ?_) (fun h => ?_)) <;> (try simp only [List.length_map] at h) <;> conv => whnf)
    | ((with_reducible refine on_ndec (fun h => ?_) (fun h => ?_)) <;> (try simp only [List.length_map] at h) <;> conv => whnf)
    | ((with_reducible refine on_not (fun h => ?_) (fun h => ?_)) <;> conv => whnf)
    | ((with_reducible refine onBool_split (fun h => ?_) (fun h => ?_)) <;> conv => whnf)
    | ((with_reducible refine call_go ?_); (first | refine call_step (run_view (c56 x (by omega)) rfl rfl) ?_ | refine call_step (run_bufn (c79n _ (by omega)) rfl rfl) ?_ | refine call_step (run_buf (c79 (leB (size x.name.length).toNat 4) _ (by omega) (by simp only [List.length_append, leB_length, refB_length]; omega)) rfl rfl rfl rfl) ?_ | refine call_step (run_buf (c79 (leB (size x.name.length).toNat 4 ++ leB x.usn.toNat 4 ++ refB x.file ++ refB x.parent) _ (by omega) (by simp only [List.length_append, leB_length, refB_length]; omega)) rfl rfl rfl (by simp only [List.length_append])) ?_ | refine call_step (run_buf (c81 (leB (size x.name.length).toNat 4 ++ leB x.usn.toNat 4) _ (by omega) (by omega) (by simp only [List.length_append, leB_length, refB_length]; omega)) rfl rfl rfl (by simp only [List.length_append])) ?_ | refine call_step (run_buf (c81 (leB (size x.name.length).toNat 4 ++ leB x.usn.toNat 4 ++ refB x.file) _ (by omega) (by omega) (by simp only [List.length_append, leB_length, refB_length]; omega)) rfl rfl rfl (by simp only [List.length_append])) ?_ | refine call_step (run_buf (c80 (leB (size x.name.length).toNat 4 ++ leB x.usn.toNat 4 ++ refB x.file ++ refB x.parent ++ leB x.tick.toNat 4) _ (by omega) (by simp only [List.length_append, leB_length, refB_length]; omega)) rfl rfl rfl (by simp only [List.length_append])) ?_ | refine call_step (run_buf (c80 (leB (size x.name.length).toNat 4 ++ leB x.usn.toNat 4 ++ refB x.file ++ refB x.parent ++ leB x.tick.toNat 4 ++ leB x.reasons.toNat 2) _ (by omega) (by simp only [List.length_append, leB_length, refB_length]; omega)) rfl rfl rfl (by simp only [List.length_append])) ?_); conv => whnf)
    | (refine ⟨[], [(5, 3)], (by decide +kernel), ?_⟩; conv => whnf)
    | (refine ⟨[], [(4, 1), (4, 2)], (by decide +kernel), ?_⟩; conv => whnf)
    | (refine ⟨⟨(by first | rfl | (simp; done)), cap_ok (by simp only [List.length_map, List.length_cons, List.length_nil, List.length_append]; omega) rfl⟩, ?_⟩; conv => whnf)
    | (refine ⟨mem_one ⟨rfl, rfl⟩, ?_⟩; conv => whnf)
    | (refine ⟨(by intro y hy; obtain ⟨x, _, rfl⟩ := List.mem_map.1 hy; first | rfl | exact ⟨rfl, rfl⟩), ?_⟩; conv => whnf)
    | (refine ⟨cap_ok (by first | omega | (simp only [List.length_map]; omega)) rfl, ?_⟩; conv => whnf)
    | (refine ix_map (by omega) ?_; conv => whnf)
    | (refine ix_str (by omega) ?_; conv => whnf)
    | (refine wrap64 (by omega) ?_; conv => whnf)
    | (refine wrapU32 (by omega) ?_; conv => whnf)
    | (refine wrapU16 (by omega) ?_; conv => whnf)
    | (refine wrapU8n ?_; conv => whnf)
    | (refine wrapU16n ?_; conv => whnf)
    | (refine shr_n 256 rfl rfl ?_; conv => whnf)
    | (refine shr_n 65536 rfl rfl ?_; conv => whnf)
    | (refine shr_n 16777216 rfl rfl ?_; conv => whnf)
    | (refine ⟨Nat.le_refl _, ?_⟩; conv => whnf)
    | (refine ⟨⟨(by simp only [List.length_map, List.length_append]; omega), cap_ok (by simp only [List.length_map, List.length_cons, List.length_nil, List.length_append, leB_length, refB_length]; omega) rfl⟩, ?_⟩; conv => whnf)
    | (refine ⟨cap_ok (by simp only [List.length_map, List.length_cons, List.length_nil, List.length_append, leB_length, refB_length]; omega) rfl, ?_⟩; conv => whnf)
    | (refine wrap64 (by first | omega | (simp only [encA_length, List.length_map, List.length_append, List.length_replicate]; omega)) ?_; conv => whnf)
    | (refine ⟨capI (by first | omega | (simp only [encA_length, List.length_map, List.length_append, List.length_replicate]; omega)) rfl, ?_⟩; conv => whnf)
    | (refine ⟨⟨(by first | omega | (simp only [encA_length, List.length_map, List.length_append, List.length_replicate]; omega)), cap_ok (by first | omega | (simp only [encA_length, List.length_map, List.length_append, List.length_replicate]; omega)) rfl⟩, ?_⟩; conv => whnf)
    | (refine ⟨[(3, .d (i (size x.name.length))), (4, .sl 0 0 (32 + x.name.length) 1 none)], [⟨(encA x).map byteV, 1, 0⟩], ⟨[.old 10], rfl, rfl, ⟨rfl, ⟨rfl, rfl, ?_, rfl, rfl⟩, trivial⟩, ⟨wkO_bytes (encA x) rfl rfl rfl ?_ rfl, trivial⟩⟩, ?_⟩; rotate_left 2; conv => whnf)
    | ((simp only [leB_length, refB_length, List.length_map, List.length_cons, List.length_nil] <;> omega); done)
    | (refine ⟨_, zeros1 (encA x) _ _ h (encA_length x).symm, ?_⟩; conv => whnf)
    | (refine ⟨_, zeros2 (encA x) _ _ (encA_length x).symm, ?_⟩; conv => whnf)
    | ((simp only [encA, encH, sz, Int.toNat_natCast, List.map_append]; rfl); done)
    | (exfalso; simp only [List.length_map, List.length_cons, List.length_nil, List.length_append] at h; omega)
    | ((with_reducible refine endx_go ?_); first | (exact endx (congrArg D.str hB.symm); done))
    | (refine ⟨rfl, ?_⟩; conv => whnf)
    | fail
    )

end Go.Proofs.Ytjbipdppgoldlaa

/-! Wz -/
namespace Go.Proofs.Ytjbipdppgoldlaa
open Go Dw
set_option maxRecDepth 10000
set_option linter.unusedVariables false
set_option linter.unusedSimpArgs false
attribute [local irreducible] Run
set_option maxHeartbeats 2000000

def cbErr (x : Chg) : Int := first [if within x.usn 0 2147483647 then 0 else 2, recordErr x]
theorem cbErr_ok {x : Chg} (h : cbErr x = 0) : (0 ≤ x.usn ∧ x.usn ≤ 2147483647) ∧ recordErr x = 0 := by
  unfold cbErr at h
  by_cases hw : within x.usn 0 2147483647 = true
  · rw [if_pos hw, first_cons, if_pos rfl, first_cons] at h
    by_cases hr : recordErr x = 0
    · exact ⟨within_iff.1 hw, hr⟩
    · rw [if_neg hr] at h; exact absurd h hr
  · rw [if_neg hw, first_cons, if_neg (by decide)] at h
    exact absurd h (by decide)

theorem c31 (x : Chg) (hn : x.name.length < 1000000) : Fn 31 [x.enc] (.tup [.str (if cbErr x = 0 then encB x else []), i (cbErr x)]) := by
  refine run_walkF eok Try.func31 rfl (by kernel_rfl) ?_
  conv => whnf
  repeat' (first
    | ((with_reducible refine on_dec_f ?_ ?_); (focus ((try simp only [List.length_map, List.length_cons, List.length_nil, List.length_append]); omega)); conv => whnf)
    | ((with_reducible refine on_dec_t ?_ ?_); (focus ((try simp only [List.length_map, List.length_cons, List.length_nil, List.length_append]); omega)); conv => whnf)
    | ((with_reducible refine on_dec (fun h => ?_) (fun h => ?_)) <;> (try simp only [List.length_map] at h) <;> conv => whnf)
    | ((with_reducible refine on_ndec (fun h => ?_) (fun h => ?_)) <;> (try simp only [List.length_map] at h) <;> conv => whnf)
    | ((with_reducible refine on_not (fun h => ?_) (fun h => ?_)) <;> conv => whnf)
    | ((with_reducible refine onBool_split (fun h => ?_) (fun h => ?_)) <;> conv => whnf)
    | ((with_reducible refine call_go ?_); (first | refine call_step (run_view (c51 x.usn 0 2147483647) rfl rfl) ?_ | refine call_step (run_view (c54 _ _) rfl rfl) ?_ | refine call_step (run_view (c61 x hn) rfl rfl) ?_ | refine call_step (run_view (c52 [if within x.usn 0 2147483647 then 0 else 2, recordErr x] (by simp)) rfl rfl) ?_ | refine call_step (run_view (c75 x (cbErr_ok (by first | exact h | (simpa using h))).1 (cbErr_ok (by first | exact h | (simpa using h))).2) rfl rfl) ?_); conv => whnf)
    | (refine ⟨[], [(4, 2), (4, 3)], (by decide +kernel), ?_⟩; conv => whnf)
    | (refine ⟨⟨(by first | rfl | (simp; done)), cap_ok (by simp only [List.length_map, List.length_cons, List.length_nil, List.length_append]; omega) rfl⟩, ?_⟩; conv => whnf)
    | (refine ⟨mem_one ⟨rfl, rfl⟩, ?_⟩; conv => whnf)
    | (refine ⟨(by intro y hy; obtain ⟨x, _, rfl⟩ := List.mem_map.1 hy; first | rfl | exact ⟨rfl, rfl⟩), ?_⟩; conv => whnf)
    | (refine ⟨cap_ok (by first | omega | (simp only [List.length_map]; omega)) rfl, ?_⟩; conv => whnf)
    | (refine ix_map (by omega) ?_; conv => whnf)
    | (refine ix_str (by omega) ?_; conv => whnf)
    | (refine wrap64 (by omega) ?_; conv => whnf)
    | (refine wrap64 (by omega) ?_; conv => whnf)
    | (exfalso; simp only [List.length_map, List.length_cons, List.length_nil, List.length_append] at h; omega)
    | ((with_reducible refine endx_go ?_); first | (refine endx2 ?_; rw [if_neg (show ¬ cbErr x = 0 from h)]; rfl; done) | (refine endx2 ?_; rw [show cbErr x = 0 from h]; rfl; done))
    | (refine ⟨rfl, ?_⟩; conv => whnf)
    | fail
    )

theorem c32 (x : Chg) (hn : x.name.length < 1000000) : Fn 32 [x.enc] (i (cbErr x)) := by
  refine run_walkF eok Try.func32 rfl (by kernel_rfl) ?_
  conv => whnf
  repeat' (first
    | ((with_reducible refine on_dec_f ?_ ?_); (focus ((try simp only [List.length_map, List.length_cons, List.length_nil, List.length_append]); omega)); conv => whnf)
    | ((with_reducible refine on_dec_t ?_ ?_); (focus ((try simp only [List.length_map, List.length_cons, List.length_nil, List.length_append]); omega)); conv => whnf)
    | ((with_reducible refine on_dec (fun h => ?_) (fun h => ?_)) <;> (try simp only [List.length_map] at h) <;> conv => whnf)
    | ((with_reducible refine on_ndec (fun h => ?_) (fun h => ?_)) <;> (try simp only [List.length_map] at h) <;> conv => whnf)
    | ((with_reducible refine on_not (fun h => ?_) (fun h => ?_)) <;> conv => whnf)
    | ((with_reducible refine onBool_split (fun h => ?_) (fun h => ?_)) <;> conv => whnf)
    | ((with_reducible refine call_go ?_); (first | refine call_step (run_view (c23 _) rfl rfl) ?_ | refine call_step (run_view (c66 x hn) rfl rfl) ?_); conv => whnf)
    | (refine ⟨⟨(by first | rfl | (simp; done)), cap_ok (by simp only [List.length_map, List.length_cons, List.length_nil, List.length_append]; omega) rfl⟩, ?_⟩; conv => whnf)
    | (refine ⟨mem_one ⟨rfl, rfl⟩, ?_⟩; conv => whnf)
    | (refine ⟨(by intro y hy; obtain ⟨x, _, rfl⟩ := List.mem_map.1 hy; first | rfl | exact ⟨rfl, rfl⟩), ?_⟩; conv => whnf)
    | (refine ⟨cap_ok (by first | omega | (simp only [List.length_map]; omega)) rfl, ?_⟩; conv => whnf)
    | (refine ix_map (by omega) ?_; conv => whnf)
    | (refine ix_str (by omega) ?_; conv => whnf)
    | (refine wrap64 (by omega) ?_; conv => whnf)
    | (refine wrap64 (by omega) ?_; conv => whnf)
    | (exfalso; simp only [List.length_map, List.length_cons, List.length_nil, List.length_append] at h; omega)
    | ((with_reducible refine endx_go ?_); first | (refine endx (congrArg i ?_); simp only [cbErr, first_cons, first_nil, h]; (repeat split) <;> simp_all; done))
    | (refine ⟨rfl, ?_⟩; conv => whnf)
    | fail
    )

theorem c76 (n0 c : Nat) (hn : n0 < 9223372036854775808) (hc : c < 1000) : Fn 76 [i n0, i c] (.str (leB n0 c)) := by
  refine run_walkF eok Try.func76 rfl (by kernel_rfl) ?_
  conv => whnf
  repeat' (first
    | ((with_reducible refine on_dec_f ?_ ?_); (focus ((try simp only [List.length_map, List.length_cons, List.length_nil, List.length_append]); omega)); conv => whnf)
    | ((with_reducible refine on_dec_t ?_ ?_); (focus ((try simp only [List.length_map, List.length_cons, List.length_nil, List.length_append]); omega)); conv => whnf)
    | ((with_reducible refine on_dec (fun h => ?_) (fun h => ?_)) <;> (try simp only [List.length_map] at h) <;> conv => whnf)
    | ((with_reducible refine on_ndec (fun h => ?_) (fun h => ?_)) <;> (try simp only [List.length_map] at h) <;> conv => whnf)
    | ((with_reducible refine on_not (fun h => ?_) (fun h => ?_)) <;> conv => whnf)
    | ((with_reducible refine onBool_split (fun h => ?_) (fun h => ?_)) <;> conv => whnf)
    | (refine loop3 (fun (k : Nat) (n : Nat) (acc : List UInt8) => c - k) (fun (k : Nat) (n : Nat) (acc : List UInt8) => k ≤ c ∧ acc.length = k ∧ n < 9223372036854775808 ∧ acc ++ leB n (c - k) = leB n0 c) (fun (k : Nat) (n : Nat) (acc : List UInt8) => [(0, .d (i n)), (1, .d (i c)), (5, .sl 0 0 acc.length 1 none), (6, .d (i k))]) (fun (k : Nat) (n : Nat) (acc : List UInt8) => [⟨acc.map byteV, 1, 0⟩]) (0) (n0) ([]) (by exact ⟨Nat.zero_le _, rfl, hn, rfl⟩) ?_ (fun k n acc C hI hC => ?_); (exact ⟨[.void 1], rfl, rfl, ⟨rfl, rfl, ⟨rfl, rfl, rfl, rfl⟩, rfl, trivial⟩, ⟨⟨rfl, rfl, (by decide), rfl⟩, trivial⟩⟩); all_goals (conv => whnf))
    | (refine hC (k + 1) (n / 256) (acc ++ [UInt8.ofNat (n % 256)]) _ _ ?_ (by omega) ?_; clear hC; rotate_left; (exact ⟨[.old 2], rfl, rfl, ⟨(by first | exact congrArg (D.int .i64) (by omega) | exact ⟨rfl, rfl, rfl⟩ | exact ⟨rfl, rfl, rfl, rfl, rfl⟩ | (show (_ : D) = _; with_reducible rfl)), (by first | exact congrArg (D.int .i64) (by omega) | exact ⟨rfl, rfl, rfl⟩ | exact ⟨rfl, rfl, rfl, rfl, rfl⟩ | (show (_ : D) = _; with_reducible rfl)), ⟨rfl, rfl, (by first | rfl | (simp only [List.length_append]; rfl)), rfl, rfl⟩, (by first | exact congrArg (D.int .i64) (by omega) | exact ⟨rfl, rfl, rfl⟩ | exact ⟨rfl, rfl, rfl, rfl, rfl⟩ | (show (_ : D) = _; with_reducible rfl)), trivial⟩, ⟨wkO_bytes (acc ++ [UInt8.ofNat (n % 256)]) rfl rfl rfl (by simp only [List.map_append, List.map_cons, List.map_nil, byteV_ofNat (Nat.mod_lt _ (by decide : 0 < 256))]; rfl) rfl, trivial⟩⟩); (exact ⟨by omega, by simp; omega, by omega, by rw [List.append_assoc, ← hI.2.2.2]; congr 1; rw [show c - k = (c - (k + 1)) + 1 by omega]; rfl⟩))
    | (refine ⟨⟨(by first | rfl | (simp; done)), cap_ok (by simp only [List.length_map, List.length_cons, List.length_nil, List.length_append]; omega) rfl⟩, ?_⟩; conv => whnf)
    | (refine ⟨mem_one ⟨rfl, rfl⟩, ?_⟩; conv => whnf)
    | (refine ⟨(by intro y hy; obtain ⟨x, _, rfl⟩ := List.mem_map.1 hy; first | rfl | exact ⟨rfl, rfl⟩), ?_⟩; conv => whnf)
    | (refine ⟨cap_ok (by first | omega | (simp only [List.length_map]; omega)) rfl, ?_⟩; conv => whnf)
    | (refine ix_map (by omega) ?_; conv => whnf)
    | (refine ix_str (by omega) ?_; conv => whnf)
    | (refine wrap64 (by omega) ?_; conv => whnf)
    | (refine rem_256 ?_; conv => whnf)
    | (refine div_256 hI.2.2.1 ?_; conv => whnf)
    | (refine wrapU8 (by omega) ?_; conv => whnf)
    | (refine ⟨Nat.le_refl _, ?_⟩; conv => whnf)
    | (refine ⟨⟨(by simp only [List.length_map]; omega), cap_ok (by simp only [List.length_cons, List.length_nil]; omega) rfl⟩, ?_⟩; conv => whnf)
    | (refine ⟨acc, ⟨(by simp), (by rw [List.drop_zero]; exact List.take_of_length_le (by simp))⟩, ?_⟩; conv => whnf)
    | (exfalso; simp only [List.length_map, List.length_cons, List.length_nil, List.length_append] at h; omega)
    | ((with_reducible refine endx_go ?_); first | (exact endx (congrArg D.str (by rw [← hI.2.2.2, show c - k = 0 by omega]; simp [leB])); done))
    | (refine ⟨rfl, ?_⟩; conv => whnf)
    | fail
    )

theorem c76i (n : Int) (c : Nat) (hn : 0 ≤ n ∧ n < 9223372036854775808) (hc : c < 1000) : Fn 76 [i n, i c] (.str (leB n.toNat c)) := by
  have := c76 n.toNat c (by omega) hc
  rwa [show ((n.toNat : Nat) : Int) = n by omega] at this
attribute [local irreducible] leB refB size sz

theorem c77 (r : Ref) (hr : 0 ≤ r.r ∧ r.r < 4294967296) (hs : 0 ≤ r.s ∧ r.s < 65536) : Fn 77 [r.enc] (.str (refB r)) := by
  refine run_walkF eok Try.func77 rfl (by kernel_rfl) ?_
  conv => whnf
  repeat' (first
    | ((with_reducible refine on_dec_f ?_ ?_); (focus ((try simp only [List.length_map, List.length_cons, List.length_nil, List.length_append]); omega)); conv => whnf)
    | ((with_reducible refine on_dec_t ?_ ?_); (focus ((try simp only [List.length_map, List.length_cons, List.length_nil, List.length_append]); omega)); conv => whnf)
    | ((with_reducible refine on_dec (fun h => ?_) (fun h => ?_)) <;> (try simp only [List.length_map] at h) <;> conv => whnf)
    | ((with_reducible refine on_ndec (fun h => ?_) (fun h => ?_)) <;> (try simp only [List.length_map] at h) <;> conv => whnf)
    | ((with_reducible refine on_not (fun h => ?_) (fun h => ?_)) <;> conv => whnf)
    | ((with_reducible refine onBool_split (fun h => ?_) (fun h => ?_)) <;> conv => whnf)
    | ((with_reducible refine call_go ?_); (first | refine call_step (run_view (c76i _ 4 (by omega) (by decide)) rfl rfl) ?_ | refine call_step (run_view (c76i _ 2 (by omega) (by decide)) rfl rfl) ?_); conv => whnf)
    | (refine ⟨[], [(4, 2)], (by decide +kernel), ?_⟩; conv => whnf)
    | (refine ⟨⟨(by first | rfl | (simp; done)), cap_ok (by simp only [List.length_map, List.length_cons, List.length_nil, List.length_append]; omega) rfl⟩, ?_⟩; conv => whnf)
    | (refine ⟨mem_one ⟨rfl, rfl⟩, ?_⟩; conv => whnf)
    | (refine ⟨(by intro y hy; obtain ⟨x, _, rfl⟩ := List.mem_map.1 hy; first | rfl | exact ⟨rfl, rfl⟩), ?_⟩; conv => whnf)
    | (refine ⟨cap_ok (by first | omega | (simp only [List.length_map]; omega)) rfl, ?_⟩; conv => whnf)
    | (refine ix_map (by omega) ?_; conv => whnf)
    | (refine ix_str (by omega) ?_; conv => whnf)
    | (refine wrap64 (by omega) ?_; conv => whnf)
    | (refine str_add (by constructor <;> (first | omega | (simp only [List.length_append, leB_length, refB_length, List.length_cons, List.length_nil, List.length_replicate]; omega))) ?_; conv => whnf)
    | (refine wrap64 (by omega) ?_; conv => whnf)
    | (exfalso; simp only [List.length_map, List.length_cons, List.length_nil, List.length_append] at h; omega)
    | ((with_reducible refine endx_go ?_); first | (exact endx (congrArg D.str (by simp only [refB])); done))
    | (refine ⟨rfl, ?_⟩; conv => whnf)
    | fail
    )

theorem c78 (n : Nat) (hn : n ≤ 200000) : Fn 78 [i n] (.str (List.replicate n 0)) := by
  have hG : goMax 0 (goMin (n : Int) 200000) = n := (by unfold goMax goMin; split <;> (try split) <;> omega)
  refine run_walkF eok Try.func78 rfl (by kernel_rfl) ?_
  conv => whnf
  repeat' (first
    | ((with_reducible refine on_dec_f ?_ ?_); (focus ((try simp only [List.length_map, List.length_cons, List.length_nil, List.length_append]); omega)); conv => whnf)
    | ((with_reducible refine on_dec_t ?_ ?_); (focus ((try simp only [List.length_map, List.length_cons, List.length_nil, List.length_append]); omega)); conv => whnf)
    | ((with_reducible refine on_dec (fun h => ?_) (fun h => ?_)) <;> (try simp only [List.length_map] at h) <;> conv => whnf)
    | ((with_reducible refine on_ndec (fun h => ?_) (fun h => ?_)) <;> (try simp only [List.length_map] at h) <;> conv => whnf)
    | ((with_reducible refine on_not (fun h => ?_) (fun h => ?_)) <;> conv => whnf)
    | ((with_reducible refine onBool_split (fun h => ?_) (fun h => ?_)) <;> conv => whnf)
    | (refine ⟨⟨(by first | rfl | (simp; done)), cap_ok (by simp only [List.length_map, List.length_cons, List.length_nil, List.length_append]; omega) rfl⟩, ?_⟩; conv => whnf)
    | (refine ⟨mem_one ⟨rfl, rfl⟩, ?_⟩; conv => whnf)
    | (refine ⟨(by intro y hy; obtain ⟨x, _, rfl⟩ := List.mem_map.1 hy; first | rfl | exact ⟨rfl, rfl⟩), ?_⟩; conv => whnf)
    | (refine ⟨cap_ok (by first | omega | (simp only [List.length_map]; omega)) rfl, ?_⟩; conv => whnf)
    | (refine ix_map (by omega) ?_; conv => whnf)
    | (refine ix_str (by omega) ?_; conv => whnf)
    | (refine wrap64 (by omega) ?_; conv => whnf)
    | (refine str_add (by constructor <;> (first | omega | (simp only [List.length_append, leB_length, refB_length, List.length_cons, List.length_nil, List.length_replicate]; omega))) ?_; conv => whnf)
    | (refine wrap64 (by omega) ?_; conv => whnf)
    | (rw [hG]; refine ⟨⟨(capI (b := 1) (by omega) rfl).1, Int.le_refl _, (capI (b := 1) (by omega) rfl).2.1, (capI (by omega) rfl).2.2⟩, ?_⟩; conv => whnf)
    | (refine ⟨List.replicate n 0, ⟨(by simp), (by rw [List.drop_zero, List.take_of_length_le (by simp), List.map_replicate]; rfl)⟩, ?_⟩; conv => whnf)
    | (exfalso; simp only [List.length_map, List.length_cons, List.length_nil, List.length_append] at h; omega)
    | ((with_reducible refine endx_go ?_); first | (exact endx rfl; done))
    | (refine ⟨rfl, ?_⟩; conv => whnf)
    | fail
    )

theorem c78i (n : Int) (hn : 0 ≤ n ∧ n ≤ 200000) : Fn 78 [i n] (.str (List.replicate n.toNat 0)) := by
  have := c78 n.toNat (by omega)
  rwa [show ((n.toNat : Nat) : Int) = n by omega] at this
theorem encB_ref (x : Chg) (n : Nat) (hn : n = sz x - 32 - x.name.length) : leB (size x.name.length).toNat 4 ++ leB x.usn.toNat 4 ++ refB x.file ++ refB x.parent ++ leB x.tick.toNat 4 ++ leB x.reasons.toNat 2 ++ leB (x.name.length : Int).toNat 2 ++ List.replicate 4 0 ++ x.name ++ List.replicate n 0 = encB x := by
  subst hn
  unfold encB encH sz
  rw [Int.toNat_natCast]
  rfl
attribute [local irreducible] encH

theorem c33 (x : Chg) (hu : 0 ≤ x.usn ∧ x.usn ≤ 2147483647) (hv : recordErr x = 0) : Fn 33 [x.enc] (.str (encB x)) := by
  obtain ⟨v1, v2, v3, v4, v5⟩ := recordErr_ok hv; have v6 := nameErr_ok v5; have v7 := refErr_bd v1; have v8 := refErr_bd v2; have v9 : 32 + (x.name.length : Int) ≤ size x.name.length ∧ size x.name.length ≤ 72 := (by unfold size; omega)
  refine run_walkF eok Try.func33 rfl (by kernel_rfl) ?_
  conv => whnf
  repeat' (first
    | ((with_reducible refine on_dec_f ?_ ?_); (focus ((try simp only [List.length_map, List.length_cons, List.length_nil, List.length_append]); omega)); conv => whnf)
    | ((with_reducible refine on_dec_t ?_ ?_); (focus ((try simp only [List.length_map, List.length_cons, List.length_nil, List.length_append]); omega)); conv => whnf)
    | ((with_reducible refine on_dec (fun h => ?_) (fun h => ?_)) <;> (try simp only [List.length_map] at h) <;> conv => whnf)
    | ((with_reducible refine on_ndec (fun h => ?_) (fun h => ?_)) <;> (try simp only [List.length_map] at h) <;> conv => whnf)
    | ((with_reducible refine on_not (fun h => ?_) (fun h => ?_)) <;> conv => whnf)
    | ((with_reducible refine onBool_split (fun h => ?_) (fun h => ?_)) <;> conv => whnf)
    | ((with_reducible refine call_go ?_); (first | refine call_step (run_view (c21 x.name (by omega)) rfl rfl) ?_ | refine call_step (run_view (c76i _ 4 (by omega) (by decide)) rfl rfl) ?_ | refine call_step (run_view (c76i _ 2 (by omega) (by decide)) rfl rfl) ?_ | refine call_step (run_view (c77 _ (by omega) (by omega)) rfl rfl) ?_ | refine call_step (run_view (c78 4 (by decide)) rfl rfl) ?_ | refine call_step (run_view (c78i _ (by simp only [List.length_append, leB_length, refB_length, List.length_replicate]; omega)) rfl rfl) ?_); conv => whnf)
    | (refine ⟨[], [(3, 1), (7, 1), (11, 1), (15, 1), (19, 1), (23, 1), (30, 1), (7, 4), (11, 4), (15, 4), (19, 4), (23, 4), (30, 4), (11, 8), (15, 8), (19, 8), (23, 8), (30, 8), (15, 12), (19, 12), (23, 12), (30, 12), (19, 16), (23, 16), (30, 16), (23, 20), (30, 20), (30, 25), (30, 27)], (by decide +kernel), ?_⟩; conv => whnf)
    | (refine ⟨⟨(by first | rfl | (simp; done)), cap_ok (by simp only [List.length_map, List.length_cons, List.length_nil, List.length_append]; omega) rfl⟩, ?_⟩; conv => whnf)
    | (refine ⟨mem_one ⟨rfl, rfl⟩, ?_⟩; conv => whnf)
    | (refine ⟨(by intro y hy; obtain ⟨x, _, rfl⟩ := List.mem_map.1 hy; first | rfl | exact ⟨rfl, rfl⟩), ?_⟩; conv => whnf)
    | (refine ⟨cap_ok (by first | omega | (simp only [List.length_map]; omega)) rfl, ?_⟩; conv => whnf)
    | (refine ix_map (by omega) ?_; conv => whnf)
    | (refine ix_str (by omega) ?_; conv => whnf)
    | (refine wrap64 (by omega) ?_; conv => whnf)
    | (refine str_add (by constructor <;> (first | omega | (simp only [List.length_append, leB_length, refB_length, List.length_cons, List.length_nil, List.length_replicate]; omega))) ?_; conv => whnf)
    | (refine wrap64 (by omega) ?_; conv => whnf)
    | (refine wrap64 (by simp only [List.length_append, leB_length, refB_length, List.length_replicate]; omega) ?_; conv => whnf)
    | (exfalso; simp only [List.length_map, List.length_cons, List.length_nil, List.length_append] at h; omega)
    | ((with_reducible refine endx_go ?_); first | (exact endx (congrArg D.str (encB_ref x _ (by unfold sz; simp only [List.length_append, leB_length, refB_length, List.length_replicate]; omega))); done))
    | (refine ⟨rfl, ?_⟩; conv => whnf)
    | fail
    )

def opnB (x : Opn) : List UInt8 := refB x.file ++ leB x.reasons.toNat 2
def hdB (j : Jrn) : List UInt8 := leB j.id.toNat 4 ++ leB j.first.toNat 4 ++ leB j.next.toNat 4 ++ leB j.most.toNat 4 ++ leB j.opens.length 2
def jrnB (j : Jrn) : List UInt8 := hdB j ++ j.opens.flatMap opnB ++ j.recs.flatMap encB
theorem opnB_length (x : Opn) : (opnB x).length = 8 := by simp [opnB, leB_length, refB_length]
theorem hdB_length (j : Jrn) : (hdB j).length = 18 := by simp [hdB, leB_length]
theorem opnsB_length : ∀ (l : List Opn), (l.flatMap opnB).length = 8 * l.length
  | [] => rfl
  | x :: l => by simp only [List.flatMap_cons, List.length_append, opnB_length, opnsB_length l, List.length_cons]; omega
theorem encB_length {x : Chg} (hv : recordErr x = 0) : (encB x).length ≤ 72 := by
  have v6 := nameErr_ok (recordErr_ok hv).2.2.2.2
  have v9 : size x.name.length ≤ 72 := by unfold size; omega
  rw [encB_eq, List.length_append, encA_length, List.length_replicate]
  unfold sz; omega
theorem recsB_length : ∀ (l : List Chg), (∀ x ∈ l, recordErr x = 0) → (l.flatMap encB).length ≤ 72 * l.length
  | [], _ => by simp
  | x :: l, h => by
    have h1 := encB_length (h x (by simp))
    have h2 := recsB_length l fun y hy => h y (by simp [hy])
    simp only [List.flatMap_cons, List.length_append, List.length_cons]; omega
theorem flat_take {α β : Type} {f : α → List β} {l : List α} {k : Nat} (h : k < l.length) : (l.take (k + 1)).flatMap f = (l.take k).flatMap f ++ f l[k] := by
  rw [List.take_succ_eq_append_getElem h, List.flatMap_append]; simp

end Go.Proofs.Ytjbipdppgoldlaa

/-! Xa -/
namespace Go.Proofs.Ytjbipdppgoldlaa
open Go Dw
set_option maxRecDepth 10000
set_option linter.unusedVariables false
set_option linter.unusedSimpArgs false
attribute [local irreducible] Run
set_option maxHeartbeats 2000000

theorem posV {j : Jrn} (V : Valid j) : ∀ x ∈ j.recs, 0 ≤ x.usn ∧ x.usn ≤ 2147483647 := fun x hx => by
  obtain ⟨k, hk, rfl⟩ := List.getElem_of_mem hx
  rw [posA_usn V hk]
  exact posA_bd V (Nat.le_of_lt hk)
attribute [local irreducible] leB refB size sz hdB opnB encB

theorem c35 (j : Jrn) (V : Valid j) : Fn 35 [j.enc] (.str (jrnB j)) := by
  have vn := V.nums; have vr := V.recs; have vl := V.opens; have vo := fun x hx => refErr_bd (V.opnOk x hx).1; have vo2 := fun x hx => (V.opnOk x hx).2; have vq := V.recOk; have vp := posV V; have vs : ∀ k, ((j.recs.take k).flatMap encB).length ≤ 72 * j.recs.length := (fun k => Nat.le_trans (recsB_length _ fun x hx => vq x (List.mem_of_mem_take hx)) (by rw [List.length_take]; omega))
  refine run_walkF eok Try.func35 rfl (by kernel_rfl) ?_
  conv => whnf
  repeat' (first
    | ((with_reducible refine on_dec_f ?_ ?_); (focus ((try simp only [List.length_map, List.length_cons, List.length_nil, List.length_append]); omega)); conv => whnf)
    | ((with_reducible refine on_dec_t ?_ ?_); (focus ((try simp only [List.length_map, List.length_cons, List.length_nil, List.length_append]); omega)); conv => whnf)
    | ((with_reducible refine on_dec (fun h => ?_) (fun h => ?_)) <;> (try simp only [List.length_map] at h) <;> conv => whnf)
    | ((with_reducible refine on_ndec (fun h => ?_) (fun h => ?_)) <;> (try simp only [List.length_map] at h) <;> conv => whnf)
    | ((with_reducible refine on_not (fun h => ?_) (fun h => ?_)) <;> conv => whnf)
    | ((with_reducible refine onBool_split (fun h => ?_) (fun h => ?_)) <;> conv => whnf)
    | ((with_reducible refine call_go ?_); (first | refine call_step (run_view (c76i j.id 4 (by omega) (by decide)) rfl rfl) ?_ | refine call_step (run_view (c76i j.first 4 (by omega) (by decide)) rfl rfl) ?_ | refine call_step (run_view (c76i j.next 4 (by omega) (by decide)) rfl rfl) ?_ | refine call_step (run_view (c76i j.most 4 (by omega) (by decide)) rfl rfl) ?_ | refine call_step (run_view (c76 (j.opens.map Opn.enc).length 2 (by rw [List.length_map]; omega) (by decide)) rfl rfl) ?_ | refine call_step (run_view (c76i (j.opens[k]'(by omega)).reasons 2 (by have := vo2 _ (List.getElem_mem (l := j.opens) (n := k) (by omega)); omega) (by decide)) rfl rfl) ?_ | refine call_step (run_view (c77 (j.opens[k]'(by omega)).file (by have := vo _ (List.getElem_mem (l := j.opens) (n := k) (by omega)); omega) (by have := vo _ (List.getElem_mem (l := j.opens) (n := k) (by omega)); omega)) rfl rfl) ?_ | refine call_step (run_view (c33 (j.recs[k]'(by omega)) (vp _ (List.getElem_mem _)) (vq _ (List.getElem_mem _))) rfl rfl) ?_); conv => whnf)
    | (refine ⟨[], [(4, 2), (8, 2), (12, 2), (16, 2), (8, 5), (12, 5), (16, 5), (12, 9), (16, 9), (16, 13)], (by decide +kernel), ?_⟩; conv => whnf)
    | (refine ⟨[], [(10, 7), (14, 7)], (by decide +kernel), ?_⟩; conv => whnf)
    | (refine loop1 (fun (k : Nat) => j.opens.length - k) (fun (k : Nat) => k ≤ j.opens.length) (fun (k : Nat) => [(1, .ptr 0 0 0), (3, .d (.str (hdB j ++ (j.opens.take k).flatMap opnB))), (4, .d (i k))]) (fun (k : Nat) => [⟨[.d j.enc], 6, 0⟩]) (0) (by exact Nat.zero_le _) ?_ (fun k C hI hC => ?_); (exact ⟨[.old 0], rfl, rfl, ⟨⟨rfl, rfl, rfl⟩, (congrArg D.str (by simp only [hdB, List.length_map, List.take_zero, List.flatMap_nil, List.append_nil])), rfl, trivial⟩, ⟨⟨rfl, rfl, .inl ⟨[_], rfl, rfl⟩⟩, trivial⟩⟩); all_goals (conv => whnf))
    | (refine hC (k + 1) _ _ ?_ (by omega) ?_; clear hC; rotate_left; (exact ⟨[.old 0], rfl, rfl, ⟨(by first | exact congrArg (D.int .i64) (by omega) | exact ⟨rfl, rfl, rfl⟩ | exact ⟨rfl, rfl, rfl, rfl, rfl⟩ | (show (_ : D) = _; with_reducible rfl)), (congrArg D.str (by rw [flat_take (by omega)]; simp only [opnB, List.append_assoc])), (by first | exact congrArg (D.int .i64) (by omega) | exact ⟨rfl, rfl, rfl⟩ | exact ⟨rfl, rfl, rfl, rfl, rfl⟩ | (show (_ : D) = _; with_reducible rfl)), trivial⟩, ⟨⟨rfl, rfl, .inl ⟨[_], rfl, rfl⟩⟩, trivial⟩⟩); (exact (by omega : k + 1 ≤ j.opens.length)))
    | (refine loop1 (fun (k : Nat) => j.recs.length - k) (fun (k : Nat) => k ≤ j.recs.length) (fun (k : Nat) => [(1, .ptr 0 0 0), (3, .d (.str (hdB j ++ j.opens.flatMap opnB ++ (j.recs.take k).flatMap encB))), (5, .d (i k))]) (fun (k : Nat) => [⟨[.d j.enc], 6, 0⟩]) (0) (by exact Nat.zero_le _) ?_ (fun k C hI hC => ?_); (exact ⟨[.old 0], rfl, rfl, ⟨⟨rfl, rfl, rfl⟩, (congrArg D.str (by rw [List.take_of_length_le (by omega)]; exact (List.append_nil _).symm)), rfl, trivial⟩, ⟨⟨rfl, rfl, .inl ⟨[_], rfl, rfl⟩⟩, trivial⟩⟩); all_goals (conv => whnf))
    | (refine hC (k + 1) _ _ ?_ (by omega) ?_; clear hC; rotate_left; (exact ⟨[.old 0], rfl, rfl, ⟨(by first | exact congrArg (D.int .i64) (by omega) | exact ⟨rfl, rfl, rfl⟩ | exact ⟨rfl, rfl, rfl, rfl, rfl⟩ | (show (_ : D) = _; with_reducible rfl)), (congrArg D.str (by rw [flat_take (by omega), ← List.append_assoc])), (by first | exact congrArg (D.int .i64) (by omega) | exact ⟨rfl, rfl, rfl⟩ | exact ⟨rfl, rfl, rfl, rfl, rfl⟩ | (show (_ : D) = _; with_reducible rfl)), trivial⟩, ⟨⟨rfl, rfl, .inl ⟨[_], rfl, rfl⟩⟩, trivial⟩⟩); (exact (by omega : k + 1 ≤ j.recs.length)))
    | (refine ⟨⟨(by first | rfl | (simp; done)), cap_ok (by simp only [List.length_map, List.length_cons, List.length_nil, List.length_append]; omega) rfl⟩, ?_⟩; conv => whnf)
    | (refine ⟨mem_one ⟨rfl, rfl⟩, ?_⟩; conv => whnf)
    | (refine ⟨(by intro y hy; obtain ⟨x, _, rfl⟩ := List.mem_map.1 hy; first | rfl | exact ⟨rfl, rfl⟩), ?_⟩; conv => whnf)
    | (refine ⟨cap_ok (by first | omega | (simp only [List.length_map]; omega)) rfl, ?_⟩; conv => whnf)
    | (refine ix_map (by omega) ?_; conv => whnf)
    | (refine ix_str (by omega) ?_; conv => whnf)
    | (refine wrap64 (by omega) ?_; conv => whnf)
    | (refine str_add (by constructor <;> (first | omega | (simp only [List.length_append, leB_length, refB_length, hdB_length, opnsB_length, List.length_take, List.length_cons, List.length_nil, List.length_replicate]; omega) | (have := vs k; simp only [List.length_append, leB_length, refB_length, hdB_length, opnsB_length, List.length_take, List.length_cons, List.length_nil, List.length_replicate]; omega) | (have := encB_length (vq _ (List.getElem_mem (l := j.recs) (n := k) (by omega))); omega))) ?_; conv => whnf)
    | (refine wrap64 (by omega) ?_; conv => whnf)
    | (exfalso; simp only [List.length_map, List.length_cons, List.length_nil, List.length_append] at h; omega)
    | ((with_reducible refine endx_go ?_); first | (exact endx (congrArg D.str (by rw [List.take_of_length_le (by omega)]; rfl)); done))
    | (refine ⟨rfl, ?_⟩; conv => whnf)
    | fail
    )

end Go.Proofs.Ytjbipdppgoldlaa

/-! Xb -/
namespace Go.Proofs.Ytjbipdppgoldlaa
open Go Dw
set_option maxRecDepth 10000
set_option linter.unusedVariables false
set_option linter.unusedSimpArgs false
attribute [local irreducible] Run
set_option maxHeartbeats 4000000

theorem encB_pos (x : Chg) : 32 ≤ (encB x).length := by
  rw [encB_eq, List.length_append, encA_length]; omega
def nums (j : Jrn) : List Int := [j.id, j.first, j.next, j.most]
def accA (j : Jrn) (k : Nat) : List UInt8 := ((nums j).take k).flatMap fun n => leB n.toNat 4
def accB (j : Jrn) (k : Nat) : List UInt8 := hdB j ++ (j.opens.take k).flatMap opnB
def accC (j : Jrn) (k : Nat) : List UInt8 := hdB j ++ j.opens.flatMap opnB ++ (j.recs.take k).flatMap encB
theorem accA_z (j : Jrn) : accA j 0 = [] := rfl
theorem accA_0 (j : Jrn) : accA j 1 = accA j 0 ++ leB j.id.toNat 4 := rfl
theorem accA_1 (j : Jrn) : accA j 2 = accA j 1 ++ leB j.first.toNat 4 := rfl
theorem accA_2 (j : Jrn) : accA j 3 = accA j 2 ++ leB j.next.toNat 4 := rfl
theorem accA_3 (j : Jrn) : accA j 4 = accA j 3 ++ leB j.most.toNat 4 := rfl
theorem accA_4 (j : Jrn) : accA j 4 ++ leB j.opens.length 2 = accB j 0 := by
  simp only [accA, nums, accB, hdB, List.take_zero, List.flatMap_nil, List.append_nil, List.take_succ_cons, List.flatMap_cons, List.append_assoc]
theorem accB_s (j : Jrn) {k : Nat} (h : k < j.opens.length) : accB j (k + 1) = accB j k ++ refB j.opens[k].file ++ leB j.opens[k].reasons.toNat 2 := by
  unfold accB; rw [flat_take h]; simp only [opnB, List.append_assoc]
theorem accB_e (j : Jrn) {k : Nat} (h : j.opens.length ≤ k) : accB j k = accC j 0 := by
  unfold accB accC; rw [List.take_of_length_le h]; simp
theorem accC_s (j : Jrn) {k : Nat} (h : k < j.recs.length) : accC j (k + 1) = accC j k ++ encB j.recs[k] := by
  unfold accC; rw [flat_take h]; simp only [List.append_assoc]
theorem accC_e (j : Jrn) {k : Nat} (h : j.recs.length ≤ k) : accC j k = jrnB j := by
  unfold accC jrnB; rw [List.take_of_length_le h]
theorem accA_len (j : Jrn) {k : Nat} (h : k ≤ 4) : (accA j k).length ≤ 16 := by
  have e : ∀ (l : List Int), (l.flatMap fun n => leB n.toNat 4).length = 4 * l.length := by
    intro l
    induction l with
    | nil => rfl
    | cons x l ih => simp only [List.flatMap_cons, List.length_append, leB_length, ih, List.length_cons]; omega
  unfold accA
  rw [e, List.length_take]; omega
theorem accB_len {j : Jrn} (V : Valid j) (k : Nat) : (accB j k).length ≤ 1000 := by
  have := V.opens
  unfold accB
  rw [List.length_append, hdB_length, opnsB_length, List.length_take]; omega
theorem accC_len {j : Jrn} (V : Valid j) (k : Nat) : (accC j k).length ≤ 100000 := by
  have h1 := V.opens
  have h2 := V.recs
  have h3 := recsB_length (j.recs.take k) fun x hx => V.recOk x (List.mem_of_mem_take hx)
  rw [List.length_take] at h3
  unfold accC
  rw [List.length_append, List.length_append, hdB_length, opnsB_length]; omega
attribute [local irreducible] leB refB size sz hdB opnB encB accA accB accC

theorem c34 (j : Jrn) (hr : j.recs.length < 1000000) (hn : ∀ x ∈ j.recs, x.name.length < 1000000) (ho : j.opens.length < 1000000) : Fn 34 [j.enc] (.tup [.str (if (checkJ j).2 = 0 then jrnB j else []), i (checkJ j).2]) := by
  refine run_walkF eok Try.func34 rfl (by kernel_rfl) ?_
  conv => whnf
  repeat' (first
    | ((with_reducible refine on_dec_f ?_ ?_); (focus ((try simp only [List.length_map, List.length_cons, List.length_nil, List.length_append]); omega)); conv => whnf)
    | ((with_reducible refine on_dec_t ?_ ?_); (focus ((try simp only [List.length_map, List.length_cons, List.length_nil, List.length_append]); omega)); conv => whnf)
    | ((with_reducible refine on_dec (fun h => ?_) (fun h => ?_)) <;> (try simp only [List.length_map] at h) <;> conv => whnf)
    | ((with_reducible refine on_ndec (fun h => ?_) (fun h => ?_)) <;> (try simp only [List.length_map] at h) <;> conv => whnf)
    | ((with_reducible refine on_not (fun h => ?_) (fun h => ?_)) <;> conv => whnf)
    | ((with_reducible refine onBool_split (fun h => ?_) (fun h => ?_)) <;> conv => whnf)
    | ((with_reducible refine call_go ?_); (first | refine call_step (run_view (c53 _ hr hn ho) rfl rfl) ?_ | refine call_step (run_buf (c79 (accA j 0) _ (by omega) (by have := la 0 (by omega); omega)) rfl rfl rfl rfl) ?_ | refine call_step (run_buf (c79 (accA j 1) _ (by omega) (by have := la 1 (by omega); omega)) rfl rfl rfl rfl) ?_ | refine call_step (run_buf (c79 (accA j 2) _ (by omega) (by have := la 2 (by omega); omega)) rfl rfl rfl rfl) ?_ | refine call_step (run_buf (c79 (accA j 3) _ (by omega) (by have := la 3 (by omega); omega)) rfl rfl rfl rfl) ?_ | refine call_step (run_buf (c80 (accA j k) _ (by rw [List.length_map]; omega) (by have := la k (by omega); omega)) rfl rfl rfl rfl) ?_ | refine call_step (run_buf (c80 (accB j k ++ refB (j.opens[k]'(by omega)).file) _ (by have := vo2 _ (List.getElem_mem (l := j.opens) (n := k) (by omega)); omega) (by have := lb k; simp only [List.length_append, refB_length]; omega)) rfl rfl rfl (by simp only [List.length_append])) ?_ | refine call_step (run_buf (c81 (accB j k) (j.opens[k]'(by omega)).file (by have := vo _ (List.getElem_mem (l := j.opens) (n := k) (by omega)); omega) (by have := vo _ (List.getElem_mem (l := j.opens) (n := k) (by omega)); omega) (by have := lb k; omega)) rfl rfl rfl rfl) ?_ | refine call_step (run_view (c75 (j.recs[k]'(by omega)) (vp _ (List.getElem_mem _)) (vq _ (List.getElem_mem _))) rfl rfl) ?_); conv => whnf)
    | (refine ⟨[], [(5, 3)], (by decide +kernel), ?_⟩; conv => whnf)
    | (refine loop1 (fun (k : Nat) => 4 - k) (fun (k : Nat) => k ≤ 4) (fun (k : Nat) => [(1, .ptr 0 0 0), (5, .sl 1 0 (accA j k).length 1 none), (25, .agg [.d (i j.id), .d (i j.first), .d (i j.next), .d (i j.most)]), (26, .d (i k))]) (fun (k : Nat) => [⟨[.d j.enc], 6, 0⟩, ⟨(accA j k).map byteV, 1, 0⟩]) (0) (by exact Nat.zero_le _) ?_ (fun k C hI hC => ?_); (exact ⟨[.old 0, .void 1], rfl, rfl, ⟨⟨rfl, rfl, rfl⟩, ⟨rfl, rfl, (by rw [accA_z]; rfl), rfl⟩, ⟨rfl, rfl, rfl, rfl, trivial⟩, rfl, trivial⟩, ⟨⟨rfl, rfl, .inl ⟨[_], rfl, rfl⟩⟩, ⟨(by show (accA j 0).map byteV = []; rw [accA_z]; rfl), rfl, (by decide), rfl⟩, trivial⟩⟩); have hv : (checkJ j).2 = 0 := (by simpa using h); have V := valid_of hv; have vn := V.nums; have vr := V.recs; have vl := V.opens; have vo := fun x hx => refErr_bd (V.opnOk x hx).1; have vo2 := fun x hx => (V.opnOk x hx).2; have vq := V.recOk; have vp := posV V; have la := fun k (hk : k ≤ 4) => accA_len j hk; have lb := accB_len V; have lc := accC_len V; all_goals (conv => whnf))
    | (refine hC (1) _ _ ?_ (by omega) ?_; clear hC; rotate_left; (exact ⟨[.old 0, .old 2], rfl, rfl, ⟨(by first | exact congrArg (D.int .i64) (by omega) | exact ⟨rfl, rfl, rfl⟩ | exact ⟨rfl, rfl, rfl, rfl, rfl⟩ | (show (_ : D) = _; with_reducible rfl)), ⟨rfl, rfl, (by rw [accA_0]; (simp only [List.length_append, List.length_map]) <;> rfl), rfl, rfl⟩, ⟨rfl, rfl, rfl, rfl, trivial⟩, (by first | exact congrArg (D.int .i64) (by omega) | exact ⟨rfl, rfl, rfl⟩ | exact ⟨rfl, rfl, rfl, rfl, rfl⟩ | (show (_ : D) = _; with_reducible rfl)), trivial⟩, ⟨⟨rfl, rfl, .inl ⟨[_], rfl, rfl⟩⟩, wkO_bytes (accA j 1) rfl rfl rfl (by (rw [accA_0]) <;> rfl) rfl, trivial⟩⟩); (exact (by omega : 1 ≤ 4)))
    | (refine hC (2) _ _ ?_ (by omega) ?_; clear hC; rotate_left; (exact ⟨[.old 0, .old 2], rfl, rfl, ⟨(by first | exact congrArg (D.int .i64) (by omega) | exact ⟨rfl, rfl, rfl⟩ | exact ⟨rfl, rfl, rfl, rfl, rfl⟩ | (show (_ : D) = _; with_reducible rfl)), ⟨rfl, rfl, (by rw [accA_1]; (simp only [List.length_append, List.length_map]) <;> rfl), rfl, rfl⟩, ⟨rfl, rfl, rfl, rfl, trivial⟩, (by first | exact congrArg (D.int .i64) (by omega) | exact ⟨rfl, rfl, rfl⟩ | exact ⟨rfl, rfl, rfl, rfl, rfl⟩ | (show (_ : D) = _; with_reducible rfl)), trivial⟩, ⟨⟨rfl, rfl, .inl ⟨[_], rfl, rfl⟩⟩, wkO_bytes (accA j 2) rfl rfl rfl (by (rw [accA_1]) <;> rfl) rfl, trivial⟩⟩); (exact (by omega : 2 ≤ 4)))
    | (refine hC (3) _ _ ?_ (by omega) ?_; clear hC; rotate_left; (exact ⟨[.old 0, .old 2], rfl, rfl, ⟨(by first | exact congrArg (D.int .i64) (by omega) | exact ⟨rfl, rfl, rfl⟩ | exact ⟨rfl, rfl, rfl, rfl, rfl⟩ | (show (_ : D) = _; with_reducible rfl)), ⟨rfl, rfl, (by rw [accA_2]; (simp only [List.length_append, List.length_map]) <;> rfl), rfl, rfl⟩, ⟨rfl, rfl, rfl, rfl, trivial⟩, (by first | exact congrArg (D.int .i64) (by omega) | exact ⟨rfl, rfl, rfl⟩ | exact ⟨rfl, rfl, rfl, rfl, rfl⟩ | (show (_ : D) = _; with_reducible rfl)), trivial⟩, ⟨⟨rfl, rfl, .inl ⟨[_], rfl, rfl⟩⟩, wkO_bytes (accA j 3) rfl rfl rfl (by (rw [accA_2]) <;> rfl) rfl, trivial⟩⟩); (exact (by omega : 3 ≤ 4)))
    | (refine hC (4) _ _ ?_ (by omega) ?_; clear hC; rotate_left; (exact ⟨[.old 0, .old 2], rfl, rfl, ⟨(by first | exact congrArg (D.int .i64) (by omega) | exact ⟨rfl, rfl, rfl⟩ | exact ⟨rfl, rfl, rfl, rfl, rfl⟩ | (show (_ : D) = _; with_reducible rfl)), ⟨rfl, rfl, (by rw [accA_3]; (simp only [List.length_append, List.length_map]) <;> rfl), rfl, rfl⟩, ⟨rfl, rfl, rfl, rfl, trivial⟩, (by first | exact congrArg (D.int .i64) (by omega) | exact ⟨rfl, rfl, rfl⟩ | exact ⟨rfl, rfl, rfl, rfl, rfl⟩ | (show (_ : D) = _; with_reducible rfl)), trivial⟩, ⟨⟨rfl, rfl, .inl ⟨[_], rfl, rfl⟩⟩, wkO_bytes (accA j 4) rfl rfl rfl (by (rw [accA_3]) <;> rfl) rfl, trivial⟩⟩); (exact (by omega : 4 ≤ 4)))
    | (refine loop1 (fun (k : Nat) => j.opens.length - k) (fun (k : Nat) => k ≤ j.opens.length) (fun (k : Nat) => [(1, .ptr 0 0 0), (5, .sl 1 0 (accB j k).length 1 none), (41, .d (.fs (j.opens.map Opn.enc))), (42, .d (i j.opens.length)), (43, .d (i k))]) (fun (k : Nat) => [⟨[.d j.enc], 6, 0⟩, ⟨(accB j k).map byteV, 1, 0⟩]) (0) (by exact Nat.zero_le _) ?_ (fun k C hI hC => ?_); (exact ⟨[.old 0, .old 2], rfl, rfl, ⟨⟨rfl, rfl, rfl⟩, ⟨rfl, rfl, (by have h4 : k = 4 := (by omega); subst h4; rw [← accA_4]; (simp only [List.length_append, List.length_map, leB_length]) <;> rfl), rfl, rfl⟩, rfl, (congrArg (D.int .i64) (by (rw [List.length_map]) <;> rfl)), rfl, trivial⟩, ⟨⟨rfl, rfl, .inl ⟨[_], rfl, rfl⟩⟩, wkO_bytes (accB j 0) rfl rfl rfl (by have h4 : k = 4 := (by omega); subst h4; (rw [← accA_4, ← List.length_map (f := Opn.enc)]) <;> rfl) rfl, trivial⟩⟩); all_goals (conv => whnf))
    | (refine hC (k + 1) _ _ ?_ (by omega) ?_; clear hC; rotate_left; (exact ⟨[.old 0, .old 4], rfl, rfl, ⟨(by first | exact congrArg (D.int .i64) (by omega) | exact ⟨rfl, rfl, rfl⟩ | exact ⟨rfl, rfl, rfl, rfl, rfl⟩ | (show (_ : D) = _; with_reducible rfl)), ⟨rfl, rfl, (by rw [accB_s j (by omega)]; (simp only [List.length_append, List.length_map]) <;> rfl), rfl, rfl⟩, (by first | exact congrArg (D.int .i64) (by omega) | exact ⟨rfl, rfl, rfl⟩ | exact ⟨rfl, rfl, rfl, rfl, rfl⟩ | (show (_ : D) = _; with_reducible rfl)), (by first | exact congrArg (D.int .i64) (by omega) | exact ⟨rfl, rfl, rfl⟩ | exact ⟨rfl, rfl, rfl, rfl, rfl⟩ | (show (_ : D) = _; with_reducible rfl)), (by first | exact congrArg (D.int .i64) (by omega) | exact ⟨rfl, rfl, rfl⟩ | exact ⟨rfl, rfl, rfl, rfl, rfl⟩ | (show (_ : D) = _; with_reducible rfl)), trivial⟩, ⟨⟨rfl, rfl, .inl ⟨[_], rfl, rfl⟩⟩, wkO_bytes (accB j (k + 1)) rfl rfl rfl (by (rw [accB_s j (by omega)]) <;> rfl) rfl, trivial⟩⟩); (exact (by omega : k + 1 ≤ j.opens.length)))
    | (refine loop1 (fun (k : Nat) => j.recs.length - k) (fun (k : Nat) => k ≤ j.recs.length) (fun (k : Nat) => [(1, .ptr 0 0 0), (5, .sl 1 0 (accC j k).length 1 none), (57, .d (.fs (j.recs.map Chg.enc))), (58, .d (i j.recs.length)), (59, .d (i k))]) (fun (k : Nat) => [⟨[.d j.enc], 6, 0⟩, ⟨(accC j k).map byteV, 1, 0⟩]) (0) (by exact Nat.zero_le _) ?_ (fun k C hI hC => ?_); (exact ⟨[.old 0, .old 1], rfl, rfl, ⟨⟨rfl, rfl, rfl⟩, ⟨rfl, rfl, (by rw [accB_e j (by omega)]), rfl, rfl⟩, rfl, (congrArg (D.int .i64) (by (rw [List.length_map]) <;> rfl)), rfl, trivial⟩, ⟨⟨rfl, rfl, .inl ⟨[_], rfl, rfl⟩⟩, wkO_bytes (accC j 0) rfl rfl rfl (by rw [accB_e j (by omega)]) rfl, trivial⟩⟩); all_goals (conv => whnf))
    | (refine hC (k + 1) _ _ ?_ (by omega) ?_; clear hC; rotate_left; (exact ⟨[.old 0, .old 3], rfl, rfl, ⟨(by first | exact congrArg (D.int .i64) (by omega) | exact ⟨rfl, rfl, rfl⟩ | exact ⟨rfl, rfl, rfl, rfl, rfl⟩ | (show (_ : D) = _; with_reducible rfl)), ⟨rfl, rfl, (by rw [accC_s j (by omega)]; (simp only [List.length_append, List.length_map]) <;> rfl), rfl, rfl⟩, (by first | exact congrArg (D.int .i64) (by omega) | exact ⟨rfl, rfl, rfl⟩ | exact ⟨rfl, rfl, rfl, rfl, rfl⟩ | (show (_ : D) = _; with_reducible rfl)), (by first | exact congrArg (D.int .i64) (by omega) | exact ⟨rfl, rfl, rfl⟩ | exact ⟨rfl, rfl, rfl, rfl, rfl⟩ | (show (_ : D) = _; with_reducible rfl)), (by first | exact congrArg (D.int .i64) (by omega) | exact ⟨rfl, rfl, rfl⟩ | exact ⟨rfl, rfl, rfl, rfl, rfl⟩ | (show (_ : D) = _; with_reducible rfl)), trivial⟩, ⟨⟨rfl, rfl, .inl ⟨[_], rfl, rfl⟩⟩, wkO_bytes (accC j (k + 1)) rfl rfl rfl (by (rw [accC_s j (by omega), List.map_append]) <;> rfl) rfl, trivial⟩⟩); (exact (by omega : k + 1 ≤ j.recs.length)))
    | (refine ⟨⟨(by first | rfl | (simp; done)), cap_ok (by simp only [List.length_map, List.length_cons, List.length_nil, List.length_append]; omega) rfl⟩, ?_⟩; conv => whnf)
    | (refine ⟨mem_one ⟨rfl, rfl⟩, ?_⟩; conv => whnf)
    | (refine ⟨(by intro y hy; obtain ⟨x, _, rfl⟩ := List.mem_map.1 hy; first | rfl | exact ⟨rfl, rfl⟩), ?_⟩; conv => whnf)
    | (refine ⟨cap_ok (by first | omega | (simp only [List.length_map]; omega)) rfl, ?_⟩; conv => whnf)
    | (refine ix_map (by omega) ?_; conv => whnf)
    | (refine ix_str (by omega) ?_; conv => whnf)
    | (refine wrap64 (by omega) ?_; conv => whnf)
    | (refine wrapU16 (by have := vo2 _ (List.getElem_mem (l := j.opens) (n := k) (by omega)); omega) ?_; conv => whnf)
    | (rcases (by omega : k = 0 ∨ k = 1 ∨ k = 2 ∨ k = 3) with rfl | rfl | rfl | rfl <;> (refine ⟨⟨by decide, by decide⟩, ?_⟩; conv => whnf))
    | (refine wrapU16 (by rw [List.length_map]; omega) ?_; conv => whnf)
    | (refine ⟨⟨(by simp only [List.length_map]; omega), cap_ok (by have := lc k; have := encB_length (vq _ (List.getElem_mem (l := j.recs) (n := k) (by omega))); simp only [List.length_map]; omega) rfl⟩, ?_⟩; conv => whnf)
    | (refine ⟨jrnB j, ⟨(by rw [accC_e j (by omega)]; simp), (by rw [accC_e j (by omega), List.drop_zero]; exact List.take_of_length_le (by simp))⟩, ?_⟩; conv => whnf)
    | (exfalso; have := encB_pos (j.recs[k]'(by omega)); (try simp only [List.length_map] at h); omega)
    | (refine wrap64 (by omega) ?_; conv => whnf)
    | (refine wrapU32 (by omega) ?_; conv => whnf)
    | (refine wrapU16 (by omega) ?_; conv => whnf)
    | (refine wrapU8n ?_; conv => whnf)
    | (refine wrapU16n ?_; conv => whnf)
    | (refine shr_n 256 rfl rfl ?_; conv => whnf)
    | (refine shr_n 65536 rfl rfl ?_; conv => whnf)
    | (refine shr_n 16777216 rfl rfl ?_; conv => whnf)
    | (refine ⟨Nat.le_refl _, ?_⟩; conv => whnf)
    | (refine ⟨⟨(by simp only [List.length_map, List.length_append]; omega), cap_ok (by simp only [List.length_map, List.length_cons, List.length_nil, List.length_append, leB_length, refB_length]; omega) rfl⟩, ?_⟩; conv => whnf)
    | (refine ⟨cap_ok (by simp only [List.length_map, List.length_cons, List.length_nil, List.length_append, leB_length, refB_length]; omega) rfl, ?_⟩; conv => whnf)
    | (exfalso; simp only [List.length_map, List.length_cons, List.length_nil, List.length_append] at h; omega)
    | ((with_reducible refine endx_go ?_); first | (refine endx2 ?_; (rw [if_neg h]) <;> rfl; done) | (refine endx2 ?_; (rw [if_pos hv, hv]) <;> rfl; done))
    | (refine ⟨rfl, ?_⟩; conv => whnf)
    | fail
    )

end Go.Proofs.Ytjbipdppgoldlaa
