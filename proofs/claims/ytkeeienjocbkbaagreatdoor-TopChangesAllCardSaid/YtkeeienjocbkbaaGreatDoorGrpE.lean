/-
  Own lemmas, no conditions: Ya, Yb, Yc, Yd, Ye, Yf, Ld, Sh, St.
-/
import Derived.Test.YtkeeienjocbkbaaGreatDoorGrpD
import Derived.Test.YtkeeienjocbkbaaGreatDoorTie
import Derived.Test.YtkeeienjocbkbaaGreatDoorCards
import Derived.ProofKit
import Derived.LaidMore
import Derived.Test.YtkeeienjocbkbaaGreatDoorRows
set_option linter.unusedVariables false
set_option linter.unusedSimpArgs false
namespace Go.Proofs.YtkeeienjocbkbaaGreatDoor
open Go Dw
set_option maxRecDepth 10000
attribute [local irreducible] Run
set_option maxHeartbeats 600000
abbrev Bs:=List UInt8
def leN : List UInt8 → Nat
 | []=>0
 | b :: l=>b.toNat + 256 * leN l
theorem leN_lt : ∀ (l : List UInt8),leN l < 256 ^ l.length
 | []=>by simp [leN]
 | b :: l=>by
  have h1:=leN_lt l
  have h2:=b.toNat_lt
  simp only [leN,List.length_cons,Nat.pow_succ]
  omega
def nAt (s : List UInt8) (a c : Nat) : Nat:=leN ((s.drop a).take c)
theorem nAt_lt (s : List UInt8) (a c : Nat) : nAt s a c < 256 ^ c:=by
 refine Nat.lt_of_lt_of_le (leN_lt _) (Nat.pow_le_pow_right (by omega) ?_)
 rw [List.length_take];omega
theorem ix_stri {s : List UInt8} {n : Int} (k : Nat) (hn : n = k) {K : UInt8 → Prop} (h : k < s.length) (hk : K s[k]) : 0 ≤ n ∧ nthK s n.toNat K:=by
 subst hn;exact ix_str h hk
theorem leN_leB : ∀ (k n : Nat),leN (Dw.leB n k) = n % 256 ^ k
 | 0,n=>by simp [Dw.leB,leN,Nat.mod_one]
 | k + 1,n=>by
  simp only [Dw.leB,leN,leN_leB k,Nat.pow_succ]
  have : (UInt8.ofNat (n % 256)).toNat = n % 256:=by simp [UInt8.toNat_ofNat']
  rw [this,Nat.mul_comm (256 ^ k) 256,Nat.mod_mul]
def byAt (s : List UInt8) (k : Nat) : Nat:=nAt s k 1
theorem byAt_eq {s : List UInt8} {k : Nat} (h : k < s.length) : byAt s k = s[k].toNat:=by
 unfold byAt nAt
 rw [List.drop_eq_getElem_cons h,List.take_succ_cons]
 simp [leN]
abbrev u8 (b : UInt8) : D:=.int .u8 b.toNat
theorem or_add {a b n : Nat} (ha : a < 2 ^ n) : a ||| b * 2 ^ n = a + b * 2 ^ n:=by
 have:=Nat.two_pow_add_eq_or_of_lt ha b
 rw [Nat.or_comm,Nat.mul_comm b,← this,Nat.add_comm]
theorem or_u16 {a b : Nat} {x y : Int} {K : Int → Prop} (ha : a < 256) (hb : b < 256) (hx : x = a) (hy : y = (b : Int) * 256) (hk : K ((a + 256 * b : Nat) : Int)) : bitK .or .u16 x y K:=by
 refine bit_raw ?_
 have e : bitsOf .or .u16 x y = ((a + 256 * b : Nat) : Int):=by
  subst hx
  have hy2 : y = ((b * 256 : Nat) : Int):=by omega
  subst hy2
  have e1 : (BitVec.ofInt 16 (a : Int)).toNat = a:=by rw [BitVec.toNat_ofInt];omega
  have e2 : (BitVec.ofInt 16 ((b * 256 : Nat) : Int)).toNat = b * 256:=by rw [BitVec.toNat_ofInt];omega
  show IntKind.u16.wrap (((BitVec.ofInt 16 (a : Int)) ||| (BitVec.ofInt 16 ((b * 256 : Nat) : Int))).toNat : Int) = _
  rw [BitVec.toNat_or,e1,e2,or_add (n:=8) ha]
  simp only [IntKind.wrap,IntKind.bits,IntKind.signed,Bool.false_and,Bool.false_eq_true,if_false];omega
 rw [e];exact hk
theorem or_u32 {a b : Nat} {x y : Int} {K : Int → Prop} (ha : a < 65536) (hb : b < 65536) (hx : x = a) (hy : y = (b : Int) * 65536) (hk : K ((a + 65536 * b : Nat) : Int)) : bitK .or .u32 x y K:=by
 refine bit_raw ?_
 have e : bitsOf .or .u32 x y = ((a + 65536 * b : Nat) : Int):=by
  subst hx
  have hy2 : y = ((b * 65536 : Nat) : Int):=by omega
  subst hy2
  have e1 : (BitVec.ofInt 32 (a : Int)).toNat = a:=by rw [BitVec.toNat_ofInt];omega
  have e2 : (BitVec.ofInt 32 ((b * 65536 : Nat) : Int)).toNat = b * 65536:=by rw [BitVec.toNat_ofInt];omega
  show IntKind.u32.wrap (((BitVec.ofInt 32 (a : Int)) ||| (BitVec.ofInt 32 ((b * 65536 : Nat) : Int))).toNat : Int) = _
  rw [BitVec.toNat_or,e1,e2,or_add (n:=16) ha]
  simp only [IntKind.wrap,IntKind.bits,IntKind.signed,Bool.false_and,Bool.false_eq_true,if_false];omega
 rw [e];exact hk
theorem leN_app : ∀ (a b : List UInt8),leN (a ++ b) = leN a + 256 ^ a.length * leN b
 | [],b=>by simp [leN]
 | x :: a,b=>by
  simp only [List.cons_append,leN,leN_app a b,List.length_cons,Nat.pow_succ,Nat.mul_add]
  rw [Nat.mul_comm (256 ^ a.length) 256,Nat.mul_assoc,Nat.add_assoc]
theorem nAt_add {s : List UInt8} {a m n : Nat} (h : a + m ≤ s.length) : nAt s a (m + n) = nAt s a m + 256 ^ m * nAt s (a + m) n:=by
 unfold nAt
 rw [List.take_add,leN_app,List.drop_drop,List.length_take,List.length_drop,Nat.min_eq_left (by omega)]
theorem nAt_1 {s : List UInt8} {a : Nat} (h : a < s.length) : nAt s a 1 = s[a].toNat:=byAt_eq h
theorem nAt_2 {s : List UInt8} (h : 2 ≤ s.length) : nAt s 0 2 = (s[0]'(by omega)).toNat + 256 * (s[1]'(by omega)).toNat:=by
 rw [show 2 = 1 + 1 by rfl,nAt_add (by omega),nAt_1 (by omega),nAt_1 (by omega)]
theorem nAt_sl {s : List UInt8} {a c n : Nat} (hn : n = s.length) : nAt ((s.take n).drop a) 0 c = nAt s a c:=by
 subst hn
 unfold nAt
 rw [List.take_length,List.drop_zero]
theorem nAt_4 {s : List UInt8} (h : 4 ≤ s.length) : nAt s 0 4 = nAt s 0 2 + 65536 * nAt ((s.take s.length).drop 2) 0 2:=by
 rw [nAt_sl rfl,show 4 = 2 + 2 by rfl,nAt_add (by omega)]
theorem nAt_lt2 (s : List UInt8) (a : Nat) : nAt s a 2 < 65536:=nAt_lt s a 2
theorem nAt_lt4 (s : List UInt8) (a : Nat) : nAt s a 4 < 4294967296:=nAt_lt s a 4
attribute [local irreducible] nAt
theorem c47 (w : List UInt8) (h : 2 ≤ w.length) : Fn 47 [.fs (w.map u8)] (.int .u16 (nAt w 0 2)):=by
 refine run_walkF eok Tryz.func47 rfl (by kernel_rfl) ?_
 conv=>whnf
 repeat' (first
 | ((with_reducible refine on_dec_t (by assumption) ?_);conv=>whnf)
 | ((with_reducible refine on_dec_f (by assumption) ?_);conv=>whnf)
 | ((with_reducible refine onBool_t (by assumption) ?_);conv=>whnf)
 | ((with_reducible refine onBool_f (by assumption) ?_);conv=>whnf)
 | ((with_reducible refine on_nt (by assumption) ?_);conv=>whnf)
 | ((with_reducible refine on_nf (by assumption) ?_);conv=>whnf)
 | ((with_reducible refine on_ndec_t (by first | assumption | rfl) ?_);conv=>whnf)
 | ((with_reducible refine on_ndec_f (by assumption) ?_);conv=>whnf)
 | ((with_reducible refine on_dec_t rfl ?_);conv=>whnf)
 | ((with_reducible refine on_dec_f ?_ ?_);(focus ((try simp only [List.length_map,List.length_cons,List.length_nil,List.length_append]);omega));conv=>whnf)
 | ((with_reducible refine on_dec_t ?_ ?_);(focus ((try simp only [List.length_map,List.length_cons,List.length_nil,List.length_append]);omega));conv=>whnf)
 | ((with_reducible refine on_dec (fun h=>?_) (fun h=>?_))<;>(try simp only [List.length_map] at h)<;>conv=>whnf)
 | ((with_reducible refine on_ndec (fun h=>?_) (fun h=>?_))<;>(try simp only [List.length_map] at h)<;>conv=>whnf)
 | ((with_reducible refine on_not (fun h=>?_) (fun h=>?_))<;>conv=>whnf)
 | ((with_reducible refine onBool_split (fun h=>?_) (fun h=>?_))<;>conv=>whnf)
 | (refine ⟨[],[],(by decide +kernel),?_⟩;conv=>whnf)
 | (refine ⟨⟨(by first | rfl | (simp;done)),cap_ok (by simp only [List.length_map,List.length_cons,List.length_nil,List.length_append];omega) rfl⟩,?_⟩;conv=>whnf)
 | (refine ⟨mem_one ⟨rfl,rfl⟩,?_⟩;conv=>whnf)
 | (refine ⟨(by intro y hy;obtain ⟨x,_,rfl⟩:=List.mem_map.1 hy;first | rfl | exact ⟨rfl,rfl⟩),?_⟩;conv=>whnf)
 | (refine ⟨cap_ok (by first | omega | (simp only [List.length_map];omega)) rfl,?_⟩;conv=>whnf)
 | (refine ix_map (by omega) ?_;conv=>whnf)
 | (refine ix_str (by omega) ?_;conv=>whnf)
 | (refine wrap64 (by omega) ?_;conv=>whnf)
 | (refine ix_at (f:=u8) (l:=w) 0 rfl (by omega) ?_;conv=>whnf)
 | (refine ix_at (f:=u8) (l:=w) 1 rfl (by omega) ?_;conv=>whnf)
 | (refine wrapU16 (by have h0:=(w[0]'(by omega)).toNat_lt;have h1:=(w[1]'(by omega)).toNat_lt;omega) ?_;conv=>whnf)
 | (refine shl_at 256 rfl rfl ?_;conv=>whnf)
 | (refine or_u16 (w[0]'(by omega)).toNat_lt (w[1]'(by omega)).toNat_lt rfl rfl ?_;conv=>whnf)
 | (exfalso;simp only [List.length_map,List.length_cons,List.length_nil,List.length_append] at h;omega)
 | ((with_reducible refine endx_go ?_);first | (exact endx (congrArg (D.int .u16) (by rw [nAt_2 h]));done))
 | (refine ⟨rfl,?_⟩;conv=>whnf)
  | fail
  )
theorem c46 (w : List UInt8) (h : 4 ≤ w.length) (hw : w.length < 1000000) : Fn 46 [.fs (w.map u8)] (.int .u32 (nAt w 0 4)):=by
 refine run_walkF eok Tryz.func46 rfl (by kernel_rfl) ?_
 conv=>whnf
 repeat' (first
 | ((with_reducible refine on_dec_t (by assumption) ?_);conv=>whnf)
 | ((with_reducible refine on_dec_f (by assumption) ?_);conv=>whnf)
 | ((with_reducible refine onBool_t (by assumption) ?_);conv=>whnf)
 | ((with_reducible refine onBool_f (by assumption) ?_);conv=>whnf)
 | ((with_reducible refine on_nt (by assumption) ?_);conv=>whnf)
 | ((with_reducible refine on_nf (by assumption) ?_);conv=>whnf)
 | ((with_reducible refine on_ndec_t (by first | assumption | rfl) ?_);conv=>whnf)
 | ((with_reducible refine on_ndec_f (by assumption) ?_);conv=>whnf)
 | ((with_reducible refine on_dec_t rfl ?_);conv=>whnf)
 | ((with_reducible refine on_dec_f ?_ ?_);(focus ((try simp only [List.length_map,List.length_cons,List.length_nil,List.length_append]);omega));conv=>whnf)
 | ((with_reducible refine on_dec_t ?_ ?_);(focus ((try simp only [List.length_map,List.length_cons,List.length_nil,List.length_append]);omega));conv=>whnf)
 | ((with_reducible refine on_dec (fun h=>?_) (fun h=>?_))<;>(try simp only [List.length_map] at h)<;>conv=>whnf)
 | ((with_reducible refine on_ndec (fun h=>?_) (fun h=>?_))<;>(try simp only [List.length_map] at h)<;>conv=>whnf)
 | ((with_reducible refine on_not (fun h=>?_) (fun h=>?_))<;>conv=>whnf)
 | ((with_reducible refine onBool_split (fun h=>?_) (fun h=>?_))<;>conv=>whnf)
 | ((with_reducible refine call_go ?_);(first | refine call_step (run_data (xs:=[_]) (c47 w (by omega)) _) ?_ | refine call_step (run_data (xs:=[_]) (c47 ((w.take w.length).drop 2) (by rw [List.length_drop,List.length_take];omega)) _) ?_);conv=>whnf)
 | (refine ⟨[],[],(by decide +kernel),?_⟩;conv=>whnf)
 | (refine ⟨⟨(by first | rfl | (simp;done)),cap_ok (by simp only [List.length_map,List.length_cons,List.length_nil,List.length_append];omega) rfl⟩,?_⟩;conv=>whnf)
 | (refine ⟨mem_one ⟨rfl,rfl⟩,?_⟩;conv=>whnf)
 | (refine ⟨(by intro y hy;obtain ⟨x,_,rfl⟩:=List.mem_map.1 hy;first | rfl | exact ⟨rfl,rfl⟩),?_⟩;conv=>whnf)
 | (refine ⟨cap_ok (by first | omega | (simp only [List.length_map];omega)) rfl,?_⟩;conv=>whnf)
 | (refine ix_map (by omega) ?_;conv=>whnf)
 | (refine ix_str (by omega) ?_;conv=>whnf)
 | (refine wrap64 (by omega) ?_;conv=>whnf)
 | (refine sl_map (f:=u8) (l:=w) 2 w.length rfl (by simp) ⟨by omega,Nat.le_refl _⟩ (fun x=>rfl) ?_;conv=>whnf)
 | (refine wrapU32 (by have h0:=nAt_lt2 w 0;have h1:=nAt_lt2 ((w.take w.length).drop 2) 0;omega) ?_;conv=>whnf)
 | (refine shl_at 65536 rfl rfl ?_;conv=>whnf)
 | (refine or_u32 (nAt_lt2 w 0) (nAt_lt2 ((w.take w.length).drop 2) 0) rfl rfl ?_;conv=>whnf)
 | (exfalso;simp only [List.length_map,List.length_cons,List.length_nil,List.length_append] at h;omega)
 | ((with_reducible refine endx_go ?_);first | (exact endx (congrArg (D.int .u32) (by rw [nAt_4 h]));done))
 | (refine ⟨rfl,?_⟩;conv=>whnf)
  | fail
  )
theorem c45 (w : List UInt8) (k : Nat) (h : 4 * k + 4 ≤ w.length) (hw : w.length < 1000000) : Fn 45 [i k,.fp (.fs (w.map u8)) 0] (i (nAt w (4 * k) 4)):=by
 refine run_walkF eok Tryz.func45 rfl (by kernel_rfl) ?_
 conv=>whnf
 repeat' (first
 | ((with_reducible refine on_dec_t (by assumption) ?_);conv=>whnf)
 | ((with_reducible refine on_dec_f (by assumption) ?_);conv=>whnf)
 | ((with_reducible refine onBool_t (by assumption) ?_);conv=>whnf)
 | ((with_reducible refine onBool_f (by assumption) ?_);conv=>whnf)
 | ((with_reducible refine on_nt (by assumption) ?_);conv=>whnf)
 | ((with_reducible refine on_nf (by assumption) ?_);conv=>whnf)
 | ((with_reducible refine on_ndec_t (by first | assumption | rfl) ?_);conv=>whnf)
 | ((with_reducible refine on_ndec_f (by assumption) ?_);conv=>whnf)
 | ((with_reducible refine on_dec_t rfl ?_);conv=>whnf)
 | ((with_reducible refine on_dec_f ?_ ?_);(focus ((try simp only [List.length_map,List.length_cons,List.length_nil,List.length_append]);omega));conv=>whnf)
 | ((with_reducible refine on_dec_t ?_ ?_);(focus ((try simp only [List.length_map,List.length_cons,List.length_nil,List.length_append]);omega));conv=>whnf)
 | ((with_reducible refine on_dec (fun h=>?_) (fun h=>?_))<;>(try simp only [List.length_map] at h)<;>conv=>whnf)
 | ((with_reducible refine on_ndec (fun h=>?_) (fun h=>?_))<;>(try simp only [List.length_map] at h)<;>conv=>whnf)
 | ((with_reducible refine on_not (fun h=>?_) (fun h=>?_))<;>conv=>whnf)
 | ((with_reducible refine onBool_split (fun h=>?_) (fun h=>?_))<;>conv=>whnf)
 | ((with_reducible refine call_go ?_);(first | refine call_step (run_data (xs:=[_]) (c46 ((w.take w.length).drop (4 * k)) (by rw [List.length_drop,List.length_take];omega) (by rw [List.length_drop,List.length_take];omega)) _) ?_);conv=>whnf)
 | (refine ⟨⟨(by first | rfl | (simp;done)),cap_ok (by simp only [List.length_map,List.length_cons,List.length_nil,List.length_append];omega) rfl⟩,?_⟩;conv=>whnf)
 | (refine ⟨mem_one ⟨rfl,rfl⟩,?_⟩;conv=>whnf)
 | (refine ⟨(by intro y hy;obtain ⟨x,_,rfl⟩:=List.mem_map.1 hy;first | rfl | exact ⟨rfl,rfl⟩),?_⟩;conv=>whnf)
 | (refine ⟨cap_ok (by first | omega | (simp only [List.length_map];omega)) rfl,?_⟩;conv=>whnf)
 | (refine ix_map (by omega) ?_;conv=>whnf)
 | (refine ix_str (by omega) ?_;conv=>whnf)
 | (refine wrap64 (by omega) ?_;conv=>whnf)
 | (refine wrap64 (by omega) ?_;conv=>whnf)
 | (refine sl_map (f:=u8) (l:=w) (4 * k) w.length (by omega) (by simp) ⟨by omega,Nat.le_refl _⟩ (fun x=>rfl) ?_;conv=>whnf)
 | (refine wrap64 (by have h0:=nAt_lt4 ((w.take w.length).drop (4 * k)) 0;omega) ?_;conv=>whnf)
 | (exfalso;simp only [List.length_map,List.length_cons,List.length_nil,List.length_append] at h;omega)
 | ((with_reducible refine endx_go ?_);first | (exact endx (congrArg i (by rw [nAt_sl rfl]));done))
 | (refine ⟨rfl,?_⟩;conv=>whnf)
  | fail
  )
def winG (b : List UInt8) (k : Nat) : List D:=[.fs (((b.drop (8 * k)).take 8).map u8)]
theorem win_eq {b : List UInt8} {k : Nat} {x y : Int} (hx : x = (8 * k : Nat)) (hy : y = (8 * k + 8 : Nat)) : winG b k = [.fs (((b.map u8).take y.toNat).drop x.toNat)]:=by
 subst hx;subst hy
 unfold winG
 rw [Int.toNat_natCast,Int.toNat_natCast,← List.map_take,← List.map_drop,List.drop_take,Nat.add_sub_cancel_left]
theorem min8 {x : Int} (h : 8 ≤ x) : goMin 8 x = 8:=by unfold goMin;split<;>omega
theorem wrap_to {x : Int} {K : Int → Prop} (y : Int) (e : x = y) (h : -9223372036854775808 ≤ y ∧ y ≤ 9223372036854775807) (hk : K y) : wrapK .i64 x K:=by
 subst e;exact wrap64 h hk
attribute [local irreducible] goMin winG
theorem c48 (b : List UInt8) : Run Tryz.prog 48 [.d (.fs (b.map u8)),.d (i 8)] [] (.d (.fn 77 [] [.fp (.fs (b.map u8)) 0,.fp (i 8) 0])) []:=by
 refine run_walkF eok Tryz.func48 rfl (by kernel_rfl) ?_
 conv=>whnf
 repeat' (first
 | ((with_reducible refine on_dec_t (by assumption) ?_);conv=>whnf)
 | ((with_reducible refine on_dec_f (by assumption) ?_);conv=>whnf)
 | ((with_reducible refine onBool_t (by assumption) ?_);conv=>whnf)
 | ((with_reducible refine onBool_f (by assumption) ?_);conv=>whnf)
 | ((with_reducible refine on_nt (by assumption) ?_);conv=>whnf)
 | ((with_reducible refine on_nf (by assumption) ?_);conv=>whnf)
 | ((with_reducible refine on_ndec_t (by first | assumption | rfl) ?_);conv=>whnf)
 | ((with_reducible refine on_ndec_f (by assumption) ?_);conv=>whnf)
 | ((with_reducible refine on_dec_t rfl ?_);conv=>whnf)
 | ((with_reducible refine on_dec_f ?_ ?_);(focus ((try simp only [List.length_map,List.length_cons,List.length_nil,List.length_append]);omega));conv=>whnf)
 | ((with_reducible refine on_dec_t ?_ ?_);(focus ((try simp only [List.length_map,List.length_cons,List.length_nil,List.length_append]);omega));conv=>whnf)
 | ((with_reducible refine on_dec (fun h=>?_) (fun h=>?_))<;>(try simp only [List.length_map] at h)<;>conv=>whnf)
 | ((with_reducible refine on_ndec (fun h=>?_) (fun h=>?_))<;>(try simp only [List.length_map] at h)<;>conv=>whnf)
 | ((with_reducible refine on_not (fun h=>?_) (fun h=>?_))<;>conv=>whnf)
 | ((with_reducible refine onBool_split (fun h=>?_) (fun h=>?_))<;>conv=>whnf)
 | (refine ⟨⟨(by first | rfl | (simp;done)),cap_ok (by simp only [List.length_map,List.length_cons,List.length_nil,List.length_append];omega) rfl⟩,?_⟩;conv=>whnf)
 | (refine ⟨mem_one ⟨rfl,rfl⟩,?_⟩;conv=>whnf)
 | (refine ⟨(by intro y hy;obtain ⟨x,_,rfl⟩:=List.mem_map.1 hy;first | rfl | exact ⟨rfl,rfl⟩),?_⟩;conv=>whnf)
 | (refine ⟨cap_ok (by first | omega | (simp only [List.length_map];omega)) rfl,?_⟩;conv=>whnf)
 | (refine ix_map (by omega) ?_;conv=>whnf)
 | (refine ix_str (by omega) ?_;conv=>whnf)
 | (refine wrap64 (by omega) ?_;conv=>whnf)
 | (exfalso;simp only [List.length_map,List.length_cons,List.length_nil,List.length_append] at h;omega)
 | ((with_reducible refine endx_go ?_);first | (exact endxv rfl rfl;done))
 | (refine ⟨rfl,?_⟩;conv=>whnf)
  | fail
  )
theorem it77 (b : List UInt8) (n : Nat) (hb : b.length = 8 * n) (hl : b.length < 1000000) : IterR Tryz.prog 77 [] [.fp (.fs (b.map u8)) 0,.fp (i 8) 0] ((List.range n).map (winG b)):=by
 refine iter_rg eok Tryz.func77 rfl (by kernel_rfl) (fun s ll hs=>?_)
 conv=>whnf
 repeat' (first
 | ((with_reducible refine on_dec_t (by assumption) ?_);conv=>whnf)
 | ((with_reducible refine on_dec_f (by assumption) ?_);conv=>whnf)
 | ((with_reducible refine onBool_t (by assumption) ?_);conv=>whnf)
 | ((with_reducible refine onBool_f (by assumption) ?_);conv=>whnf)
 | ((with_reducible refine on_nt (by assumption) ?_);conv=>whnf)
 | ((with_reducible refine on_nf (by assumption) ?_);conv=>whnf)
 | ((with_reducible refine on_ndec_t (by first | assumption | rfl) ?_);conv=>whnf)
 | ((with_reducible refine on_ndec_f (by assumption) ?_);conv=>whnf)
 | ((with_reducible refine on_dec_t rfl ?_);conv=>whnf)
 | ((with_reducible refine on_dec_f ?_ ?_);(focus ((try simp only [List.length_map,List.length_cons,List.length_nil,List.length_append]);omega));conv=>whnf)
 | ((with_reducible refine on_dec_t ?_ ?_);(focus ((try simp only [List.length_map,List.length_cons,List.length_nil,List.length_append]);omega));conv=>whnf)
 | ((with_reducible refine on_dec (fun h=>?_) (fun h=>?_))<;>(try simp only [List.length_map] at h)<;>conv=>whnf)
 | ((with_reducible refine on_ndec (fun h=>?_) (fun h=>?_))<;>(try simp only [List.length_map] at h)<;>conv=>whnf)
 | ((with_reducible refine on_not (fun h=>?_) (fun h=>?_))<;>conv=>whnf)
 | ((with_reducible refine onBool_split (fun h=>?_) (fun h=>?_))<;>conv=>whnf)
 | (refine ⟨[],[],(by decide +kernel),?_⟩;conv=>whnf)
 | ((with_reducible refine loop_go ?_);first | (refine loop1 (fun (k : Nat)=>n - k) (fun (k : Nat)=>k ≤ n ∧ k ≤ s) (fun (k : Nat)=>[(0,.raw (.func (.yield ll) #[] #[])),(1,.d (.fp (.fs (b.map u8)) 0)),(2,.d (.fp (i 8) 0)),(4,.d (i (8 * k : Nat)))]) (fun (k : Nat)=>[trO k]) (0) (by exact ⟨Nat.zero_le _,Nat.zero_le _⟩) ?_ (fun k C hI hC=>?_);(exact ⟨[.old 0],rfl,rfl,⟨(by exact rfl),(by first | (show (_ : D) = _;with_reducible rfl) | exact rfl),(by first | (show (_ : D) = _;with_reducible rfl) | exact rfl),(by first | (show (_ : D) = _;with_reducible rfl) | exact congrArg (D.int .i64) (by omega) | exact congrArg (D.int .i64) (by simp only [List.length_map]) | exact rfl),trivial⟩,⟨trO_same _,trivial⟩⟩);all_goals (conv=>whnf)))
 | ((with_reducible show C _ _);first | (refine hC (k + 1) _ _ ?_ (by omega) ?_;clear hC;rotate_left;(exact ⟨[.old 0],rfl,rfl,⟨(by exact rfl),(by first | (show (_ : D) = _;with_reducible rfl) | exact rfl),(by first | (show (_ : D) = _;with_reducible rfl) | exact rfl),(by first | (show (_ : D) = _;with_reducible rfl) | exact congrArg (D.int .i64) (by omega) | exact congrArg (D.int .i64) (by simp only [List.length_map]) | exact rfl),trivial⟩,⟨trO_same _,trivial⟩⟩);(exact ⟨by omega,by omega⟩)))
 | (refine ⟨⟨(by first | rfl | (simp;done)),cap_ok (by simp only [List.length_map,List.length_cons,List.length_nil,List.length_append];omega) rfl⟩,?_⟩;conv=>whnf)
 | (refine ⟨mem_one ⟨rfl,rfl⟩,?_⟩;conv=>whnf)
 | (refine ⟨(by intro y hy;obtain ⟨x,_,rfl⟩:=List.mem_map.1 hy;first | rfl | exact ⟨rfl,rfl⟩),?_⟩;conv=>whnf)
 | (refine ⟨cap_ok (by first | omega | (simp only [List.length_map];omega)) rfl,?_⟩;conv=>whnf)
 | (refine ix_map (by omega) ?_;conv=>whnf)
 | (refine ix_str (by omega) ?_;conv=>whnf)
 | (refine wrap64 (by omega) ?_;conv=>whnf)
 | ((with_reducible refine yield_go ?_);(refine yield_rg1 (i:=k) (by omega) (by (try simp only [List.length_map] at *);omega) (win_eq rfl (by omega)) ?_);conv=>whnf)
 | (refine sl_map (f:=u8) (l:=b) (8 * k) b.length (by omega) (by simp) ⟨by ((try simp only [List.length_map] at *);omega),Nat.le_refl _⟩ (fun x=>rfl) ?_;conv=>whnf)
 | (refine wrap_to ((8 * k + 8 : Nat) : Int) (by rw [min8 (by simp only [List.length_map,List.length_drop,List.length_take];(try simp only [List.length_map] at *);omega)];omega) (by omega) ?_;conv=>whnf)
 | (refine wrap_to ((8 * (k + 1) : Nat) : Int) (by omega) (by omega) ?_;conv=>whnf)
 | (refine ⟨⟨by omega,by omega,by omega,by ((try simp only [List.length_map] at *);omega),fun y hy=>(by obtain ⟨x,_,rfl⟩:=List.mem_map.1 hy;rfl)⟩,?_⟩;conv=>whnf)
 | (exfalso;simp only [List.length_map,List.length_cons,List.length_nil,List.length_append] at h;omega)
 | ((with_reducible refine endx_go ?_);first | (exact endx_tr (by first | omega | ((try simp only [List.length_map] at *);omega));done))
 | (refine ⟨rfl,?_⟩;conv=>whnf)
  | fail
  )
theorem c49 (w : List UInt8) (h : 6 ≤ w.length) (hw : w.length < 1000000) : Fn 49 [.fs (w.map u8)] (Ref.enc ⟨nAt w 0 4,nAt w 4 2⟩):=by
 refine run_walkF eok Tryz.func49 rfl (by kernel_rfl) ?_
 conv=>whnf
 repeat' (first
 | ((with_reducible refine on_dec_t (by assumption) ?_);conv=>whnf)
 | ((with_reducible refine on_dec_f (by assumption) ?_);conv=>whnf)
 | ((with_reducible refine onBool_t (by assumption) ?_);conv=>whnf)
 | ((with_reducible refine onBool_f (by assumption) ?_);conv=>whnf)
 | ((with_reducible refine on_nt (by assumption) ?_);conv=>whnf)
 | ((with_reducible refine on_nf (by assumption) ?_);conv=>whnf)
 | ((with_reducible refine on_ndec_t (by first | assumption | rfl) ?_);conv=>whnf)
 | ((with_reducible refine on_ndec_f (by assumption) ?_);conv=>whnf)
 | ((with_reducible refine on_dec_t rfl ?_);conv=>whnf)
 | ((with_reducible refine on_dec_f ?_ ?_);(focus ((try simp only [List.length_map,List.length_cons,List.length_nil,List.length_append]);omega));conv=>whnf)
 | ((with_reducible refine on_dec_t ?_ ?_);(focus ((try simp only [List.length_map,List.length_cons,List.length_nil,List.length_append]);omega));conv=>whnf)
 | ((with_reducible refine on_dec (fun h=>?_) (fun h=>?_))<;>(try simp only [List.length_map] at h)<;>conv=>whnf)
 | ((with_reducible refine on_ndec (fun h=>?_) (fun h=>?_))<;>(try simp only [List.length_map] at h)<;>conv=>whnf)
 | ((with_reducible refine on_not (fun h=>?_) (fun h=>?_))<;>conv=>whnf)
 | ((with_reducible refine onBool_split (fun h=>?_) (fun h=>?_))<;>conv=>whnf)
 | ((with_reducible refine call_go ?_);(first | refine call_step (run_data (xs:=[_]) (c46 w (by omega) hw) _) ?_ | refine call_step (run_data (xs:=[_]) (c47 ((w.take w.length).drop 4) (by rw [List.length_drop,List.length_take];omega)) _) ?_);conv=>whnf)
 | (refine ⟨[],[],(by decide +kernel),?_⟩;conv=>whnf)
 | (refine ⟨⟨(by first | rfl | (simp;done)),cap_ok (by simp only [List.length_map,List.length_cons,List.length_nil,List.length_append];omega) rfl⟩,?_⟩;conv=>whnf)
 | (refine ⟨mem_one ⟨rfl,rfl⟩,?_⟩;conv=>whnf)
 | (refine ⟨(by intro y hy;obtain ⟨x,_,rfl⟩:=List.mem_map.1 hy;first | rfl | exact ⟨rfl,rfl⟩),?_⟩;conv=>whnf)
 | (refine ⟨cap_ok (by first | omega | (simp only [List.length_map];omega)) rfl,?_⟩;conv=>whnf)
 | (refine ix_map (by omega) ?_;conv=>whnf)
 | (refine ix_str (by omega) ?_;conv=>whnf)
 | (refine wrap64 (by omega) ?_;conv=>whnf)
 | (refine sl_map (f:=u8) (l:=w) 4 w.length rfl (by simp) ⟨by omega,Nat.le_refl _⟩ (fun x=>rfl) ?_;conv=>whnf)
 | (refine wrap64 (by have h0:=nAt_lt4 w 0;have h1:=nAt_lt2 ((w.take w.length).drop 4) 0;omega) ?_;conv=>whnf)
 | (exfalso;simp only [List.length_map,List.length_cons,List.length_nil,List.length_append] at h;omega)
 | ((with_reducible refine endx_go ?_);first | (refine endxv (view_agg (vlc rfl (vlc rfl vln))) ?_;rw [nAt_sl rfl];rfl;done))
 | (refine ⟨rfl,?_⟩;conv=>whnf)
  | fail
  )
def isz (s : Bs) : Bool:=s.all (fun b=>decide (b = 0))
theorem z8 {b : UInt8} (h : (b.toNat : Int) = 0) : b = 0:=UInt8.toNat_inj.1 (by simpa using h)
theorem z8n {b : UInt8} (h : ¬ (b.toNat : Int) = 0) : ¬ b = 0:=fun e=>h (by subst e;rfl)
end Go.Proofs.YtkeeienjocbkbaaGreatDoor
namespace Go.Proofs.YtkeeienjocbkbaaGreatDoor
open Go Dw
set_option maxRecDepth 10000
attribute [local irreducible] Run
set_option maxHeartbeats 600000
def trR (s : Bs) : Bs:=(s.reverse.dropWhile (fun b=>decide (b = 0))).reverse
def trL (s : Bs) : Bs:=s.dropWhile (fun b=>decide (b = 0))
def trZ (s : Bs) : Bs:=trL (trR s)
theorem trL_0 {b : UInt8} {s : Bs} (h : b = 0) : trL (b :: s) = trL s:=by subst h;rfl
theorem trL_n {b : UInt8} {s : Bs} (h : ¬ b = 0) : trL (b :: s) = b :: s:=by
 unfold trL;rw [List.dropWhile_cons_of_neg (by simpa using h)]
theorem cons_of {s : Bs} (h : 0 < s.length) : s = s[0] :: s.drop 1:=by
 cases s with
 | nil=>simp at h
 | cons b s=>rfl
theorem snoc_of {s : Bs} (h : 0 < s.length) : s = s.take (s.length - 1) ++ [s[s.length - 1]'(by omega)]:=by
 have:=List.take_succ_eq_append_getElem (l:=s) (i:=s.length - 1) (by omega)
 rw [show s.length - 1 + 1 = s.length by omega,List.take_length] at this
 exact this
theorem trR_snoc0 {s : Bs} {b : UInt8} (h : b = 0) : trR (s ++ [b]) = trR s:=by
 subst h;unfold trR;rw [List.reverse_append];rfl
theorem trR_snoc {s : Bs} {b : UInt8} (h : ¬ b = 0) : trR (s ++ [b]) = s ++ [b]:=by
 unfold trR
 rw [List.reverse_append,List.reverse_singleton,List.singleton_append,List.dropWhile_cons_of_neg (by simpa using h)]
 simp
theorem trR_step {t : Bs} (h : 0 < t.length) (h0 : t[t.length - 1]'(by omega) = 0) : trR t = trR ((t.take (t.length - 1)).drop 0):=by
 rw [List.drop_zero]
 conv=>lhs;rw [snoc_of h]
 exact trR_snoc0 h0
theorem trR_stop {t : Bs} (h : 0 < t.length) (h0 : ¬ t[t.length - 1]'(by omega) = 0) : trR t = t:=by
 have:=trR_snoc (s:=t.take (t.length - 1)) h0
 rwa [← snoc_of h] at this
theorem trR_nil {t : Bs} (h : ¬ 0 < t.length) : trR t = t:=by
 have : t = []:=List.length_eq_zero_iff.1 (by omega)
 subst this;rfl
theorem trL_step {t : Bs} (h : 0 < t.length) (h0 : t[0] = 0) : trL t = trL ((t.take t.length).drop 1):=by
 rw [List.take_length]
 conv=>lhs;rw [cons_of h]
 exact trL_0 h0
theorem trL_stop {t : Bs} (h : 0 < t.length) (h0 : ¬ t[0] = 0) : trL t = t:=by
 have:=trL_n (s:=t.drop 1) h0
 rwa [← cons_of h] at this
theorem trL_nil {t : Bs} (h : ¬ 0 < t.length) : trL t = t:=by
 have : t = []:=List.length_eq_zero_iff.1 (by omega)
 subst this;rfl
theorem isz_iff {s : Bs} : isz s = true ↔ ∀ b ∈ s,b = 0:=by unfold isz;simp
theorem isz_app (a b : Bs) : isz (a ++ b) = (isz a && isz b):=by unfold isz;rw [List.all_append]
theorem trR_isz (s : Bs) : isz (trR s) = isz s:=by
 have key : ∀ l : Bs,isz (l.dropWhile (fun b=>decide (b = 0))) = isz l:=by
  intro l
  induction l with
  | nil=>rfl
  | cons b l ih=>
   by_cases h : b = 0
   ·subst h
    rw [List.dropWhile_cons_of_pos (by simp),ih]
    unfold isz;simp
   ·rw [List.dropWhile_cons_of_neg (by simpa using h)]
 have rev : ∀ l : Bs,isz l.reverse = isz l:=by
  intro l;unfold isz;rw [List.all_reverse]
 unfold trR
 rw [rev,key,rev]
theorem trL_zero {s : Bs} : trL s = [] ↔ isz s = true:=by
 rw [isz_iff]
 induction s with
 | nil=>simp [trL]
 | cons b s ih=>
  by_cases h : b = 0
  ·subst h
   rw [trL_0 rfl,ih];simp
  ·rw [trL_n h];simp [h]
theorem trZ_zero {s : Bs} : trZ s = [] ↔ isz s = true:=by
 unfold trZ;rw [trL_zero,trR_isz]
theorem leN_zero : ∀ {l : List UInt8},leN l = 0 ↔ isz l = true
 | []=>by simp [leN,isz]
 | b :: l=>by
  have h1:=@leN_zero l
  have hb : b.toNat = 0 ↔ b = 0:=⟨fun h=>UInt8.toNat_inj.1 (by simpa using h),fun h=>by subst h;rfl⟩
  simp only [leN,isz,List.all_cons,Bool.and_eq_true,decide_eq_true_eq] at *
  rw [← h1,← hb];omega
attribute [local irreducible] trR trL isz nAt
theorem c95 (s : Bs) (hs : s.length < 1000000) : Fn 95 [.str s,.int .u8 0] (.str (trR s)):=by
 refine run_walkF eok Tryz.func95 rfl (by kernel_rfl) ?_
 conv=>whnf
 repeat' (first
 | ((with_reducible refine on_dec_f ?_ ?_);(focus ((try simp only [List.length_map,List.length_cons,List.length_nil,List.length_append]);omega));conv=>whnf)
 | ((with_reducible refine on_dec_t ?_ ?_);(focus ((try simp only [List.length_map,List.length_cons,List.length_nil,List.length_append]);omega));conv=>whnf)
 | ((with_reducible refine on_dec (fun h=>?_) (fun h=>?_))<;>(try simp only [List.length_map] at h)<;>conv=>whnf)
 | ((with_reducible refine on_ndec (fun h=>?_) (fun h=>?_))<;>(try simp only [List.length_map] at h)<;>conv=>whnf)
 | ((with_reducible refine on_not (fun h=>?_) (fun h=>?_))<;>conv=>whnf)
 | ((with_reducible refine onBool_split (fun h=>?_) (fun h=>?_))<;>conv=>whnf)
 | ((with_reducible refine loop_go ?_);first | (refine loop1 (fun (t : Bs)=>t.length) (fun (t : Bs)=>t.length ≤ s.length ∧ trR s = trR t) (fun (t : Bs)=>[(0,.d (.str t)),(1,.d (.int .u8 0))]) (fun (t : Bs)=>[]) (s) (by exact ⟨Nat.le_refl _,rfl⟩) ?_ (fun t C hI hC=>?_);(exact ⟨[],rfl,rfl,⟨(by first | (show (_ : D) = _;with_reducible rfl) | exact rfl),(by first | (show (_ : D) = _;with_reducible rfl) | exact rfl),trivial⟩,trivial⟩);all_goals (conv=>whnf)))
 | ((with_reducible show C _ _);first | (refine hC ((t.take (t.length - 1)).drop 0) _ _ ?_ (by (try rw [List.length_drop,List.length_take]);omega) ?_;clear hC;rotate_left;(exact ⟨[],rfl,rfl,⟨(by first | (show (_ : D) = _;with_reducible rfl) | exact rfl),(by first | (show (_ : D) = _;with_reducible rfl) | exact rfl),trivial⟩,trivial⟩);(exact ⟨by rw [List.length_drop,List.length_take];omega,by rw [hI.2,trR_step (by omega) (z8 (by assumption))]⟩)))
 | (refine ⟨⟨(by first | rfl | (simp;done)),cap_ok (by simp only [List.length_map,List.length_cons,List.length_nil,List.length_append];omega) rfl⟩,?_⟩;conv=>whnf)
 | (refine ⟨mem_one ⟨rfl,rfl⟩,?_⟩;conv=>whnf)
 | (refine ⟨(by intro y hy;obtain ⟨x,_,rfl⟩:=List.mem_map.1 hy;first | rfl | exact ⟨rfl,rfl⟩),?_⟩;conv=>whnf)
 | (refine ⟨cap_ok (by first | omega | (simp only [List.length_map];omega)) rfl,?_⟩;conv=>whnf)
 | (refine ix_map (by omega) ?_;conv=>whnf)
 | (refine ix_str (by omega) ?_;conv=>whnf)
 | (refine wrap64 (by omega) ?_;conv=>whnf)
 | (refine wrap64 (by omega) ?_;conv=>whnf)
 | (refine ix_stri (t.length - 1) (by omega) (by omega) ?_;conv=>whnf)
 | (refine sl_str 0 (t.length - 1) rfl (by omega) (by omega) ?_;conv=>whnf)
 | (exfalso;simp only [List.length_map,List.length_cons,List.length_nil,List.length_append] at h;omega)
 | ((with_reducible refine endx_go ?_);first | (exact endx (congrArg D.str (by rw [hI.2,trR_stop (by omega) (z8n (by assumption))]));done) | (exact endx (congrArg D.str (by rw [hI.2,trR_nil (by omega)]));done))
 | (refine ⟨rfl,?_⟩;conv=>whnf)
  | fail
  )
theorem c94 (s : Bs) (hs : s.length < 1000000) : Fn 94 [.str s,.int .u8 0] (.str (trL s)):=by
 refine run_walkF eok Tryz.func94 rfl (by kernel_rfl) ?_
 conv=>whnf
 repeat' (first
 | ((with_reducible refine on_dec_f ?_ ?_);(focus ((try simp only [List.length_map,List.length_cons,List.length_nil,List.length_append]);omega));conv=>whnf)
 | ((with_reducible refine on_dec_t ?_ ?_);(focus ((try simp only [List.length_map,List.length_cons,List.length_nil,List.length_append]);omega));conv=>whnf)
 | ((with_reducible refine on_dec (fun h=>?_) (fun h=>?_))<;>(try simp only [List.length_map] at h)<;>conv=>whnf)
 | ((with_reducible refine on_ndec (fun h=>?_) (fun h=>?_))<;>(try simp only [List.length_map] at h)<;>conv=>whnf)
 | ((with_reducible refine on_not (fun h=>?_) (fun h=>?_))<;>conv=>whnf)
 | ((with_reducible refine onBool_split (fun h=>?_) (fun h=>?_))<;>conv=>whnf)
 | ((with_reducible refine loop_go ?_);first | (refine loop1 (fun (t : Bs)=>t.length) (fun (t : Bs)=>t.length ≤ s.length ∧ trL s = trL t) (fun (t : Bs)=>[(0,.d (.str t)),(1,.d (.int .u8 0))]) (fun (t : Bs)=>[]) (s) (by exact ⟨Nat.le_refl _,rfl⟩) ?_ (fun t C hI hC=>?_);(exact ⟨[],rfl,rfl,⟨(by first | (show (_ : D) = _;with_reducible rfl) | exact rfl),(by first | (show (_ : D) = _;with_reducible rfl) | exact rfl),trivial⟩,trivial⟩);all_goals (conv=>whnf)))
 | ((with_reducible show C _ _);first | (refine hC ((t.take t.length).drop 1) _ _ ?_ (by (try rw [List.length_drop,List.length_take]);omega) ?_;clear hC;rotate_left;(exact ⟨[],rfl,rfl,⟨(by first | (show (_ : D) = _;with_reducible rfl) | exact rfl),(by first | (show (_ : D) = _;with_reducible rfl) | exact rfl),trivial⟩,trivial⟩);(exact ⟨by rw [List.length_drop,List.length_take];omega,by rw [hI.2,trL_step (by omega) (z8 (by assumption))]⟩)))
 | (refine ⟨⟨(by first | rfl | (simp;done)),cap_ok (by simp only [List.length_map,List.length_cons,List.length_nil,List.length_append];omega) rfl⟩,?_⟩;conv=>whnf)
 | (refine ⟨mem_one ⟨rfl,rfl⟩,?_⟩;conv=>whnf)
 | (refine ⟨(by intro y hy;obtain ⟨x,_,rfl⟩:=List.mem_map.1 hy;first | rfl | exact ⟨rfl,rfl⟩),?_⟩;conv=>whnf)
 | (refine ⟨cap_ok (by first | omega | (simp only [List.length_map];omega)) rfl,?_⟩;conv=>whnf)
 | (refine ix_map (by omega) ?_;conv=>whnf)
 | (refine ix_str (by omega) ?_;conv=>whnf)
 | (refine wrap64 (by omega) ?_;conv=>whnf)
 | (refine wrap64 (by omega) ?_;conv=>whnf)
 | (refine ix_stri 0 rfl (by omega) ?_;conv=>whnf)
 | (refine sl_str 1 t.length rfl rfl (by omega) ?_;conv=>whnf)
 | (exfalso;simp only [List.length_map,List.length_cons,List.length_nil,List.length_append] at h;omega)
 | ((with_reducible refine endx_go ?_);first | (exact endx (congrArg D.str (by rw [hI.2,trL_stop (by omega) (z8n (by assumption))]));done) | (exact endx (congrArg D.str (by rw [hI.2,trL_nil (by omega)]));done))
 | (refine ⟨rfl,?_⟩;conv=>whnf)
  | fail
  )
theorem trR_len (s : Bs) : (trR s).length ≤ s.length:=by
 unfold trR
 rw [List.length_reverse]
 have:=(List.dropWhile_sublist (fun b : UInt8=>decide (b = 0)) (l:=s.reverse)).length_le
 rwa [List.length_reverse] at this
theorem c78e  : Fn 78 [.str [],.str [0]] (.str []):=by
 refine run_walkF eok Tryz.func78 rfl (by kernel_rfl) ?_
 conv=>whnf
 repeat' (first
 | ((with_reducible refine on_dec_t (by decide) ?_);conv=>whnf)
 | ((with_reducible refine on_dec_f (by decide) ?_);conv=>whnf)
 | ((with_reducible refine on_dec_f ?_ ?_);(focus ((try simp only [List.length_map,List.length_cons,List.length_nil,List.length_append]);omega));conv=>whnf)
 | ((with_reducible refine on_dec_t ?_ ?_);(focus ((try simp only [List.length_map,List.length_cons,List.length_nil,List.length_append]);omega));conv=>whnf)
 | ((with_reducible refine on_dec (fun h=>?_) (fun h=>?_))<;>(try simp only [List.length_map] at h)<;>conv=>whnf)
 | ((with_reducible refine on_ndec (fun h=>?_) (fun h=>?_))<;>(try simp only [List.length_map] at h)<;>conv=>whnf)
 | ((with_reducible refine on_not (fun h=>?_) (fun h=>?_))<;>conv=>whnf)
 | ((with_reducible refine onBool_split (fun h=>?_) (fun h=>?_))<;>conv=>whnf)
 | ((with_reducible refine call_go ?_);(first | refine call_step (run_data (xs:=[_,_]) (c95 s hs) _) ?_ | refine call_step (run_data (xs:=[_,_]) (c94 (trR s) (by have:=trR_len s;omega)) _) ?_);conv=>whnf)
 | (refine ⟨[],[],(by decide +kernel),?_⟩;conv=>whnf)
 | (refine ⟨⟨(by first | rfl | (simp;done)),cap_ok (by simp only [List.length_map,List.length_cons,List.length_nil,List.length_append];omega) rfl⟩,?_⟩;conv=>whnf)
 | (refine ⟨mem_one ⟨rfl,rfl⟩,?_⟩;conv=>whnf)
 | (refine ⟨(by intro y hy;obtain ⟨x,_,rfl⟩:=List.mem_map.1 hy;first | rfl | exact ⟨rfl,rfl⟩),?_⟩;conv=>whnf)
 | (refine ⟨cap_ok (by first | omega | (simp only [List.length_map];omega)) rfl,?_⟩;conv=>whnf)
 | (refine ix_map (by omega) ?_;conv=>whnf)
 | (refine ix_str (by omega) ?_;conv=>whnf)
 | (refine wrap64 (by omega) ?_;conv=>whnf)
 | (exfalso;simp only [List.length_map,List.length_cons,List.length_nil,List.length_append] at h;omega)
 | ((with_reducible refine endx_go ?_);first | (exact endx rfl;done))
 | (refine ⟨rfl,?_⟩;conv=>whnf)
  | fail
  )
theorem c78n (s : Bs) (hs : s.length < 1000000) (hne : ¬ s = []) : Fn 78 [.str s,.str [0]] (.str (trZ s)):=by
 refine run_walkF eok Tryz.func78 rfl (by kernel_rfl) ?_
 conv=>whnf
 repeat' (first
 | ((with_reducible refine on_dec_f ?_ ?_);(focus (exact hne));conv=>whnf)
 | ((with_reducible refine on_dec_t (by decide) ?_);conv=>whnf)
 | ((with_reducible refine on_dec_f (by decide) ?_);conv=>whnf)
 | ((with_reducible refine on_dec_f ?_ ?_);(focus ((try simp only [List.length_map,List.length_cons,List.length_nil,List.length_append]);omega));conv=>whnf)
 | ((with_reducible refine on_dec_t ?_ ?_);(focus ((try simp only [List.length_map,List.length_cons,List.length_nil,List.length_append]);omega));conv=>whnf)
 | ((with_reducible refine on_dec (fun h=>?_) (fun h=>?_))<;>(try simp only [List.length_map] at h)<;>conv=>whnf)
 | ((with_reducible refine on_ndec (fun h=>?_) (fun h=>?_))<;>(try simp only [List.length_map] at h)<;>conv=>whnf)
 | ((with_reducible refine on_not (fun h=>?_) (fun h=>?_))<;>conv=>whnf)
 | ((with_reducible refine onBool_split (fun h=>?_) (fun h=>?_))<;>conv=>whnf)
 | ((with_reducible refine call_go ?_);(first | refine call_step (run_data (xs:=[_,_]) (c95 s hs) _) ?_ | refine call_step (run_data (xs:=[_,_]) (c94 (trR s) (by have:=trR_len s;omega)) _) ?_);conv=>whnf)
 | (refine ⟨[],[],(by decide +kernel),?_⟩;conv=>whnf)
 | (refine ⟨⟨(by first | rfl | (simp;done)),cap_ok (by simp only [List.length_map,List.length_cons,List.length_nil,List.length_append];omega) rfl⟩,?_⟩;conv=>whnf)
 | (refine ⟨mem_one ⟨rfl,rfl⟩,?_⟩;conv=>whnf)
 | (refine ⟨(by intro y hy;obtain ⟨x,_,rfl⟩:=List.mem_map.1 hy;first | rfl | exact ⟨rfl,rfl⟩),?_⟩;conv=>whnf)
 | (refine ⟨cap_ok (by first | omega | (simp only [List.length_map];omega)) rfl,?_⟩;conv=>whnf)
 | (refine ix_map (by omega) ?_;conv=>whnf)
 | (refine ix_str (by omega) ?_;conv=>whnf)
 | (refine wrap64 (by omega) ?_;conv=>whnf)
 | (refine wrap64 (by omega) ?_;conv=>whnf)
 | (refine ix_stri 0 rfl (by decide) ?_;conv=>whnf)
 | (exfalso;simp only [List.length_map,List.length_cons,List.length_nil,List.length_append] at h;omega)
 | ((with_reducible refine endx_go ?_);first | (exact endx rfl;done) | (exact absurd (of_decide_eq_true h) hne;done))
 | (refine ⟨rfl,?_⟩;conv=>whnf)
  | fail
  )
theorem c78 (s : Bs) (hs : s.length < 1000000) : Fn 78 [.str s,.str [0]] (.str (trZ s)):=by
 by_cases h : s = []
 ·subst h
  have : trZ [] = []:=by unfold trZ trL trR;rfl
  rw [this];exact c78e
 ·exact c78n s hs h
end Go.Proofs.YtkeeienjocbkbaaGreatDoor
namespace Go.Proofs.YtkeeienjocbkbaaGreatDoor
open Go Dw
set_option maxRecDepth 10000
attribute [local irreducible] Run
set_option maxHeartbeats 600000
def zeroC : Chg:=⟨0,⟨0,0⟩,⟨0,0⟩,0,0,[]⟩
def recAt (s : Bs) : Chg:=⟨nAt s 4 4,⟨nAt s 8 4,nAt s 12 2⟩,⟨nAt s 14 4,nAt s 18 2⟩,nAt s 20 4,nAt s 24 2,(s.take (32 + nAt s 26 2)).drop 32⟩
def formB (s : Bs) : Bool:=decide ((nAt s 0 4 : Int) = (((32 + nAt s 26 2 : Nat) : Int) + 7) / 8 * 8) && (decide (nAt s 28 4 = 0) && isz ((s.take (nAt s 0 4)).drop (32 + nAt s 26 2)))
def ofR (s : Bs) : Chg × Int × Int:=
 if s.length < 32 then (zeroC,0,14) else if s.length < nAt s 0 4 then (zeroC,0,14) else if formB s = false then (zeroC,0,3)
 else if cbErr (recAt s) = 0 then (recAt s,(nAt s 0 4 : Int),0) else (zeroC,0,cbErr (recAt s))
theorem ofR_s {s : Bs} (h : s.length < 32) : ofR s = (zeroC,0,14):=by unfold ofR;rw [if_pos h]
section
variable {s : Bs} (h : ¬ s.length < 32)
include h
theorem ofR_g (h2 : s.length < nAt s 0 4) : ofR s = (zeroC,0,14):=by unfold ofR;rw [if_neg h,if_pos h2]
theorem ofR_f (h2 : ¬ s.length < nAt s 0 4) (h3 : formB s = false) : ofR s = (zeroC,0,3):=by unfold ofR;rw [if_neg h,if_neg h2,if_pos h3]
theorem ofR_e (h2 : ¬ s.length < nAt s 0 4) (h3 : formB s = true) (h4 : ¬ cbErr (recAt s) = 0) : ofR s = (zeroC,0,cbErr (recAt s)):=by unfold ofR;rw [if_neg h,if_neg h2,if_neg (by rw [h3];decide),if_neg h4]
theorem ofR_o (h2 : ¬ s.length < nAt s 0 4) (h3 : formB s = true) (h4 : cbErr (recAt s) = 0) : ofR s = (recAt s,(nAt s 0 4 : Int),0):=by unfold ofR;rw [if_neg h,if_neg h2,if_neg (by rw [h3];decide),if_pos h4]
end
theorem form_1 {s : Bs} (h : ¬ (nAt s 0 4 : Int) = (((32 + nAt s 26 2 : Nat) : Int) + 7) / 8 * 8) : formB s = false:=by unfold formB;rw [decide_eq_false h];rfl
theorem form_2 {s : Bs} (h : ¬ nAt s 28 4 = 0) : formB s = false:=by unfold formB;rw [decide_eq_false h,Bool.false_and,Bool.and_false]
theorem form_3 {s : Bs} (h : isz ((s.take (nAt s 0 4)).drop (32 + nAt s 26 2)) = false) : formB s = false:=by unfold formB;rw [h,Bool.and_false,Bool.and_false]
theorem form_t {s : Bs} (h1 : (nAt s 0 4 : Int) = (((32 + nAt s 26 2 : Nat) : Int) + 7) / 8 * 8) (h2 : nAt s 28 4 = 0) (h3 : isz ((s.take (nAt s 0 4)).drop (32 + nAt s 26 2)) = true) : formB s = true:=by unfold formB;rw [decide_eq_true h1,decide_eq_true h2,h3];rfl
theorem rec_nm_len (s : Bs) : (recAt s).name.length < 1000000:=by
 show ((s.take (32 + nAt s 26 2)).drop 32).length < 1000000
 have:=nAt_lt2 s 26
 rw [List.length_drop,List.length_take];omega
attribute [local irreducible] nAt cbErr recAt formB isz ofR
theorem view_rec (s : Bs) {n : Nat} {H : Heap} : view (n + 2) H (.agg [.d (i (nAt s 4 4)),.d (i (nAt s 8 4)),.d (i (nAt s (8 + 4) 2)),.d (i (nAt s 14 4)),.d (i (nAt s (14 + 4) 2)),.d (i (nAt s 20 4)),.d (i (nAt s 24 2)),.d (.str ((s.take (32 + nAt s 26 2)).drop 32))]) = some (recAt s).enc:=by
 unfold recAt
 exact view_agg (vlc rfl (vlc rfl (vlc rfl (vlc rfl (vlc rfl (vlc rfl (vlc rfl (vlc rfl vln))))))))
end Go.Proofs.YtkeeienjocbkbaaGreatDoor
namespace Go.Proofs.YtkeeienjocbkbaaGreatDoor
open Go Dw
set_option maxRecDepth 10000
attribute [local irreducible] Run
set_option maxHeartbeats 600000
abbrev hd32 (s : Bs) : Bs:=(s.take 32).drop 0
theorem hd32_len {s : Bs} (h : ¬ s.length < 32) : (hd32 s).length = 32:=by simp only [hd32,List.length_drop,List.length_take];omega
theorem nAt_hd {s : Bs} {a b c : Nat} (h : a + b + c ≤ 32) : nAt ((hd32 s).drop a) b c = nAt s (a + b) c:=by
 unfold hd32 nAt
 rw [List.drop_zero,List.drop_drop,List.drop_take,List.take_take,Nat.min_eq_left (by omega)]
theorem view_byt {H : Heap} {id a n m st : Nat} {c : Option Nat} {s : Bs} (h : H[id]? = some ⟨s.map byteV,1,st⟩) (hst : st < 2) (hn : a + n = s.length) : view (m + 2) H (.sl id a n 1 c) = some (.fs ((s.drop a).map u8)):=by
 have e : ((s.map byteV).drop a).take n = ((s.drop a).map u8).map .d:=by
  rw [List.take_of_length_le (by simp;omega),← List.map_drop,byteV_map]
 show (match H[id]? with
  | some o=>if o.st < 2 then (if a + n ≤ o.elems.length then (vl (view (m + 1) H) ((o.elems.drop a).take n)).map D.fs else none) else none
  | none=>none) = _
 simp only [h,if_pos hst]
 rw [if_pos (by simp;omega),e,vl_map_d]
 rfl
theorem run_bs {f id a n st : Nat} {c : Option Nat} {s : Bs} {r : D} {H : Heap} (hf : Run Tryz.prog f [.d (.fs ((s.drop a).map u8))] [] (.d r) []) (hr : r.flat = true) (h : H[id]? = some ⟨s.map byteV,1,st⟩) (hst : st < 2) (hn : a + n = s.length) : Run Tryz.prog f [.sl id a n 1 c] H (.d r) H:=
 run_view (P:=Tryz.prog) (xs:=[.fs ((s.drop a).map u8)]) hf hr (vlc (view_byt h hst hn) vln)
section
variable {s : Bs} (h : ¬ s.length < 32)
include h
theorem c46h (a : Nat) (ha : a + 4 ≤ 32) : Fn 46 [.fs (((hd32 s).drop a).map u8)] (.int .u32 (nAt s a 4)):=by
 have hl:=hd32_len h
 have:=c46 ((hd32 s).drop a) (by rw [List.length_drop];omega) (by rw [List.length_drop];omega)
 rwa [nAt_hd (by omega),Nat.add_zero] at this
theorem c47h (a : Nat) (ha : a + 2 ≤ 32) : Fn 47 [.fs (((hd32 s).drop a).map u8)] (.int .u16 (nAt s a 2)):=by
 have hl:=hd32_len h
 have:=c47 ((hd32 s).drop a) (by rw [List.length_drop];omega)
 rwa [nAt_hd (by omega),Nat.add_zero] at this
theorem c49h (a : Nat) (ha : a + 6 ≤ 32) : Fn 49 [.fs (((hd32 s).drop a).map u8)] (Ref.enc ⟨nAt s a 4,nAt s (a + 4) 2⟩):=by
 have hl:=hd32_len h
 have:=c49 ((hd32 s).drop a) (by rw [List.length_drop];omega) (by rw [List.length_drop];omega)
 rwa [nAt_hd (by omega),nAt_hd (by omega),Nat.add_zero] at this
end
abbrev zPart (s : Bs) : Bs:=(s.take 32).drop 28 ++ (s.take (nAt s 0 4)).drop (32 + nAt s 26 2)
theorem zPart_iff {s : Bs} : trZ (zPart s) = [] ↔ nAt s 28 4 = 0 ∧ isz ((s.take (nAt s 0 4)).drop (32 + nAt s 26 2)) = true:=by
 rw [trZ_zero,isz_app,Bool.and_eq_true]
 have : nAt s 28 4 = leN ((s.take 32).drop 28):=by unfold nAt;rw [List.drop_take]
 rw [this,leN_zero]
theorem form_z {s : Bs} (h : ¬ trZ (zPart s) = []) : formB s = false:=by
 rw [zPart_iff] at h
 by_cases h1 : nAt s 28 4 = 0
 ·exact form_3 (by simpa [h1] using h)
 ·exact form_2 h1
theorem form_zt {s : Bs} (h1 : (nAt s 0 4 : Int) = (((32 + nAt s 26 2 : Nat) : Int) + 7) / 8 * 8) (h : trZ (zPart s) = []) : formB s = true:=by
 rw [zPart_iff] at h
 exact form_t h1 h.1 h.2
theorem cb_first {s : Bs} : first [if within (nAt s 4 4) 0 2147483647 then 0 else 2,recordErr (recAt s)] = cbErr (recAt s):=by unfold cbErr recAt;rfl
attribute [local irreducible] nAt cbErr recAt formB isz ofR trZ recordErr
theorem c50s (s : Bs) (hs : s.length < 1000000) (h32 : s.length < 32) : Fn 50 [.str s] (.tup [(ofR s).1.enc,i (ofR s).2.1,i (ofR s).2.2]):=by
 refine run_walkF eok Tryz.func50 rfl (by kernel_rfl) ?_
 conv=>whnf
 repeat' (first
 | ((with_reducible refine on_dec_f ?_ ?_);(focus ((try simp only [List.length_map,List.length_cons,List.length_nil,List.length_append]);omega));conv=>whnf)
 | ((with_reducible refine on_dec_t ?_ ?_);(focus ((try simp only [List.length_map,List.length_cons,List.length_nil,List.length_append]);omega));conv=>whnf)
 | ((with_reducible refine on_dec (fun h=>?_) (fun h=>?_))<;>(try simp only [List.length_map] at h)<;>conv=>whnf)
 | ((with_reducible refine on_ndec (fun h=>?_) (fun h=>?_))<;>(try simp only [List.length_map] at h)<;>conv=>whnf)
 | ((with_reducible refine on_not (fun h=>?_) (fun h=>?_))<;>conv=>whnf)
 | ((with_reducible refine onBool_split (fun h=>?_) (fun h=>?_))<;>conv=>whnf)
 | (refine ⟨[],[],(by decide +kernel),?_⟩;conv=>whnf)
 | (refine ⟨[],[(22,2),(22,6),(22,9),(22,12),(22,16),(20,2),(20,6),(20,9),(20,12),(20,16)],(by decide +kernel),?_⟩;conv=>whnf)
 | (refine ⟨[],[(4,2),(4,3)],(by decide +kernel),?_⟩;conv=>whnf)
 | (refine ⟨⟨(by first | rfl | (simp;done)),cap_ok (by simp only [List.length_map,List.length_cons,List.length_nil,List.length_append];omega) rfl⟩,?_⟩;conv=>whnf)
 | (refine ⟨mem_one ⟨rfl,rfl⟩,?_⟩;conv=>whnf)
 | (refine ⟨(by intro y hy;obtain ⟨x,_,rfl⟩:=List.mem_map.1 hy;first | rfl | exact ⟨rfl,rfl⟩),?_⟩;conv=>whnf)
 | (refine ⟨cap_ok (by first | omega | (simp only [List.length_map];omega)) rfl,?_⟩;conv=>whnf)
 | (refine ix_map (by omega) ?_;conv=>whnf)
 | (refine ix_str (by omega) ?_;conv=>whnf)
 | (refine wrap64 (by omega) ?_;conv=>whnf)
 | (refine wrap64 (by omega) ?_;conv=>whnf)
 | (exfalso;simp only [List.length_map,List.length_cons,List.length_nil,List.length_append] at h;omega)
 | ((with_reducible refine endx_go ?_);first | (refine endxv (view_tup (vlc (view_agg (vlc rfl (vlc rfl (vlc rfl (vlc rfl (vlc rfl (vlc rfl (vlc rfl (vlc rfl vln))))))))) (vlc rfl (vlc rfl vln)))) ?_;(rw [ofR_s h32])<;>rfl;done))
 | (refine ⟨rfl,?_⟩;conv=>whnf)
  | fail
  )
theorem c55w (n lo hi : Int) : Fn 55 [i n,i lo,i hi] (.bool (within n lo hi)):=c55 n lo hi
theorem c50l (s : Bs) (hs : s.length < 1000000) (h32 : ¬ s.length < 32) : Fn 50 [.str s] (.tup [(ofR s).1.enc,i (ofR s).2.1,i (ofR s).2.2]):=by
 have q0:=nAt_lt4 s 0;have q1:=nAt_lt2 s 26;have q4:=nAt_lt4 s 4;have q20:=nAt_lt4 s 20;have q24:=nAt_lt2 s 24;have hl:=hd32_len h32
 refine run_walkF eok Tryz.func50 rfl (by kernel_rfl) ?_
 conv=>whnf
 repeat' (first
 | ((with_reducible refine on_dec_t (by assumption) ?_);conv=>whnf)
 | ((with_reducible refine on_dec_f (by assumption) ?_);conv=>whnf)
 | ((with_reducible refine onBool_t (by assumption) ?_);conv=>whnf)
 | ((with_reducible refine onBool_f (by assumption) ?_);conv=>whnf)
 | ((with_reducible refine on_nt (by assumption) ?_);conv=>whnf)
 | ((with_reducible refine on_nf (by assumption) ?_);conv=>whnf)
 | ((with_reducible refine on_ndec_t (by first | assumption | rfl) ?_);conv=>whnf)
 | ((with_reducible refine on_ndec_f (by assumption) ?_);conv=>whnf)
 | ((with_reducible refine on_dec_t rfl ?_);conv=>whnf)
 | ((with_reducible refine on_dec_f ?_ ?_);(focus (omega));conv=>whnf)
 | ((with_reducible refine on_dec_f ?_ ?_);(focus ((try simp only [List.length_map,List.length_cons,List.length_nil,List.length_append]);omega));conv=>whnf)
 | ((with_reducible refine on_dec_t ?_ ?_);(focus ((try simp only [List.length_map,List.length_cons,List.length_nil,List.length_append]);omega));conv=>whnf)
 | ((with_reducible refine on_dec (fun h=>?_) (fun h=>?_))<;>(try simp only [List.length_map] at h)<;>conv=>whnf)
 | ((with_reducible refine on_ndec (fun h=>?_) (fun h=>?_))<;>(try simp only [List.length_map] at h)<;>conv=>whnf)
 | ((with_reducible refine on_not (fun h=>?_) (fun h=>?_))<;>conv=>whnf)
 | ((with_reducible refine onBool_split (fun h=>?_) (fun h=>?_))<;>conv=>whnf)
 | ((with_reducible refine call_go ?_);(first | refine call_step (run_bs (s:=hd32 s) (c46h h32 0 (by omega)) rfl rfl Nat.two_pos (by simp only [hd32,List.length_drop,List.length_take];omega)) ?_ | refine call_step (run_bs (s:=hd32 s) (c46h h32 4 (by omega)) rfl rfl Nat.two_pos (by simp only [hd32,List.length_drop,List.length_take];omega)) ?_ | refine call_step (run_bs (s:=hd32 s) (c46h h32 20 (by omega)) rfl rfl Nat.two_pos (by simp only [hd32,List.length_drop,List.length_take];omega)) ?_ | refine call_step (run_bs (s:=hd32 s) (c47h h32 26 (by omega)) rfl rfl Nat.two_pos (by simp only [hd32,List.length_drop,List.length_take];omega)) ?_ | refine call_step (run_bs (s:=hd32 s) (c47h h32 24 (by omega)) rfl rfl Nat.two_pos (by simp only [hd32,List.length_drop,List.length_take];omega)) ?_ | refine call_step (run_data (xs:=[_,_]) (c78 (zPart s) (by simp only [zPart,List.length_append,List.length_drop,List.length_take];omega)) _) ?_ | refine call_step (run_bs (s:=hd32 s) (c49h h32 8 (by omega)) rfl rfl Nat.two_pos (by simp only [hd32,List.length_drop,List.length_take];omega)) ?_ | refine call_step (run_bs (s:=hd32 s) (c49h h32 14 (by omega)) rfl rfl Nat.two_pos (by simp only [hd32,List.length_drop,List.length_take];omega)) ?_ | refine call_step (run_data (xs:=[_,_,_]) (c55w (nAt s 4 4) 0 2147483647) _) ?_ | refine call_step (run_view (c57 _ 2) rfl rfl) ?_ | refine call_step (run_view (c79 (recAt s) (rec_nm_len s)) rfl (vlc (view_rec s) vln)) ?_ | refine call_step (run_view (c56 [_,_] (by simp)) rfl rfl) ?_);conv=>whnf)
 | (refine ⟨[],[],(by decide +kernel),?_⟩;conv=>whnf)
 | (refine ⟨[],[(22,2),(22,6),(22,9),(22,12),(22,16),(20,2),(20,6),(20,9),(20,12),(20,16)],(by decide +kernel),?_⟩;conv=>whnf)
 | (refine ⟨[],[(4,2),(4,3)],(by decide +kernel),?_⟩;conv=>whnf)
 | (refine ⟨⟨(by first | rfl | (simp;done)),cap_ok (by simp only [List.length_map,List.length_cons,List.length_nil,List.length_append];omega) rfl⟩,?_⟩;conv=>whnf)
 | (refine ⟨mem_one ⟨rfl,rfl⟩,?_⟩;conv=>whnf)
 | (refine ⟨(by intro y hy;obtain ⟨x,_,rfl⟩:=List.mem_map.1 hy;first | rfl | exact ⟨rfl,rfl⟩),?_⟩;conv=>whnf)
 | (refine ⟨cap_ok (by first | omega | (simp only [List.length_map];omega)) rfl,?_⟩;conv=>whnf)
 | (refine ix_map (by omega) ?_;conv=>whnf)
 | (refine ix_str (by omega) ?_;conv=>whnf)
 | (refine wrap64 (by omega) ?_;conv=>whnf)
 | (refine wrap64 (by omega) ?_;conv=>whnf)
 | (refine wrap64 (by omega) ?_;conv=>whnf)
 | (refine sl_str 0 32 rfl rfl (by omega) ?_;conv=>whnf)
 | (refine sl_str 28 32 rfl rfl (by omega) ?_;conv=>whnf)
 | (refine sl_str (32 + nAt s 26 2) (nAt s 0 4) (by omega) (by omega) (by omega) ?_;conv=>whnf)
 | (refine sl_str 32 (32 + nAt s 26 2) (by omega) (by omega) (by omega) ?_;conv=>whnf)
 | (refine str_add (by simp only [List.length_drop,List.length_take];omega) ?_;conv=>whnf)
 | (refine own_sl 26 (hd32 s).length rfl rfl ⟨by omega,Nat.le_refl _⟩ ?_;conv=>whnf)
 | (refine own_sl 4 (hd32 s).length rfl rfl ⟨by omega,Nat.le_refl _⟩ ?_;conv=>whnf)
 | (refine own_sl 8 (hd32 s).length rfl rfl ⟨by omega,Nat.le_refl _⟩ ?_;conv=>whnf)
 | (refine own_sl 14 (hd32 s).length rfl rfl ⟨by omega,Nat.le_refl _⟩ ?_;conv=>whnf)
 | (refine own_sl 20 (hd32 s).length rfl rfl ⟨by omega,Nat.le_refl _⟩ ?_;conv=>whnf)
 | (refine own_sl 24 (hd32 s).length rfl rfl ⟨by omega,Nat.le_refl _⟩ ?_;conv=>whnf)
 | (refine div64 (by omega) ?_;conv=>whnf)
 | (exfalso;simp only [List.length_map,List.length_cons,List.length_nil,List.length_append] at h;omega)
 | ((with_reducible refine endx_go ?_);first | (refine endxv (view_tup (vlc (view_agg (vlc rfl (vlc rfl (vlc rfl (vlc rfl (vlc rfl (vlc rfl (vlc rfl (vlc rfl vln))))))))) (vlc rfl (vlc rfl vln)))) ?_;(rw [ofR_g h32 (by omega)])<;>rfl;done) | (refine endxv (view_tup (vlc (view_agg (vlc rfl (vlc rfl (vlc rfl (vlc rfl (vlc rfl (vlc rfl (vlc rfl (vlc rfl vln))))))))) (vlc rfl (vlc rfl vln)))) ?_;(rw [ofR_f h32 (by omega) (form_1 (by omega))])<;>rfl;done) | (refine endxv (view_tup (vlc (view_agg (vlc rfl (vlc rfl (vlc rfl (vlc rfl (vlc rfl (vlc rfl (vlc rfl (vlc rfl vln))))))))) (vlc rfl (vlc rfl vln)))) ?_;(rw [ofR_f h32 (by omega) (form_z (by first | assumption | exact of_decide_eq_true (by assumption) | exact of_decide_eq_false (by assumption)))])<;>rfl;done) | (have h4:=ofR_e h32 (by omega) (form_zt (by omega) (by first | assumption | exact of_decide_eq_true (by assumption) | exact of_decide_eq_false (by assumption))) (by rw [← cb_first];assumption);rw [cb_first];refine endxv (view_tup (vlc (view_agg (vlc rfl (vlc rfl (vlc rfl (vlc rfl (vlc rfl (vlc rfl (vlc rfl (vlc rfl vln))))))))) (vlc rfl (vlc rfl vln)))) ?_;(rw [h4])<;>rfl;done) | (have h4:=ofR_o h32 (by omega) (form_zt (by omega) (by first | assumption | exact of_decide_eq_true (by assumption) | exact of_decide_eq_false (by assumption))) (by rw [← cb_first];assumption);refine endxv (view_tup (vlc (view_rec s) (vlc rfl (vlc rfl vln)))) ?_;(rw [h4])<;>rfl;done))
 | (refine ⟨rfl,?_⟩;conv=>whnf)
  | fail
  )
end Go.Proofs.YtkeeienjocbkbaaGreatDoor
namespace Go.Proofs.YtkeeienjocbkbaaGreatDoor
open Go Dw
set_option maxRecDepth 10000
attribute [local irreducible] Run
set_option maxHeartbeats 600000
def opnAt (s : Bs) (a : Nat) : Opn:=⟨⟨nAt s a 4,nAt s (a + 4) 2⟩,nAt s (a + 6) 2⟩
def opnsAt (s : Bs) (n : Nat) : List Opn:=(List.range n).map fun k=>opnAt s (18 + 8 * k)
theorem opnsAt_succ (s : Bs) (n : Nat) : opnsAt s (n + 1) = opnsAt s n ++ [opnAt s (18 + 8 * n)]:=by
 unfold opnsAt;rw [List.range_succ,List.map_append];rfl
def recsGo : Nat → Bs → List Chg → List Chg × Int
 | 0,_,acc=>(acc,0)
 | f + 1,s,acc=>if s = [] then (acc,0) else if (ofR s).2.2 = 0 then recsGo f (s.drop (ofR s).2.1.toNat) (acc ++ [(ofR s).1]) else (acc,(ofR s).2.2)
theorem recsGo_nil {f : Nat} {s : Bs} {acc : List Chg} (h : s = []) : recsGo f s acc = (acc,0):=by
 cases f with
 | zero=>rfl
 | succ f=>simp only [recsGo,if_pos h]
theorem recsGo_e {f : Nat} {s : Bs} {acc : List Chg} (h : ¬ s = []) (hf : s.length ≤ f) (he : ¬ (ofR s).2.2 = 0) : recsGo f s acc = (acc,(ofR s).2.2):=by
 cases f with
 | zero=>exact absurd (List.length_eq_zero_iff.1 (by omega)) h
 | succ f=>simp only [recsGo,if_neg h,if_neg he]
theorem recsGo_o {f : Nat} {s : Bs} {acc : List Chg} (h : ¬ s = []) (hf : s.length ≤ f) (he : (ofR s).2.2 = 0) : recsGo f s acc = recsGo (f - 1) (s.drop (ofR s).2.1.toNat) (acc ++ [(ofR s).1]):=by
 cases f with
 | zero=>exact absurd (List.length_eq_zero_iff.1 (by omega)) h
 | succ f=>simp only [recsGo,if_neg h,if_pos he,Nat.add_sub_cancel]
theorem ofR_sz {s : Bs} (he : (ofR s).2.2 = 0) : 32 ≤ (ofR s).2.1 ∧ (ofR s).2.1 ≤ s.length ∧ (ofR s).1.name.length < 1000000:=by
 by_cases h32 : s.length < 32
 ·rw [ofR_s h32] at he;exact absurd he (by decide)
 ·by_cases h2 : s.length < nAt s 0 4
  ·rw [ofR_g h32 h2] at he;exact absurd he (by decide)
  ·cases h3 : formB s with
   | false=>rw [ofR_f h32 h2 h3] at he;exact absurd he (by decide)
   | true=>
    by_cases h4 : cbErr (recAt s) = 0
    ·rw [ofR_o h32 h2 h3 h4]
     unfold formB at h3
     simp only [Bool.and_eq_true,decide_eq_true_eq] at h3
     have:=h3.1
     have hn:=rec_nm_len s
     simp only
     exact ⟨by omega,by omega,hn⟩
    ·rw [ofR_e h32 h2 h3 h4] at he;exact absurd he h4
def hdJ (s : Bs) (l : List Chg) : Jrn:=⟨nAt s 0 4,nAt s 4 4,nAt s 8 4,nAt s 12 4,l,opnsAt s (nAt s 16 2)⟩
def jR (s : Bs) : List Chg × Int:=recsGo s.length (s.drop (18 + 8 * nAt s 16 2)) []
def jofR (s : Bs) : Jrn × Int:=
 if 20000 < s.length then (zeroJ,8) else if s.length < 18 then (zeroJ,14) else if s.length < 18 + 8 * nAt s 16 2 then (zeroJ,14)
 else if (jR s).2 = 0 then (if (checkJ (hdJ s (jR s).1)).2 = 0 then (hdJ s (jR s).1,0) else (zeroJ,(checkJ (hdJ s (jR s).1)).2)) else (zeroJ,(jR s).2)
theorem jof_8 {s : Bs} (h : 20000 < s.length) : jofR s = (zeroJ,8):=by unfold jofR;rw [if_pos h]
theorem jof_18 {s : Bs} (h : ¬ 20000 < s.length) (h2 : s.length < 18) : jofR s = (zeroJ,14):=by unfold jofR;rw [if_neg h,if_pos h2]
section
variable {s : Bs} (h : ¬ 20000 < s.length) (h2 : ¬ s.length < 18)
include h h2
theorem jof_14 (h3 : s.length < 18 + 8 * nAt s 16 2) : jofR s = (zeroJ,14):=by unfold jofR;rw [if_neg h,if_neg h2,if_pos h3]
variable (h3 : ¬ s.length < 18 + 8 * nAt s 16 2)
include h3
theorem jof_e {l : List Chg} {e : Int} (hj : jR s = (l,e)) (he : ¬ e = 0) : jofR s = (zeroJ,e):=by unfold jofR;rw [if_neg h,if_neg h2,if_neg h3,hj,if_neg he]
theorem jof_c {l : List Chg} (hj : jR s = (l,0)) (he : ¬ (checkJ (hdJ s l)).2 = 0) : jofR s = (zeroJ,(checkJ (hdJ s l)).2):=by unfold jofR;rw [if_neg h,if_neg h2,if_neg h3,hj,if_pos rfl,if_neg he]
theorem jof_o {l : List Chg} (hj : jR s = (l,0)) (he : (checkJ (hdJ s l)).2 = 0) : jofR s = (hdJ s l,0):=by unfold jofR;rw [if_neg h,if_neg h2,if_neg h3,hj,if_pos rfl,if_pos he]
end
theorem c50 (s : Bs) (hs : s.length < 1000000) : Fn 50 [.str s] (.tup [(ofR s).1.enc,i (ofR s).2.1,i (ofR s).2.2]):=by
 by_cases h : s.length < 32
 ·exact c50s s hs h
 ·exact c50l s hs h
structure Rg (s : Bs) (a : Nat) (acc : List Chg) (f : Nat) : Prop where
 le : a ≤ s.length
 go : jR s = recsGo f (s.drop a) acc
 fuel : (s.drop a).length ≤ f
 few : 32 * acc.length ≤ a
 nm : ∀ x ∈ acc,x.name.length < 1000000
theorem rg_0 {s : Bs} (h : ¬ s.length < 18 + 8 * nAt s 16 2) : Rg s (18 + 8 * nAt s 16 2) [] s.length:=⟨by omega,rfl,by rw [List.length_drop];omega,by simp,fun x hx=>by cases hx⟩
theorem rg_ne {s : Bs} {a : Nat} (h : a < s.length) : ¬ s.drop a = []:=by
 intro h0
 have:=congrArg List.length h0
 rw [List.length_drop,List.length_nil] at this;omega
theorem rg_n {s : Bs} {a : Nat} {acc : List Chg} {f : Nat} (h : Rg s a acc f) (hl : a < s.length) (he : (ofR (s.drop a)).2.2 = 0) : Rg s (a + (ofR (s.drop a)).2.1.toNat) (acc ++ [(ofR (s.drop a)).1]) (f - 1):=by
 have hz:=ofR_sz he
 have h1:=h.fuel
 have h2:=h.few
 have h3:=h.go
 rw [List.length_drop] at *
 refine ⟨by omega,?_,by rw [List.length_drop];omega,by simp only [List.length_append,List.length_cons,List.length_nil];omega,fun x hx=>?_⟩
 ·rw [h3,recsGo_o (rg_ne hl) (by rw [List.length_drop];omega) he,List.drop_drop]
 ·rcases List.mem_append.1 hx with hx | hx
  ·exact h.nm x hx
  ·rw [List.mem_singleton.1 hx];exact hz.2.2
theorem rg_e {s : Bs} {a : Nat} {acc : List Chg} {f : Nat} (h : Rg s a acc f) (hl : a < s.length) (he : ¬ (ofR (s.drop a)).2.2 = 0) : jR s = (acc,(ofR (s.drop a)).2.2):=by
 rw [h.go,recsGo_e (rg_ne hl) h.fuel he]
theorem rg_end {s : Bs} {a : Nat} {acc : List Chg} {f : Nat} (h : Rg s a acc f) (hl : ¬ a < s.length) : jR s = (acc,0):=by
 rw [h.go,recsGo_nil (List.drop_eq_nil_of_le (by omega))]
attribute [local irreducible] nAt ofR opnAt opnsAt recsGo jR checkJ jofR
end Go.Proofs.YtkeeienjocbkbaaGreatDoor
namespace Go.Proofs.YtkeeienjocbkbaaGreatDoor
open Go Dw
set_option maxRecDepth 10000
attribute [local irreducible] Run
set_option maxHeartbeats 600000
theorem view_bytn {H : Heap} {id a n m st : Nat} {c : Option Nat} {s : Bs} (h : H[id]? = some ⟨s.map byteV,1,st⟩) (hst : st < 2) (hn : a + n ≤ s.length) : view (m + 2) H (.sl id a n 1 c) = some (.fs (((s.drop a).take n).map u8)):=by
 have e : ((s.map byteV).drop a).take n = (((s.drop a).take n).map u8).map .d:=by
  rw [← List.map_drop,← List.map_take,byteV_map]
 show (match H[id]? with
  | some o=>if o.st < 2 then (if a + n ≤ o.elems.length then (vl (view (m + 1) H) ((o.elems.drop a).take n)).map D.fs else none) else none
  | none=>none) = _
 simp only [h,if_pos hst]
 rw [if_pos (by simp;omega),e,vl_map_d]
 rfl
theorem reach_bytes (n : Nat) (H : Heap) (s : Bs) : (s.map byteV).flatMap (reach n H) = []:=by
 induction s with
 | nil=>rfl
 | cons b s ih=>
  rw [List.map_cons,List.flatMap_cons,ih]
  cases n<;>rfl
theorem reach_sl {H : Heap} {id a n m st : Nat} {c : Option Nat} {s : Bs} (h : H[id]? = some ⟨s.map byteV,1,st⟩) : reach (m + 1) H (.sl id a n 1 c) = [id]:=by
 show id :: (match H[id]? with | some o=>o.elems.flatMap (reach m H) | none=>[]) = _
 simp only [h,reach_bytes]
theorem run_frz {f id a n : Nat} {c : Option Nat} {s t : Bs} {x r : D} {H H' : Heap} (hf : Run Tryz.prog f [.d (.fs (t.map u8)),.d x] [] (.d r) []) (ht : t = (s.drop a).take n) (h : H[id]? = some ⟨s.map byteV,1,0⟩) (hn : a + n ≤ s.length) (hH : Dw.freeze H [id] = H') :
  Run Tryz.prog f [.sl id a n 1 c,.d x] H (.d r) H':=by
 subst ht
 have hv : vl (view 8 H) [.sl id a n 1 c,.d x] = some [.fs (((s.drop a).take n).map u8),x]:=vlc (view_bytn h (by decide) hn) (vlc rfl vln)
 have:=run_viewF (P:=Tryz.prog) (f:=f) (xs:=[.fs (((s.drop a).take n).map u8),x]) hf hv
 rw [show ([AV.sl id a n 1 c,.d x]).flatMap (reach 8 H) = [id] by rw [List.flatMap_cons,reach_sl h];rfl,hH] at this
 exact this
theorem nAt_dr {s : Bs} {a b c : Nat} : nAt (s.drop a) b c = nAt s (a + b) c:=by unfold nAt;rw [List.drop_drop]
theorem c45d {s : Bs} (k : Nat) (h : 4 * k + 4 ≤ s.length) (hs : s.length < 1000000) : Fn 45 [i k,.fp (.fs ((s.drop 0).map u8)) 0] (i (nAt s (4 * k) 4)):=by
 rw [List.drop_zero]
 exact c45 s k h hs
theorem c47d {s : Bs} (a : Nat) (h : a + 2 ≤ s.length) : Fn 47 [.fs ((s.drop a).map u8)] (.int .u16 (nAt s a 2)):=by
 have:=c47 (s.drop a) (by rw [List.length_drop];omega)
 rwa [nAt_dr,Nat.add_zero] at this
abbrev opW (s : Bs) (n k : Nat) : Bs:=(((s.drop 18).take (8 * n)).drop (8 * k)).take 8
theorem opW_len {s : Bs} {n k : Nat} (h : 18 + 8 * n ≤ s.length) (hk : k < n) : (opW s n k).length = 8:=by
 simp only [opW,List.length_take,List.length_drop];omega
theorem opW_at {s : Bs} {n k : Nat} (hk : k < n) {b c : Nat} (h : b + c ≤ 8) : nAt (opW s n k) b c = nAt s (18 + 8 * k + b) c:=by
 unfold opW nAt
 simp only [List.drop_take,List.drop_drop,List.take_take]
 rw [show min c (min 8 (8 * n - 8 * k) - b) = c by omega]
theorem c49w {s : Bs} {n k : Nat} (h : 18 + 8 * n ≤ s.length) (hk : k < n) : Fn 49 [.fs ((opW s n k).map u8)] (Ref.enc ⟨nAt s (18 + 8 * k) 4,nAt s (18 + 8 * k + 4) 2⟩):=by
 have hl:=opW_len h hk
 have:=c49 (opW s n k) (by omega) (by omega)
 rwa [opW_at hk (by omega),opW_at hk (by omega),Nat.add_zero] at this
theorem c47w {s : Bs} {n k : Nat} (h : 18 + 8 * n ≤ s.length) (hk : k < n) : Fn 47 [.fs ((((opW s n k).take (opW s n k).length).drop 6).map u8)] (.int .u16 (nAt s (18 + 8 * k + 6) 2)):=by
 have hl:=opW_len h hk
 have:=c47 (((opW s n k).take (opW s n k).length).drop 6) (by rw [List.length_drop,List.length_take];omega)
 rwa [nAt_sl rfl,opW_at hk (by omega)] at this
theorem winG_eq (s : Bs) (n k : Nat) : winG ((s.drop 18).take (8 * n)) k = [.fs ((opW s n k).map u8)]:=by unfold winG;rfl
attribute [local irreducible] nAt ofR opnAt opnsAt recsGo jR checkJ jofR winG
theorem c9a (s : Bs) (hs : s.length < 1000000) (h20 : 20000 < s.length) : Fn 15 [.str s] (.tup [(jofR s).1.enc,i (jofR s).2]):=by
 refine run_walkF eok Tryz.func15 rfl (by kernel_rfl) ?_
 conv=>whnf
 repeat' (first
 | ((with_reducible refine on_dec_f ?_ ?_);(focus ((try simp only [List.length_map,List.length_cons,List.length_nil,List.length_append]);omega));conv=>whnf)
 | ((with_reducible refine on_dec_t ?_ ?_);(focus ((try simp only [List.length_map,List.length_cons,List.length_nil,List.length_append]);omega));conv=>whnf)
 | ((with_reducible refine on_dec (fun h=>?_) (fun h=>?_))<;>(try simp only [List.length_map] at h)<;>conv=>whnf)
 | ((with_reducible refine on_ndec (fun h=>?_) (fun h=>?_))<;>(try simp only [List.length_map] at h)<;>conv=>whnf)
 | ((with_reducible refine on_not (fun h=>?_) (fun h=>?_))<;>conv=>whnf)
 | ((with_reducible refine onBool_split (fun h=>?_) (fun h=>?_))<;>conv=>whnf)
 | (refine ⟨[],[(1,3)],(by decide +kernel),?_⟩;conv=>whnf)
 | (refine ⟨[],[(1,3),(1,6),(1,9)],(by decide +kernel),?_⟩;conv=>whnf)
 | (refine ⟨⟨(by first | rfl | (simp;done)),cap_ok (by simp only [List.length_map,List.length_cons,List.length_nil,List.length_append];omega) rfl⟩,?_⟩;conv=>whnf)
 | (refine ⟨mem_one ⟨rfl,rfl⟩,?_⟩;conv=>whnf)
 | (refine ⟨(by intro y hy;obtain ⟨x,_,rfl⟩:=List.mem_map.1 hy;first | rfl | exact ⟨rfl,rfl⟩),?_⟩;conv=>whnf)
 | (refine ⟨cap_ok (by first | omega | (simp only [List.length_map];omega)) rfl,?_⟩;conv=>whnf)
 | (refine ix_map (by omega) ?_;conv=>whnf)
 | (refine ix_str (by omega) ?_;conv=>whnf)
 | (refine wrap64 (by omega) ?_;conv=>whnf)
 | (exfalso;simp only [List.length_map,List.length_cons,List.length_nil,List.length_append] at h;omega)
 | ((with_reducible refine endx_go ?_);first | (refine endxv (view_tup (vlc (view_agg (vlc rfl (vlc rfl (vlc rfl (vlc rfl (vlc rfl (vlc rfl vln))))))) (vlc rfl vln))) ?_;(rw [jof_8 h20])<;>rfl;done))
 | (refine ⟨rfl,?_⟩;conv=>whnf)
  | fail
  )
theorem c9b (s : Bs) (hs : s.length < 1000000) (h20 : ¬ 20000 < s.length) (h18 : s.length < 18) : Fn 15 [.str s] (.tup [(jofR s).1.enc,i (jofR s).2]):=by
 refine run_walkF eok Tryz.func15 rfl (by kernel_rfl) ?_
 conv=>whnf
 repeat' (first
 | ((with_reducible refine on_dec_f ?_ ?_);(focus ((try simp only [List.length_map,List.length_cons,List.length_nil,List.length_append]);omega));conv=>whnf)
 | ((with_reducible refine on_dec_t ?_ ?_);(focus ((try simp only [List.length_map,List.length_cons,List.length_nil,List.length_append]);omega));conv=>whnf)
 | ((with_reducible refine on_dec (fun h=>?_) (fun h=>?_))<;>(try simp only [List.length_map] at h)<;>conv=>whnf)
 | ((with_reducible refine on_ndec (fun h=>?_) (fun h=>?_))<;>(try simp only [List.length_map] at h)<;>conv=>whnf)
 | ((with_reducible refine on_not (fun h=>?_) (fun h=>?_))<;>conv=>whnf)
 | ((with_reducible refine onBool_split (fun h=>?_) (fun h=>?_))<;>conv=>whnf)
 | (refine ⟨[],[(1,3)],(by decide +kernel),?_⟩;conv=>whnf)
 | (refine ⟨[],[(1,3),(1,6),(1,9)],(by decide +kernel),?_⟩;conv=>whnf)
 | (refine ⟨⟨(by first | rfl | (simp;done)),cap_ok (by simp only [List.length_map,List.length_cons,List.length_nil,List.length_append];omega) rfl⟩,?_⟩;conv=>whnf)
 | (refine ⟨mem_one ⟨rfl,rfl⟩,?_⟩;conv=>whnf)
 | (refine ⟨(by intro y hy;obtain ⟨x,_,rfl⟩:=List.mem_map.1 hy;first | rfl | exact ⟨rfl,rfl⟩),?_⟩;conv=>whnf)
 | (refine ⟨cap_ok (by first | omega | (simp only [List.length_map];omega)) rfl,?_⟩;conv=>whnf)
 | (refine ix_map (by omega) ?_;conv=>whnf)
 | (refine ix_str (by omega) ?_;conv=>whnf)
 | (refine wrap64 (by omega) ?_;conv=>whnf)
 | (exfalso;simp only [List.length_map,List.length_cons,List.length_nil,List.length_append] at h;omega)
 | ((with_reducible refine endx_go ?_);first | (refine endxv (view_tup (vlc (view_agg (vlc rfl (vlc rfl (vlc rfl (vlc rfl (vlc rfl (vlc rfl vln))))))) (vlc rfl vln))) ?_;(rw [jof_18 h20 h18])<;>rfl;done))
 | (refine ⟨rfl,?_⟩;conv=>whnf)
  | fail
  )
theorem c9l (s : Bs) (hs : s.length < 1000000) (h20 : ¬ 20000 < s.length) (h18 : ¬ s.length < 18) : Fn 15 [.str s] (.tup [(jofR s).1.enc,i (jofR s).2]):=by
 have q0:=nAt_lt4 s 0;have q4:=nAt_lt4 s 4;have q8:=nAt_lt4 s 8;have q12:=nAt_lt4 s 12;have q16:=nAt_lt2 s 16
 refine run_walkRF eok Tryz.func15 rfl (by kernel_rfl) ?_
 conv=>whnf
 repeat' (first
 | ((with_reducible refine range_go ?_);have hz3 : 18 + 8 * nAt s 16 2 ≤ s.length:=(by omega);refine rounds_st (σ:=List Opn) (it77 ((s.drop 18).take (8 * nAt s 16 2)) (nAt s 16 2) (by rw [List.length_take,List.length_drop];omega) (by rw [List.length_take,List.length_drop];omega)) (fun k out=>out.length = k ∧ out = opnsAt s k) (fun _ _=>[(0,.d (.str s)),(2,.ptr 0 0 0),(6,.ptr 1 0 0),(7,.d (i (18 + 8 * nAt s 16 2 : Nat)))]) (fun _ out=>[⟨[.junk],6,0⟩,⟨[.agg [.d (i (nAt s 0 4)),.d (i (nAt s 4 4)),.d (i (nAt s 8 4)),.d (i (nAt s 12 4)),.nilS,.sl 2 0 out.length 3 none]],6,0⟩,⟨(out.map Opn.enc).map .d,3,0⟩]) [] ⟨rfl,by unfold opnsAt;rfl⟩ (.inr ⟨[.old 0,.old 3,.void 3],rfl,rfl,⟨rfl,⟨rfl,rfl,rfl⟩,⟨rfl,rfl,rfl⟩,(congrArg (fun z=>D.int .i64 z) (by omega)),trivial⟩,⟨⟨rfl,rfl,.inr ⟨trivial,trivial⟩⟩,⟨rfl,rfl,.inr ⟨⟨rfl,rfl,rfl,rfl,trivial,⟨rfl,rfl,rfl,rfl⟩,trivial⟩,trivial⟩⟩,⟨rfl,rfl,(by decide),rfl⟩,trivial⟩⟩) (fun k out hk C hI hC=>?_) (fun out hI=>?_);(focus (rw [winG_eq];refine ⟨_,rfl,?_⟩));all_goals (conv=>whnf))
 | ((with_reducible show C _);refine hC (out ++ [opnAt s (18 + 8 * k)]) _ ⟨by simp [hI.1],by rw [opnsAt_succ,hI.2]⟩ (.inr ⟨[.old 0,.old 1,.old 4],rfl,rfl,⟨rfl,⟨rfl,rfl,rfl⟩,⟨rfl,rfl,rfl⟩,rfl,trivial⟩,⟨⟨rfl,rfl,.inr ⟨trivial,trivial⟩⟩,⟨rfl,rfl,.inr ⟨⟨rfl,rfl,rfl,rfl,trivial,⟨rfl,rfl,(by simp),rfl,rfl⟩,trivial⟩,trivial⟩⟩,⟨rfl,rfl,.inr (wks_add (wksd _ _) (by unfold opnAt;exact ⟨rfl,rfl,rfl,rfl,trivial⟩))⟩,trivial⟩⟩))
 | ((with_reducible refine on_nf ?_ ?_);(focus (exact decide_eq_false (rg_ne hal)));conv=>whnf)
 | ((with_reducible refine on_nt ?_ ?_);(focus (exact decide_eq_true (List.drop_eq_nil_of_le hal)));conv=>whnf)
 | ((with_reducible refine on_dec_t (by assumption) ?_);conv=>whnf)
 | ((with_reducible refine on_dec_f (by assumption) ?_);conv=>whnf)
 | ((with_reducible refine onBool_t (by assumption) ?_);conv=>whnf)
 | ((with_reducible refine onBool_f (by assumption) ?_);conv=>whnf)
 | ((with_reducible refine on_nt (by assumption) ?_);conv=>whnf)
 | ((with_reducible refine on_nf (by assumption) ?_);conv=>whnf)
 | ((with_reducible refine on_ndec_t (by first | assumption | rfl) ?_);conv=>whnf)
 | ((with_reducible refine on_ndec_f (by assumption) ?_);conv=>whnf)
 | ((with_reducible refine on_dec_t rfl ?_);conv=>whnf)
 | ((with_reducible refine on_dec_f ?_ ?_);(focus (omega));conv=>whnf)
 | ((with_reducible refine on_dec_f ?_ ?_);(focus ((try simp only [List.length_map,List.length_cons,List.length_nil,List.length_append]);omega));conv=>whnf)
 | ((with_reducible refine on_dec_t ?_ ?_);(focus ((try simp only [List.length_map,List.length_cons,List.length_nil,List.length_append]);omega));conv=>whnf)
 | ((with_reducible refine on_dec (fun h=>?_) (fun h=>?_))<;>(try simp only [List.length_map] at h)<;>conv=>whnf)
 | ((with_reducible refine on_ndec (fun h=>?_) (fun h=>?_))<;>(try simp only [List.length_map] at h)<;>conv=>whnf)
 | ((with_reducible refine on_not (fun h=>?_) (fun h=>?_))<;>conv=>whnf)
 | ((with_reducible refine onBool_split (fun h=>?_) (fun h=>?_))<;>conv=>whnf)
 | ((with_reducible refine call_go ?_);(first | refine call_step (run_bs (s:=s) (c47d 16 (by omega)) rfl rfl Nat.two_pos (by omega)) ?_ | refine call_step (run_data (xs:=[_]) (c47w hz3 hk) _) ?_ | refine call_step (run_frz (s:=s) (c48 ((s.drop 18).take (8 * nAt s 16 2))) (by rw [Nat.add_sub_cancel_left]) rfl (by omega) rfl) ?_ | refine call_step (run_data (xs:=[_]) (c49w hz3 hk) _) ?_ | refine call_step (run_data (xs:=[_]) (c50 (s.drop a) (by rw [List.length_drop];omega)) _) ?_ | refine call_step (run_view (c28 ⟨nAt s 0 4,nAt s 4 4,nAt s 8 4,nAt s 12 4,acc,out⟩ (by have:=hIb.few;have:=hIb.le;show acc.length < 1000000;omega) hIb.nm (by show out.length < 1000000;omega)) rfl (vlc (view_agg (vlc rfl (vlc rfl (vlc rfl (vlc rfl (vlc (view_map rfl Nat.two_pos) (vlc (view_map rfl Nat.two_pos) vln))))))) vln)) ?_ | refine call_step (run_view (c45d (s:=s) 0 (by omega) hs) rfl (vlc rfl (vlc (view_ptr rfl Nat.two_pos rfl (view_byt rfl Nat.two_pos (by omega))) vln))) ?_ | refine call_step (run_view (c45d (s:=s) 1 (by omega) hs) rfl (vlc rfl (vlc (view_ptr rfl Nat.two_pos rfl (view_byt rfl Nat.two_pos (by omega))) vln))) ?_ | refine call_step (run_view (c45d (s:=s) 2 (by omega) hs) rfl (vlc rfl (vlc (view_ptr rfl Nat.two_pos rfl (view_byt rfl Nat.two_pos (by omega))) vln))) ?_ | refine call_step (run_view (c45d (s:=s) 3 (by omega) hs) rfl (vlc rfl (vlc (view_ptr rfl Nat.two_pos rfl (view_byt rfl Nat.two_pos (by omega))) vln))) ?_);conv=>whnf)
 | (refine ⟨[],[(1,3)],(by decide +kernel),?_⟩;conv=>whnf)
 | (refine ⟨[],[(1,3),(1,6),(1,9)],(by decide +kernel),?_⟩;conv=>whnf)
 | ((with_reducible refine loop_go ?_);first | (refine loop3 (fun (a : Nat) (acc : List Chg) (f : Nat)=>s.length - a) (fun (a : Nat) (acc : List Chg) (f : Nat)=>Rg s a acc f) (fun (a : Nat) (acc : List Chg) (f : Nat)=>[(2,.ptr 0 0 0),(6,.ptr 1 0 0),(9,.d (.str (s.drop a)))]) (fun (a : Nat) (acc : List Chg) (f : Nat)=>[⟨[.junk],6,0⟩,⟨[.agg [.d (i (nAt s 0 4)),.d (i (nAt s 4 4)),.d (i (nAt s 8 4)),.d (i (nAt s 12 4)),.sl 3 0 acc.length 8 none,.sl 2 0 out.length 3 none]],6,0⟩,⟨(out.map Opn.enc).map .d,3,0⟩,⟨(acc.map Chg.enc).map .d,8,0⟩]) (18 + 8 * (nAt s 16 2)) ([]) (s.length) (by exact rg_0 (by omega)) ?_ (fun a acc f Cb hIb hCb=>?_);(exact ⟨[.old 0,.old 1,.old 2,.void 8],rfl,rfl,⟨⟨rfl,rfl,rfl⟩,⟨rfl,rfl,rfl⟩,(congrArg D.str (by rw [List.take_length])),trivial⟩,⟨⟨rfl,rfl,.inr ⟨trivial,trivial⟩⟩,⟨rfl,rfl,.inr ⟨⟨rfl,rfl,rfl,rfl,⟨rfl,rfl,rfl,rfl⟩,⟨rfl,rfl,rfl,rfl,rfl⟩,trivial⟩,trivial⟩⟩,⟨rfl,rfl,.inl ⟨_,rfl,rfl⟩⟩,⟨rfl,rfl,(by decide),rfl⟩,trivial⟩⟩);have hle:=hIb.le;rcases Nat.lt_or_ge a s.length with hal | hal;all_goals (conv=>whnf)))
 | ((with_reducible show Cb _ _);first | (refine hCb (a + (ofR (s.drop a)).2.1.toNat) (acc ++ [(ofR (s.drop a)).1]) (f - 1) _ _ ?_ (by have hz:=ofR_sz (s:=s.drop a) (by assumption);omega) ?_;clear hCb;rotate_left;(exact ⟨[.old 0,.old 1,.old 2,.old 6],rfl,rfl,⟨⟨rfl,rfl,rfl⟩,⟨rfl,rfl,rfl⟩,(congrArg D.str (by rw [← List.drop_drop,List.take_length])),trivial⟩,⟨⟨rfl,rfl,.inr ⟨trivial,trivial⟩⟩,⟨rfl,rfl,.inr ⟨⟨rfl,rfl,rfl,rfl,⟨rfl,rfl,(by simp),rfl,rfl⟩,⟨rfl,rfl,rfl,rfl,rfl⟩,trivial⟩,trivial⟩⟩,⟨rfl,rfl,.inl ⟨_,rfl,rfl⟩⟩,⟨rfl,rfl,.inr (wks_add (wksd _ _) rfl)⟩,trivial⟩⟩);(exact rg_n hIb (by omega) (by assumption))))
 | (refine ⟨⟨(by first | rfl | (simp;done)),cap_ok (by simp only [List.length_map,List.length_cons,List.length_nil,List.length_append];omega) rfl⟩,?_⟩;conv=>whnf)
 | (refine ⟨mem_one ⟨rfl,rfl⟩,?_⟩;conv=>whnf)
 | (refine ⟨(by intro y hy;obtain ⟨x,_,rfl⟩:=List.mem_map.1 hy;first | rfl | exact ⟨rfl,rfl⟩),?_⟩;conv=>whnf)
 | (refine ⟨cap_ok (by first | omega | (simp only [List.length_map];omega)) rfl,?_⟩;conv=>whnf)
 | (refine ix_map (by omega) ?_;conv=>whnf)
 | (refine ix_str (by omega) ?_;conv=>whnf)
 | (refine own_sl 16 s.length rfl rfl ⟨by omega,Nat.le_refl _⟩ ?_;conv=>whnf)
 | (refine own_sl 18 (18 + 8 * nAt s 16 2) rfl (by omega) ⟨by omega,by omega⟩ ?_;conv=>whnf)
 | (refine sl_str (18 + 8 * nAt s 16 2) s.length (by omega) rfl ⟨by omega,Nat.le_refl _⟩ ?_;conv=>whnf)
 | (refine sl_map (f:=u8) (l:=opW s (nAt s 16 2) k) 6 (opW s (nAt s 16 2) k).length rfl (by simp only [List.length_map]) ⟨by rw [opW_len hz3 hk];omega,Nat.le_refl _⟩ (fun x=>rfl) ?_;conv=>whnf)
 | (refine sl_str (ofR (s.drop a)).2.1.toNat (s.drop a).length (by have hz:=ofR_sz (s:=s.drop a) (by assumption);have hl:=hz.2.1;rw [List.length_drop] at hl;omega) rfl ⟨by have hz:=ofR_sz (s:=s.drop a) (by assumption);have hl:=hz.2.1;rw [List.length_drop] at hl;(try rw [List.length_drop]);omega,Nat.le_refl _⟩ ?_;conv=>whnf)
 | (refine wrap64 (by omega) ?_;conv=>whnf)
 | (refine wrap64 (by have q:=nAt_lt2 s (18 + 8 * k + 6);omega) ?_;conv=>whnf)
 | (refine ⟨⟨by omega,by omega⟩,?_⟩;conv=>whnf)
 | (refine ⟨Nat.le_refl _,?_⟩;conv=>whnf)
 | (refine ⟨⟨(by simp only [List.length_map,List.length_append];omega),cap_ok (by have:=hIb.few;have:=hIb.le;simp only [List.length_map,List.length_cons,List.length_nil,List.length_append];omega) rfl⟩,?_⟩;conv=>whnf)
 | (refine ⟨⟨(by simp only [List.length_map,List.length_append];omega),cap_ok (by have:=hI.1;simp only [List.length_map,List.length_cons,List.length_nil,List.length_append];omega) rfl⟩,?_⟩;conv=>whnf)
 | (refine ⟨cap_ok (by simp only [List.length_map,List.length_cons,List.length_nil,List.length_append];omega) rfl,?_⟩;conv=>whnf)
 | (exfalso;simp only [List.length_map,List.length_cons,List.length_nil,List.length_append] at h;omega)
 | ((with_reducible refine endx_go ?_);first | (refine endxv (view_tup (vlc (view_agg (vlc rfl (vlc rfl (vlc rfl (vlc rfl (vlc rfl (vlc rfl vln))))))) (vlc rfl vln))) ?_;(rw [jof_14 h20 h18 (by omega)])<;>rfl;done) | (refine endxv (view_tup (vlc (view_agg (vlc rfl (vlc rfl (vlc rfl (vlc rfl (vlc rfl (vlc rfl vln))))))) (vlc rfl vln))) ?_;(rw [jof_e h20 h18 (by omega) (rg_e hIb (by omega) (by assumption)) (by assumption)])<;>rfl;done) | (have ho : (⟨nAt s 0 4,nAt s 4 4,nAt s 8 4,nAt s 12 4,acc,out⟩ : Jrn) = hdJ s acc:=(by unfold hdJ;rw [hI.2]);have h4:=jof_c h20 h18 (by omega) (rg_end hIb (by omega)) (by rw [← ho];assumption);rw [ho];refine endxv (view_tup (vlc (view_agg (vlc rfl (vlc rfl (vlc rfl (vlc rfl (vlc rfl (vlc rfl vln))))))) (vlc rfl vln))) ?_;(rw [h4])<;>rfl;done) | (have ho : (⟨nAt s 0 4,nAt s 4 4,nAt s 8 4,nAt s 12 4,acc,out⟩ : Jrn) = hdJ s acc:=(by unfold hdJ;rw [hI.2]);have h4:=jof_o h20 h18 (by omega) (rg_end hIb (by omega)) (by rw [← ho];assumption);rw [← ho] at h4;refine endxv (view_tup (vlc (view_agg (vlc rfl (vlc rfl (vlc rfl (vlc rfl (vlc (view_map rfl Nat.two_pos) (vlc (view_map rfl Nat.two_pos) vln))))))) (vlc rfl vln))) ?_;(rw [h4])<;>rfl;done))
 | (refine ⟨rfl,?_⟩;conv=>whnf)
  | fail
  )
end Go.Proofs.YtkeeienjocbkbaaGreatDoor
namespace Go.Proofs.YtkeeienjocbkbaaGreatDoor
open Go Dw Go.ChangeShapes Go.WideShapes Go.RowKit
set_option maxRecDepth 100000
theorem own24z : ownKnob Tryz.prog.godebug = none:=by kernel_rfl
theorem laidOut24z : laidOutB Tryz.prog = true:=by kernel_rfl
def laid24z : List (String × DataW Unit) := [("unicode/utf8.acceptRanges", Rows.laid_unicode_utf8_acceptRanges), ("unicode/utf8.first", Rows.laid_unicode_utf8_first)]
def table24z : Array Value:=(Pinned.utf8FirstZ.map fun (n : Nat)=>Value.int .u8 n).toArray
def withTable (o : Go.Obj) : Go.Obj:=match o with
 | Go.Obj.cells _ t fr=>Go.Obj.cells table24z t fr
 | o=>o
noncomputable def wit24z (os : Os) : World:=
 { World.doorLaid Tryz.prog 60 os with heap:=(World.doorLaid Tryz.prog 60 os).heap.modify 0 withTable }
theorem door_met24z (os : Os) (args : Array Value) : laidMetH Tryz.prog laid24z ((wit24z os).forCall (fun _ _=>0) ⟨#[],args,[]⟩).memory:=
 laidMetH_of_parts3 (fuel:=8) (laidMet_of_run' 8 (by kernel_rfl) (by kernel_rfl)) (by kernel_rfl) (by kernel_rfl)
theorem shaped24z (os : Os) (args : Array Value) : ((wit24z os).forCall (fun _ _=>0) ⟨#[],args,[]⟩).Shaped Tryz.prog:=
 World.shaped_of_RefB (by kernel_rfl) (by kernel_rfl)
theorem card_hl {P : Program} {nm : String} {f0 : Nat} {fn0 : Func} {lk : Bool} (h1 : P.funcNamed nm = some f0) (h2 : P.funcs[f0]? = some fn0) (h3 : lk = P.looks []) (h4 : (fn0.params.toList.all fun t=>!P.wantsStandIn t) = true) :
  ∀ f fn,P.funcNamed nm = some f → P.funcs[f]? = some fn → lk = P.looks [] ∧ ∀ (j : Nat) t,fn.params[j]? = some t → P.wantsStandIn t = false:=by
 intro f fn h5 h6
 obtain rfl : f = f0:=(Option.some.inj (h1.symm.trans h5)).symm
 obtain rfl : fn = fn0:=(Option.some.inj (h2.symm.trans h6)).symm
 refine ⟨h3,fun j t ht=>?_⟩
 have:=List.all_eq_true.1 h4 t (List.mem_of_getElem? (by simpa using ht))
 simpa using this
end Go.Proofs.YtkeeienjocbkbaaGreatDoor
namespace Go.Proofs.YtkeeienjocbkbaaGreatDoor
open Go Dw
theorem map_of {α : Type} {f : α → D} : ∀ (l : List D),(∀ y ∈ l,∃ a,y = f a) → ∃ r : List α,l = r.map f
 | [],_=>⟨[],rfl⟩
 | x :: l,h=>by
  obtain ⟨a,rfl⟩:=h x (by simp)
  obtain ⟨r,rfl⟩:=map_of l fun y hy=>h y (by simp [hy])
  exact ⟨a :: r,rfl⟩
theorem shpRef {n : Nat} {x : D} (h : shp E (n + 2) 34 x) : ∃ r : Ref,x = r.enc:=by
 obtain ⟨cs,rfl,y1,r1,⟨k1,rfl,_⟩,rfl,y2,r2,⟨k2,rfl,_⟩,rfl,rfl⟩:=h
 exact ⟨⟨k1,k2⟩,rfl⟩
theorem shpEvt {n : Nat} {x : D} (h : shp E (n + 3) 36 x) : ∃ r : Evt,x = r.enc:=by
 obtain ⟨cs,rfl,y2,r2,h2,rfl,y3,r3,h3,rfl,y4,r4,⟨k4,rfl,_⟩,rfl,y5,r5,⟨k5,rfl,_⟩,rfl,y6,r6,⟨k6,rfl,_⟩,rfl,y7,r7,h7,rfl,y8,r8,⟨k8,rfl,_⟩,rfl,rfl⟩:=h
 obtain ⟨a,rfl⟩:=shpRef h2
 obtain ⟨b,rfl⟩:=shpRef h3
 obtain ⟨c,rfl⟩:=shpRef h7
 exact ⟨⟨a,b,k4,k5,k6,c,k8⟩,rfl⟩
theorem wf_u16 {k : Int} (h : (Lit.int .u16 k).wf = true) : 0 ≤ k ∧ k < 65536:=by
 simp only [Lit.wf,Bool.and_eq_true,decide_eq_true_eq] at h
 have h1 : IntKind.u16.min = 0:=rfl
 have h2 : IntKind.u16.max = 65535:=rfl
 omega
theorem shpU16 {n : Nat} {x : D} (h : shp E (n + 1) 23 x) : ∃ m : Int,(0 ≤ m ∧ m < 65536) ∧ x = .int .u16 m:=by
 obtain ⟨k,rfl,hw⟩:=h
 exact ⟨k,wf_u16 hw,rfl⟩
end Go.Proofs.YtkeeienjocbkbaaGreatDoor
namespace Go.Proofs.YtkeeienjocbkbaaGreatDoor
open Go Dw
theorem shpEvts {n : Nat} {x : D} (h : shp E (n + 4) 22 x) : ∃ l : List Evt,x = .fs (l.map Evt.enc):=by
 obtain ⟨l,rfl,_,h1⟩:=h
 obtain ⟨a,rfl⟩:=map_of l fun y hy=>shpEvt (h1 y hy)
 exact ⟨a,rfl⟩
end Go.Proofs.YtkeeienjocbkbaaGreatDoor
