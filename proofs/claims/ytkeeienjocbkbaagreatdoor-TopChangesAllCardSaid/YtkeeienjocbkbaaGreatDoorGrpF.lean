/-
  Own lemmas, no conditions: Xf, Xj, Pb, Xe, Pe, Xk, Xl, Pf, Xm, Xn, Pg, Xo, Xp, Xq, Xr, Xs, Yg.
-/
import Derived.Test.YtkeeienjocbkbaaGreatDoorGrpE
set_option linter.unusedVariables false
set_option linter.unusedSimpArgs false
namespace Go.Proofs.YtkeeienjocbkbaaGreatDoor
open Go Dw
set_option maxRecDepth 10000
attribute [local irreducible] Run
set_option maxHeartbeats 2000000
def delL (L : List D) (a b : Nat) : List D:=L.take a ++ L.drop b ++ L.drop (a + (L.length - b))
theorem delL_over {L : List D} {a b n : Nat} (h : a ≤ b ∧ b ≤ L.length) (hn : n = a) : over (L.map AV.d) n ((L.map AV.d).drop b) = (delL L a b).map .d:=by
 subst hn
 simp only [over,delL,List.map_append,List.map_take,List.map_drop,List.length_drop,List.length_map]
theorem delL_len {L : List D} {a b : Nat} (h : a ≤ b ∧ b ≤ L.length) : (delL L a b).length = L.length:=by
 simp only [delL,List.length_append,List.length_take,List.length_drop];omega
theorem del_eq {L : List D} {a b : Nat} (h : a = b) : L.take a ++ L.drop b = L:=by subst h;exact List.take_append_drop _ _
theorem delL_pre {L : List D} {a b n m : Nat} {z : AV} (h : a ≤ b ∧ b ≤ L.length) (hn : n = a + (L.length - b)) : over ((delL L a b).map AV.d) n (List.replicate m z) = (L.take a ++ L.drop b).map .d ++ (List.replicate m z ++ ((delL L a b).map AV.d).drop (n + m)):=by
 subst hn
 have e : ((delL L a b).map AV.d).take (a + (L.length - b)) = (L.take a ++ L.drop b).map .d:=by
  rw [← List.map_take]
  unfold delL
  rw [List.take_left' (by simp only [List.length_append,List.length_take,List.length_drop];omega)]
 unfold over
 rw [e,List.length_replicate,List.append_assoc]
theorem del107 (L : List D) (a b : Nat) (hab : a ≤ b ∧ b ≤ L.length) (hL : L.length < 1000000) (hk : ∀ y ∈ L,y.cells.length = 8 ∧ y.memOk = true) : Run Tryz.prog 107 [.sl 0 0 L.length 8 none,.d (i a),.d (i b)] [⟨L.map .d,8,0⟩] (.sl 1 0 (L.length - (b - a)) 8 none) [⟨[],8,2⟩,⟨(L.take a ++ L.drop b).map .d,8,0⟩]:=by
 refine run_walkV eok Tryz.func107 rfl (by kernel_rfl) [0] (by rfl) [6] ?_
 conv=>whnf
 repeat' (first
 | ((with_reducible refine on_dec_f ?_ ?_);(focus ((try simp only [List.length_map,List.length_cons,List.length_nil,List.length_append]);omega));conv=>whnf)
 | ((with_reducible refine on_dec_t ?_ ?_);(focus ((try simp only [List.length_map,List.length_cons,List.length_nil,List.length_append]);omega));conv=>whnf)
 | ((with_reducible refine on_dec (fun h=>?_) (fun h=>?_))<;>(try simp only [List.length_map] at h)<;>conv=>whnf)
 | ((with_reducible refine on_ndec (fun h=>?_) (fun h=>?_))<;>(try simp only [List.length_map] at h)<;>conv=>whnf)
 | ((with_reducible refine on_not (fun h=>?_) (fun h=>?_))<;>conv=>whnf)
 | ((with_reducible refine onBool_split (fun h=>?_) (fun h=>?_))<;>conv=>whnf)
 | (refine ⟨[],[],(by decide +kernel),?_⟩;conv=>whnf)
 | (refine ⟨⟨(by first | rfl | (simp;done)),cap_ok (by simp only [List.length_map,List.length_cons,List.length_nil,List.length_append];omega) rfl⟩,?_⟩;conv=>whnf)
 | (refine ⟨mem_one ⟨rfl,rfl⟩,?_⟩;conv=>whnf)
 | (refine ⟨(by intro y hy;obtain ⟨x,_,rfl⟩:=List.mem_map.1 hy;first | rfl | exact ⟨rfl,rfl⟩),?_⟩;conv=>whnf)
 | (refine ⟨cap_ok (by first | omega | (simp only [List.length_map];omega)) rfl,?_⟩;conv=>whnf)
 | (refine ix_map (by omega) ?_;conv=>whnf)
 | (refine ix_str (by omega) ?_;conv=>whnf)
 | (refine wrap64 (by omega) ?_;conv=>whnf)
 | (refine ⟨⟨by omega,by omega,by omega,by omega⟩,?_⟩;conv=>whnf)
 | (refine srcA (by (try simp only [List.length_map]);omega) (known_d fun y hy=>(hk y hy).2) ?_;conv=>whnf)
 | (refine own_sl 0 a rfl rfl ⟨by omega,by omega⟩ ?_;conv=>whnf)
 | (refine own_sl b L.length rfl rfl ⟨by omega,by omega⟩ ?_;conv=>whnf)
 | (refine wrap64 (by omega) ?_;conv=>whnf)
 | (refine ⟨[(0,.sl 1 0 (a + (L.length - b)) 8 none),(7,.d (i L.length))],[⟨[],8,2⟩,⟨(delL L a b).map .d,8,0⟩],⟨[.dead,.old 0],rfl,rfl,⟨⟨rfl,rfl,?_,rfl,rfl⟩,rfl,trivial⟩,⟨rfl,⟨rfl,rfl,.inl ⟨delL L a b,?_,rfl⟩⟩,trivial⟩⟩,?_⟩;rotate_left 2;conv=>whnf)
 | (exfalso;simp only [List.length_drop,List.length_map] at h;omega)
 | ((simp only [List.length_drop,List.length_map];omega);done)
 | ((simp only [Nat.zero_add,Nat.sub_zero];exact delL_over hab rfl);done)
 | (refine own_slr (a + (L.length - b)) L.length _ rfl Nat.two_pos rfl rfl ⟨by omega,(by simp only [List.length_map,delL_len hab];omega)⟩ ?_;conv=>whnf)
 | (refine ⟨(by simp only [List.length_map,delL_len hab];omega),?_⟩;conv=>whnf)
 | (exfalso;simp only [List.length_map,List.length_cons,List.length_nil,List.length_append] at h;omega)
 | ((with_reducible refine endx_go ?_);first | (refine endX_of (.inl ⟨[.dead,.old 0],rfl,rfl,⟨⟨rfl,rfl,(by omega),rfl,rfl⟩,trivial⟩,⟨rfl,⟨rfl,rfl,.inl ⟨L,rfl,(by rw [del_eq (by omega)])⟩⟩,trivial⟩⟩);done) | (refine endX_of (.inl ⟨[.dead,.cut 1 (a + (L.length - b))],rfl,rfl,⟨⟨⟨rfl,fun _=>(by omega)⟩,rfl,(by omega),rfl,rfl⟩,trivial⟩,⟨rfl,⟨rfl,rfl,_,_,delL_pre hab (by omega),(by simp only [List.length_map,List.length_append,List.length_take,List.length_drop];omega),.inl ⟨L.take a ++ L.drop b,rfl,rfl⟩⟩,trivial⟩⟩);done))
 | (refine ⟨rfl,?_⟩;conv=>whnf)
  | fail
  )
theorem del105 (L : List D) (a b : Nat) (hab : a ≤ b ∧ b ≤ L.length) (hL : L.length < 1000000) (hk : ∀ y ∈ L,y.cells.length = 3 ∧ y.memOk = true) : Run Tryz.prog 105 [.sl 0 0 L.length 3 none,.d (i a),.d (i b)] [⟨L.map .d,3,0⟩] (.sl 1 0 (L.length - (b - a)) 3 none) [⟨[],3,2⟩,⟨(L.take a ++ L.drop b).map .d,3,0⟩]:=by
 refine run_walkV eok Tryz.func105 rfl (by kernel_rfl) [0] (by rfl) [6] ?_
 conv=>whnf
 repeat' (first
 | ((with_reducible refine on_dec_f ?_ ?_);(focus ((try simp only [List.length_map,List.length_cons,List.length_nil,List.length_append]);omega));conv=>whnf)
 | ((with_reducible refine on_dec_t ?_ ?_);(focus ((try simp only [List.length_map,List.length_cons,List.length_nil,List.length_append]);omega));conv=>whnf)
 | ((with_reducible refine on_dec (fun h=>?_) (fun h=>?_))<;>(try simp only [List.length_map] at h)<;>conv=>whnf)
 | ((with_reducible refine on_ndec (fun h=>?_) (fun h=>?_))<;>(try simp only [List.length_map] at h)<;>conv=>whnf)
 | ((with_reducible refine on_not (fun h=>?_) (fun h=>?_))<;>conv=>whnf)
 | ((with_reducible refine onBool_split (fun h=>?_) (fun h=>?_))<;>conv=>whnf)
 | (refine ⟨[],[],(by decide +kernel),?_⟩;conv=>whnf)
 | (refine ⟨⟨(by first | rfl | (simp;done)),cap_ok (by simp only [List.length_map,List.length_cons,List.length_nil,List.length_append];omega) rfl⟩,?_⟩;conv=>whnf)
 | (refine ⟨mem_one ⟨rfl,rfl⟩,?_⟩;conv=>whnf)
 | (refine ⟨(by intro y hy;obtain ⟨x,_,rfl⟩:=List.mem_map.1 hy;first | rfl | exact ⟨rfl,rfl⟩),?_⟩;conv=>whnf)
 | (refine ⟨cap_ok (by first | omega | (simp only [List.length_map];omega)) rfl,?_⟩;conv=>whnf)
 | (refine ix_map (by omega) ?_;conv=>whnf)
 | (refine ix_str (by omega) ?_;conv=>whnf)
 | (refine wrap64 (by omega) ?_;conv=>whnf)
 | (refine ⟨⟨by omega,by omega,by omega,by omega⟩,?_⟩;conv=>whnf)
 | (refine srcA (by (try simp only [List.length_map]);omega) (known_d fun y hy=>(hk y hy).2) ?_;conv=>whnf)
 | (refine own_sl 0 a rfl rfl ⟨by omega,by omega⟩ ?_;conv=>whnf)
 | (refine own_sl b L.length rfl rfl ⟨by omega,by omega⟩ ?_;conv=>whnf)
 | (refine wrap64 (by omega) ?_;conv=>whnf)
 | (refine ⟨[(0,.sl 1 0 (a + (L.length - b)) 3 none),(7,.d (i L.length))],[⟨[],3,2⟩,⟨(delL L a b).map .d,3,0⟩],⟨[.dead,.old 0],rfl,rfl,⟨⟨rfl,rfl,?_,rfl,rfl⟩,rfl,trivial⟩,⟨rfl,⟨rfl,rfl,.inl ⟨delL L a b,?_,rfl⟩⟩,trivial⟩⟩,?_⟩;rotate_left 2;conv=>whnf)
 | (exfalso;simp only [List.length_drop,List.length_map] at h;omega)
 | ((simp only [List.length_drop,List.length_map];omega);done)
 | ((simp only [Nat.zero_add,Nat.sub_zero];exact delL_over hab rfl);done)
 | (refine own_slr (a + (L.length - b)) L.length _ rfl Nat.two_pos rfl rfl ⟨by omega,(by simp only [List.length_map,delL_len hab];omega)⟩ ?_;conv=>whnf)
 | (refine ⟨(by simp only [List.length_map,delL_len hab];omega),?_⟩;conv=>whnf)
 | (exfalso;simp only [List.length_map,List.length_cons,List.length_nil,List.length_append] at h;omega)
 | ((with_reducible refine endx_go ?_);first | (refine endX_of (.inl ⟨[.dead,.old 0],rfl,rfl,⟨⟨rfl,rfl,(by omega),rfl,rfl⟩,trivial⟩,⟨rfl,⟨rfl,rfl,.inl ⟨L,rfl,(by rw [del_eq (by omega)])⟩⟩,trivial⟩⟩);done) | (refine endX_of (.inl ⟨[.dead,.cut 1 (a + (L.length - b))],rfl,rfl,⟨⟨⟨rfl,fun _=>(by omega)⟩,rfl,(by omega),rfl,rfl⟩,trivial⟩,⟨rfl,⟨rfl,rfl,_,_,delL_pre hab (by omega),(by simp only [List.length_map,List.length_append,List.length_take,List.length_drop];omega),.inl ⟨L.take a ++ L.drop b,rfl,rfl⟩⟩,trivial⟩⟩);done))
 | (refine ⟨rfl,?_⟩;conv=>whnf)
  | fail
  )
end Go.Proofs.YtkeeienjocbkbaaGreatDoor
namespace Go.Proofs.YtkeeienjocbkbaaGreatDoor
open Go Dw
set_option maxRecDepth 10000
attribute [local irreducible] Run
set_option maxHeartbeats 4000000
theorem c121 {h : Heap} {s2 l2 : Nat} {c1 c2 : Option Nat} {o1 o2 : AO} (h1 : h[1]? = some o1) (h2 : h[0]? = some o2) (t1 : o1.st < 2) (t2 : o2.st < 2) (p2 : 0 < l2) : Run Tryz.prog 121 [.sl 1 0 1 3 c1,.sl 0 s2 l2 3 c2] h (.d (.bool false)) h:=
 run_overlaps (P:=Tryz.prog) (f:=121) (tS:=26) (tR:=4) (e:=84) (k:=3) (by kernel_rfl) (fun w=>Tryz.sizeOf84 w) (fun vs w=>by
  rw [run_callFunc_extern Tryz.func121 (by kernel_rfl) (by kernel_rfl) (by kernel_rfl) (e:=Extern.SlicesOverlaps.overlaps #[26,26] #[4]) (by kernel_rfl)]) o1 o2 h1 h2 t1 t2 (by decide) (by decide) (by decide) p2
def insL (L : List D) (k : Nat) (y : D) : List D:=L.take k ++ y :: L.drop k
theorem own_slc {h : Heap} {id s len k c : Nat} {lo hi : Int} {K : AV → Prop} (a b : Nat) (ha : lo = a) (hb : hi = b) (hab : a ≤ b ∧ b ≤ c) (hk : K (.sl id (s + a) (b - a) k (some (c - a)))) : ownSl h id s len k (some c) lo hi K:=by
 subst ha;subst hb
 exact ⟨.mk,⟨by omega,by omega,.inr (by show ((b : Nat) : Int) ≤ c;omega)⟩,hk⟩
theorem srcB {l : List AV} {s len : Nat} {K : List AV → Prop} {A : List AV → Prop} (Y : List D) (e : (l.drop s).take len = Y.map .d) (h1 : s + len < l.length) (hm : ∀ z ∈ Y,z.memOk = true) (hk : K (Y.map .d)) :
  s + len ≤ l.length ∧ dropK l s (fun r=>onBool (r.length == len) (A r) (onOk ((r.take len).all AV.known) (takeK r len K))):=by
 refine ⟨by omega,?_⟩
 rw [dropK_eq]
 refine onBool_f (by rw [List.length_drop,beq_eq_false_iff_ne];omega) (onOk_of ?_ ?_)
 ·rw [e];exact known_d hm
 ·rw [takeK_eq,e];exact hk
theorem srcC {l : List AV} {s len : Nat} {K : List AV → Prop} {B : List AV → Prop} (Y : List D) (e : l.drop s = Y.map .d) (h1 : s + len = l.length) (hm : ∀ z ∈ Y,z.memOk = true) (hk : K (Y.map .d)) :
  s + len ≤ l.length ∧ dropK l s (fun r=>onBool (r.length == len) (onOk (r.all AV.known) (K r)) (B r)):=by
 refine ⟨by omega,?_⟩
 rw [dropK_eq]
 refine onBool_t ?_ (onOk_of ?_ ?_)
 ·rw [List.length_drop,beq_iff_eq];omega
 ·rw [e];exact known_d hm
 ·rw [e];exact hk
theorem ins_end {L : List D} {y : D} {k m n : Nat} (hk : k = L.length) (hn : n = L.length) (hm : 0 < m) {Z : List AV} (hZ : Z = [.d y]) : over (L.map AV.d ++ List.replicate m .junk) n Z = (insL L k y).map .d ++ List.replicate (m - 1) .junk:=by
 subst hk;subst hn;subst hZ
 unfold over insL
 rw [List.take_left' (by simp),List.take_of_length_le (Nat.le_refl _),List.drop_of_length_le (Nat.le_refl _),List.map_append,List.length_singleton]
 have e : (L.map AV.d ++ List.replicate m AV.junk).drop (L.length + 1) = List.replicate (m - 1) .junk:=by
  rw [List.drop_append,List.drop_of_length_le (by simp),List.nil_append,List.drop_replicate]
  congr 1;simp only [List.length_map];omega
 rw [e];rfl
theorem ins_new {L : List D} {y : D} {k n : Nat} (hk : k = L.length) (hn : n = L.length) {Z X : List AV} (hZ : Z = [.d y]) : ((L.map AV.d ++ X).drop 0).take n ++ Z = (insL L k y).map .d:=by
 subst hk;subst hn;subst hZ
 unfold insL
 rw [List.drop_zero,List.take_left' (by simp),List.take_of_length_le (Nat.le_refl _),List.drop_of_length_le (Nat.le_refl _),List.map_append];rfl
theorem ins_fill {L : List D} {y : D} {k a b : Nat} {X Y Z : List AV} (hk : k < L.length) (hX : X.length = L.length + 1) (hT : X.take k = (L.take k).map .d) (ha : a = k) (hb : b = k + 1) (hZ : Z = [.d y]) (hY : Y = (L.drop k).map .d) : over (over X a Z) b Y = (insL L k y).map .d:=by
 subst ha;subst hb;subst hZ;subst hY
 have e1 : (over X a [.d y]).take (a + 1) = (L.take a).map .d ++ [.d y]:=by
  unfold over
  rw [hT,List.take_left' (by simp;omega)]
 have e2 : (over X a [.d y]).length = L.length + 1:=by
  unfold over;simp;omega
 generalize over X a [.d y] = Z at e1 e2 ⊢
 have e3 : Z.drop (a + 1 + ((L.drop a).map AV.d).length) = []:=List.drop_eq_nil_of_le (by rw [e2];simp only [List.length_map,List.length_drop];omega)
 unfold over
 rw [e1,e3]
 unfold insL
 simp
theorem takeD {L : List D} {R : List AV} {s len k : Nat} (hs : s = k) (hl : len = L.length - k) (hk : k ≤ L.length) : ((L.map AV.d ++ R).drop s).take len = (L.drop k).map .d:=by
 subst hs;subst hl
 rw [List.drop_append_of_le_length (by simp;omega),List.take_append_of_le_length (by simp),List.take_of_length_le (by simp),← List.map_drop]
theorem icT {L : List D} {k : Nat} {R X : List AV} (hk : k ≤ L.length) : ((((L.map AV.d ++ R).drop (0 + 0)).take (k - 0)) ++ X).take k = (L.take k).map .d:=by
 rw [Nat.sub_zero,List.drop_zero,List.take_append_of_le_length (by simp;omega),List.take_take,Nat.min_self,List.take_append_of_le_length (by simp;omega),List.map_take]
theorem ins_room {L : List D} {y : D} {k a b m : Nat} {Y Z : List AV} (hk : k < L.length) (hm : 0 < m) (ha : a = k + 1) (hb : b = k) (hZ : Z = [.d y]) (hY : Y = (L.drop k).map .d) : over (over (L.map AV.d ++ List.replicate m .junk) a Y) b Z = (insL L k y).map .d ++ List.replicate (m - 1) .junk:=by
 subst ha;subst hb;subst hZ;subst hY
 have e0 : (L.map AV.d ++ List.replicate m AV.junk).drop (b + 1 + ((L.drop b).map AV.d).length) = List.replicate (m - 1) .junk:=by
  rw [List.drop_append,List.drop_of_length_le (by simp;omega),List.nil_append,List.drop_replicate]
  congr 1;simp only [List.length_map,List.length_drop];omega
 have e1 : over (L.map AV.d ++ List.replicate m .junk) (b + 1) ((L.drop b).map .d) = (L.take (b + 1)).map .d ++ ((L.drop b).map .d ++ List.replicate (m - 1) .junk):=by
  unfold over
  rw [e0,List.take_append_of_le_length (by simp;omega),← List.map_take,List.append_assoc]
 rw [e1]
 have e2 : (L.take (b + 1)).map AV.d ++ ((L.drop b).map AV.d ++ List.replicate (m - 1) AV.junk) = (L.take b).map .d ++ (AV.d (L[b]'hk) :: ((L.drop b).map .d ++ List.replicate (m - 1) .junk)):=by
  rw [List.take_succ_eq_append_getElem hk,List.map_append,List.append_assoc];rfl
 rw [e2]
 unfold over insL
 rw [List.take_left' (by simp;omega),List.drop_append,List.drop_of_length_le (by simp;omega),List.nil_append]
 have e3 : b + [AV.d y].length - ((L.take b).map AV.d).length = 1:=by simp;omega
 rw [e3];simp
theorem ins_ia (L : List D) (y : D) (hk : ∀ z ∈ L,z.cells.length = 3 ∧ z.memOk = true) (hy : y.cells.length = 3 ∧ y.memOk = true) (hL : L.length < 1000000) (c : Nat) (hc : L.length ≤ c) (k : Nat) (hkn : k = L.length) (hr : L.length + 1 ≤ c) : Run Tryz.prog 106 [.sl 0 0 L.length 3 (some c),.d (i k),.sl 1 0 1 3 (some 1)] [⟨L.map .d ++ List.replicate (c - L.length) .junk,3,0⟩,⟨[.d y],3,0⟩] (.sl 2 0 (L.length + 1) 3 (some c)) [⟨[],3,2⟩,⟨[.d y],3,0⟩,⟨(insL L k y).map .d,3,0⟩]:=by
 refine run_walkV eok Tryz.func106 rfl (by kernel_rfl) [0] (by rfl) [] ?_
 conv=>whnf
 repeat' (first
 | ((with_reducible refine on_dec_t (by assumption) ?_);conv=>whnf)
 | ((with_reducible refine on_dec_f (by assumption) ?_);conv=>whnf)
 | ((with_reducible refine onBool_t (by assumption) ?_);conv=>whnf)
 | ((with_reducible refine onBool_f (by assumption) ?_);conv=>whnf)
 | ((with_reducible refine on_nt (by assumption) ?_);conv=>whnf)
 | ((with_reducible refine on_nf (by assumption) ?_);conv=>whnf)
 | ((with_reducible refine on_ndec_t (by first | assumption | rfl) ?_);conv=>whnf)
 | ((with_reducible refine on_ndec_f (by assumption) ?_);conv=>whnf)
 | ((with_reducible refine on_dec_t rfl ?_);conv=>whnf)
 | ((with_reducible refine on_dec_t ?_ ?_);(focus (simp only [List.length_drop,List.length_take,List.length_map,List.length_cons,List.length_nil,List.length_append,List.length_replicate,over];omega));conv=>whnf)
 | ((with_reducible refine on_dec_f ?_ ?_);(focus (simp only [List.length_drop,List.length_take,List.length_map,List.length_cons,List.length_nil,List.length_append,List.length_replicate,over];omega));conv=>whnf)
 | ((with_reducible refine on_dec_f ?_ ?_);(focus ((try simp only [List.length_map,List.length_cons,List.length_nil,List.length_append]);omega));conv=>whnf)
 | ((with_reducible refine on_dec_t ?_ ?_);(focus ((try simp only [List.length_map,List.length_cons,List.length_nil,List.length_append]);omega));conv=>whnf)
 | ((with_reducible refine on_dec (fun h=>?_) (fun h=>?_))<;>(try simp only [List.length_map] at h)<;>conv=>whnf)
 | ((with_reducible refine on_ndec (fun h=>?_) (fun h=>?_))<;>(try simp only [List.length_map] at h)<;>conv=>whnf)
 | ((with_reducible refine on_not (fun h=>?_) (fun h=>?_))<;>conv=>whnf)
 | ((with_reducible refine onBool_split (fun h=>?_) (fun h=>?_))<;>conv=>whnf)
 | ((with_reducible refine call_go ?_);(first | refine call_step (c121 (o1:=⟨[.d y],3,0⟩) (o2:=⟨L.map .d ++ List.replicate (c - L.length) .junk,3,0⟩) rfl rfl (Nat.zero_lt_succ 1) (Nat.zero_lt_succ 1) (by omega)) ?_);conv=>whnf)
 | (refine ⟨[],[],(by decide +kernel),?_⟩;conv=>whnf)
 | (refine ⟨⟨(by first | rfl | (simp;done)),cap_ok (by simp only [List.length_map,List.length_cons,List.length_nil,List.length_append];omega) rfl⟩,?_⟩;conv=>whnf)
 | (refine ⟨mem_one ⟨rfl,rfl⟩,?_⟩;conv=>whnf)
 | (refine ⟨(by intro y hy;obtain ⟨x,_,rfl⟩:=List.mem_map.1 hy;first | rfl | exact ⟨rfl,rfl⟩),?_⟩;conv=>whnf)
 | (refine ⟨cap_ok (by first | omega | (simp only [List.length_map];omega)) rfl,?_⟩;conv=>whnf)
 | (refine ix_map (by omega) ?_;conv=>whnf)
 | (refine ix_str (by omega) ?_;conv=>whnf)
 | (refine wrap64 (by omega) ?_;conv=>whnf)
 | (refine srcC (L.drop k) (by simp only [Nat.zero_add];rw [show c - L.length = 0 by omega];simp) (by simp only [List.length_drop,List.length_take,List.length_map,List.length_cons,List.length_nil,List.length_append,List.length_replicate,over];omega) (fun z hz=>(hk z (List.mem_of_mem_drop hz)).2) ?_;conv=>whnf)
 | (refine srcB (L.drop k) (takeD (by omega) (by omega) (by omega)) (by simp only [List.length_drop,List.length_take,List.length_map,List.length_cons,List.length_nil,List.length_append,List.length_replicate,over];omega) (fun z hz=>(hk z (List.mem_of_mem_drop hz)).2) ?_;conv=>whnf)
 | (refine own_slc 0 (L.length + 1) rfl (by omega) ⟨by omega,by omega⟩ ?_;conv=>whnf)
 | (refine srcA (l:=[.d y]) rfl (by simp [AV.known,hy.2]) ?_;conv=>whnf)
 | (refine own_sl k L.length rfl rfl ⟨by omega,by omega⟩ ?_;conv=>whnf)
 | (refine own_sl 0 k rfl rfl ⟨by omega,by omega⟩ ?_;conv=>whnf)
 | (refine own_sl k _ rfl rfl ⟨by omega,(by (try simp only [List.length_drop,List.length_take,List.length_map,List.length_cons,List.length_nil,List.length_append,List.length_replicate,over]);omega)⟩ ?_;conv=>whnf)
 | (refine own_sl (k + 1) _ (by omega) rfl ⟨(by (try simp only [List.length_drop,List.length_take,List.length_map,List.length_cons,List.length_nil,List.length_append,List.length_replicate,over]);omega),(by (try simp only [List.length_drop,List.length_take,List.length_map,List.length_cons,List.length_nil,List.length_append,List.length_replicate,over]);omega)⟩ ?_;conv=>whnf)
 | (refine ⟨⟨(by simp only [List.length_drop,List.length_take,List.length_map,List.length_cons,List.length_nil,List.length_append,List.length_replicate,over];omega),(by have e : (E (E 26).elem).bytes = 24:=rfl;rw [e];(try simp only [List.length_drop,List.length_take,List.length_map,List.length_cons,List.length_nil,List.length_append,List.length_replicate,over]);omega)⟩,?_⟩;conv=>whnf)
 | (refine ⟨⟨by omega,by omega,(by have e : (E (E 26).elem).bytes = 24:=rfl;rw [e];(try simp only [List.length_drop,List.length_take,List.length_map,List.length_cons,List.length_nil,List.length_append,List.length_replicate,over]);omega)⟩,?_⟩;conv=>whnf)
 | (refine ⟨(by simp only [List.length_drop,List.length_take,List.length_map,List.length_cons,List.length_nil,List.length_append,List.length_replicate,over];omega),?_⟩;conv=>whnf)
 | (refine wrap64 (by omega) ?_;conv=>whnf)
 | (exfalso;simp only [List.length_map,List.length_cons,List.length_nil,List.length_append] at h;omega)
 | ((with_reducible refine endx_go ?_);first | (refine endX_of (.inl ⟨[.dead,.old 1,.cut 0 (L.length + 1)],rfl,rfl,⟨⟨⟨rfl,fun h=>by cases h⟩,rfl,rfl,rfl,rfl⟩,trivial⟩,⟨rfl,⟨rfl,rfl,.inl ⟨[y],rfl,rfl⟩⟩,⟨rfl,rfl,_,_,ins_end (k:=k) hkn (by omega) (by omega) rfl,(by unfold insL;simp;omega),.inl ⟨_,rfl,rfl⟩⟩,trivial⟩⟩);done))
 | (refine ⟨rfl,?_⟩;conv=>whnf)
  | fail
  )
theorem ins_ib (L : List D) (y : D) (hk : ∀ z ∈ L,z.cells.length = 3 ∧ z.memOk = true) (hy : y.cells.length = 3 ∧ y.memOk = true) (hL : L.length < 1000000) (c : Nat) (hc : L.length ≤ c) (k : Nat) (hkn : k = L.length) (hr : ¬ L.length + 1 ≤ c) : Run Tryz.prog 106 [.sl 0 0 L.length 3 (some c),.d (i k),.sl 1 0 1 3 (some 1)] [⟨L.map .d ++ List.replicate (c - L.length) .junk,3,0⟩,⟨[.d y],3,0⟩] (.sl 2 0 (L.length + 1) 3 none) [⟨[],3,2⟩,⟨[.d y],3,0⟩,⟨(insL L k y).map .d,3,0⟩]:=by
 refine run_walkV eok Tryz.func106 rfl (by kernel_rfl) [0] (by rfl) [] ?_
 conv=>whnf
 repeat' (first
 | ((with_reducible refine on_dec_t (by assumption) ?_);conv=>whnf)
 | ((with_reducible refine on_dec_f (by assumption) ?_);conv=>whnf)
 | ((with_reducible refine onBool_t (by assumption) ?_);conv=>whnf)
 | ((with_reducible refine onBool_f (by assumption) ?_);conv=>whnf)
 | ((with_reducible refine on_nt (by assumption) ?_);conv=>whnf)
 | ((with_reducible refine on_nf (by assumption) ?_);conv=>whnf)
 | ((with_reducible refine on_ndec_t (by first | assumption | rfl) ?_);conv=>whnf)
 | ((with_reducible refine on_ndec_f (by assumption) ?_);conv=>whnf)
 | ((with_reducible refine on_dec_t rfl ?_);conv=>whnf)
 | ((with_reducible refine on_dec_t ?_ ?_);(focus (simp only [List.length_drop,List.length_take,List.length_map,List.length_cons,List.length_nil,List.length_append,List.length_replicate,over];omega));conv=>whnf)
 | ((with_reducible refine on_dec_f ?_ ?_);(focus (simp only [List.length_drop,List.length_take,List.length_map,List.length_cons,List.length_nil,List.length_append,List.length_replicate,over];omega));conv=>whnf)
 | ((with_reducible refine on_dec_f ?_ ?_);(focus ((try simp only [List.length_map,List.length_cons,List.length_nil,List.length_append]);omega));conv=>whnf)
 | ((with_reducible refine on_dec_t ?_ ?_);(focus ((try simp only [List.length_map,List.length_cons,List.length_nil,List.length_append]);omega));conv=>whnf)
 | ((with_reducible refine on_dec (fun h=>?_) (fun h=>?_))<;>(try simp only [List.length_map] at h)<;>conv=>whnf)
 | ((with_reducible refine on_ndec (fun h=>?_) (fun h=>?_))<;>(try simp only [List.length_map] at h)<;>conv=>whnf)
 | ((with_reducible refine on_not (fun h=>?_) (fun h=>?_))<;>conv=>whnf)
 | ((with_reducible refine onBool_split (fun h=>?_) (fun h=>?_))<;>conv=>whnf)
 | ((with_reducible refine call_go ?_);(first | refine call_step (c121 (o1:=⟨[.d y],3,0⟩) (o2:=⟨L.map .d ++ List.replicate (c - L.length) .junk,3,0⟩) rfl rfl (Nat.zero_lt_succ 1) (Nat.zero_lt_succ 1) (by omega)) ?_);conv=>whnf)
 | (refine ⟨[],[],(by decide +kernel),?_⟩;conv=>whnf)
 | (refine ⟨⟨(by first | rfl | (simp;done)),cap_ok (by simp only [List.length_map,List.length_cons,List.length_nil,List.length_append];omega) rfl⟩,?_⟩;conv=>whnf)
 | (refine ⟨mem_one ⟨rfl,rfl⟩,?_⟩;conv=>whnf)
 | (refine ⟨(by intro y hy;obtain ⟨x,_,rfl⟩:=List.mem_map.1 hy;first | rfl | exact ⟨rfl,rfl⟩),?_⟩;conv=>whnf)
 | (refine ⟨cap_ok (by first | omega | (simp only [List.length_map];omega)) rfl,?_⟩;conv=>whnf)
 | (refine ix_map (by omega) ?_;conv=>whnf)
 | (refine ix_str (by omega) ?_;conv=>whnf)
 | (refine wrap64 (by omega) ?_;conv=>whnf)
 | (refine srcC (L.drop k) (by simp only [Nat.zero_add];rw [show c - L.length = 0 by omega];simp) (by simp only [List.length_drop,List.length_take,List.length_map,List.length_cons,List.length_nil,List.length_append,List.length_replicate,over];omega) (fun z hz=>(hk z (List.mem_of_mem_drop hz)).2) ?_;conv=>whnf)
 | (refine srcB (L.drop k) (takeD (by omega) (by omega) (by omega)) (by simp only [List.length_drop,List.length_take,List.length_map,List.length_cons,List.length_nil,List.length_append,List.length_replicate,over];omega) (fun z hz=>(hk z (List.mem_of_mem_drop hz)).2) ?_;conv=>whnf)
 | (refine own_slc 0 (L.length + 1) rfl (by omega) ⟨by omega,by omega⟩ ?_;conv=>whnf)
 | (refine srcA (l:=[.d y]) rfl (by simp [AV.known,hy.2]) ?_;conv=>whnf)
 | (refine own_sl k L.length rfl rfl ⟨by omega,by omega⟩ ?_;conv=>whnf)
 | (refine own_sl 0 k rfl rfl ⟨by omega,by omega⟩ ?_;conv=>whnf)
 | (refine own_sl k _ rfl rfl ⟨by omega,(by (try simp only [List.length_drop,List.length_take,List.length_map,List.length_cons,List.length_nil,List.length_append,List.length_replicate,over]);omega)⟩ ?_;conv=>whnf)
 | (refine own_sl (k + 1) _ (by omega) rfl ⟨(by (try simp only [List.length_drop,List.length_take,List.length_map,List.length_cons,List.length_nil,List.length_append,List.length_replicate,over]);omega),(by (try simp only [List.length_drop,List.length_take,List.length_map,List.length_cons,List.length_nil,List.length_append,List.length_replicate,over]);omega)⟩ ?_;conv=>whnf)
 | (refine ⟨⟨(by simp only [List.length_drop,List.length_take,List.length_map,List.length_cons,List.length_nil,List.length_append,List.length_replicate,over];omega),(by have e : (E (E 26).elem).bytes = 24:=rfl;rw [e];(try simp only [List.length_drop,List.length_take,List.length_map,List.length_cons,List.length_nil,List.length_append,List.length_replicate,over]);omega)⟩,?_⟩;conv=>whnf)
 | (refine ⟨⟨by omega,by omega,(by have e : (E (E 26).elem).bytes = 24:=rfl;rw [e];(try simp only [List.length_drop,List.length_take,List.length_map,List.length_cons,List.length_nil,List.length_append,List.length_replicate,over]);omega)⟩,?_⟩;conv=>whnf)
 | (refine ⟨(by simp only [List.length_drop,List.length_take,List.length_map,List.length_cons,List.length_nil,List.length_append,List.length_replicate,over];omega),?_⟩;conv=>whnf)
 | (refine wrap64 (by omega) ?_;conv=>whnf)
 | (exfalso;simp only [List.length_map,List.length_cons,List.length_nil,List.length_append] at h;omega)
 | ((with_reducible refine endx_go ?_);first | (refine endX_of (.inl ⟨[.dead,.old 1,.old 2],rfl,rfl,⟨⟨rfl,rfl,rfl,rfl,rfl⟩,trivial⟩,⟨rfl,⟨rfl,rfl,.inl ⟨[y],rfl,rfl⟩⟩,⟨rfl,rfl,.inl ⟨_,ins_new (k:=k) hkn rfl rfl,rfl⟩⟩,trivial⟩⟩);done))
 | (refine ⟨rfl,?_⟩;conv=>whnf)
  | fail
  )
theorem ins_ic (L : List D) (y : D) (hk : ∀ z ∈ L,z.cells.length = 3 ∧ z.memOk = true) (hy : y.cells.length = 3 ∧ y.memOk = true) (hL : L.length < 1000000) (c : Nat) (hc : L.length ≤ c) (k : Nat) (hkn : k < L.length) (hr : ¬ L.length + 1 ≤ c) : Run Tryz.prog 106 [.sl 0 0 L.length 3 (some c),.d (i k),.sl 1 0 1 3 (some 1)] [⟨L.map .d ++ List.replicate (c - L.length) .junk,3,0⟩,⟨[.d y],3,0⟩] (.sl 2 0 (L.length + 1) 3 none) [⟨[],3,2⟩,⟨[.d y],3,0⟩,⟨(insL L k y).map .d,3,0⟩]:=by
 refine run_walkV eok Tryz.func106 rfl (by kernel_rfl) [0] (by rfl) [] ?_
 conv=>whnf
 repeat' (first
 | ((with_reducible refine on_dec_t (by assumption) ?_);conv=>whnf)
 | ((with_reducible refine on_dec_f (by assumption) ?_);conv=>whnf)
 | ((with_reducible refine onBool_t (by assumption) ?_);conv=>whnf)
 | ((with_reducible refine onBool_f (by assumption) ?_);conv=>whnf)
 | ((with_reducible refine on_nt (by assumption) ?_);conv=>whnf)
 | ((with_reducible refine on_nf (by assumption) ?_);conv=>whnf)
 | ((with_reducible refine on_ndec_t (by first | assumption | rfl) ?_);conv=>whnf)
 | ((with_reducible refine on_ndec_f (by assumption) ?_);conv=>whnf)
 | ((with_reducible refine on_dec_t rfl ?_);conv=>whnf)
 | ((with_reducible refine on_dec_t ?_ ?_);(focus (simp only [List.length_drop,List.length_take,List.length_map,List.length_cons,List.length_nil,List.length_append,List.length_replicate,over];omega));conv=>whnf)
 | ((with_reducible refine on_dec_f ?_ ?_);(focus (simp only [List.length_drop,List.length_take,List.length_map,List.length_cons,List.length_nil,List.length_append,List.length_replicate,over];omega));conv=>whnf)
 | ((with_reducible refine on_dec_f ?_ ?_);(focus ((try simp only [List.length_map,List.length_cons,List.length_nil,List.length_append]);omega));conv=>whnf)
 | ((with_reducible refine on_dec_t ?_ ?_);(focus ((try simp only [List.length_map,List.length_cons,List.length_nil,List.length_append]);omega));conv=>whnf)
 | ((with_reducible refine on_dec (fun h=>?_) (fun h=>?_))<;>(try simp only [List.length_map] at h)<;>conv=>whnf)
 | ((with_reducible refine on_ndec (fun h=>?_) (fun h=>?_))<;>(try simp only [List.length_map] at h)<;>conv=>whnf)
 | ((with_reducible refine on_not (fun h=>?_) (fun h=>?_))<;>conv=>whnf)
 | ((with_reducible refine onBool_split (fun h=>?_) (fun h=>?_))<;>conv=>whnf)
 | ((with_reducible refine call_go ?_);(first | refine call_step (c121 (o1:=⟨[.d y],3,0⟩) (o2:=⟨L.map .d ++ List.replicate (c - L.length) .junk,3,0⟩) rfl rfl (Nat.zero_lt_succ 1) (Nat.zero_lt_succ 1) (by omega)) ?_);conv=>whnf)
 | (refine ⟨[],[],(by decide +kernel),?_⟩;conv=>whnf)
 | (refine ⟨⟨(by first | rfl | (simp;done)),cap_ok (by simp only [List.length_map,List.length_cons,List.length_nil,List.length_append];omega) rfl⟩,?_⟩;conv=>whnf)
 | (refine ⟨mem_one ⟨rfl,rfl⟩,?_⟩;conv=>whnf)
 | (refine ⟨(by intro y hy;obtain ⟨x,_,rfl⟩:=List.mem_map.1 hy;first | rfl | exact ⟨rfl,rfl⟩),?_⟩;conv=>whnf)
 | (refine ⟨cap_ok (by first | omega | (simp only [List.length_map];omega)) rfl,?_⟩;conv=>whnf)
 | (refine ix_map (by omega) ?_;conv=>whnf)
 | (refine ix_str (by omega) ?_;conv=>whnf)
 | (refine wrap64 (by omega) ?_;conv=>whnf)
 | (refine srcC (L.drop k) (by simp only [Nat.zero_add];rw [show c - L.length = 0 by omega];simp) (by simp only [List.length_drop,List.length_take,List.length_map,List.length_cons,List.length_nil,List.length_append,List.length_replicate,over];omega) (fun z hz=>(hk z (List.mem_of_mem_drop hz)).2) ?_;conv=>whnf)
 | (refine srcB (L.drop k) (takeD (by omega) (by omega) (by omega)) (by simp only [List.length_drop,List.length_take,List.length_map,List.length_cons,List.length_nil,List.length_append,List.length_replicate,over];omega) (fun z hz=>(hk z (List.mem_of_mem_drop hz)).2) ?_;conv=>whnf)
 | (refine own_slc 0 (L.length + 1) rfl (by omega) ⟨by omega,by omega⟩ ?_;conv=>whnf)
 | (refine srcA (l:=[.d y]) rfl (by simp [AV.known,hy.2]) ?_;conv=>whnf)
 | (refine own_sl k L.length rfl rfl ⟨by omega,by omega⟩ ?_;conv=>whnf)
 | (refine own_sl 0 k rfl rfl ⟨by omega,by omega⟩ ?_;conv=>whnf)
 | (refine own_sl k _ rfl rfl ⟨by omega,(by (try simp only [List.length_drop,List.length_take,List.length_map,List.length_cons,List.length_nil,List.length_append,List.length_replicate,over]);omega)⟩ ?_;conv=>whnf)
 | (refine own_sl (k + 1) _ (by omega) rfl ⟨(by (try simp only [List.length_drop,List.length_take,List.length_map,List.length_cons,List.length_nil,List.length_append,List.length_replicate,over]);omega),(by (try simp only [List.length_drop,List.length_take,List.length_map,List.length_cons,List.length_nil,List.length_append,List.length_replicate,over]);omega)⟩ ?_;conv=>whnf)
 | (refine ⟨⟨(by simp only [List.length_drop,List.length_take,List.length_map,List.length_cons,List.length_nil,List.length_append,List.length_replicate,over];omega),(by have e : (E (E 26).elem).bytes = 24:=rfl;rw [e];(try simp only [List.length_drop,List.length_take,List.length_map,List.length_cons,List.length_nil,List.length_append,List.length_replicate,over]);omega)⟩,?_⟩;conv=>whnf)
 | (refine ⟨⟨by omega,by omega,(by have e : (E (E 26).elem).bytes = 24:=rfl;rw [e];(try simp only [List.length_drop,List.length_take,List.length_map,List.length_cons,List.length_nil,List.length_append,List.length_replicate,over]);omega)⟩,?_⟩;conv=>whnf)
 | (refine ⟨(by simp only [List.length_drop,List.length_take,List.length_map,List.length_cons,List.length_nil,List.length_append,List.length_replicate,over];omega),?_⟩;conv=>whnf)
 | (refine wrap64 (by omega) ?_;conv=>whnf)
 | (exfalso;simp only [List.length_map,List.length_cons,List.length_nil,List.length_append] at h;omega)
 | ((with_reducible refine endx_go ?_);first | (refine endX_of (.inl ⟨[.dead,.old 1,.old 2],rfl,rfl,⟨⟨rfl,rfl,(by simp only [List.length_drop,List.length_take,List.length_map,List.length_cons,List.length_nil,List.length_append,List.length_replicate,over];omega),rfl,rfl⟩,trivial⟩,⟨rfl,⟨rfl,rfl,.inl ⟨[y],rfl,rfl⟩⟩,⟨rfl,rfl,.inl ⟨_,ins_fill hkn (by simp only [List.length_drop,List.length_take,List.length_map,List.length_cons,List.length_nil,List.length_append,List.length_replicate,over];omega) (icT (by omega)) (by omega) (by omega) (List.take_of_length_le (by simp only [List.length_drop,List.length_take,List.length_map,List.length_cons,List.length_nil,List.length_append,List.length_replicate,over];omega)) (List.take_of_length_le (by simp only [List.length_drop,List.length_take,List.length_map,List.length_cons,List.length_nil,List.length_append,List.length_replicate,over];omega)),rfl⟩⟩,trivial⟩⟩);done))
 | (refine ⟨rfl,?_⟩;conv=>whnf)
  | fail
  )
theorem ins_id (L : List D) (y : D) (hk : ∀ z ∈ L,z.cells.length = 3 ∧ z.memOk = true) (hy : y.cells.length = 3 ∧ y.memOk = true) (hL : L.length < 1000000) (c : Nat) (hc : L.length ≤ c) (k : Nat) (hkn : k < L.length) (hr : L.length + 1 ≤ c) : Run Tryz.prog 106 [.sl 0 0 L.length 3 (some c),.d (i k),.sl 1 0 1 3 (some 1)] [⟨L.map .d ++ List.replicate (c - L.length) .junk,3,0⟩,⟨[.d y],3,0⟩] (.sl 2 0 (L.length + 1) 3 (some c)) [⟨[],3,2⟩,⟨[.d y],3,0⟩,⟨(insL L k y).map .d,3,0⟩]:=by
 refine run_walkV eok Tryz.func106 rfl (by kernel_rfl) [0] (by rfl) [] ?_
 conv=>whnf
 repeat' (first
 | ((with_reducible refine on_dec_t (by assumption) ?_);conv=>whnf)
 | ((with_reducible refine on_dec_f (by assumption) ?_);conv=>whnf)
 | ((with_reducible refine onBool_t (by assumption) ?_);conv=>whnf)
 | ((with_reducible refine onBool_f (by assumption) ?_);conv=>whnf)
 | ((with_reducible refine on_nt (by assumption) ?_);conv=>whnf)
 | ((with_reducible refine on_nf (by assumption) ?_);conv=>whnf)
 | ((with_reducible refine on_ndec_t (by first | assumption | rfl) ?_);conv=>whnf)
 | ((with_reducible refine on_ndec_f (by assumption) ?_);conv=>whnf)
 | ((with_reducible refine on_dec_t rfl ?_);conv=>whnf)
 | ((with_reducible refine on_dec_t ?_ ?_);(focus (simp only [List.length_drop,List.length_take,List.length_map,List.length_cons,List.length_nil,List.length_append,List.length_replicate,over];omega));conv=>whnf)
 | ((with_reducible refine on_dec_f ?_ ?_);(focus (simp only [List.length_drop,List.length_take,List.length_map,List.length_cons,List.length_nil,List.length_append,List.length_replicate,over];omega));conv=>whnf)
 | ((with_reducible refine on_dec_f ?_ ?_);(focus ((try simp only [List.length_map,List.length_cons,List.length_nil,List.length_append]);omega));conv=>whnf)
 | ((with_reducible refine on_dec_t ?_ ?_);(focus ((try simp only [List.length_map,List.length_cons,List.length_nil,List.length_append]);omega));conv=>whnf)
 | ((with_reducible refine on_dec (fun h=>?_) (fun h=>?_))<;>(try simp only [List.length_map] at h)<;>conv=>whnf)
 | ((with_reducible refine on_ndec (fun h=>?_) (fun h=>?_))<;>(try simp only [List.length_map] at h)<;>conv=>whnf)
 | ((with_reducible refine on_not (fun h=>?_) (fun h=>?_))<;>conv=>whnf)
 | ((with_reducible refine onBool_split (fun h=>?_) (fun h=>?_))<;>conv=>whnf)
 | ((with_reducible refine call_go ?_);(first | refine call_step (c121 (o1:=⟨[.d y],3,0⟩) (o2:=⟨L.map .d ++ List.replicate (c - L.length) .junk,3,0⟩) rfl rfl (Nat.zero_lt_succ 1) (Nat.zero_lt_succ 1) (by omega)) ?_);conv=>whnf)
 | (refine ⟨[],[],(by decide +kernel),?_⟩;conv=>whnf)
 | (refine ⟨⟨(by first | rfl | (simp;done)),cap_ok (by simp only [List.length_map,List.length_cons,List.length_nil,List.length_append];omega) rfl⟩,?_⟩;conv=>whnf)
 | (refine ⟨mem_one ⟨rfl,rfl⟩,?_⟩;conv=>whnf)
 | (refine ⟨(by intro y hy;obtain ⟨x,_,rfl⟩:=List.mem_map.1 hy;first | rfl | exact ⟨rfl,rfl⟩),?_⟩;conv=>whnf)
 | (refine ⟨cap_ok (by first | omega | (simp only [List.length_map];omega)) rfl,?_⟩;conv=>whnf)
 | (refine ix_map (by omega) ?_;conv=>whnf)
 | (refine ix_str (by omega) ?_;conv=>whnf)
 | (refine wrap64 (by omega) ?_;conv=>whnf)
 | (refine srcC (L.drop k) (by simp only [Nat.zero_add];rw [show c - L.length = 0 by omega];simp) (by simp only [List.length_drop,List.length_take,List.length_map,List.length_cons,List.length_nil,List.length_append,List.length_replicate,over];omega) (fun z hz=>(hk z (List.mem_of_mem_drop hz)).2) ?_;conv=>whnf)
 | (refine srcB (L.drop k) (takeD (by omega) (by omega) (by omega)) (by simp only [List.length_drop,List.length_take,List.length_map,List.length_cons,List.length_nil,List.length_append,List.length_replicate,over];omega) (fun z hz=>(hk z (List.mem_of_mem_drop hz)).2) ?_;conv=>whnf)
 | (refine own_slc 0 (L.length + 1) rfl (by omega) ⟨by omega,by omega⟩ ?_;conv=>whnf)
 | (refine srcA (l:=[.d y]) rfl (by simp [AV.known,hy.2]) ?_;conv=>whnf)
 | (refine own_sl k L.length rfl rfl ⟨by omega,by omega⟩ ?_;conv=>whnf)
 | (refine own_sl 0 k rfl rfl ⟨by omega,by omega⟩ ?_;conv=>whnf)
 | (refine own_sl k _ rfl rfl ⟨by omega,(by (try simp only [List.length_drop,List.length_take,List.length_map,List.length_cons,List.length_nil,List.length_append,List.length_replicate,over]);omega)⟩ ?_;conv=>whnf)
 | (refine own_sl (k + 1) _ (by omega) rfl ⟨(by (try simp only [List.length_drop,List.length_take,List.length_map,List.length_cons,List.length_nil,List.length_append,List.length_replicate,over]);omega),(by (try simp only [List.length_drop,List.length_take,List.length_map,List.length_cons,List.length_nil,List.length_append,List.length_replicate,over]);omega)⟩ ?_;conv=>whnf)
 | (refine ⟨⟨(by simp only [List.length_drop,List.length_take,List.length_map,List.length_cons,List.length_nil,List.length_append,List.length_replicate,over];omega),(by have e : (E (E 26).elem).bytes = 24:=rfl;rw [e];(try simp only [List.length_drop,List.length_take,List.length_map,List.length_cons,List.length_nil,List.length_append,List.length_replicate,over]);omega)⟩,?_⟩;conv=>whnf)
 | (refine ⟨⟨by omega,by omega,(by have e : (E (E 26).elem).bytes = 24:=rfl;rw [e];(try simp only [List.length_drop,List.length_take,List.length_map,List.length_cons,List.length_nil,List.length_append,List.length_replicate,over]);omega)⟩,?_⟩;conv=>whnf)
 | (refine ⟨(by simp only [List.length_drop,List.length_take,List.length_map,List.length_cons,List.length_nil,List.length_append,List.length_replicate,over];omega),?_⟩;conv=>whnf)
 | (refine wrap64 (by omega) ?_;conv=>whnf)
 | (exfalso;simp only [List.length_map,List.length_cons,List.length_nil,List.length_append] at h;omega)
 | ((with_reducible refine endx_go ?_);first | (refine endX_of (.inl ⟨[.dead,.old 1,.cut 0 (L.length + 1)],rfl,rfl,⟨⟨⟨rfl,fun h=>by cases h⟩,rfl,rfl,rfl,rfl⟩,trivial⟩,⟨rfl,⟨rfl,rfl,.inl ⟨[y],rfl,rfl⟩⟩,⟨rfl,rfl,_,_,ins_room hkn (by omega) (by omega) (by omega) (List.take_of_length_le (by simp only [List.length_drop,List.length_take,List.length_map,List.length_cons,List.length_nil,List.length_append,List.length_replicate,over];omega)) (List.take_of_length_le (by simp only [List.length_drop,List.length_take,List.length_map,List.length_cons,List.length_nil,List.length_append,List.length_replicate,over];omega)),(by unfold insL;simp;omega),.inl ⟨_,rfl,rfl⟩⟩,trivial⟩⟩);done))
 | (refine ⟨rfl,?_⟩;conv=>whnf)
  | fail
  )
theorem insL_len (L : List D) (k : Nat) (y : D) (h : k ≤ L.length) : (insL L k y).length = L.length + 1:=by
 unfold insL;simp;omega
theorem ins106 (L : List D) (y : D) (k : Nat) (hkn : k ≤ L.length) (hk : ∀ z ∈ L,z.cells.length = 3 ∧ z.memOk = true) (hy : y.cells.length = 3 ∧ y.memOk = true) (hL : L.length < 1000000) :
  Run Tryz.prog 106 [.sl 0 0 L.length 3 none,.d (i k),.sl 1 0 1 3 (some 1)] [⟨L.map .d,3,0⟩,⟨[.d y],3,0⟩] (.sl 2 0 (L.length + 1) 3 none) [⟨[],3,2⟩,⟨[.d y],3,0⟩,⟨(insL L k y).map .d,3,0⟩]:=by
 refine run_grow (j:=1) (D1:=⟨[],3,2⟩) (H':=[⟨[.d y],3,0⟩,⟨(insL L k y).map .d,3,0⟩]) (by simp) (fun x hx=>?_) (fun x hx=>?_) (fun o ho x hx=>?_) rfl ⟨_,rfl,by simp [insL_len L k y hkn],Nat.zero_lt_succ 1⟩ fun c hc=>?_
 ·obtain ⟨z,_,rfl⟩:=List.mem_map.1 hx;rfl
 ·simp only [List.mem_cons,List.not_mem_nil,or_false] at hx
  rcases hx with rfl | rfl<;>rfl
 ·simp only [List.mem_singleton] at ho;subst ho
  simp only [List.mem_singleton] at hx;subst hx;rfl
 ·rcases Nat.lt_or_ge k L.length with h | h
  ·by_cases hr : L.length + 1 ≤ c
   ·exact ⟨_,ins_id L y hk hy hL c hc k h hr⟩
   ·exact ⟨_,ins_ic L y hk hy hL c hc k h hr⟩
  ·by_cases hr : L.length + 1 ≤ c
   ·exact ⟨_,ins_ia L y hk hy hL c hc k (by omega) hr⟩
   ·exact ⟨_,ins_ib L y hk hy hL c hc k (by omega) hr⟩
end Go.Proofs.YtkeeienjocbkbaaGreatDoor
namespace Go.Proofs.YtkeeienjocbkbaaGreatDoor
open Go Dw
theorem bsGo_law {α : Type} {c : α → Int} {l : List α} {k : Nat} (hlt : ∀ i (h : i < l.length),i < k → c l[i] < 0) (hge : ∀ i (h : i < l.length),k ≤ i → ¬ c l[i] < 0) : ∀ (n a b : Nat),a ≤ k → k ≤ b → b ≤ l.length → b - a ≤ n → bsGo c l n a b = k
 | 0,a,b,h1,h2,h3,h4=>by simp only [bsGo];omega
 | n + 1,a,b,h1,h2,h3,h4=>by
  simp only [bsGo]
  by_cases hab : a < b
  ·rw [if_pos hab,bsAt_eq (by omega)]
   by_cases hm : (a + b) / 2 < k
   ·rw [if_pos (hlt _ (by omega) hm)]
    exact bsGo_law hlt hge n _ _ (by omega) h2 h3 (by omega)
   ·rw [if_neg (hge _ (by omega) (by omega))]
    exact bsGo_law hlt hge n _ _ h1 (by omega) (by omega) (by omega)
  ·rw [if_neg hab];omega
theorem bsR_law {α : Type} {c : α → Int} {l : List α} {k : Nat} (hk : k ≤ l.length) (hlt : ∀ i (h : i < l.length),i < k → c l[i] < 0) (hge : ∀ i (h : i < l.length),k ≤ i → ¬ c l[i] < 0) : bsR c l = (k,if h : k < l.length then decide (c l[k] = 0) else false):=by
 have h:=bsGo_law hlt hge l.length 0 l.length (by omega) hk (Nat.le_refl _) (by omega)
 by_cases hl : k < l.length
 ·rw [bsR_at h hl,dif_pos hl]
 ·rw [bsR_none h hl,dif_neg hl]
def pos (a : Int) : List Chg → Int
 | []=>a
 | x :: l=>pos (a + size x.name.length) l
theorem size_bd {n : Nat} (h : n ≤ 32) : 32 ≤ size n ∧ size n ≤ 72:=by
 unfold size;omega
theorem pos_app (a : Int) : ∀ (l r : List Chg),pos a (l ++ r) = pos (pos a l) r:=by
 intro l
 induction l generalizing a with
 | nil=>intro r;rfl
 | cons x l ih=>intro r;exact ih _ r
theorem pos_bd : ∀ (l : List Chg) (a : Int),(∀ x ∈ l,x.name.length ≤ 32) → a + 32 * l.length ≤ pos a l ∧ pos a l ≤ a + 72 * l.length
 | [],a,_=>by simp [pos]
 | x :: l,a,h=>by
  have h1:=size_bd (h x (by simp))
  have h2:=pos_bd l (a + size x.name.length) (fun y hy=>h y (by simp [hy]))
  simp only [pos,List.length_cons]
  omega
theorem wrap_in {n : Int} (h : 0 ≤ n ∧ n < 1000000000000) : IntKind.i64.wrap n = n:=Go.IntWalk.i64_in _ (by omega)
theorem eachRec_pos : ∀ (l : List Chg) (k : Nat) (a : Int),(∀ x ∈ l,x.name.length ≤ 32) → 0 ≤ a → a + 72 * l.length < 1000000000000 → (eachRec l k a).2.1 = 0 →
  (eachRec l k a).2.2 = pos a l ∧ ∀ i (h : i < l.length),l[i].usn = pos a (l.take i)
 | [],k,a,_,_,_,_=>⟨rfl,fun i h=>by simp at h⟩
 | x :: l,k,a,hn,h0,hb,he=>by
  have h1:=size_bd (hn x (by simp))
  simp only [eachRec] at he ⊢
  simp only [List.length_cons] at hb
  by_cases hr : recErr x a = 0
  ·rw [if_pos hr] at he ⊢
   rw [wrap_in (by omega)] at he ⊢
   obtain ⟨e1,e2⟩:=eachRec_pos l (k + 1) _ (fun y hy=>hn y (by simp [hy])) (by omega) (by omega) he
   refine ⟨e1,fun i hi=>?_⟩
   cases i with
   | zero=>
    unfold recErr at hr
    by_cases hq : recordErr x = 0
    ·by_cases hx : x.usn = a
     ·simpa [pos] using hx
     ·rw [first_cons,if_pos hq,if_neg hx,first_cons,if_neg (by decide)] at hr
      exact absurd hr (by decide)
    ·rw [first_cons,if_neg hq] at hr
     exact absurd hr hq
   | succ i=>
    have:=e2 i (by simpa using hi)
    simpa [pos] using this
  ·rw [if_neg hr] at he;exact absurd he hr
theorem Valid.names {j : Jrn} (V : Valid j) : ∀ x ∈ j.recs,1 ≤ x.name.length ∧ x.name.length ≤ 32:=fun x hx=>by
 have:=nameErr_ok (recordErr_ok (V.recOk x hx)).2.2.2.2
 exact ⟨this.1,this.2.1⟩
theorem Valid.usns {j : Jrn} (V : Valid j) : j.next = pos j.first j.recs ∧ ∀ i (h : i < j.recs.length),j.recs[i].usn = pos j.first (j.recs.take i):=by
 have h1:=V.nums
 have h2:=V.recs
 obtain ⟨e1,e2⟩:=eachRec_pos j.recs 0 j.first (fun x hx=>(V.names x hx).2) (by omega) (by omega) V.each.1
 exact ⟨by rw [V.each.2,e1],e2⟩
def posA (j : Jrn) (k : Nat) : Int:=pos j.first (j.recs.take k)
theorem posA_lt {j : Jrn} (V : Valid j) {i k : Nat} (h : i < k) (hk : k ≤ j.recs.length) : posA j i < posA j k:=by
 have e : j.recs.take k = j.recs.take i ++ (j.recs.take k).drop i:=by
  have:=(List.take_append_drop i (j.recs.take k)).symm
  rwa [List.take_take,Nat.min_eq_left (by omega)] at this
 unfold posA
 rw [e,pos_app]
 have hb:=pos_bd ((j.recs.take k).drop i) (pos j.first (j.recs.take i)) (fun x hx=>(V.names x (List.mem_of_mem_take (List.mem_of_mem_drop hx))).2)
 have hl : ((j.recs.take k).drop i).length = k - i:=by simp;omega
 rw [hl] at hb
 omega
theorem posA_le {j : Jrn} (V : Valid j) {i k : Nat} (h : i ≤ k) (hk : k ≤ j.recs.length) : posA j i ≤ posA j k:=by
 by_cases e : i = k
 ·subst e;omega
 ·have:=posA_lt V (i:=i) (k:=k) (by omega) hk;omega
theorem posA_zero (j : Jrn) : posA j 0 = j.first:=rfl
theorem posA_end {j : Jrn} (V : Valid j) : posA j j.recs.length = j.next:=by
 unfold posA;rw [List.take_length,V.usns.1]
theorem posA_usn {j : Jrn} (V : Valid j) {i : Nat} (h : i < j.recs.length) : j.recs[i].usn = posA j i:=V.usns.2 i h
theorem posA_succ {j : Jrn} {i : Nat} (h : i < j.recs.length) : posA j (i + 1) = posA j i + size j.recs[i].name.length:=by
 unfold posA
 rw [List.take_succ_eq_append_getElem h,pos_app];rfl
theorem posA_bd {j : Jrn} (V : Valid j) {i : Nat} (h : i ≤ j.recs.length) : 0 ≤ posA j i ∧ posA j i ≤ 2147483647:=by
 have h1:=V.nums
 have h2:=posA_le V (Nat.zero_le i) h
 have h3:=posA_le V h (Nat.le_refl _)
 rw [posA_end V] at h3
 rw [posA_zero] at h2
 omega
theorem cmp_lt {a b : Int} : cmp a b < 0 ↔ a < b:=by
 unfold cmp;split
 ·simp [*]
 ·split<;>simp [*]
theorem cmp_eq {a b : Int} : cmp a b = 0 ↔ a = b:=by
 unfold cmp;split
 ·constructor
  ·intro h;simp at h
  ·intro h;omega
 ·split
  ·constructor
   ·intro h;simp at h
   ·intro h;omega
  ·constructor
   ·intro _;omega
   ·intro _;rfl
end Go.Proofs.YtkeeienjocbkbaaGreatDoor
namespace Go.Proofs.YtkeeienjocbkbaaGreatDoor
open Go Dw
set_option maxRecDepth 10000
attribute [local irreducible] Run
set_option maxHeartbeats 2000000
def opAt (l : List Opn) (f : Ref) : Nat × Bool:=bsR (fun x=>compare x.file f) l
theorem c119q (l : List Opn) (f : Ref) (hl : l.length < 1000000) : Fn 119 [.fs (l.map Opn.enc),f.enc,.fn 120 [] []] (.tup [i (opAt l f).1,.bool (opAt l f).2]):=c119 l f hl
theorem opAt_lt {l : List Opn} {f : Ref} (h : (opAt l f).2 = true) : (opAt l f).1 < l.length:=by
 unfold opAt bsR at *
 simp only at *
 split at h
 ·rename_i x hx;exact (List.getElem?_eq_some_iff.1 hx).1
 ·exact absurd h (by decide)
def openB (l : List Opn) (f : Ref) : Int:=if h : (opAt l f).2 = true then (l[(opAt l f).1]'(opAt_lt h)).reasons else 0
attribute [local irreducible] opAt compare
theorem c104 (j : Jrn) (f : Ref) (ho : j.opens.length < 1000000) : Fn 104 [.fp j.enc 0,f.enc] (.tup [i (opAt j.opens f).1,.bool (opAt j.opens f).2]):=by
 refine run_walkF eok Tryz.func104 rfl (by kernel_rfl) ?_
 conv=>whnf
 repeat' (first
 | ((with_reducible refine on_dec_f ?_ ?_);(focus ((try simp only [List.length_map,List.length_cons,List.length_nil,List.length_append]);omega));conv=>whnf)
 | ((with_reducible refine on_dec_t ?_ ?_);(focus ((try simp only [List.length_map,List.length_cons,List.length_nil,List.length_append]);omega));conv=>whnf)
 | ((with_reducible refine on_dec (fun h=>?_) (fun h=>?_))<;>(try simp only [List.length_map] at h)<;>conv=>whnf)
 | ((with_reducible refine on_ndec (fun h=>?_) (fun h=>?_))<;>(try simp only [List.length_map] at h)<;>conv=>whnf)
 | ((with_reducible refine on_not (fun h=>?_) (fun h=>?_))<;>conv=>whnf)
 | ((with_reducible refine onBool_split (fun h=>?_) (fun h=>?_))<;>conv=>whnf)
 | ((with_reducible refine call_go ?_);(first | refine call_step (run_view (c119q _ _ ho) rfl rfl) ?_);conv=>whnf)
 | (refine ⟨[],[],(by decide +kernel),?_⟩;conv=>whnf)
 | (refine ⟨⟨(by first | rfl | (simp;done)),cap_ok (by simp only [List.length_map,List.length_cons,List.length_nil,List.length_append];omega) rfl⟩,?_⟩;conv=>whnf)
 | (refine ⟨mem_one ⟨rfl,rfl⟩,?_⟩;conv=>whnf)
 | (refine ⟨(by intro y hy;obtain ⟨x,_,rfl⟩:=List.mem_map.1 hy;first | rfl | exact ⟨rfl,rfl⟩),?_⟩;conv=>whnf)
 | (refine ⟨cap_ok (by first | omega | (simp only [List.length_map];omega)) rfl,?_⟩;conv=>whnf)
 | (refine ix_map (by omega) ?_;conv=>whnf)
 | (refine ix_str (by omega) ?_;conv=>whnf)
 | (refine wrap64 (by omega) ?_;conv=>whnf)
 | (refine wrap64 (by omega) ?_;conv=>whnf)
 | (exfalso;simp only [List.length_map,List.length_cons,List.length_nil,List.length_append] at h;omega)
 | ((with_reducible refine endx_go ?_);first | (exact endx2 rfl;done))
 | (refine ⟨rfl,?_⟩;conv=>whnf)
  | fail
  )
theorem c88 (j : Jrn) (f : Ref) (ho : j.opens.length < 1000000) : Fn 88 [.fp j.enc 0,f.enc] (i (openB j.opens f)):=by
 refine run_walkF eok Tryz.func88 rfl (by kernel_rfl) ?_
 conv=>whnf
 repeat' (first
 | ((with_reducible refine on_dec_f ?_ ?_);(focus ((try simp only [List.length_map,List.length_cons,List.length_nil,List.length_append]);omega));conv=>whnf)
 | ((with_reducible refine on_dec_t ?_ ?_);(focus ((try simp only [List.length_map,List.length_cons,List.length_nil,List.length_append]);omega));conv=>whnf)
 | ((with_reducible refine on_dec (fun h=>?_) (fun h=>?_))<;>(try simp only [List.length_map] at h)<;>conv=>whnf)
 | ((with_reducible refine on_ndec (fun h=>?_) (fun h=>?_))<;>(try simp only [List.length_map] at h)<;>conv=>whnf)
 | ((with_reducible refine on_not (fun h=>?_) (fun h=>?_))<;>conv=>whnf)
 | ((with_reducible refine onBool_split (fun h=>?_) (fun h=>?_))<;>conv=>whnf)
 | ((with_reducible refine call_go ?_);(first | refine call_step (run_view (c104 _ _ ho) rfl rfl) ?_);conv=>whnf)
 | (refine ⟨⟨(by first | rfl | (simp;done)),cap_ok (by simp only [List.length_map,List.length_cons,List.length_nil,List.length_append];omega) rfl⟩,?_⟩;conv=>whnf)
 | (refine ⟨mem_one ⟨rfl,rfl⟩,?_⟩;conv=>whnf)
 | (refine ⟨(by intro y hy;obtain ⟨x,_,rfl⟩:=List.mem_map.1 hy;first | rfl | exact ⟨rfl,rfl⟩),?_⟩;conv=>whnf)
 | (refine ⟨cap_ok (by first | omega | (simp only [List.length_map];omega)) rfl,?_⟩;conv=>whnf)
 | (refine ix_map (by omega) ?_;conv=>whnf)
 | (refine ix_str (by omega) ?_;conv=>whnf)
 | (refine wrap64 (by omega) ?_;conv=>whnf)
 | (refine ix_map (l:=j.opens) (f:=Opn.enc) (opAt_lt h) ?_;conv=>whnf)
 | (refine wrap64 (by omega) ?_;conv=>whnf)
 | (exfalso;simp only [List.length_map,List.length_cons,List.length_nil,List.length_append] at h;omega)
 | ((with_reducible refine endx_go ?_);first | (exact endx (congrArg i (by unfold openB;rw [dif_pos h]));done) | (exact endx (congrArg i (by unfold openB;rw [dif_neg (by simp [h])]));done))
 | (refine ⟨rfl,?_⟩;conv=>whnf)
  | fail
  )
end Go.Proofs.YtkeeienjocbkbaaGreatDoor
namespace Go.Proofs.YtkeeienjocbkbaaGreatDoor
open Go Dw
theorem eachOpn_sort (m : List Opn) : ∀ (l : List Opn) (k : Nat),m.drop k = l → (eachOpn m l k).2 = 0 → ∀ i (h : i < m.length),k ≤ i → 0 < i → compare (m[i - 1]'(by omega)).file m[i].file < 0
 | [],k,hd,_,i,hi,hk,_=>by
  have:=congrArg List.length hd
  simp at this
  omega
 | y :: l,k,hd,h,i,hi,hk,h0=>by
  simp only [eachOpn] at h
  have hkl : k < m.length:=by
   have:=congrArg List.length hd
   simp at this
   omega
  have hy0 : m[k] = y:=by
   have:=List.drop_eq_getElem_cons hkl
   rw [hd] at this
   exact (List.cons.inj this).1.symm
  have hd' : m.drop (k + 1) = l:=by
   have:=List.drop_eq_getElem_cons hkl
   rw [hd] at this
   exact (List.cons.inj this).2.symm
  by_cases hy : opnErr m k y = 0
  ·rw [if_pos hy] at h
   by_cases e : i = k
   ·subst e
    unfold opnErr at hy
    rw [first_cons] at hy
    by_cases h2 : refErr y.file = 0
    ·rw [if_pos h2,first_cons] at hy
     by_cases h3 : (within y.reasons 1 4095 && !has y.reasons 2048) = true
     ·rw [if_pos h3,if_pos rfl,first_cons,if_neg (show ¬ i = 0 by omega),List.getElem?_eq_getElem (by omega : i - 1 < m.length)] at hy
      simp only at hy
      rw [hy0]
      by_cases h4 : compare (m[i - 1]'(by omega)).file y.file < 0
      ·exact h4
      ·rw [if_neg h4] at hy;simp at hy
     ·rw [if_neg h3] at hy;simp at hy
    ·rw [if_neg h2] at hy;exact absurd hy h2
   ·exact eachOpn_sort m l (k + 1) hd' h i hi (by omega) h0
  ·rw [if_neg hy] at h;exact absurd h hy
theorem cmpR_lt {a b : Ref} : compare a b < 0 ↔ a.r < b.r ∨ (a.r = b.r ∧ a.s < b.s):=by
 rw [compare_less]
 simp only [less,Bool.or_eq_true,Bool.and_eq_true,decide_eq_true_eq]
theorem cmpR_eq {a b : Ref} : compare a b = 0 ↔ a = b:=by
 simp only [compare,first,cmp]
 cases a;cases b
 grind
theorem cmpR_trans {a b c : Ref} (h : compare a b < 0) (k : compare b c < 0) : compare a c < 0:=by
 rw [cmpR_lt] at *;omega
theorem opens_lt {j : Jrn} (V : Valid j) {i k : Nat} (h : i < k) (hk : k < j.opens.length) : compare (j.opens[i]'(by omega)).file j.opens[k].file < 0:=by
 have key : ∀ n,i < n → (hn : n < j.opens.length) → compare (j.opens[i]'(by omega)).file j.opens[n].file < 0:=by
  intro n
  induction n with
  | zero=>intro hn;omega
  | succ n ih=>
   intro hn hl
   have h1:=eachOpn_sort j.opens j.opens 0 (by simp) V.eachO (n + 1) hl (Nat.zero_le _) (by omega)
   simp only [Nat.add_sub_cancel] at h1
   by_cases e : i = n
   ·subst e;exact h1
   ·exact cmpR_trans (ih (by omega) (by omega)) h1
 exact key k h hk
theorem aheadO {j : Jrn} (V : Valid j) (f : Ref) : ∃ k,k ≤ j.opens.length ∧ (∀ i (h : i < j.opens.length),i < k → compare j.opens[i].file f < 0) ∧ (∀ i (h : i < j.opens.length),k ≤ i → ¬ compare j.opens[i].file f < 0):=by
 have key : ∀ n,n ≤ j.opens.length → ∃ k,k ≤ n ∧ (∀ i (h : i < j.opens.length),i < k → compare j.opens[i].file f < 0) ∧ (∀ i (h : i < j.opens.length),k ≤ i → i < n → ¬ compare j.opens[i].file f < 0):=by
  intro n
  induction n with
  | zero=>exact fun _=>⟨0,Nat.le_refl _,fun i _ h=>by omega,fun i _ _ h=>by omega⟩
  | succ n ih=>
   intro hn
   obtain ⟨k,h1,h2,h3⟩:=ih (by omega)
   by_cases hp : compare (j.opens[n]'(by omega)).file f < 0
   ·refine ⟨n + 1,Nat.le_refl _,fun i hi hin=>?_,fun i hi h4 h5=>by omega⟩
    by_cases e : i = n
    ·subst e;exact hp
    ·exact cmpR_trans (opens_lt V (i:=i) (k:=n) (by omega) (by omega)) hp
   ·refine ⟨k,by omega,h2,fun i hi h4 h5=>?_⟩
    by_cases e : i = n
    ·subst e;exact hp
    ·exact h3 i hi h4 (by omega)
 obtain ⟨k,h1,h2,h3⟩:=key j.opens.length (Nat.le_refl _)
 exact ⟨k,h1,h2,fun i hi hk=>h3 i hi hk hi⟩
theorem opAt_ahead {j : Jrn} (V : Valid j) (f : Ref) : ∃ k,k ≤ j.opens.length ∧ (∀ i (h : i < j.opens.length),i < k → compare j.opens[i].file f < 0) ∧ (∀ i (h : i < j.opens.length),k ≤ i → ¬ compare j.opens[i].file f < 0) ∧
  opAt j.opens f = (k,if h : k < j.opens.length then decide (j.opens[k].file = f) else false):=by
 obtain ⟨k,k1,k2,k3⟩:=aheadO V f
 refine ⟨k,k1,k2,k3,?_⟩
 unfold opAt
 rw [bsR_law k1 k2 k3]
 congr 1
 by_cases hl : k < j.opens.length
 ·rw [dif_pos hl,dif_pos hl,decide_eq_decide];exact cmpR_eq
 ·rw [dif_neg hl,dif_neg hl]
theorem openR_at {l : List Opn} {f : Ref} : ∀ {k : Nat} (hk : k < l.length),(∀ i (h : i < l.length),i < k → l[i].file ≠ f) → l[k].file = f → openR l f = l[k].reasons:=by
 induction l with
 | nil=>intro k hk;simp at hk
 | cons x l ih=>
  intro k hk hn he
  simp only [openR]
  cases k with
  | zero=>rw [if_pos (by simpa using he)];rfl
  | succ k=>
   rw [if_neg (by have:=hn 0 (by simp) (by omega);simpa using this)]
   have:=ih (k:=k) (by simpa using hk) (fun i hi h=>by have:=hn (i + 1) (by simpa using hi) (by omega);simpa using this) (by simpa using he)
   simpa using this
theorem openR_no {l : List Opn} {f : Ref} (h : ∀ x ∈ l,x.file ≠ f) : openR l f = 0:=by
 induction l with
 | nil=>rfl
 | cons x l ih=>
  simp only [openR]
  rw [if_neg (h x (by simp))]
  exact ih fun y hy=>h y (by simp [hy])
theorem openB_openR {j : Jrn} (V : Valid j) (f : Ref) : openB j.opens f = openR j.opens f:=by
 obtain ⟨k,k1,k2,k3,k4⟩:=opAt_ahead V f
 have hne : ∀ i (h : i < j.opens.length),i ≠ k → j.opens[i].file ≠ f:=by
  intro i hi hik e
  by_cases h1 : i < k
  ·have:=k2 i hi h1
   rw [e,cmpR_lt] at this;omega
  ·have hk : k < j.opens.length:=by omega
   have h2:=opens_lt V (i:=k) (k:=i) (by omega) hi
   rw [e] at h2
   exact k3 k hk (Nat.le_refl _) h2
 by_cases hf : (opAt j.opens f).2 = true
 ·have h1 : k < j.opens.length ∧ ∃ h : k < j.opens.length,j.opens[k].file = f:=by
   rw [k4] at hf
   simp only at hf
   by_cases hl : k < j.opens.length
   ·rw [dif_pos hl] at hf;exact ⟨hl,hl,of_decide_eq_true hf⟩
   ·rw [dif_neg hl] at hf;exact absurd hf (by decide)
  obtain ⟨hl,_,he⟩:=h1
  unfold openB
  rw [dif_pos hf,openR_at hl (fun i hi h=>hne i hi (by omega)) he]
  congr 2
  rw [k4]
 ·unfold openB
  rw [dif_neg hf,openR_no]
  intro x hx e
  obtain ⟨n,hn,rfl⟩:=List.getElem_of_mem hx
  by_cases hnk : n = k
  ·subst hnk
   rw [k4] at hf
   simp only at hf
   rw [dif_pos hn] at hf
   exact hf (by simp [e])
  ·exact hne n hn hnk e
end Go.Proofs.YtkeeienjocbkbaaGreatDoor
namespace Go.Proofs.YtkeeienjocbkbaaGreatDoor
open Go Dw
set_option maxRecDepth 10000
attribute [local irreducible] Run
set_option maxHeartbeats 4000000
theorem cut_ {p q : Prop} (h : p) (k : p → q) : q:=k h
theorem chg_ok (l : List Chg) : (∀ y ∈ l.map Chg.enc,y.cells.length = 8 ∧ y.memOk = true) ∧ ∀ y ∈ l.map Chg.enc,y.flat = true:=by
 constructor<;>(intro y hy;obtain ⟨x,_,rfl⟩:=List.mem_map.1 hy;first | exact ⟨rfl,rfl⟩ | rfl)
theorem opn_ok (l : List Opn) : (∀ y ∈ l.map Opn.enc,y.cells.length = 3 ∧ y.memOk = true) ∧ ∀ y ∈ l.map Opn.enc,y.flat = true:=by
 constructor<;>(intro y hy;obtain ⟨x,_,rfl⟩:=List.mem_map.1 hy;first | exact ⟨rfl,rfl⟩ | rfl)
theorem cl63r (l : List Chg) (hl : l.length < 1000000) (H : Heap) : Run Tryz.prog 63 [.d (.fs (l.map Chg.enc))] H (.sl H.length 0 (l.map Chg.enc).length 8 none) (H ++ [⟨(l.map Chg.enc).map .d,8,0⟩]):=
 run_clone cl63 rfl (by rw [List.length_map];exact hl) (chg_ok l).1 (chg_ok l).2
theorem cl64r (l : List Opn) (hl : l.length < 1000000) (H : Heap) : Run Tryz.prog 64 [.d (.fs (l.map Opn.enc))] H (.sl H.length 0 (l.map Opn.enc).length 3 none) (H ++ [⟨(l.map Opn.enc).map .d,3,0⟩]):=
 run_clone cl64 rfl (by rw [List.length_map];exact hl) (opn_ok l).1 (opn_ok l).2
def wO (j : Jrn) (a b : Nat) : AO:=⟨[.agg [.d (i j.id),.d (i j.first),.d (i j.next),.d (i j.most),.sl a 0 j.recs.length 8 none,.sl b 0 j.opens.length 3 none]],6,0⟩
def rO (j : Jrn) : AO:=⟨(j.recs.map Chg.enc).map .d,8,0⟩
def oO (j : Jrn) : AO:=⟨(j.opens.map Opn.enc).map .d,3,0⟩
def dead (k : Nat) : AO:=⟨[],k,2⟩
abbrev wS (j : Jrn) : Heap:=[wO j 1 2,rO j,oO j]
abbrev wT (j : Jrn) : Heap:=[wO j 3 4,dead 8,dead 3,rO j,oO j]
theorem run_row {P : Program} {f k n m : Nat} {L L' xs : List D} (hf : Run P f (.sl 0 0 L.length k none :: xs.map .d) [⟨L.map .d, k, 0⟩] (.sl 1 0 m k none) [⟨[], k, 2⟩, ⟨L'.map .d, k, 0⟩]) (hL : ∀ y ∈ L', y.flat = true) {H : Heap} {a : Nat} (h : H[a]? = some ⟨L.map .d, k, 0⟩) (hn : n = L.length) {args : List AV} (hv : vl (view 8 H) args = some xs) (hd : ∀ j ∈ args.flatMap (reach 8 H), j ≠ a) :
  Run P f (.sl a 0 n k none :: args) H (.sl H.length 0 m k none) (H.set a ⟨[],k,2⟩ ++ [⟨L'.map .d,k,0⟩]):=by
 subst hn
 refine run_at (σ:=[a]) (F:=args.flatMap (reach 8 H)) (fl:=true) hf (by simp) (fun j hj=>by simpa using hd j hj) ⟨⟨rfl,rfl,rfl,rfl,rfl⟩,embs_views1 H args xs _ (fun _ h=>h) hv⟩
  ⟨(nthK_iff _ _).2 ⟨_,h,rfl,rfl,.inl ⟨_,rfl,rfl⟩⟩,trivial⟩ (fun _=>⟨rfl,fun o ho=>?_⟩) ?_ ?_
 ·simp only [List.mem_cons,List.not_mem_nil,or_false] at ho
  rcases ho with rfl | rfl
  ·exact ⟨rfl,by show (2 : Nat) ≠ 1;decide⟩
  ·exact ⟨flats_map _ hL,Nat.zero_ne_one⟩
 ·simp [ren,tau]
 ·simp only [outH,setAll,List.map_cons,List.map_nil,List.length_cons,List.length_nil,List.drop_succ_cons,List.drop_zero,if_true,renO,rens_D]
  rfl
theorem run_w {f : Nat} {xs : List D} {r : AV} {j j' : Jrn} (hf : Run Tryz.prog f (.ptr 0 0 0 :: xs.map .d) (wS j) r (wT j')) (hr : r.flat = true) (hrr : ∀ τ,ren τ r = r)
  {H : Heap} {a b c : Nat} (h1 : H[a]? = some (wO j b c)) (h2 : H[b]? = some (rO j)) (h3 : H[c]? = some (oO j)) (hab : a ≠ b) (hac : a ≠ c) (hbc : b ≠ c) {args : List AV} (hv : vl (view 8 H) args = some xs) (hd : ∀ z ∈ args.flatMap (reach 8 H),z ≠ a ∧ z ≠ b ∧ z ≠ c) :
  Run Tryz.prog f (.ptr a 0 0 :: args) H r ((((H.set a (wO j' H.length (H.length + 1))).set b (dead 8)).set c (dead 3)) ++ [rO j', oO j']) := by
 refine run_at (σ:=[a,b,c]) (F:=args.flatMap (reach 8 H)) (fl:=true) hf (by simp [hab,hac,hbc]) (fun z hz=>by have:=hd z hz;simp;omega) ⟨⟨rfl,rfl,rfl⟩,embs_views1 H args xs _ (fun _ h=>h) hv⟩
  ⟨(nthK_iff _ _).2 ⟨_,h1,rfl,rfl,.inr ⟨⟨⟨rfl,fun id hid=>by simp [reach] at hid⟩,⟨rfl,fun id hid=>by simp [reach] at hid⟩,⟨rfl,fun id hid=>by simp [reach] at hid⟩,⟨rfl,fun id hid=>by simp [reach] at hid⟩,⟨rfl,rfl,rfl,rfl,rfl⟩,⟨rfl,rfl,rfl,rfl,rfl⟩,trivial⟩,trivial⟩⟩,(nthK_iff _ _).2 ⟨_,h2,rfl,rfl,.inl ⟨_,rfl,rfl⟩⟩,(nthK_iff _ _).2 ⟨_,h3,rfl,rfl,.inl ⟨_,rfl,rfl⟩⟩,trivial⟩ (fun _=>⟨hr,fun o ho=>?_⟩) (hrr _) ?_
 ·simp only [List.mem_cons,List.not_mem_nil,or_false] at ho
  rcases ho with rfl | rfl | rfl | rfl | rfl
  ·exact ⟨rfl,Nat.zero_ne_one⟩
  ·exact ⟨rfl,by show (2 : Nat) ≠ 1;decide⟩
  ·exact ⟨rfl,by show (2 : Nat) ≠ 1;decide⟩
  ·exact ⟨flats_map _ (chg_ok _).2,Nat.zero_ne_one⟩
  ·exact ⟨flats_map _ (opn_ok _).2,Nat.zero_ne_one⟩
 ·simp only [outH,setAll,List.map_cons,List.map_nil,List.length_cons,List.length_nil,List.drop_succ_cons,List.drop_zero,if_true]
  have e1 : renO (tau [a,b,c] H.length) (wO j' 3 4) = wO j' H.length (H.length + 1):=rfl
  have e2 : renO (tau [a,b,c] H.length) (rO j') = rO j':=by unfold renO rO;rw [rens_D]
  have e3 : renO (tau [a,b,c] H.length) (oO j') = oO j':=by unfold renO oO;rw [rens_D]
  rw [e1,e2,e3];rfl
theorem view_w {j : Jrn} {H : Heap} {a b c : Nat} (h1 : H[a]? = some (wO j b c)) (h2 : H[b]? = some (rO j)) (h3 : H[c]? = some (oO j)) : view 8 H (.ptr a 0 0) = some (.fp j.enc 0):=
 view_ptr h1 Nat.two_pos rfl (view_agg (vlc rfl (vlc rfl (vlc rfl (vlc rfl (vlc (view_map h2 Nat.two_pos) (vlc (view_map h3 Nat.two_pos) vln)))))))
theorem c29 (j : Jrn) (hr : j.recs.length < 1000000) (ho : j.opens.length < 1000000) : Run Tryz.prog 29 [.d j.enc] [] (.ptr 0 0 0) (wS j):=by
 refine run_walkV eok Tryz.func29 rfl (by kernel_rfl) [] (by rfl) [] ?_
 conv=>whnf
 repeat' (first
 | ((with_reducible refine on_dec_f ?_ ?_);(focus ((try simp only [List.length_map,List.length_cons,List.length_nil,List.length_append]);omega));conv=>whnf)
 | ((with_reducible refine on_dec_t ?_ ?_);(focus ((try simp only [List.length_map,List.length_cons,List.length_nil,List.length_append]);omega));conv=>whnf)
 | ((with_reducible refine on_dec (fun h=>?_) (fun h=>?_))<;>(try simp only [List.length_map] at h)<;>conv=>whnf)
 | ((with_reducible refine on_ndec (fun h=>?_) (fun h=>?_))<;>(try simp only [List.length_map] at h)<;>conv=>whnf)
 | ((with_reducible refine on_not (fun h=>?_) (fun h=>?_))<;>conv=>whnf)
 | ((with_reducible refine onBool_split (fun h=>?_) (fun h=>?_))<;>conv=>whnf)
 | ((with_reducible refine call_go ?_);(first | refine call_step (cl63r j.recs hr _) ?_ | refine call_step (cl64r j.opens ho _) ?_);conv=>whnf)
 | (refine ⟨[],[(4,2)],(by decide +kernel),?_⟩;conv=>whnf)
 | (refine ⟨⟨(by first | rfl | (simp;done)),cap_ok (by simp only [List.length_map,List.length_cons,List.length_nil,List.length_append];omega) rfl⟩,?_⟩;conv=>whnf)
 | (refine ⟨mem_one ⟨rfl,rfl⟩,?_⟩;conv=>whnf)
 | (refine ⟨(by intro y hy;obtain ⟨x,_,rfl⟩:=List.mem_map.1 hy;first | rfl | exact ⟨rfl,rfl⟩),?_⟩;conv=>whnf)
 | (refine ⟨cap_ok (by first | omega | (simp only [List.length_map];omega)) rfl,?_⟩;conv=>whnf)
 | (refine ix_map (by omega) ?_;conv=>whnf)
 | (refine ix_str (by omega) ?_;conv=>whnf)
 | (refine wrap64 (by omega) ?_;conv=>whnf)
 | (refine wrap64 (by omega) ?_;conv=>whnf)
 | (exfalso;simp only [List.length_map,List.length_cons,List.length_nil,List.length_append] at h;omega)
 | ((with_reducible refine endx_go ?_);first | (refine endX_of (.inl ⟨[.old 3,.old 1,.old 2],rfl,rfl,⟨⟨rfl,rfl,rfl⟩,trivial⟩,⟨⟨rfl,rfl,.inr ⟨⟨rfl,rfl,rfl,rfl,⟨rfl,rfl,(by rw [List.length_map]),rfl,rfl⟩,⟨rfl,rfl,(by rw [List.length_map]),rfl,rfl⟩,trivial⟩,trivial⟩⟩,⟨rfl,rfl,.inl ⟨_,rfl,rfl⟩⟩,⟨rfl,rfl,.inl ⟨_,rfl,rfl⟩⟩,trivial⟩⟩);done))
 | (refine ⟨rfl,?_⟩;conv=>whnf)
  | fail
  )
theorem c90 (j : Jrn) (x : Chg) (hr : j.recs.length < 1000000) (hx : x.name.length < 1000000) : Run Tryz.prog 90 [.ptr 0 0 0,.d x.enc] (wS j) (.tup []) (wT (j.wr x)):=by
 refine run_walkV eok Tryz.func90 rfl (by kernel_rfl) [0,1,2] (by rfl) [] ?_
 conv=>whnf
 repeat' (first
 | ((with_reducible refine on_dec_f ?_ ?_);(focus (simp only [rO,oO,List.length_map,List.length_cons,List.length_nil,List.length_append];omega));conv=>whnf)
 | ((with_reducible refine on_dec_f ?_ ?_);(focus ((try simp only [List.length_map,List.length_cons,List.length_nil,List.length_append]);omega));conv=>whnf)
 | ((with_reducible refine on_dec_t ?_ ?_);(focus ((try simp only [List.length_map,List.length_cons,List.length_nil,List.length_append]);omega));conv=>whnf)
 | ((with_reducible refine on_dec (fun h=>?_) (fun h=>?_))<;>(try simp only [List.length_map] at h)<;>conv=>whnf)
 | ((with_reducible refine on_ndec (fun h=>?_) (fun h=>?_))<;>(try simp only [List.length_map] at h)<;>conv=>whnf)
 | ((with_reducible refine on_not (fun h=>?_) (fun h=>?_))<;>conv=>whnf)
 | ((with_reducible refine onBool_split (fun h=>?_) (fun h=>?_))<;>conv=>whnf)
 | ((with_reducible refine call_go ?_);(first | refine call_step (run_view (c59 { x with usn:=j.next } hx) rfl rfl) ?_);conv=>whnf)
 | (refine ⟨[],[(5,7)],(by decide +kernel),?_⟩;conv=>whnf)
 | (refine ⟨[],[(4,6)],(by decide +kernel),?_⟩;conv=>whnf)
 | (refine ⟨mem_one ⟨rfl,rfl⟩,?_⟩;conv=>whnf)
 | (refine ⟨(by intro y hy;obtain ⟨x,_,rfl⟩:=List.mem_map.1 hy;first | rfl | exact ⟨rfl,rfl⟩),?_⟩;conv=>whnf)
 | (refine ⟨cap_ok (by first | omega | (simp only [List.length_map];omega)) rfl,?_⟩;conv=>whnf)
 | (refine ix_map (by omega) ?_;conv=>whnf)
 | (refine ix_str (by omega) ?_;conv=>whnf)
 | (refine wrap64 (by omega) ?_;conv=>whnf)
 | (refine wrap_raw ?_;conv=>whnf)
 | (refine ⟨Nat.le_refl _,?_⟩;conv=>whnf)
 | (refine ⟨⟨(by simp [rO]),cap_ok (by simp only [List.length_map,List.length_cons,List.length_nil];omega) rfl⟩,?_⟩;conv=>whnf)
 | (refine ⟨(by simp),?_⟩;conv=>whnf)
 | (exfalso;simp only [List.length_map,List.length_cons,List.length_nil,List.length_append] at h;omega)
 | ((with_reducible refine endx_go ?_);first | (refine endX_of (.inl ⟨[.old 0,.dead,.dead,.old 5,.old 2],rfl,rfl,⟨trivial,trivial⟩,⟨⟨rfl,rfl,.inr ⟨⟨rfl,rfl,rfl,rfl,⟨rfl,rfl,(by simp [Jrn.wr]),rfl,rfl⟩,⟨rfl,rfl,rfl,rfl,rfl⟩,trivial⟩,trivial⟩⟩,rfl,rfl,⟨rfl,rfl,.inr (wks_add (f:=Chg.enc) (x:={ x with usn:=j.next }) (r:=j.recs) (wksd _ _) ⟨rfl,rfl,rfl,rfl,rfl,rfl,rfl,rfl,rfl,trivial⟩)⟩,⟨rfl,rfl,.inl ⟨_,rfl,rfl⟩⟩,trivial⟩⟩);done))
 | (refine ⟨rfl,?_⟩;conv=>whnf)
  | fail
  )
end Go.Proofs.YtkeeienjocbkbaaGreatDoor
namespace Go.Proofs.YtkeeienjocbkbaaGreatDoor
open Go Dw
set_option maxRecDepth 10000
attribute [local irreducible] Run
set_option maxHeartbeats 4000000
theorem nth_r {j : Jrn} {n : Nat} (k : Nat) {K : AV → Prop} (hn : n = k) (h : k < j.recs.length) (hk : K (.d (Chg.enc j.recs[k]))) : nthK (rO j).elems n K:=by
 subst hn
 exact nthK_row h hk
theorem nth_o {j : Jrn} {n : Nat} (k : Nat) {K : AV → Prop} (hn : n = k) (h : k < j.opens.length) (hk : K (.d (Opn.enc j.opens[k]))) : nthK (oO j).elems n K:=by
 subst hn
 exact nthK_row h hk
theorem trim_drop {nx mo f : Int} {l : List Chg} {k : Nat} (h : k < l.length) (hc : mo < IntKind.i64.wrap (nx - f)) : trimR nx mo f (l.drop k) = trimR nx mo (IntKind.i64.wrap (f + size l[k].name.length)) (l.drop (k + 1)):=by
 rw [List.drop_eq_getElem_cons h]
 simp only [trimR,if_pos hc]
theorem trim_stop {nx mo f : Int} {l : List Chg} {k : Nat} (hc : ¬ mo < IntKind.i64.wrap (nx - f)) : trimR nx mo f (l.drop k) = (f,l.drop k):=by
 cases l.drop k with
 | nil=>rfl
 | cons x l=>simp only [trimR,if_neg hc]
theorem trim_end {nx mo f : Int} {l : List Chg} {k : Nat} (h : ¬ k < l.length) : trimR nx mo f (l.drop k) = (f,l.drop k):=by
 rw [List.drop_eq_nil_of_le (by omega)];rfl
theorem trim_eq {j : Jrn} {f : Int} {k : Nat} (h : trimR j.next j.most j.first j.recs = (f,j.recs.drop k)) : j.trim = { j with first:=f,recs:=j.recs.drop k }:=by
 unfold Jrn.trim;rw [h]
theorem wks_set {μ : List Mu} {a : AV} {x : D} (h : wk μ a (.d x)) : ∀ (L : List D) (k : Nat),wks μ ((L.map AV.d).set k a) ((L.set k x).map AV.d)
 | [],k=>by simp [wks]
 | y :: L,0=>⟨h,wksd μ L⟩
 | y :: L,k + 1=>⟨rfl,wks_set h L k⟩
theorem wrap_to' {x : Int} {K : Int → Prop} (y : Nat) (e : x = (y : Int)) (h : y ≤ 9223372036854775807) (hk : K (y : Int)) : wrapK .i64 x K:=by
 subst e;exact wrap64 (by omega) hk
theorem setK_at {α : Type} {l : List α} {n : Nat} {v : α} {K : List α → Prop} (k : Nat) (e : n = k) (hk : K (l.set k v)) : setK l n v K:=by
 subst e;rw [setK_eq];exact hk
theorem c104k {j : Jrn} {f : Ref} {k : Nat} {is : Bool} (ho : j.opens.length < 1000000) (h : opAt j.opens f = (k,is)) : Fn 104 [.fp j.enc 0,f.enc] (.tup [i k,.bool is]):=by
 have:=c104 j f ho
 rwa [h] at this
theorem run_insA {L : List D} {ys : List D} {k n : Nat} {H : Heap} {a b : Nat} (h1 : H[a]? = some ⟨L.map .d,3,0⟩) (h2 : H[b]? = some ⟨[.agg (ys.map .d)],3,0⟩) (hab : a ≠ b) (hn : n = L.length) (hkn : k ≤ L.length) (hk : ∀ z ∈ L,z.cells.length = 3 ∧ z.memOk = true) (hf : ∀ z ∈ L,z.flat = true)
  (hy : ys.length = 3) (hyf : (D.agg ys).flat = true) (hL : L.length < 1000000) :
  Run Tryz.prog 106 [.sl a 0 n 3 none,.d (i k),.sl b 0 1 3 (some 1)] H (.sl H.length 0 (L.length + 1) 3 none) (((H.set a ⟨[],3,2⟩).set b ⟨[.d (.agg ys)],3,0⟩) ++ [⟨(insL L k (.agg ys)).map .d,3,0⟩]):=by
 subst hn
 have hv : ∀ zs : List D,vl (view 7 H) (zs.map .d) = some zs:=fun zs=>vl_map_d 6 H zs
 have hre : ∀ zs : List D,(zs.map AV.d).flatMap (reach 7 H) = []:=by
  intro zs
  induction zs with
  | nil=>rfl
  | cons z zs ih=>rw [List.map_cons,List.flatMap_cons,ih];rfl
 refine run_at (σ:=[a,b]) (F:=[]) (fl:=true) (ins106 L (.agg ys) k hkn hk ⟨hy,rfl⟩ hL) (by simp [hab]) (fun j hj=>by cases hj) ⟨⟨rfl,rfl,rfl,rfl,rfl⟩,⟨rfl,fun id hid=>by simp [reach] at hid⟩,⟨rfl,rfl,rfl,rfl,rfl⟩,trivial⟩
  ⟨(nthK_iff _ _).2 ⟨_,h1,rfl,rfl,.inl ⟨_,rfl,rfl⟩⟩,(nthK_iff _ _).2 ⟨_,h2,rfl,rfl,.inr ⟨⟨view_agg (hv ys),fun id hid=>?_⟩,trivial⟩⟩,trivial⟩ (fun _=>⟨rfl,fun o ho=>?_⟩) ?_ ?_
 ·have : reach 8 H (.agg (ys.map .d)) = []:=hre ys
  rw [this] at hid;cases hid
 ·simp only [List.mem_cons,List.not_mem_nil,or_false] at ho
  rcases ho with rfl | rfl | rfl
  ·exact ⟨rfl,by decide⟩
  ·exact ⟨flats_map [.agg ys] (by simpa using hyf),Nat.zero_ne_one⟩
  ·refine ⟨flats_map _ fun z hz=>?_,Nat.zero_ne_one⟩
   unfold insL at hz
   rcases List.mem_append.1 hz with hz | hz
   ·exact hf z (List.mem_of_mem_take hz)
   ·rcases List.mem_cons.1 hz with rfl | hz
    ·exact hyf
    ·exact hf z (List.mem_of_mem_drop hz)
 ·simp [ren,tau]
 ·simp only [outH,setAll,List.map_cons,List.map_nil,List.length_cons,List.length_nil,List.drop_succ_cons,List.drop_zero,renO,rens_D,if_true]
  rfl
theorem c92 (j : Jrn) (hr : j.recs.length < 1000000) (hnm : ∀ x ∈ j.recs,x.name.length < 1000000) : Run Tryz.prog 92 [.ptr 0 0 0] (wS j) (.tup []) (wT j.trim):=by
 refine run_walkV eok Tryz.func92 rfl (by kernel_rfl) [0,1,2] (by rfl) [] ?_
 conv=>whnf
 repeat' (first
 | ((with_reducible refine on_dec_f ?_ ?_);(focus ((try simp only [List.length_map,List.length_cons,List.length_nil,List.length_append]);omega));conv=>whnf)
 | ((with_reducible refine on_dec_t ?_ ?_);(focus ((try simp only [List.length_map,List.length_cons,List.length_nil,List.length_append]);omega));conv=>whnf)
 | ((with_reducible refine on_dec (fun h=>?_) (fun h=>?_))<;>(try simp only [List.length_map] at h)<;>conv=>whnf)
 | ((with_reducible refine on_ndec (fun h=>?_) (fun h=>?_))<;>(try simp only [List.length_map] at h)<;>conv=>whnf)
 | ((with_reducible refine on_not (fun h=>?_) (fun h=>?_))<;>conv=>whnf)
 | ((with_reducible refine onBool_split (fun h=>?_) (fun h=>?_))<;>conv=>whnf)
 | ((with_reducible refine call_go ?_);(first | refine call_step (run_view (c59 (j.recs[k]'(by omega)) (hnm _ (List.getElem_mem _))) rfl rfl) ?_ | refine call_step (run_row (xs:=[i 0,i k]) (del107 (j.recs.map Chg.enc) 0 k ⟨Nat.zero_le _,by rw [List.length_map];omega⟩ (by rw [List.length_map];exact hr) (chg_ok _).1) (fun y hy=>(chg_ok (j.recs)).2 y (by rw [List.take_zero,List.nil_append] at hy;exact List.mem_of_mem_drop hy)) rfl (by rw [List.length_map]) rfl (by intro z hz;simp [reach] at hz)) ?_);conv=>whnf)
 | (refine ⟨[],[],(by decide +kernel),?_⟩;conv=>whnf)
 | (refine ⟨[],[(4,13)],(by decide +kernel),?_⟩;conv=>whnf)
 | ((with_reducible refine loop_go ?_);first | (refine loop2 (fun (k : Nat) (f : Int)=>j.recs.length - k) (fun (k : Nat) (f : Int)=>k ≤ j.recs.length ∧ trimR j.next j.most j.first j.recs = trimR j.next j.most f (j.recs.drop k)) (fun (k : Nat) (f : Int)=>[(0,.ptr 0 0 0),(2,.d (i k))]) (fun (k : Nat) (f : Int)=>[wO { j with first:=f } 1 2,rO j,oO j]) (0) (j.first) (by exact ⟨Nat.zero_le _,by rw [List.drop_zero]⟩) ?_ (fun k f C hI hC=>?_);(exact ⟨[.old 0,.old 1,.old 2],rfl,rfl,⟨⟨rfl,rfl,rfl⟩,(by first | (show (_ : D) = _;with_reducible rfl) | exact congrArg (D.int .i64) (by omega) | exact congrArg (D.int .i64) (by simp only [List.length_map]) | exact rfl),trivial⟩,⟨⟨rfl,rfl,.inr ⟨⟨rfl,rfl,rfl,rfl,⟨rfl,rfl,rfl,rfl,rfl⟩,⟨rfl,rfl,rfl,rfl,rfl⟩,trivial⟩,trivial⟩⟩,⟨rfl,rfl,.inl ⟨_,rfl,rfl⟩⟩,⟨rfl,rfl,.inl ⟨_,rfl,rfl⟩⟩,trivial⟩⟩);all_goals (conv=>whnf)))
 | ((with_reducible show C _ _);first | (refine hC (k + 1) (IntKind.i64.wrap (f + size (j.recs[k]'(by omega)).name.length)) _ _ ?_ (by omega) ?_;clear hC;rotate_left;(exact ⟨[.old 0,.old 1,.old 2],rfl,rfl,⟨⟨rfl,rfl,rfl⟩,(by first | (show (_ : D) = _;with_reducible rfl) | exact congrArg (D.int .i64) (by omega) | exact congrArg (D.int .i64) (by simp only [List.length_map]) | exact rfl),trivial⟩,⟨⟨rfl,rfl,.inr ⟨⟨rfl,rfl,rfl,rfl,⟨rfl,rfl,rfl,rfl,rfl⟩,⟨rfl,rfl,rfl,rfl,rfl⟩,trivial⟩,trivial⟩⟩,⟨rfl,rfl,.inl ⟨_,rfl,rfl⟩⟩,⟨rfl,rfl,.inl ⟨_,rfl,rfl⟩⟩,trivial⟩⟩);(exact ⟨by omega,by rw [hI.2,trim_drop (by omega) (by assumption)]⟩)))
 | (refine ⟨⟨(by first | rfl | (simp;done)),cap_ok (by simp only [List.length_map,List.length_cons,List.length_nil,List.length_append];omega) rfl⟩,?_⟩;conv=>whnf)
 | (refine ⟨mem_one ⟨rfl,rfl⟩,?_⟩;conv=>whnf)
 | (refine ⟨(by intro y hy;obtain ⟨x,_,rfl⟩:=List.mem_map.1 hy;first | rfl | exact ⟨rfl,rfl⟩),?_⟩;conv=>whnf)
 | (refine ⟨cap_ok (by first | omega | (simp only [List.length_map];omega)) rfl,?_⟩;conv=>whnf)
 | (refine ix_map (by omega) ?_;conv=>whnf)
 | (refine ix_str (by omega) ?_;conv=>whnf)
 | (refine wrap64 (by omega) ?_;conv=>whnf)
 | (refine wrap_raw ?_;conv=>whnf)
 | (refine ⟨⟨by omega,by omega⟩,?_⟩;conv=>whnf)
 | (refine nth_r k (Nat.zero_add _) (by omega) ?_;conv=>whnf)
 | (refine nth_r k (by omega) (by omega) ?_;conv=>whnf)
 | (exfalso;simp only [List.length_map,List.length_cons,List.length_nil,List.length_append] at h;omega)
 | ((with_reducible refine endx_go ?_);first | (refine cut_ (trim_eq (hI.2.trans (trim_stop (by assumption)))) (fun hT=>?_);rw [hT];refine endX_of (.inl ⟨[.old 0,.dead,.dead,.old 3,.old 2],rfl,rfl,⟨trivial,trivial⟩,⟨⟨rfl,rfl,.inr ⟨⟨rfl,rfl,rfl,rfl,⟨rfl,rfl,(by rw [List.length_map];show _ = (j.recs.drop k).length;rw [List.length_drop];omega),rfl,rfl⟩,⟨rfl,rfl,rfl,rfl,rfl⟩,trivial⟩,trivial⟩⟩,rfl,rfl,⟨rfl,rfl,.inl ⟨(j.recs.drop k).map Chg.enc,(by rw [List.take_zero,List.nil_append,← List.map_drop]),rfl⟩⟩,⟨rfl,rfl,.inl ⟨_,rfl,rfl⟩⟩,trivial⟩⟩);done) | (refine cut_ (trim_eq (hI.2.trans (trim_end (by omega)))) (fun hT=>?_);rw [hT];refine endX_of (.inl ⟨[.old 0,.dead,.dead,.old 3,.old 2],rfl,rfl,⟨trivial,trivial⟩,⟨⟨rfl,rfl,.inr ⟨⟨rfl,rfl,rfl,rfl,⟨rfl,rfl,(by rw [List.length_map];show _ = (j.recs.drop k).length;rw [List.length_drop];omega),rfl,rfl⟩,⟨rfl,rfl,rfl,rfl,rfl⟩,trivial⟩,trivial⟩⟩,rfl,rfl,⟨rfl,rfl,.inl ⟨(j.recs.drop k).map Chg.enc,(by rw [List.take_zero,List.nil_append,← List.map_drop]),rfl⟩⟩,⟨rfl,rfl,.inl ⟨_,rfl,rfl⟩⟩,trivial⟩⟩);done))
 | (refine ⟨rfl,?_⟩;conv=>whnf)
  | fail
  )
theorem c91n (j : Jrn) (f : Ref) (r : Int) (k : Nat) (ho : j.opens.length < 1000000) (hop : opAt j.opens f = (k,false)) (h0 : r = 0) : Run Tryz.prog 91 [.ptr 0 0 0,.d f.enc,.d (i r)] (wS j) (.tup []) (wT { j with opens:=j.opens }):=by
 refine run_walkV eok Tryz.func91 rfl (by kernel_rfl) [0,1,2] (by rfl) [] ?_
 conv=>whnf
 repeat' (first
 | ((with_reducible refine on_dec_t (by assumption) ?_);conv=>whnf)
 | ((with_reducible refine on_dec_f (by assumption) ?_);conv=>whnf)
 | ((with_reducible refine onBool_t (by assumption) ?_);conv=>whnf)
 | ((with_reducible refine onBool_f (by assumption) ?_);conv=>whnf)
 | ((with_reducible refine on_nt (by assumption) ?_);conv=>whnf)
 | ((with_reducible refine on_nf (by assumption) ?_);conv=>whnf)
 | ((with_reducible refine on_ndec_t (by first | assumption | rfl) ?_);conv=>whnf)
 | ((with_reducible refine on_ndec_f (by assumption) ?_);conv=>whnf)
 | ((with_reducible refine on_dec_t rfl ?_);conv=>whnf)
 | ((with_reducible refine on_dec_f ?_ ?_);(focus ((try simp only [List.length_map,List.length_cons,List.length_nil,List.length_append]);omega));conv=>whnf)
 | ((with_reducible refine on_dec_t ?_ ?_);(focus ((try simp only [List.length_map,List.length_cons,List.length_nil,List.length_append]);omega));conv=>whnf)
 | ((with_reducible refine on_dec (fun h=>?_) (fun h=>?_))<;>(try simp only [List.length_map] at h)<;>conv=>whnf)
 | ((with_reducible refine on_ndec (fun h=>?_) (fun h=>?_))<;>(try simp only [List.length_map] at h)<;>conv=>whnf)
 | ((with_reducible refine on_not (fun h=>?_) (fun h=>?_))<;>conv=>whnf)
 | ((with_reducible refine onBool_split (fun h=>?_) (fun h=>?_))<;>conv=>whnf)
 | ((with_reducible refine call_go ?_);(first | refine call_step (run_view (c104k (j:=j) (f:=f) ho hop) rfl (vlc (view_w rfl rfl rfl) (vlc rfl vln))) ?_);conv=>whnf)
 | (refine ⟨[],[(5,10)],(by decide +kernel),?_⟩;conv=>whnf)
 | (refine ⟨⟨(by first | rfl | (simp;done)),cap_ok (by simp only [List.length_map,List.length_cons,List.length_nil,List.length_append];omega) rfl⟩,?_⟩;conv=>whnf)
 | (refine ⟨mem_one ⟨rfl,rfl⟩,?_⟩;conv=>whnf)
 | (refine ⟨(by intro y hy;obtain ⟨x,_,rfl⟩:=List.mem_map.1 hy;first | rfl | exact ⟨rfl,rfl⟩),?_⟩;conv=>whnf)
 | (refine ⟨cap_ok (by first | omega | (simp only [List.length_map];omega)) rfl,?_⟩;conv=>whnf)
 | (refine ix_map (by omega) ?_;conv=>whnf)
 | (refine ix_str (by omega) ?_;conv=>whnf)
 | (refine wrap64 (by omega) ?_;conv=>whnf)
 | (exfalso;simp only [List.length_map,List.length_cons,List.length_nil,List.length_append] at h;omega)
 | ((with_reducible refine endx_go ?_);first | (refine endX_of (.inl ⟨[.old 0,.dead,.dead,.old 1,.old 2],rfl,rfl,⟨trivial,trivial⟩,⟨⟨rfl,rfl,.inr ⟨⟨rfl,rfl,rfl,rfl,⟨rfl,rfl,rfl,rfl,rfl⟩,⟨rfl,rfl,rfl,rfl,rfl⟩,trivial⟩,trivial⟩⟩,rfl,rfl,⟨rfl,rfl,.inl ⟨_,rfl,rfl⟩⟩,⟨rfl,rfl,.inl ⟨_,rfl,rfl⟩⟩,trivial⟩⟩);done))
 | (refine ⟨rfl,?_⟩;conv=>whnf)
  | fail
  )
theorem c91d (j : Jrn) (f : Ref) (r : Int) (k : Nat) (ho : j.opens.length < 1000000) (hop : opAt j.opens f = (k,true)) (hk : k < j.opens.length) (h0 : r = 0) : Run Tryz.prog 91 [.ptr 0 0 0,.d f.enc,.d (i r)] (wS j) (.tup []) (wT { j with opens:=j.opens.take k ++ j.opens.drop (k + 1) }):=by
 refine run_walkV eok Tryz.func91 rfl (by kernel_rfl) [0,1,2] (by rfl) [] ?_
 conv=>whnf
 repeat' (first
 | ((with_reducible refine on_dec_t (by assumption) ?_);conv=>whnf)
 | ((with_reducible refine on_dec_f (by assumption) ?_);conv=>whnf)
 | ((with_reducible refine onBool_t (by assumption) ?_);conv=>whnf)
 | ((with_reducible refine onBool_f (by assumption) ?_);conv=>whnf)
 | ((with_reducible refine on_nt (by assumption) ?_);conv=>whnf)
 | ((with_reducible refine on_nf (by assumption) ?_);conv=>whnf)
 | ((with_reducible refine on_ndec_t (by first | assumption | rfl) ?_);conv=>whnf)
 | ((with_reducible refine on_ndec_f (by assumption) ?_);conv=>whnf)
 | ((with_reducible refine on_dec_t rfl ?_);conv=>whnf)
 | ((with_reducible refine on_dec_f ?_ ?_);(focus ((try simp only [List.length_map,List.length_cons,List.length_nil,List.length_append]);omega));conv=>whnf)
 | ((with_reducible refine on_dec_t ?_ ?_);(focus ((try simp only [List.length_map,List.length_cons,List.length_nil,List.length_append]);omega));conv=>whnf)
 | ((with_reducible refine on_dec (fun h=>?_) (fun h=>?_))<;>(try simp only [List.length_map] at h)<;>conv=>whnf)
 | ((with_reducible refine on_ndec (fun h=>?_) (fun h=>?_))<;>(try simp only [List.length_map] at h)<;>conv=>whnf)
 | ((with_reducible refine on_not (fun h=>?_) (fun h=>?_))<;>conv=>whnf)
 | ((with_reducible refine onBool_split (fun h=>?_) (fun h=>?_))<;>conv=>whnf)
 | ((with_reducible refine call_go ?_);(first | refine call_step (run_view (c104k (j:=j) (f:=f) ho hop) rfl (vlc (view_w rfl rfl rfl) (vlc rfl vln))) ?_ | refine call_step (run_row (xs:=[i k,i (k + 1 : Nat)]) (del105 (j.opens.map Opn.enc) k (k + 1) ⟨by omega,by rw [List.length_map];omega⟩ (by rw [List.length_map];exact ho) (opn_ok _).1) (fun y hy=>(opn_ok j.opens).2 y (by rcases List.mem_append.1 hy with hy | hy;exact List.mem_of_mem_take hy;exact List.mem_of_mem_drop hy)) rfl (by rw [List.length_map]) rfl (by intro z hz;simp [reach] at hz)) ?_);conv=>whnf)
 | (refine ⟨[],[(5,10)],(by decide +kernel),?_⟩;conv=>whnf)
 | (refine ⟨⟨(by first | rfl | (simp;done)),cap_ok (by simp only [List.length_map,List.length_cons,List.length_nil,List.length_append];omega) rfl⟩,?_⟩;conv=>whnf)
 | (refine ⟨mem_one ⟨rfl,rfl⟩,?_⟩;conv=>whnf)
 | (refine ⟨(by intro y hy;obtain ⟨x,_,rfl⟩:=List.mem_map.1 hy;first | rfl | exact ⟨rfl,rfl⟩),?_⟩;conv=>whnf)
 | (refine ⟨cap_ok (by first | omega | (simp only [List.length_map];omega)) rfl,?_⟩;conv=>whnf)
 | (refine ix_map (by omega) ?_;conv=>whnf)
 | (refine ix_str (by omega) ?_;conv=>whnf)
 | (refine wrap_to' (k + 1) (by omega) (by omega) ?_;conv=>whnf)
 | (refine wrap64 (by omega) ?_;conv=>whnf)
 | (exfalso;simp only [List.length_map,List.length_cons,List.length_nil,List.length_append] at h;omega)
 | ((with_reducible refine endx_go ?_);first | (refine endX_of (.inl ⟨[.old 0,.dead,.dead,.old 1,.old 4],rfl,rfl,⟨trivial,trivial⟩,⟨⟨rfl,rfl,.inr ⟨⟨rfl,rfl,rfl,rfl,⟨rfl,rfl,rfl,rfl,rfl⟩,⟨rfl,rfl,(by simp only [List.length_map,List.length_append,List.length_take,List.length_drop];omega),rfl,rfl⟩,trivial⟩,trivial⟩⟩,rfl,rfl,⟨rfl,rfl,.inl ⟨_,rfl,rfl⟩⟩,⟨rfl,rfl,.inl ⟨(j.opens.take k ++ j.opens.drop (k + 1)).map Opn.enc,(by simp only [List.map_append,List.map_take,List.map_drop]),rfl⟩⟩,trivial⟩⟩);done))
 | (refine ⟨rfl,?_⟩;conv=>whnf)
  | fail
  )
theorem c91s (j : Jrn) (f : Ref) (r : Int) (k : Nat) (ho : j.opens.length < 1000000) (hop : opAt j.opens f = (k,true)) (hk : k < j.opens.length) (h0 : ¬ r = 0) : Run Tryz.prog 91 [.ptr 0 0 0,.d f.enc,.d (i r)] (wS j) (.tup []) (wT { j with opens:=j.opens.set k ⟨j.opens[k].file,r⟩ }):=by
 refine run_walkV eok Tryz.func91 rfl (by kernel_rfl) [0,1,2] (by rfl) [] ?_
 conv=>whnf
 repeat' (first
 | ((with_reducible refine on_dec_t (by assumption) ?_);conv=>whnf)
 | ((with_reducible refine on_dec_f (by assumption) ?_);conv=>whnf)
 | ((with_reducible refine onBool_t (by assumption) ?_);conv=>whnf)
 | ((with_reducible refine onBool_f (by assumption) ?_);conv=>whnf)
 | ((with_reducible refine on_nt (by assumption) ?_);conv=>whnf)
 | ((with_reducible refine on_nf (by assumption) ?_);conv=>whnf)
 | ((with_reducible refine on_ndec_t (by first | assumption | rfl) ?_);conv=>whnf)
 | ((with_reducible refine on_ndec_f (by assumption) ?_);conv=>whnf)
 | ((with_reducible refine on_dec_t rfl ?_);conv=>whnf)
 | ((with_reducible refine on_dec_f ?_ ?_);(focus ((try simp only [List.length_map,List.length_cons,List.length_nil,List.length_append]);omega));conv=>whnf)
 | ((with_reducible refine on_dec_t ?_ ?_);(focus ((try simp only [List.length_map,List.length_cons,List.length_nil,List.length_append]);omega));conv=>whnf)
 | ((with_reducible refine on_dec (fun h=>?_) (fun h=>?_))<;>(try simp only [List.length_map] at h)<;>conv=>whnf)
 | ((with_reducible refine on_ndec (fun h=>?_) (fun h=>?_))<;>(try simp only [List.length_map] at h)<;>conv=>whnf)
 | ((with_reducible refine on_not (fun h=>?_) (fun h=>?_))<;>conv=>whnf)
 | ((with_reducible refine onBool_split (fun h=>?_) (fun h=>?_))<;>conv=>whnf)
 | ((with_reducible refine call_go ?_);(first | refine call_step (run_view (c104k (j:=j) (f:=f) ho hop) rfl (vlc (view_w rfl rfl rfl) (vlc rfl vln))) ?_ | refine call_step (run_row (xs:=[i k,i (k + 1 : Nat)]) (del105 (j.opens.map Opn.enc) k (k + 1) ⟨by omega,by rw [List.length_map];omega⟩ (by rw [List.length_map];exact ho) (opn_ok _).1) (fun y hy=>(opn_ok j.opens).2 y (by rcases List.mem_append.1 hy with hy | hy;exact List.mem_of_mem_take hy;exact List.mem_of_mem_drop hy)) rfl (by rw [List.length_map]) rfl (by intro z hz;simp [reach] at hz)) ?_);conv=>whnf)
 | (refine ⟨[],[(5,10)],(by decide +kernel),?_⟩;conv=>whnf)
 | (refine ⟨⟨(by first | rfl | (simp;done)),cap_ok (by simp only [List.length_map,List.length_cons,List.length_nil,List.length_append];omega) rfl⟩,?_⟩;conv=>whnf)
 | (refine ⟨mem_one ⟨rfl,rfl⟩,?_⟩;conv=>whnf)
 | (refine ⟨(by intro y hy;obtain ⟨x,_,rfl⟩:=List.mem_map.1 hy;first | rfl | exact ⟨rfl,rfl⟩),?_⟩;conv=>whnf)
 | (refine ⟨cap_ok (by first | omega | (simp only [List.length_map];omega)) rfl,?_⟩;conv=>whnf)
 | (refine ix_map (by omega) ?_;conv=>whnf)
 | (refine ix_str (by omega) ?_;conv=>whnf)
 | (refine ⟨⟨by omega,by omega⟩,?_⟩;conv=>whnf)
 | (refine nth_o k (Nat.zero_add _) hk ?_;conv=>whnf)
 | (refine setK_at k (Nat.zero_add _) ?_;conv=>whnf)
 | (refine wrap64 (by omega) ?_;conv=>whnf)
 | (exfalso;simp only [List.length_map,List.length_cons,List.length_nil,List.length_append] at h;omega)
 | ((with_reducible refine endx_go ?_);first | (refine endX_of (.inl ⟨[.old 0,.dead,.dead,.old 1,.old 2],rfl,rfl,⟨trivial,trivial⟩,⟨⟨rfl,rfl,.inr ⟨⟨rfl,rfl,rfl,rfl,⟨rfl,rfl,rfl,rfl,rfl⟩,⟨rfl,rfl,(by rw [List.length_set]),rfl,rfl⟩,trivial⟩,trivial⟩⟩,rfl,rfl,⟨rfl,rfl,.inl ⟨_,rfl,rfl⟩⟩,⟨rfl,rfl,.inr (by have hw:=wks_set (μ:=[.old 0,.dead,.dead,.old 1,.old 2]) (a:=.agg [.d (i j.opens[k].file.r),.d (i j.opens[k].file.s),.d (i r)]) (x:=Opn.enc ⟨j.opens[k].file,r⟩) ⟨rfl,rfl,rfl,rfl,trivial⟩ (j.opens.map Opn.enc) k;rw [← List.map_set] at hw;exact hw)⟩,trivial⟩⟩);done))
 | (refine ⟨rfl,?_⟩;conv=>whnf)
  | fail
  )
theorem c91i (j : Jrn) (f : Ref) (r : Int) (k : Nat) (ho : j.opens.length < 1000000) (hop : opAt j.opens f = (k,false)) (hk : k ≤ j.opens.length) (h0 : ¬ r = 0) : Run Tryz.prog 91 [.ptr 0 0 0,.d f.enc,.d (i r)] (wS j) (.tup []) (wT { j with opens:=j.opens.take k ++ ⟨f,r⟩ :: j.opens.drop k }):=by
 refine run_walkV eok Tryz.func91 rfl (by kernel_rfl) [0,1,2] (by rfl) [] ?_
 conv=>whnf
 repeat' (first
 | ((with_reducible refine on_dec_t (by assumption) ?_);conv=>whnf)
 | ((with_reducible refine on_dec_f (by assumption) ?_);conv=>whnf)
 | ((with_reducible refine onBool_t (by assumption) ?_);conv=>whnf)
 | ((with_reducible refine onBool_f (by assumption) ?_);conv=>whnf)
 | ((with_reducible refine on_nt (by assumption) ?_);conv=>whnf)
 | ((with_reducible refine on_nf (by assumption) ?_);conv=>whnf)
 | ((with_reducible refine on_ndec_t (by first | assumption | rfl) ?_);conv=>whnf)
 | ((with_reducible refine on_ndec_f (by assumption) ?_);conv=>whnf)
 | ((with_reducible refine on_dec_t rfl ?_);conv=>whnf)
 | ((with_reducible refine on_dec_f ?_ ?_);(focus ((try simp only [List.length_map,List.length_cons,List.length_nil,List.length_append]);omega));conv=>whnf)
 | ((with_reducible refine on_dec_t ?_ ?_);(focus ((try simp only [List.length_map,List.length_cons,List.length_nil,List.length_append]);omega));conv=>whnf)
 | ((with_reducible refine on_dec (fun h=>?_) (fun h=>?_))<;>(try simp only [List.length_map] at h)<;>conv=>whnf)
 | ((with_reducible refine on_ndec (fun h=>?_) (fun h=>?_))<;>(try simp only [List.length_map] at h)<;>conv=>whnf)
 | ((with_reducible refine on_not (fun h=>?_) (fun h=>?_))<;>conv=>whnf)
 | ((with_reducible refine onBool_split (fun h=>?_) (fun h=>?_))<;>conv=>whnf)
 | ((with_reducible refine call_go ?_);(first | refine call_step (run_view (c104k (j:=j) (f:=f) ho hop) rfl (vlc (view_w rfl rfl rfl) (vlc rfl vln))) ?_ | refine call_step (run_row (xs:=[i k,i (k + 1 : Nat)]) (del105 (j.opens.map Opn.enc) k (k + 1) ⟨by omega,by rw [List.length_map];omega⟩ (by rw [List.length_map];exact ho) (opn_ok _).1) (fun y hy=>(opn_ok j.opens).2 y (by rcases List.mem_append.1 hy with hy | hy;exact List.mem_of_mem_take hy;exact List.mem_of_mem_drop hy)) rfl (by rw [List.length_map]) rfl (by intro z hz;simp [reach] at hz)) ?_ | refine call_step (run_insA (L:=j.opens.map Opn.enc) (ys:=[i f.r,i f.s,i r]) (k:=k) rfl rfl (by decide) (by rw [List.length_map]) (by rw [List.length_map];exact hk) (opn_ok _).1 (opn_ok _).2 rfl rfl (by rw [List.length_map];exact ho)) ?_);conv=>whnf)
 | (refine ⟨[],[(5,10)],(by decide +kernel),?_⟩;conv=>whnf)
 | (refine ⟨⟨(by first | rfl | (simp;done)),cap_ok (by simp only [List.length_map,List.length_cons,List.length_nil,List.length_append];omega) rfl⟩,?_⟩;conv=>whnf)
 | (refine ⟨mem_one ⟨rfl,rfl⟩,?_⟩;conv=>whnf)
 | (refine ⟨(by intro y hy;obtain ⟨x,_,rfl⟩:=List.mem_map.1 hy;first | rfl | exact ⟨rfl,rfl⟩),?_⟩;conv=>whnf)
 | (refine ⟨cap_ok (by first | omega | (simp only [List.length_map];omega)) rfl,?_⟩;conv=>whnf)
 | (refine ix_map (by omega) ?_;conv=>whnf)
 | (refine ix_str (by omega) ?_;conv=>whnf)
 | (refine wrap64 (by omega) ?_;conv=>whnf)
 | (exfalso;simp only [List.length_map,List.length_cons,List.length_nil,List.length_append] at h;omega)
 | ((with_reducible refine endx_go ?_);first | (refine endX_of (.inl ⟨[.old 0,.dead,.dead,.old 1,.old 5],rfl,rfl,⟨trivial,trivial⟩,⟨⟨rfl,rfl,.inr ⟨⟨rfl,rfl,rfl,rfl,⟨rfl,rfl,rfl,rfl,rfl⟩,⟨rfl,rfl,(by simp only [List.length_map,List.length_append,List.length_cons,List.length_take,List.length_drop];omega),rfl,rfl⟩,trivial⟩,trivial⟩⟩,rfl,rfl,⟨rfl,rfl,.inl ⟨_,rfl,rfl⟩⟩,⟨rfl,rfl,.inl ⟨(j.opens.take k ++ ⟨f,r⟩ :: j.opens.drop k).map Opn.enc,(by unfold insL;simp only [List.map_append,List.map_cons,List.map_take,List.map_drop];rfl),rfl⟩⟩,trivial⟩⟩);done))
 | (refine ⟨rfl,?_⟩;conv=>whnf)
  | fail
  )
end Go.Proofs.YtkeeienjocbkbaaGreatDoor
namespace Go.Proofs.YtkeeienjocbkbaaGreatDoor
open Go Dw
theorem openGo_ne {f : Ref} {r : Int} : ∀ (l : List Opn) (out : List Opn),(∀ y ∈ l,y.file ≠ f) → openGo f r l true out = out ++ l
 | [],out,_=>by simp [openGo]
 | x :: l,out,h=>by
  have h1:=h x (by simp)
  have:=openGo_ne (f:=f) (r:=r) l (out ++ [x]) (fun y hy=>h y (by simp [hy]))
  simp only [openGo,if_neg h1,Bool.not_true,Bool.false_and,Bool.true_or]
  simp [this]
theorem openGo_gt {f : Ref} {r : Int} (d : Bool) : ∀ (l : List Opn) (out : List Opn),(∀ y ∈ l,less f y.file = true) → (∀ y ∈ l,y.file ≠ f) → openGo f r l d out = out ++ (if d then [] else [⟨f,r⟩]) ++ l
 | [],out,_,_=>by cases d<;>simp [openGo]
 | x :: l,out,h,h2=>by
  have h1:=h x (by simp)
  have h3:=h2 x (by simp)
  cases d with
  | true=>rw [openGo_ne _ _ h2];simp
  | false=>
   simp only [openGo,if_neg h3,h1,Bool.not_false,Bool.and_true,Bool.or_true,if_true]
   rw [openGo_ne _ _ (fun y hy=>h2 y (by simp [hy]))]
   simp
theorem less_ne {a b : Ref} (h : less a b = true) : b ≠ a:=by
 rintro rfl
 simp [less] at h
theorem less_not {a b : Ref} (h1 : ¬ compare b a < 0) (h2 : b ≠ a) : less a b = true:=by
 rw [compare_less] at h1
 cases a;cases b
 simp only [less,Bool.or_eq_true,Bool.and_eq_true,decide_eq_true_eq,ne_eq,Ref.mk.injEq] at *
 omega
theorem less_asym {a b : Ref} (h : compare a b < 0) : less b a = false:=by
 rw [compare_less] at h
 cases a;cases b
 simp only [less,Bool.or_eq_true,Bool.and_eq_true,decide_eq_true_eq,Bool.or_eq_false_iff,Bool.and_eq_false_iff,decide_eq_false_iff_not] at *
 omega
theorem compare_ne {a b : Ref} (h : compare a b < 0) : a ≠ b:=by
 rintro rfl
 rw [cmpR_lt] at h;omega
theorem openGo_law {f : Ref} {r : Int} (d : Bool) : ∀ (l : List Opn) (k : Nat) (out : List Opn),k ≤ l.length → (∀ i (h : i < l.length),i < k → compare l[i].file f < 0) → (∀ i (h : i < l.length),k ≤ i → ¬ compare l[i].file f < 0) → (∀ i j (h : j < l.length),(hij : i < j) → compare (l[i]'(by omega)).file l[j].file < 0) →
  openGo f r l d out = out ++ l.take k ++ (if d then [] else [⟨f,r⟩]) ++ l.drop (if h : k < l.length then (if l[k].file = f then k + 1 else k) else k)
 | [],k,out,hk,_,_,_=>by
  have : k = 0:=by simpa using hk
  subst this
  cases d<;>simp [openGo]
 | x :: l,0,out,hk,h1,h2,h3=>by
  have hx:=h2 0 (by simp) (Nat.le_refl _)
  simp only [List.getElem_cons_zero] at hx
  have hl : ∀ y ∈ l,compare x.file y.file < 0:=by
   intro y hy
   obtain ⟨n,hn,rfl⟩:=List.getElem_of_mem hy
   exact h3 0 (n + 1) (by simp;omega) (by omega)
  rw [dif_pos (by simp)]
  simp only [List.getElem_cons_zero,List.take_zero,List.append_nil]
  by_cases e : x.file = f
  ·rw [if_pos e]
   subst e
   have hf : less x.file x.file = false:=by simp [less]
   simp only [openGo,hf,Bool.and_false,Bool.or_false,if_true,Bool.false_eq_true,if_false]
   have g1 : ∀ y ∈ l,less x.file y.file = true:=fun y hy=>by have:=hl y hy;rwa [compare_less] at this
   rw [openGo_gt d l out g1 (fun y hy=>less_ne (g1 y hy))]
   simp
  ·rw [if_neg e]
   have hxl : less f x.file = true:=less_not hx e
   have g1 : ∀ y ∈ x :: l,less f y.file = true:=by
    intro y hy
    rcases List.mem_cons.1 hy with rfl | hy
    ·exact hxl
    ·rw [← compare_less]
     exact cmpR_trans (by rw [compare_less];exact hxl) (hl y hy)
   rw [openGo_gt d (x :: l) out g1 (fun y hy=>less_ne (g1 y hy))]
   simp
 | x :: l,k + 1,out,hk,h1,h2,h3=>by
  have hx:=h1 0 (by simp) (by omega)
  simp only [List.getElem_cons_zero] at hx
  have hne:=compare_ne hx
  simp only [openGo,if_neg hne,less_asym hx,Bool.and_false,Bool.or_false,Bool.false_eq_true,if_false]
  rw [openGo_law d l k (out ++ [x]) (by simpa using hk) (fun i h hi=>by have:=h1 (i + 1) (by simp;omega) (by omega);simpa using this) (fun i h hi=>by have:=h2 (i + 1) (by simp;omega) (by omega);simpa using this)
   (fun i j h hij=>by have:=h3 (i + 1) (j + 1) (by simp;omega) (by omega);simpa using this)]
  have e : (if h : k + 1 < (x :: l).length then (if ((x :: l)[k + 1]).file = f then k + 1 + 1 else k + 1) else k + 1) = (if h : k < l.length then (if l[k].file = f then k + 1 else k) else k) + 1:=by
   by_cases hl : k < l.length
   ·rw [dif_pos (by simp;omega),dif_pos hl]
    simp only [List.getElem_cons_succ]
    split<;>rfl
   ·rw [dif_neg (by simp;omega),dif_neg hl]
  rw [e]
  simp
theorem opened_at {j j0 : Jrn} (V : Valid j0) (e : j.opens = j0.opens) (f : Ref) (r : Int) : ∃ k,k ≤ j.opens.length ∧ ∃ is : Bool,opAt j.opens f = (k,is) ∧ (is = true → k < j.opens.length) ∧
  (∀ h : k < j.opens.length,is = true → j.opens[k].file = f) ∧
  j.opened f r = { j with opens:=j.opens.take k ++ (if r = 0 then [] else [⟨f,r⟩]) ++ j.opens.drop (if is then k + 1 else k) }:=by
 obtain ⟨k,k1,k2,k3,k4⟩:=opAt_ahead V f
 have h3 : ∀ a b (h : b < j0.opens.length),(hab : a < b) → compare (j0.opens[a]'(by omega)).file j0.opens[b].file < 0:=fun a b h hab=>opens_lt V hab h
 have hl:=openGo_law (f:=f) (r:=r) (decide (r = 0)) j0.opens k [] k1 k2 k3 h3
 refine ⟨k,by rw [e];exact k1,(if h : k < j0.opens.length then decide (j0.opens[k].file = f) else false),by rw [e];exact k4,?_,?_,?_⟩
 ·intro h
  by_cases hk : k < j0.opens.length
  ·rw [e];exact hk
  ·rw [dif_neg hk] at h;cases h
 ·intro h his
  have hk : k < j0.opens.length:=by rw [← e];exact h
  rw [dif_pos hk] at his
  simp only [e]
  simpa using his
 ·unfold Jrn.opened
  rw [e,hl]
  congr 1
  by_cases hk : k < j0.opens.length
  ·simp only [dif_pos hk,List.nil_append,decide_eq_true_eq]
  ·simp only [dif_neg hk,List.nil_append,decide_eq_true_eq,Bool.false_eq_true,if_false]
theorem bits_andNot {a b : Int} (ha : 0 ≤ a ∧ a < 9223372036854775808) (hb : 0 ≤ b ∧ b < 9223372036854775808) : bitsOf .andNot .i64 a b = ((andn a.toNat b.toNat : Nat) : Int):=by
 obtain ⟨m,rfl⟩:=Int.eq_ofNat_of_zero_le ha.1
 obtain ⟨n,rfl⟩:=Int.eq_ofNat_of_zero_le hb.1
 have e1 : (BitVec.ofInt 64 (m : Int)).toNat = m:=ofInt_nat (by omega)
 have e2 : (BitVec.ofInt 64 (n : Int)).toNat = n:=ofInt_nat (by omega)
 show IntKind.i64.wrap ((BitVec.ofInt 64 (m : Int)) &&& ~~~ (BitVec.ofInt 64 (n : Int))).toNat = _
 have e3 : ((BitVec.ofInt 64 (m : Int)) &&& ~~~ (BitVec.ofInt 64 (n : Int))) = (BitVec.ofInt 64 (m : Int)) ^^^ ((BitVec.ofInt 64 (m : Int)) &&& (BitVec.ofInt 64 (n : Int))):=by
  apply BitVec.eq_of_getLsbD_eq
  intro k hk
  simp only [BitVec.getLsbD_and,BitVec.getLsbD_not,BitVec.getLsbD_xor,hk,decide_true,Bool.true_and]
  cases (BitVec.ofInt 64 (m : Int)).getLsbD k<;>cases (BitVec.ofInt 64 (n : Int)).getLsbD k<;>rfl
 rw [e3,BitVec.toNat_xor,BitVec.toNat_and,e1,e2]
 have:=andn_le m n
 unfold andn at *
 simp only [Int.toNat_natCast]
 exact i64_nat (by omega)
theorem bit_andNot {a b : Int} {K : Int → Prop} (ha : 0 ≤ a ∧ a ≤ 4095) (hb : 0 ≤ b ∧ b ≤ 4095) (hk : K (woI a b)) : bitK .andNot .i64 a b K:=by
 refine bit_raw ?_
 rw [bits_andNot (by omega) (by omega)]
 unfold woI at hk
 exact hk
theorem bit_with {a b : Int} {K : Int → Prop} (ha : 0 ≤ a ∧ a ≤ 4095) (hb : 0 ≤ b ∧ b ≤ 4095) (hk : K (withI a b)) : bitK .or .i64 a b K:=by
 unfold withI at hk
 exact bit_or (by omega) hk
end Go.Proofs.YtkeeienjocbkbaaGreatDoor
namespace Go.Proofs.YtkeeienjocbkbaaGreatDoor
open Go Dw
set_option maxRecDepth 10000
attribute [local irreducible] Run
set_option maxHeartbeats 4000000
theorem c91 {j j0 : Jrn} (V : Valid j0) (e : j.opens = j0.opens) (f : Ref) (r : Int) : Run Tryz.prog 91 [.ptr 0 0 0,.d f.enc,.d (i r)] (wS j) (.tup []) (wT (j.opened f r)):=by
 obtain ⟨k,k1,is,k2,k3,k4,k5⟩:=opened_at V e f r
 have ho : j.opens.length < 1000000:=by have:=V.opens;rw [e];omega
 rw [k5]
 cases is with
 | true=>
  have hk:=k3 rfl
  by_cases h0 : r = 0
  ·rw [if_pos h0,if_pos rfl,List.append_nil]
   exact c91d j f r k ho k2 hk h0
  ·rw [if_neg h0,if_pos rfl]
   have hs : j.opens.set k ⟨j.opens[k].file,r⟩ = j.opens.take k ++ [⟨f,r⟩] ++ j.opens.drop (k + 1):=by
    rw [k4 hk rfl,List.set_eq_take_append_cons_drop,if_pos hk];simp
   rw [← hs]
   exact c91s j f r k ho k2 hk h0
 | false=>
  by_cases h0 : r = 0
  ·rw [if_pos h0,if_neg (by decide),List.append_nil,List.take_append_drop]
   exact c91n j f r k ho k2 h0
  ·rw [if_neg h0,if_neg (by decide),List.append_assoc]
   exact c91i j f r k ho k2 k1 h0
theorem c88R {j : Jrn} (V : Valid j) (f : Ref) : Fn 88 [.fp j.enc 0,f.enc] (i (openR j.opens f)):=by
 have:=c88 j f (by have:=V.opens;omega)
 rwa [openB_openR V f] at this
def cO (u fr fs pr ps t q : Int) (nm : List UInt8) : AO:=⟨[.agg [.d (i u),.d (i fr),.d (i fs),.d (i pr),.d (i ps),.d (i t),.d (i q),.d (.str nm)]],8,0⟩
def pO (a : Nat) : AO:=⟨[.ptr a 0 0],1,0⟩
theorem c89 (j : Jrn) (u fr fs pr ps t q n : Int) (nm : List UInt8) (hr : j.recs.length < 1000000) (hx : nm.length < 1000000) : Run Tryz.prog 89 [.d (i n),.ptr 0 0 0,.ptr 1 0 0] [cO u fr fs pr ps t q nm,pO 2,wO j 3 4,rO j,oO j] (.tup []) [cO u fr fs pr ps t n nm,pO 2,wO (j.wr ⟨u,⟨fr,fs⟩,⟨pr,ps⟩,t,n,nm⟩) 5 6,dead 8,dead 3,rO (j.wr ⟨u,⟨fr,fs⟩,⟨pr,ps⟩,t,n,nm⟩),oO (j.wr ⟨u,⟨fr,fs⟩,⟨pr,ps⟩,t,n,nm⟩)]:=by
 refine run_walkV eok Tryz.func89 rfl (by kernel_rfl) [] (by rfl) [] ?_
 conv=>whnf
 repeat' (first
 | ((with_reducible refine on_dec_f ?_ ?_);(focus ((try simp only [List.length_map,List.length_cons,List.length_nil,List.length_append]);omega));conv=>whnf)
 | ((with_reducible refine on_dec_t ?_ ?_);(focus ((try simp only [List.length_map,List.length_cons,List.length_nil,List.length_append]);omega));conv=>whnf)
 | ((with_reducible refine on_dec (fun h=>?_) (fun h=>?_))<;>(try simp only [List.length_map] at h)<;>conv=>whnf)
 | ((with_reducible refine on_ndec (fun h=>?_) (fun h=>?_))<;>(try simp only [List.length_map] at h)<;>conv=>whnf)
 | ((with_reducible refine on_not (fun h=>?_) (fun h=>?_))<;>conv=>whnf)
 | ((with_reducible refine onBool_split (fun h=>?_) (fun h=>?_))<;>conv=>whnf)
 | ((with_reducible refine call_go ?_);(first | refine call_step (run_w (c90 j ⟨u,⟨fr,fs⟩,⟨pr,ps⟩,t,n,nm⟩ hr hx) rfl (fun _=>rfl) rfl rfl rfl (by decide) (by decide) (by decide) (vlc (view_agg (vlc rfl (vlc rfl (vlc rfl (vlc rfl (vlc rfl (vlc rfl (vlc rfl (vlc rfl vln))))))))) vln) (by intro z hz;simp [reach] at hz)) ?_);conv=>whnf)
 | (refine ⟨⟨(by first | rfl | (simp;done)),cap_ok (by simp only [List.length_map,List.length_cons,List.length_nil,List.length_append];omega) rfl⟩,?_⟩;conv=>whnf)
 | (refine ⟨mem_one ⟨rfl,rfl⟩,?_⟩;conv=>whnf)
 | (refine ⟨(by intro y hy;obtain ⟨x,_,rfl⟩:=List.mem_map.1 hy;first | rfl | exact ⟨rfl,rfl⟩),?_⟩;conv=>whnf)
 | (refine ⟨cap_ok (by first | omega | (simp only [List.length_map];omega)) rfl,?_⟩;conv=>whnf)
 | (refine ix_map (by omega) ?_;conv=>whnf)
 | (refine ix_str (by omega) ?_;conv=>whnf)
 | (refine wrap64 (by omega) ?_;conv=>whnf)
 | (exfalso;simp only [List.length_map,List.length_cons,List.length_nil,List.length_append] at h;omega)
 | ((with_reducible refine endx_go ?_);first | (exact endx_same rfl rfl;done))
 | (refine ⟨rfl,?_⟩;conv=>whnf)
  | fail
  )
theorem run_89 {j : Jrn} {u fr fs pr ps t q n : Int} {nm : List UInt8} (hj : j.recs.length < 1000000 ∧ nm.length < 1000000) {H : Heap} {o p a b c : Nat} (h0 : H[o]? = some (cO u fr fs pr ps t q nm)) (h4 : H[p]? = some (pO a)) (h1 : H[a]? = some (wO j b c)) (h2 : H[b]? = some (rO j)) (h3 : H[c]? = some (oO j)) (hn : [o,p,a,b,c].Nodup) :
  Run Tryz.prog 89 [.d (i n),.ptr o 0 0,.ptr p 0 0] H (.tup []) ((((((H.set o (cO u fr fs pr ps t n nm)).set p (pO a)).set a (wO (j.wr ⟨u,⟨fr,fs⟩,⟨pr,ps⟩,t,n,nm⟩) H.length (H.length + 1))).set b (dead 8)).set c (dead 3)) ++ [rO (j.wr ⟨u,⟨fr,fs⟩,⟨pr,ps⟩,t,n,nm⟩),oO (j.wr ⟨u,⟨fr,fs⟩,⟨pr,ps⟩,t,n,nm⟩)]):=by
 have hd : ∀ x : D,emb [o,p,a,b,c] [] H (.d x) (.d x):=fun x=>⟨rfl,fun id hid=>by simp [reach] at hid⟩
 refine run_at (σ:=[o,p,a,b,c]) (F:=[]) (fl:=true) (c89 j u fr fs pr ps t q n nm hj.1 hj.2) hn (fun z hz=>by cases hz) ⟨hd _,⟨rfl,rfl,rfl⟩,⟨rfl,rfl,rfl⟩,trivial⟩
  ⟨(nthK_iff _ _).2 ⟨_,h0,rfl,rfl,.inr ⟨⟨hd _,hd _,hd _,hd _,hd _,hd _,hd _,hd _,trivial⟩,trivial⟩⟩,(nthK_iff _ _).2 ⟨_,h4,rfl,rfl,.inr ⟨⟨rfl,rfl,rfl⟩,trivial⟩⟩,(nthK_iff _ _).2 ⟨_,h1,rfl,rfl,.inr ⟨⟨hd _,hd _,hd _,hd _,⟨rfl,rfl,rfl,rfl,rfl⟩,⟨rfl,rfl,rfl,rfl,rfl⟩,trivial⟩,trivial⟩⟩,(nthK_iff _ _).2 ⟨_,h2,rfl,rfl,.inl ⟨_,rfl,rfl⟩⟩,(nthK_iff _ _).2 ⟨_,h3,rfl,rfl,.inl ⟨_,rfl,rfl⟩⟩,trivial⟩ (fun _=>⟨rfl,fun ob ho=>?_⟩) rfl ?_
 ·simp only [List.mem_cons,List.not_mem_nil,or_false] at ho
  rcases ho with rfl | rfl | rfl | rfl | rfl | rfl | rfl
  ·exact ⟨rfl,Nat.zero_ne_one⟩
  ·exact ⟨rfl,Nat.zero_ne_one⟩
  ·exact ⟨rfl,Nat.zero_ne_one⟩
  ·exact ⟨rfl,by show (2 : Nat) ≠ 1;decide⟩
  ·exact ⟨rfl,by show (2 : Nat) ≠ 1;decide⟩
  ·exact ⟨flats_map _ (chg_ok _).2,Nat.zero_ne_one⟩
  ·exact ⟨flats_map _ (opn_ok _).2,Nat.zero_ne_one⟩
 ·generalize j.wr ⟨u,⟨fr,fs⟩,⟨pr,ps⟩,t,n,nm⟩ = j'
  simp only [outH,setAll,List.map_cons,List.map_nil,List.length_cons,List.length_nil,List.drop_succ_cons,List.drop_zero,if_true]
  have e0 : renO (tau [o,p,a,b,c] H.length) (cO u fr fs pr ps t n nm) = cO u fr fs pr ps t n nm:=rfl
  have e4 : renO (tau [o,p,a,b,c] H.length) (pO 2) = pO a:=rfl
  have e1 : renO (tau [o,p,a,b,c] H.length) (wO j' 5 6) = wO j' H.length (H.length + 1):=rfl
  have e2 : renO (tau [o,p,a,b,c] H.length) (rO j') = rO j':=by unfold renO rO;rw [rens_D]
  have e3 : renO (tau [o,p,a,b,c] H.length) (oO j') = oO j':=by unfold renO oO;rw [rens_D]
  rw [e0,e4,e1,e2,e3];rfl
end Go.Proofs.YtkeeienjocbkbaaGreatDoor
namespace Go.Proofs.YtkeeienjocbkbaaGreatDoor
open Go Dw
set_option maxRecDepth 10000
attribute [local irreducible] Run
set_option maxHeartbeats 4000000
theorem run_wn {f : Nat} {xs : List D} {r : AV} {j j' : Jrn} (hf : Run Tryz.prog f (.ptr 0 0 0 :: xs.map .d) (wS j) r (wT j')) (hr : r.flat = true) (hrr : ∀ τ,ren τ r = r)
  {H : Heap} {a b c : Nat} (h1 : H[a]? = some (wO j b c)) (h2 : H[b]? = some (rO j)) (h3 : H[c]? = some (oO j)) (hn : nodupB [a,b,c] = true) {args : List AV} (hv : vl (view 8 H) args = some xs) (hd : args.flatMap (reach 8 H) = []) :
  Run Tryz.prog f (.ptr a 0 0 :: args) H r ((((H.set a (wO j' H.length (H.length + 1))).set b (dead 8)).set c (dead 3)) ++ [rO j', oO j']) := by
 have hN:=nodupB_iff _ hn
 simp only [List.nodup_cons,List.mem_cons,List.not_mem_nil,or_false,not_or,not_false_eq_true,List.nodup_nil,and_true] at hN
 exact run_w hf hr hrr h1 h2 h3 hN.1.1 hN.1.2 hN.2 hv (by intro z hz;rw [hd] at hz;cases hz)
def deads : Nat → List AO
 | 0=>[]
 | m + 1=>deads m ++ [dead 8,dead 3]
theorem deads_len : ∀ m,(deads m).length = 2 * m
 | 0=>rfl
 | m + 1=>by simp only [deads,List.length_append,deads_len m,List.length_cons,List.length_nil];omega
def KH (J : Jrn) (p x own : AO) (m : Nat) : Heap:=wO J (6 + 2 * m) (7 + 2 * m) :: dead 8 :: dead 3 :: p :: x :: own :: (deads m ++ [rO J,oO J])
def KI (J : Jrn) (p x own : AO) : Heap:=[wO J 1 2,rO J,oO J,p,x,own]
theorem KH_len (J : Jrn) (p x own : AO) (m : Nat) : (KH J p x own m).length = 6 + 2 * (m + 1):=by
 simp only [KH,List.length_cons,List.length_append,deads_len,List.length_nil];omega
theorem KH_r (J : Jrn) (p x own : AO) (m : Nat) : (KH J p x own m)[6 + 2 * m]? = some (rO J):=by
 rw [show 6 + 2 * m = 2 * m + 6 by omega]
 simp only [KH,List.getElem?_cons_succ]
 rw [List.getElem?_append_right (by rw [deads_len];omega),deads_len];simp
theorem KH_o (J : Jrn) (p x own : AO) (m : Nat) : (KH J p x own m)[7 + 2 * m]? = some (oO J):=by
 rw [show 7 + 2 * m = (2 * m + 1) + 6 by omega]
 simp only [KH,List.getElem?_cons_succ]
 rw [List.getElem?_append_right (by rw [deads_len];omega),deads_len];simp
theorem KH_out (J J' : Jrn) (p x own own' : AO) (m : Nat) : ((((((KH J p x own m).set 5 own').set 3 p).set 0 (wO J' (6 + 2 * (m + 1)) (6 + 2 * (m + 1) + 1))).set (6 + 2 * m) (dead 8)).set (7 + 2 * m) (dead 3)) ++ [rO J', oO J'] = KH J' p x own' (m + 1) := by
 rw [show 6 + 2 * m = 2 * m + 6 by omega,show 7 + 2 * m = (2 * m + 1) + 6 by omega]
 simp only [KH,List.set_cons_succ,List.set_cons_zero,deads]
 have e : ((deads m ++ [rO J,oO J]).set (2 * m) (dead 8)).set (2 * m + 1) (dead 3) = deads m ++ [dead 8,dead 3]:=by
  rw [List.set_append_right _ _ (by rw [deads_len];omega),List.set_append_right _ _ (by rw [deads_len];omega),deads_len]
  simp
 rw [e,show 6 + 2 * (m + 1) + 1 = 7 + 2 * (m + 1) by omega]
 simp
theorem own_set (J : Jrn) (p x own : AO) (m : Nat) : ((KH J p x own m).set 5 own).set 3 p = KH J p x own m:=by
 simp only [KH,List.set_cons_succ,List.set_cons_zero]
section
variable {f : Nat} {xs : List D} {r : AV} {j j' : Jrn} {p x own : AO}
theorem run_wK {m : Nat} (hf : Run Tryz.prog f (.ptr 0 0 0 :: xs.map .d) (wS j) r (wT j')) (hr : r.flat = true) (hrr : ∀ τ,ren τ r = r) {args : List AV} (hv : vl (view 8 (KH j p x own m)) args = some xs) (hd : args.flatMap (reach 8 (KH j p x own m)) = []) :
  Run Tryz.prog f (.ptr 0 0 0 :: args) (KH j p x own m) r (KH j' p x own (m + 1)):=by
 have h:=run_w (H:=KH j p x own m) (a:=0) hf hr hrr rfl (KH_r j p x own m) (KH_o j p x own m) (by omega) (by omega) (by omega) hv (by intro z hz;rw [hd] at hz;cases hz)
 rw [KH_len] at h
 have e:=KH_out j j' p x own own m
 rw [own_set] at e
 rw [e] at h
 exact h
theorem run_wI (hf : Run Tryz.prog f (.ptr 0 0 0 :: xs.map .d) (wS j) r (wT j')) (hr : r.flat = true) (hrr : ∀ τ,ren τ r = r) {args : List AV} (hv : vl (view 8 (KI j p x own)) args = some xs) (hd : args.flatMap (reach 8 (KI j p x own)) = []) :
  Run Tryz.prog f (.ptr 0 0 0 :: args) (KI j p x own) r (KH j' p x own 0):=
 run_wn (H:=KI j p x own) (a:=0) hf hr hrr rfl rfl rfl rfl hv hd
end
section
variable {j : Jrn} {u fr fs pr ps t q n : Int} {nm : List UInt8} {x : AO}
theorem run_89K {m : Nat} (hj : j.recs.length < 1000000 ∧ nm.length < 1000000) : Run Tryz.prog 89 [.d (i n),.ptr 5 0 0,.ptr 3 0 0] (KH j (pO 0) x (cO u fr fs pr ps t q nm) m) (.tup []) (KH (j.wr ⟨u,⟨fr,fs⟩,⟨pr,ps⟩,t,n,nm⟩) (pO 0) x (cO u fr fs pr ps t n nm) (m + 1)):=by
 have h:=run_89 (n:=n) (H:=KH j (pO 0) x (cO u fr fs pr ps t q nm) m) (o:=5) (p:=3) hj rfl rfl rfl (KH_r j _ x _ m) (KH_o j _ x _ m) (by simp;omega)
 rw [KH_len,KH_out] at h
 exact h
theorem run_89I (hj : j.recs.length < 1000000 ∧ nm.length < 1000000) : Run Tryz.prog 89 [.d (i n),.ptr 5 0 0,.ptr 3 0 0] (KI j (pO 0) x (cO u fr fs pr ps t q nm)) (.tup []) (KH (j.wr ⟨u,⟨fr,fs⟩,⟨pr,ps⟩,t,n,nm⟩) (pO 0) x (cO u fr fs pr ps t n nm) 0):=
 run_89 (n:=n) (H:=KI j (pO 0) x (cO u fr fs pr ps t q nm)) (o:=5) (p:=3) hj rfl rfl rfl rfl rfl (nodupB_iff _ rfl)
end
theorem end_w {h : Heap} {a : AV} {J J' : Jrn} (n : Nat) (hJ : J = J') (h0 : h[0]? = some (wO J n (n + 1))) (h1 : h[n]? = some (rO J)) (h2 : h[n + 1]? = some (oO J)) (hn : nodupB [0,n,n + 1] = true) (hw : ∀ μ,wk μ a a) : EndX [0,1,2] 3 h a a (wT J'):=by
 subst hJ
 refine endX_of (.inl ⟨[.old 0,.dead,.dead,.old n,.old (n + 1)],rfl,hn,⟨hw _,trivial⟩,⟨(nthK_iff _ _).2 ⟨_,h0,rfl,rfl,.inr ⟨⟨rfl,rfl,rfl,rfl,⟨rfl,rfl,rfl,rfl,rfl⟩,⟨rfl,rfl,rfl,rfl,rfl⟩,trivial⟩,trivial⟩⟩,rfl,rfl,(nthK_iff _ _).2 ⟨_,h1,rfl,rfl,.inl ⟨_,rfl,rfl⟩⟩,(nthK_iff _ _).2 ⟨_,h2,rfl,rfl,.inl ⟨_,rfl,rfl⟩⟩,trivial⟩⟩)
theorem ev_bd {e : Evt} (h : eventErr e = 0) : 0 ≤ e.reasons ∧ e.reasons ≤ 4095:=by have:=(eventErr_ok h).2.2.2.1;omega
theorem ev_has {e : Evt} (h : eventErr e = 0) : has e.reasons 1024 = hasR e.reasons 512:=by
 have hb:=ev_bd h
 have:=(eventErr_ok h).2.2.2.2.1
 rw [← this]
 exact (hasR_has (by omega) (by omega) 9 (by omega)).symm
theorem ev_nm {e : Evt} (h : eventErr e = 0) : e.name.length < 1000000 ∧ e.nn.length < 1000000:=by
 obtain ⟨_,_,_,_,_,h6,h7,h8⟩:=eventErr_ok h
 have:=(nameErr_ok h6).2.1
 refine ⟨by omega,?_⟩
 by_cases hb : has e.reasons 1024 = true
 ·have:=(nameErr_ok (h7 hb).2).2.1;omega
 ·rw [(h8 (by simpa using hb)).2];decide
theorem valid_nm {j : Jrn} (V : Valid j) : ∀ x ∈ j.recs,x.name.length < 1000000:=by
 intro x hx
 have:=(nameErr_ok (recordErr_ok (V.recOk x hx)).2.2.2.2).2.1
 omega
theorem c58a {e : Evt} (he : eventErr e = 0) : Fn 58 [i e.reasons,i 1024] (.bool (hasR e.reasons 512)):=by
 have h:=c58 e.reasons 1024
 rwa [ev_has he] at h
theorem c58b {e : Evt} (he : eventErr e = 0) : Fn 58 [i e.reasons,i 2048] (.bool (hasR e.reasons 2048)):=by
 have h:=c58 e.reasons 2048
 rwa [show has e.reasons 2048 = hasR e.reasons 2048 from (hasR_has (by have:=ev_bd he;omega) (by have:=ev_bd he;omega) 11 (by omega)).symm] at h
attribute [local irreducible] woI withI hasR after
theorem c66 (j : Jrn) (e : Evt) (V : Valid j) (he : eventErr e = 0) : Run Tryz.prog 66 [.ptr 0 0 0,.d e.enc] (wS j) (.tup []) (wT (after j e)):=by
 have hb:=ev_bd he;have hr:=V.recs;have hop:=valid_openR V e.file;have h0 : e.name.length < 1000000:=(ev_nm he).1;have h1 : e.nn.length < 1000000:=(ev_nm he).2;have hn : ∀ x ∈ j.recs,x.name.length < 1000000:=valid_nm V
 refine run_walkV eok Tryz.func66 rfl (by kernel_rfl) [0,1,2] (by rfl) [] ?_
 conv=>whnf
 repeat' (first
 | ((with_reducible refine on_dec_f ?_ ?_);(focus ((try simp only [List.length_map,List.length_cons,List.length_nil,List.length_append]);omega));conv=>whnf)
 | ((with_reducible refine on_dec_t ?_ ?_);(focus ((try simp only [List.length_map,List.length_cons,List.length_nil,List.length_append]);omega));conv=>whnf)
 | ((with_reducible refine on_dec (fun h=>?_) (fun h=>?_))<;>(try simp only [List.length_map] at h)<;>conv=>whnf)
 | ((with_reducible refine on_ndec (fun h=>?_) (fun h=>?_))<;>(try simp only [List.length_map] at h)<;>conv=>whnf)
 | ((with_reducible refine on_not (fun h=>?_) (fun h=>?_))<;>conv=>whnf)
 | ((with_reducible refine onBool_split (fun h=>?_) (fun h=>?_))<;>conv=>whnf)
 | ((with_reducible refine call_go ?_);(first | refine call_step (run_view (c88R V e.file) rfl (vlc (view_w rfl rfl rfl) (vlc (view_agg (vlc rfl (vlc rfl vln))) vln))) ?_ | refine call_step (run_view (c58a he) rfl rfl) ?_ | refine call_step (run_view (c58b he) rfl rfl) ?_ | refine call_step (run_wI (xs:=[e.file.enc,i _]) (c91 V (by rfl) e.file _) rfl (fun _=>rfl) (vlc (view_agg (vlc rfl (vlc rfl vln))) (vlc rfl vln)) rfl) ?_ | refine call_step (run_wK (m:=0) (xs:=[e.file.enc,i _]) (c91 V (by rfl) e.file _) rfl (fun _=>rfl) (vlc (view_agg (vlc rfl (vlc rfl vln))) (vlc rfl vln)) rfl) ?_ | refine call_step (run_wK (m:=1) (xs:=[e.file.enc,i _]) (c91 V (by rfl) e.file _) rfl (fun _=>rfl) (vlc (view_agg (vlc rfl (vlc rfl vln))) (vlc rfl vln)) rfl) ?_ | refine call_step (run_wK (m:=2) (xs:=[e.file.enc,i _]) (c91 V (by rfl) e.file _) rfl (fun _=>rfl) (vlc (view_agg (vlc rfl (vlc rfl vln))) (vlc rfl vln)) rfl) ?_ | refine call_step (run_wK (m:=3) (xs:=[e.file.enc,i _]) (c91 V (by rfl) e.file _) rfl (fun _=>rfl) (vlc (view_agg (vlc rfl (vlc rfl vln))) (vlc rfl vln)) rfl) ?_ | refine call_step (run_wK (m:=4) (xs:=[e.file.enc,i _]) (c91 V (by rfl) e.file _) rfl (fun _=>rfl) (vlc (view_agg (vlc rfl (vlc rfl vln))) (vlc rfl vln)) rfl) ?_ | refine call_step (run_wI (xs:=[]) (c92 _ (by first | omega | (simp only [Jrn.wr,Jrn.opened,List.length_append,List.length_cons,List.length_nil];omega)) (by repeat (first | assumption | apply opened_names | apply wr_names))) rfl (fun _=>rfl) rfl rfl) ?_ | refine call_step (run_wK (m:=0) (xs:=[]) (c92 _ (by first | omega | (simp only [Jrn.wr,Jrn.opened,List.length_append,List.length_cons,List.length_nil];omega)) (by repeat (first | assumption | apply opened_names | apply wr_names))) rfl (fun _=>rfl) rfl rfl) ?_ | refine call_step (run_wK (m:=1) (xs:=[]) (c92 _ (by first | omega | (simp only [Jrn.wr,Jrn.opened,List.length_append,List.length_cons,List.length_nil];omega)) (by repeat (first | assumption | apply opened_names | apply wr_names))) rfl (fun _=>rfl) rfl rfl) ?_ | refine call_step (run_wK (m:=2) (xs:=[]) (c92 _ (by first | omega | (simp only [Jrn.wr,Jrn.opened,List.length_append,List.length_cons,List.length_nil];omega)) (by repeat (first | assumption | apply opened_names | apply wr_names))) rfl (fun _=>rfl) rfl rfl) ?_ | refine call_step (run_wK (m:=3) (xs:=[]) (c92 _ (by first | omega | (simp only [Jrn.wr,Jrn.opened,List.length_append,List.length_cons,List.length_nil];omega)) (by repeat (first | assumption | apply opened_names | apply wr_names))) rfl (fun _=>rfl) rfl rfl) ?_ | refine call_step (run_wK (m:=4) (xs:=[]) (c92 _ (by first | omega | (simp only [Jrn.wr,Jrn.opened,List.length_append,List.length_cons,List.length_nil];omega)) (by repeat (first | assumption | apply opened_names | apply wr_names))) rfl (fun _=>rfl) rfl rfl) ?_ | refine call_step (run_wK (m:=5) (xs:=[]) (c92 _ (by first | omega | (simp only [Jrn.wr,Jrn.opened,List.length_append,List.length_cons,List.length_nil];omega)) (by repeat (first | assumption | apply opened_names | apply wr_names))) rfl (fun _=>rfl) rfl rfl) ?_ | refine call_step (run_89I ⟨(by first | omega | (simp only [Jrn.wr,Jrn.opened,List.length_append,List.length_cons,List.length_nil];omega)),(by assumption)⟩) ?_ | refine call_step (run_89K (m:=0) ⟨(by first | omega | (simp only [Jrn.wr,Jrn.opened,List.length_append,List.length_cons,List.length_nil];omega)),(by assumption)⟩) ?_ | refine call_step (run_89K (m:=1) ⟨(by first | omega | (simp only [Jrn.wr,Jrn.opened,List.length_append,List.length_cons,List.length_nil];omega)),(by assumption)⟩) ?_ | refine call_step (run_89K (m:=2) ⟨(by first | omega | (simp only [Jrn.wr,Jrn.opened,List.length_append,List.length_cons,List.length_nil];omega)),(by assumption)⟩) ?_ | refine call_step (run_89K (m:=3) ⟨(by first | omega | (simp only [Jrn.wr,Jrn.opened,List.length_append,List.length_cons,List.length_nil];omega)),(by assumption)⟩) ?_);conv=>whnf)
 | (refine ⟨[],[(3,5)],(by decide +kernel),?_⟩;conv=>whnf)
 | (refine ⟨⟨(by first | rfl | (simp;done)),cap_ok (by simp only [List.length_map,List.length_cons,List.length_nil,List.length_append];omega) rfl⟩,?_⟩;conv=>whnf)
 | (refine ⟨mem_one ⟨rfl,rfl⟩,?_⟩;conv=>whnf)
 | (refine ⟨(by intro y hy;obtain ⟨x,_,rfl⟩:=List.mem_map.1 hy;first | rfl | exact ⟨rfl,rfl⟩),?_⟩;conv=>whnf)
 | (refine ⟨cap_ok (by first | omega | (simp only [List.length_map];omega)) rfl,?_⟩;conv=>whnf)
 | (refine ix_map (by omega) ?_;conv=>whnf)
 | (refine ix_str (by omega) ?_;conv=>whnf)
 | (refine wrap64 (by omega) ?_;conv=>whnf)
 | (refine bit_andNot (by repeat (first | assumption | exact ⟨by decide,by decide⟩ | apply withI_bd | apply woI_r12)) (by repeat (first | assumption | exact ⟨by decide,by decide⟩ | apply withI_bd | apply woI_r12)) ?_;conv=>whnf)
 | (refine bit_with (by repeat (first | assumption | exact ⟨by decide,by decide⟩ | apply withI_bd | apply woI_r12)) (by repeat (first | assumption | exact ⟨by decide,by decide⟩ | apply withI_bd | apply woI_r12)) ?_;conv=>whnf)
 | (exfalso;simp only [List.length_map,List.length_cons,List.length_nil,List.length_append] at h;omega)
 | ((with_reducible refine endx_go ?_);first | (exact end_w 6 (by simp only [after,aft1,aft2,aft3];simp_all) rfl rfl rfl rfl (fun _=>trivial);done) | (exact end_w 8 (by simp only [after,aft1,aft2,aft3];simp_all) rfl rfl rfl rfl (fun _=>trivial);done) | (exact end_w 10 (by simp only [after,aft1,aft2,aft3];simp_all) rfl rfl rfl rfl (fun _=>trivial);done) | (exact end_w 12 (by simp only [after,aft1,aft2,aft3];simp_all) rfl rfl rfl rfl (fun _=>trivial);done) | (exact end_w 14 (by simp only [after,aft1,aft2,aft3];simp_all) rfl rfl rfl rfl (fun _=>trivial);done) | (exact end_w 16 (by simp only [after,aft1,aft2,aft3];simp_all) rfl rfl rfl rfl (fun _=>trivial);done))
 | (refine ⟨rfl,?_⟩;conv=>whnf)
  | fail
  )
end Go.Proofs.YtkeeienjocbkbaaGreatDoor
namespace Go.Proofs.YtkeeienjocbkbaaGreatDoor
open Go Dw
def Chain (a : Int) : List Chg → Int → Prop
 | [],b=>a = b
 | x :: l,b=>recordErr x = 0 ∧ x.usn = a ∧ Chain (a + size x.name.length) l b
theorem rec_nm {x : Chg} (h : recordErr x = 0) : 1 ≤ x.name.length ∧ x.name.length ≤ 32:=by
 have:=nameErr_ok (recordErr_ok h).2.2.2.2
 omega
theorem rec_sz {x : Chg} (h : recordErr x = 0) : 32 ≤ size x.name.length ∧ size x.name.length ≤ 72:=size_bd (rec_nm h).2
theorem Chain.le : ∀ {l : List Chg} {a b : Int},Chain a l b → a + 32 * l.length ≤ b ∧ b ≤ a + 72 * l.length
 | [],a,b,h=>by simp only [Chain] at h;simp;omega
 | x :: l,a,b,h=>by
  have:=Chain.le h.2.2
  have:=rec_sz h.1
  simp only [List.length_cons];omega
theorem Chain.app : ∀ {l : List Chg} {a b : Int} {x : Chg},Chain a l b → recordErr x = 0 → x.usn = b → Chain a (l ++ [x]) (b + size x.name.length)
 | [],a,b,x,h,h1,h2=>by
  simp only [Chain] at h
  subst h
  exact ⟨h1,h2,rfl⟩
 | y :: l,a,b,x,h,h1,h2=>⟨h.1,h.2.1,Chain.app h.2.2 h1 h2⟩
theorem Chain.mem : ∀ {l : List Chg} {a b : Int},Chain a l b → ∀ x ∈ l,recordErr x = 0
 | y :: l,a,b,h,x,hx=>by
  rcases List.mem_cons.1 hx with rfl | hx
  ·exact h.1
  ·exact Chain.mem h.2.2 x hx
theorem Chain.each : ∀ {l : List Chg} {a b : Int} (k : Nat),Chain a l b → 0 ≤ a → b < 1000000000000 → (eachRec l k a).2 = (0,b)
 | [],a,b,k,h,_,_=>by simp only [Chain] at h;subst h;rfl
 | x :: l,a,b,k,h,h0,h1=>by
  have hs:=rec_sz h.1
  have hl:=h.2.2.le
  have hr : recErr x a = 0:=by
   unfold recErr;rw [first_cons,if_pos h.1,first_cons,if_pos h.2.1];rfl
  simp only [eachRec,if_pos hr]
  rw [wrap_in (by omega)]
  exact Chain.each (k + 1) h.2.2 (by omega) h1
theorem chain_of : ∀ (l : List Chg) (k : Nat) (a : Int),0 ≤ a → a + 72 * l.length < 1000000000000 → (eachRec l k a).2.1 = 0 → Chain a l (eachRec l k a).2.2
 | [],k,a,_,_,_=>rfl
 | x :: l,k,a,h0,hb,he=>by
  simp only [eachRec] at he ⊢
  simp only [List.length_cons] at hb
  by_cases hr : recErr x a = 0
  ·rw [if_pos hr] at he ⊢
   have h1 : recordErr x = 0 ∧ x.usn = a:=by
    unfold recErr at hr
    rw [first_cons] at hr
    by_cases h2 : recordErr x = 0
    ·rw [if_pos h2,first_cons] at hr
     by_cases h3 : x.usn = a
     ·exact ⟨h2,h3⟩
     ·rw [if_neg h3] at hr;exact absurd hr (by decide)
    ·rw [if_neg h2] at hr;exact absurd hr h2
   have hs:=rec_sz h1.1
   rw [wrap_in (by omega)] at he ⊢
   exact ⟨h1.1,h1.2,chain_of l (k + 1) _ (by omega) (by omega) he⟩
  ·rw [if_neg hr] at he;exact absurd he hr
theorem Valid.chain {j : Jrn} (V : Valid j) : Chain j.first j.recs j.next:=by
 have h1:=V.nums
 have h2:=V.recs
 rw [V.each.2]
 exact chain_of _ _ _ (by omega) (by omega) V.each.1
structure OOk (l : List Opn) : Prop where
 each : ∀ x ∈ l,refErr x.file = 0 ∧ (1 ≤ x.reasons ∧ x.reasons ≤ 4095) ∧ has x.reasons 2048 = false
 srt : ∀ a b (h : b < l.length),(hab : a < b) → compare (l[a]'(by omega)).file l[b].file < 0
theorem opn_hs (m : List Opn) : ∀ (l : List Opn) (k : Nat),(eachOpn m l k).2 = 0 → ∀ x ∈ l,has x.reasons 2048 = false
 | [],_,_,x,hx=>by cases hx
 | y :: l,k,h,x,hx=>by
  simp only [eachOpn] at h
  by_cases hy : opnErr m k y = 0
  ·rw [if_pos hy] at h
   rcases List.mem_cons.1 hx with rfl | hx
   ·unfold opnErr at hy
    rw [first_cons] at hy
    by_cases h2 : refErr x.file = 0
    ·rw [if_pos h2,first_cons] at hy
     by_cases h3 : (within x.reasons 1 4095 && !has x.reasons 2048) = true
     ·rw [Bool.and_eq_true] at h3;simpa using h3.2
     ·rw [if_neg h3] at hy;simp at hy
    ·rw [if_neg h2] at hy;exact absurd hy h2
   ·exact opn_hs m l _ h x hx
  ·rw [if_neg hy] at h
   exact absurd h hy
theorem Valid.ook {j : Jrn} (V : Valid j) : OOk j.opens:=
 ⟨fun x hx=>⟨(V.opnOk x hx).1,(V.opnOk x hx).2,opn_hs _ _ _ V.eachO x hx⟩,fun _ _ h hab=>opens_lt V hab h⟩
theorem OOk.to {m : List Opn} (h : OOk m) : ∀ (l : List Opn) (k : Nat),m.drop k = l → (eachOpn m l k).2 = 0
 | [],k,hd=>rfl
 | y :: l,k,hd=>by
  have hk : k < m.length:=by
   have:=congrArg List.length hd
   simp at this;omega
  have e:=List.drop_eq_getElem_cons hk
  rw [hd] at e
  obtain ⟨e1,e2⟩:=List.cons.inj e
  have hy : opnErr m k y = 0:=by
   obtain ⟨h1,h2,h3⟩:=h.each y (by rw [e1];exact List.getElem_mem _)
   unfold opnErr
   have hw : (within y.reasons 1 4095 && !has y.reasons 2048) = true:=by rw [h3,within_iff.2 h2];rfl
   rw [first_cons,if_pos h1,first_cons,if_pos (by rw [if_pos hw]),first_cons]
   by_cases h0 : k = 0
   ·rw [if_pos h0,if_pos rfl];rfl
   ·rw [if_neg h0,List.getElem?_eq_getElem (by omega : k - 1 < m.length)]
    have:=h.srt (k - 1) k hk (by omega)
    rw [← e1] at this
    simp only [if_pos this,first_nil,if_true]
  simp only [eachOpn,if_pos hy]
  exact OOk.to h l (k + 1) e2.symm
theorem valid_mk {j : Jrn} (h1 : (0 ≤ j.id ∧ j.id ≤ 2147483647) ∧ (0 ≤ j.first ∧ j.first ≤ 2147483647) ∧ (0 ≤ j.next ∧ j.next ≤ 2147483647) ∧ (128 ≤ j.most ∧ j.most ≤ 8192)) (h2 : j.recs.length ≤ 200) (h3 : j.opens.length ≤ 64) (h4 : Chain j.first j.recs j.next) (h5 : OOk j.opens) : Valid j:=by
 have he:=h4.each 0 (by omega) (by omega)
 exact ⟨h1,h2,h3,h4.mem,fun x hx=>⟨(h5.each x hx).1,(h5.each x hx).2.1⟩,⟨by rw [he],by rw [he]⟩,h5.to _ 0 rfl⟩
theorem valid_check {j : Jrn} (V : Valid j) : (checkJ j).2 = 0:=by
 have h1:=V.nums
 have e1 : numbersErr j = 0:=by
  unfold numbersErr
  rw [within_iff.2 h1.1,within_iff.2 h1.2.1,within_iff.2 h1.2.2.1,within_iff.2 h1.2.2.2];rfl
 have e2 : few j = true:=by
  have:=V.recs;have:=V.opens
  unfold few
  simp only [Bool.and_eq_true,decide_eq_true_eq];omega
 unfold checkJ
 have e3 : first [numbersErr j,if few j then 0 else 8] = 0:=by rw [e1,e2];rfl
 rw [if_neg (by rw [e3];simp),if_neg (by simpa using V.each.1),if_neg (by simpa using V.each.2)]
 exact V.eachO
theorem valid_iff {j : Jrn} : (checkJ j).2 = 0 ↔ Valid j:=⟨valid_of,valid_check⟩
theorem has_2048 {a : Int} (h : 0 ≤ a ∧ a ≤ 4095) : has a 2048 = decide (2048 ≤ a):=by
 have e : hasR a 2048 = has a 2048:=hasR_has (by omega) (by omega) 11 (by omega)
 rw [← e]
 unfold hasR
 have h1 : IntKind.i64.wrap (a.tdiv 2048) = a / 2048:=by
  rw [Int.tdiv_eq_ediv_of_nonneg h.1]
  exact Go.IntWalk.i64_in _ (by omega)
 rw [h1,Int.tmod_eq_emod_of_nonneg (by omega)]
 rw [decide_eq_decide];omega
theorem with_lt {a b : Int} (n : Nat) (ha : 0 ≤ a ∧ a < ((2 ^ n : Nat) : Int)) (hb : 0 ≤ b ∧ b < ((2 ^ n : Nat) : Int)) : 0 ≤ withI a b ∧ withI a b < ((2 ^ n : Nat) : Int):=by
 have : a.toNat ||| b.toNat < 2 ^ n:=Nat.or_lt_two_pow (by omega) (by omega)
 unfold withI;omega
theorem with_ge {a b : Int} (hb : 0 ≤ b) : b ≤ withI a b:=by
 have : b.toNat ≤ a.toNat ||| b.toNat:=Nat.right_le_or
 unfold withI;omega
theorem wo_lt {a : Int} (ha : 0 ≤ a ∧ a ≤ 4095) : 0 ≤ woI a 3584 ∧ woI a 3584 < 2048:=by
 have h1:=woI_bd (b:=3584) ha
 refine ⟨h1.1,?_⟩
 have h2 : (woI a 3584).toNat.testBit 11 = false:=by
  have : (woI a 3584).toNat = andn a.toNat 3584:=by unfold woI;simp
  rw [this,andn_bit]
  have : Nat.testBit 3584 11 = true:=by decide
  rw [this];simp
 rw [Nat.testBit_eq_decide_div_mod_eq] at h2
 have h3 : ¬ (woI a 3584).toNat / 2 ^ 11 % 2 = 1:=by simpa using h2
 omega
theorem wo_le {a b : Int} (ha : 0 ≤ a ∧ a < 2048) : 0 ≤ woI a b ∧ woI a b < 2048:=by
 have:=woI_bd (a:=a) (b:=b) (by omega);omega
structure Semi (j0 j : Jrn) (n : Nat) : Prop where
 id : j.id = j0.id
 first : j.first = j0.first
 most : j.most = j0.most
 opens : j.opens = j0.opens
 chain : Chain j.first j.recs j.next
 next : j0.next ≤ j.next ∧ j.next ≤ j0.next + 72 * n
theorem Semi.wr {j0 j : Jrn} {n : Nat} (V : Valid j0) (hn : n ≤ 10) (h : Semi j0 j n) {x : Chg} (hx : recordErr x = 0) : Semi j0 (j.wr x) (n + 1):=by
 have hs:=rec_sz hx
 have hv:=V.nums
 have h1:=h.next
 have hw : IntKind.i64.wrap (j.next + size x.name.length) = j.next + size x.name.length:=wrap_in (by omega)
 refine ⟨h.id,h.first,h.most,h.opens,?_,?_⟩
 ·simp only [Jrn.wr,hw]
  exact h.chain.app (x:={ x with usn:=j.next }) hx rfl
 ·simp only [Jrn.wr,hw];omega
theorem semi_0 {j : Jrn} (V : Valid j) : Semi j j 0:=⟨rfl,rfl,rfl,rfl,V.chain,by omega,by omega⟩
theorem rec_mk {x : Chg} (h1 : refErr x.file = 0) (h2 : refErr x.parent = 0) (h3 : 0 ≤ x.tick ∧ x.tick ≤ 1000000) (h4 : 1 ≤ x.reasons ∧ x.reasons ≤ 4095) (h5 : nameErr x.name = 0) : recordErr x = 0:=by
 unfold recordErr
 rw [first_cons,if_pos h1,first_cons,if_pos h2,first_cons,if_pos (by rw [within_iff.2 h3,within_iff.2 h4];rfl),first_cons,if_pos h5];rfl
theorem open_lt {j : Jrn} (V : Valid j) (f : Ref) : 0 ≤ openR j.opens f ∧ openR j.opens f < 2048:=by
 have hb:=valid_openR V f
 refine ⟨hb.1,?_⟩
 have key : ∀ (l : List Opn),(∀ x ∈ l,(1 ≤ x.reasons ∧ x.reasons ≤ 4095) ∧ has x.reasons 2048 = false) → openR l f < 2048:=by
  intro l
  induction l with
  | nil=>intro _;simp [openR]
  | cons o l ih=>
   intro hl
   simp only [openR]
   split
   ·have h:=hl o (by simp)
    rw [has_2048 (by omega)] at h
    have:=h.2
    simp at this;omega
   ·exact ih fun x hx=>hl x (by simp [hx])
 exact key _ fun x hx=>⟨(V.ook.each x hx).2.1,(V.ook.each x hx).2.2⟩
section
variable {j : Jrn} {e : Evt} (V : Valid j) (he : eventErr e = 0)
include V he
theorem aft1_ok : Semi j (aft1 j e).2 1 ∧ 0 ≤ (aft1 j e).1 ∧ (aft1 j e).1 < 2048:=by
 obtain ⟨h1,h2,h3,h4,h5,h6,h7,h8⟩:=eventErr_ok he
 have ho:=open_lt V e.file
 have hP:=wo_lt (a:=e.reasons) (by omega)
 unfold aft1
 by_cases h : woI (woI e.reasons 3584) (openR j.opens e.file) = 0
 ·rw [if_pos h]
  have:=semi_0 V
  exact ⟨⟨this.id,this.first,this.most,this.opens,this.chain,by show j.next ≤ j.next ∧ j.next ≤ j.next + 72 * ((1 : Nat) : Int);omega⟩,ho⟩
 ·rw [if_neg h]
  have hw:=with_lt (a:=openR j.opens e.file) (b:=woI e.reasons 3584) 11 (by omega) (by omega)
  have hP0 : 1 ≤ woI e.reasons 3584:=by
   have : woI e.reasons 3584 ≠ 0:=by
    intro h0;rw [h0] at h
    exact h (by unfold woI;simp [andn])
   omega
  have hge:=with_ge (a:=openR j.opens e.file) (b:=woI e.reasons 3584) hP.1
  exact ⟨(semi_0 V).wr V (by omega) (rec_mk h1 h2 h3 ⟨by show 1 ≤ withI _ _;omega,by show withI _ _ ≤ 4095;omega⟩ h6),hw⟩
theorem aft2_ok {p : Int × Jrn} (hp : Semi j p.2 1 ∧ 0 ≤ p.1 ∧ p.1 < 2048) : Semi j (aft2 e p).2 3 ∧ 0 ≤ (aft2 e p).1 ∧ (aft2 e p).1 < 2048:=by
 obtain ⟨h1,h2,h3,h4,h5,h6,h7,h8⟩:=eventErr_ok he
 obtain ⟨s,hb⟩:=hp
 unfold aft2
 by_cases h : hasR e.reasons 512 = true
 ·rw [if_pos h]
  have hn:=h7 (by rw [ev_has he];exact h)
  have w1:=with_lt (a:=p.1) (b:=512) 11 (by omega) (by omega)
  have g1:=with_ge (a:=p.1) (b:=512) (by omega)
  have w0:=wo_le (a:=p.1) (b:=512) hb
  have w2:=with_lt (a:=woI p.1 512) (b:=1024) 11 (by omega) (by omega)
  have g2:=with_ge (a:=woI p.1 512) (b:=1024) (by omega)
  refine ⟨Semi.wr V (by omega) (Semi.wr V (by omega) s (rec_mk h1 h2 h3 ⟨by show 1 ≤ withI _ _;omega,by show withI _ _ ≤ 4095;omega⟩ h6)) (rec_mk h1 hn.1 h3 ⟨by show 1 ≤ withI _ _;omega,by show withI _ _ ≤ 4095;omega⟩ hn.2),w2⟩
 ·rw [if_neg h]
  exact ⟨⟨s.id,s.first,s.most,s.opens,s.chain,by have:=s.next;omega⟩,hb⟩
theorem aft3_ok {p : Int × Jrn} (hp : Semi j p.2 3 ∧ 0 ≤ p.1 ∧ p.1 < 2048) : Semi j (aft3 e p).2 4 ∧ 0 ≤ (aft3 e p).1 ∧ (aft3 e p).1 < 2048:=by
 obtain ⟨h1,h2,h3,h4,h5,h6,h7,h8⟩:=eventErr_ok he
 obtain ⟨s,hb⟩:=hp
 unfold aft3
 have w1:=withI_bd (a:=p.1) (b:=2048) (by omega) (by omega)
 have g1:=with_ge (a:=p.1) (b:=2048) (by omega)
 by_cases h : (hasR e.reasons 2048 && !decide (p.1 = 0)) = true
 ·rw [if_pos h]
  refine ⟨Semi.wr V (by omega) s ?_,by show (0 : Int) ≤ 0;omega,by show (0 : Int) < 2048;omega⟩
  by_cases hh : hasR e.reasons 512 = true
  ·rw [if_pos hh]
   have hn:=h7 (by rw [ev_has he];exact hh)
   exact rec_mk h1 hn.1 h3 ⟨by show 1 ≤ withI _ _;omega,by show withI _ _ ≤ 4095;omega⟩ hn.2
  ·rw [if_neg hh]
   exact rec_mk h1 h2 h3 ⟨by show 1 ≤ withI _ _;omega,by show withI _ _ ≤ 4095;omega⟩ h6
 ·rw [if_neg h]
  exact ⟨⟨s.id,s.first,s.most,s.opens,s.chain,by have:=s.next;omega⟩,hb⟩
theorem aft_ok : Semi j (aft3 e (aft2 e (aft1 j e))).2 4 ∧ 0 ≤ (aft3 e (aft2 e (aft1 j e))).1 ∧ (aft3 e (aft2 e (aft1 j e))).1 < 2048:=aft3_ok V he (aft2_ok V he (aft1_ok V he))
end
theorem trim_chain {n m : Int} : ∀ {l : List Chg} {f : Int},Chain f l n → 0 ≤ f → n < 1000000000000 → Chain (trimR n m f l).1 (trimR n m f l).2 n ∧ f ≤ (trimR n m f l).1
 | [],f,h,_,_=>⟨h,Int.le_refl _⟩
 | x :: l,f,h,h0,hb=>by
  have hs:=rec_sz h.1
  have hl:=h.2.2.le
  simp only [trimR]
  by_cases hc : m < IntKind.i64.wrap (n - f)
  ·rw [if_pos hc,wrap_in (by omega)]
   have:=trim_chain (m:=m) h.2.2 (by omega) hb
   exact ⟨this.1,by omega⟩
  ·rw [if_neg hc]
   exact ⟨h,Int.le_refl _⟩
theorem oOK_ins {l : List Opn} (O : OOk l) {k n : Nat} {f : Ref} {m : List Opn} (hm : ∀ x ∈ m,x.file = f ∧ refErr x.file = 0 ∧ (1 ≤ x.reasons ∧ x.reasons ≤ 4095) ∧ has x.reasons 2048 = false) (hm1 : m.length ≤ 1) (hlo : ∀ x ∈ l.take k,compare x.file f < 0) (hhi : ∀ x ∈ l.drop n,compare f x.file < 0) : OOk (l.take k ++ m ++ l.drop n):=by
 have hp : l.Pairwise (fun a b : Opn=>compare a.file b.file < 0):=by
  rw [List.pairwise_iff_getElem]
  intro a b ha hb hab
  exact O.srt a b hb hab
 have hq : m.Pairwise (fun a b : Opn=>compare a.file b.file < 0):=by
  match m,hm1 with
  | [],_=>exact List.Pairwise.nil
  | [x],_=>exact List.pairwise_singleton _ _
 have key : (l.take k ++ m ++ l.drop n).Pairwise (fun a b : Opn=>compare a.file b.file < 0):=by
  rw [List.pairwise_append]
  refine ⟨?_,hp.sublist (List.drop_sublist _ _),?_⟩
  ·rw [List.pairwise_append]
   exact ⟨hp.sublist (List.take_sublist _ _),hq,fun x hx y hy=>by rw [(hm y hy).1];exact hlo x hx⟩
  ·intro x hx y hy
   rcases List.mem_append.1 hx with hx | hx
   ·exact cmpR_trans (hlo x hx) (hhi y hy)
   ·rw [(hm x hx).1];exact hhi y hy
 refine ⟨fun x hx=>?_,?_⟩
 ·rcases List.mem_append.1 hx with hx | hx
  ·rcases List.mem_append.1 hx with hx | hx
   ·exact O.each x (List.mem_of_mem_take hx)
   ·exact (hm x hx).2
  ·exact O.each x (List.mem_of_mem_drop hx)
 ·have h:=List.pairwise_iff_getElem.1 key
  intro a b hb hab
  exact h a b (by omega) hb hab
theorem opened_ok {j : Jrn} (V : Valid j) {f : Ref} (hf : refErr f = 0) {r : Int} (hr : 0 ≤ r ∧ r < 2048) : OOk (openGo f r j.opens (decide (r = 0)) []):=by
 obtain ⟨k,k1,k2,k3,k4⟩:=opAt_ahead V f
 have h3 : ∀ a b (h : b < j.opens.length),(hab : a < b) → compare (j.opens[a]'(by omega)).file j.opens[b].file < 0:=fun a b h hab=>opens_lt V hab h
 rw [openGo_law (f:=f) (r:=r) (decide (r = 0)) j.opens k [] k1 k2 k3 h3,List.nil_append]
 have hm : ∀ x ∈ (if decide (r = 0) = true then [] else [(⟨f,r⟩ : Opn)]),x.file = f ∧ refErr x.file = 0 ∧ (1 ≤ x.reasons ∧ x.reasons ≤ 4095) ∧ has x.reasons 2048 = false:=by
  intro x hx
  by_cases h0 : r = 0
  ·simp [h0] at hx
  ·rw [if_neg (by simpa using h0)] at hx
   rw [List.mem_singleton.1 hx]
   exact ⟨rfl,hf,by show 1 ≤ r ∧ r ≤ 4095;omega,by rw [has_2048 (by show 0 ≤ r ∧ r ≤ 4095;omega)];simp;omega⟩
 have hm1 : (if decide (r = 0) = true then [] else [(⟨f,r⟩ : Opn)]).length ≤ 1:=by split<;>simp
 have hlo : ∀ x ∈ j.opens.take k,compare x.file f < 0:=by
  intro x hx
  obtain ⟨n,hn,rfl⟩:=List.getElem_of_mem hx
  rw [List.getElem_take]
  rw [List.length_take] at hn
  exact k2 n (by omega) (by omega)
 have hd : ∀ m,k ≤ m → (∀ h : k < j.opens.length,m = k → compare f j.opens[k].file < 0) → (k < j.opens.length → m = k ∨ (m = k + 1 ∧ ∀ h : k < j.opens.length,j.opens[k].file = f)) → ∀ x ∈ j.opens.drop m,compare f x.file < 0:=by
  intro m hkm h1 h2 x hx
  obtain ⟨n,hn,rfl⟩:=List.getElem_of_mem hx
  rw [List.getElem_drop]
  rw [List.length_drop] at hn
  have hk : k < j.opens.length:=by omega
  rcases h2 hk with rfl | ⟨rfl,he⟩
  ·by_cases hn0 : n = 0
   ·subst hn0;exact h1 hk rfl
   ·exact cmpR_trans (h1 hk rfl) (h3 m (m + n) (by omega) (by omega))
  ·have:=h3 k (k + 1 + n) (by omega) (by omega)
   rwa [he hk] at this
 refine oOK_ins V.ook hm hm1 hlo (hd _ ?_ ?_ ?_)
 ·split
  ·split<;>omega
  ·omega
 ·intro h he
  rw [dif_pos h] at he
  by_cases hf2 : j.opens[k].file = f
  ·rw [if_pos hf2] at he;omega
  ·rw [compare_less];exact less_not (k3 k h (Nat.le_refl _)) hf2
 ·intro h
  rw [dif_pos h]
  by_cases hf2 : j.opens[k].file = f
  ·rw [if_pos hf2];exact .inr ⟨rfl,fun _=>hf2⟩
  ·rw [if_neg hf2];exact .inl rfl
theorem after_valid {j : Jrn} {e : Evt} (V : Valid j) (he : eventErr e = 0) (hf : full (after j e) = false) : Valid (after j e):=by
 obtain ⟨s,hb⟩:=aft_ok V he
 obtain ⟨h1,_⟩:=eventErr_ok he
 have hv:=V.nums
 have hn:=s.next
 unfold full at hf
 simp only [Bool.or_eq_false_iff,decide_eq_false_iff_not] at hf
 unfold after Jrn.trim Jrn.opened at *
 generalize aft3 e (aft2 e (aft1 j e)) = p at *
 have hc:=s.chain
 rw [s.first] at hc
 have ht:=trim_chain (m:=p.2.most) hc (by omega) (by omega)
 have hle:=ht.1.le
 simp only [s.opens,s.first] at *
 refine valid_mk ⟨by show _ ∧ _;simp only [s.id];exact hv.1,?_,?_,?_⟩ ?_ ?_ ht.1 (opened_ok V h1 hb)
 ·show 0 ≤ (trimR p.2.next p.2.most j.first p.2.recs).1 ∧ (trimR p.2.next p.2.most j.first p.2.recs).1 ≤ 2147483647
  omega
 ·show 0 ≤ p.2.next ∧ p.2.next ≤ 2147483647
  omega
 ·show 128 ≤ p.2.most ∧ p.2.most ≤ 8192
  rw [s.most];exact hv.2.2.2
 ·show (trimR p.2.next p.2.most j.first p.2.recs).2.length ≤ 200
  omega
 ·show (openGo e.file p.1 j.opens (decide (p.1 = 0)) []).length ≤ 64
  omega
end Go.Proofs.YtkeeienjocbkbaaGreatDoor
namespace Go.Proofs.YtkeeienjocbkbaaGreatDoor
open Go Dw
set_option maxRecDepth 10000
attribute [local irreducible] Run
set_option maxHeartbeats 4000000
def nJ (j : Jrn) (e : Evt) : Jrn:=if eventErr e = 0 then after j e else j
def nE (j : Jrn) (e : Evt) : Int:=if eventErr e = 0 then (if full (after j e) then 16 else 0) else eventErr e
theorem run_29 (j : Jrn) (hr : j.recs.length < 1000000) (ho : j.opens.length < 1000000) {H : Heap} {args : List AV} (hv : vl (view 8 H) args = some [j.enc]) (hd : args.flatMap (reach 8 H) = []) :
  Run Tryz.prog 29 args H (.ptr H.length 0 0) (H ++ [wO j (H.length + 1) (H.length + 2),rO j,oO j]):=by
 refine run_at (σ:=[]) (F:=args.flatMap (reach 8 H)) (fl:=true) (c29 j hr ho) List.nodup_nil (fun _ _ h=>by cases h) (embs_views H args [j.enc] _ (fun _ h=>h) hv) (by simp [embH]) (fun _=>⟨rfl,fun o ho=>?_⟩) rfl ?_
 ·simp only [List.mem_cons,List.not_mem_nil,or_false] at ho
  rcases ho with rfl | rfl | rfl
  ·exact ⟨rfl,Nat.zero_ne_one⟩
  ·exact ⟨flats_map _ (chg_ok _).2,Nat.zero_ne_one⟩
  ·exact ⟨flats_map _ (opn_ok _).2,Nat.zero_ne_one⟩
 ·simp only [outH,setAll,List.map_cons,List.map_nil,List.length_nil,List.drop_zero,if_true]
  have e1 : renO (tau [] H.length) (wO j 1 2) = wO j (H.length + 1) (H.length + 2):=rfl
  have e2 : renO (tau [] H.length) (rO j) = rO j:=by unfold renO rO;rw [rens_D]
  have e3 : renO (tau [] H.length) (oO j) = oO j:=by unfold renO oO;rw [rens_D]
  rw [e1,e2,e3]
theorem c28v {j : Jrn} (hr : j.recs.length < 1000000) (hn : ∀ x ∈ j.recs,x.name.length < 1000000) (ho : j.opens.length < 1000000) : Fn 28 [j.enc] (i (checkJ j).2):=c28 j hr hn ho
theorem end_n {j : Jrn} {e : Evt} {h : Heap} {b : Bool} (he : eventErr e = 0) (n : Nat) (hb : b = !full (after j e)) (h0 : h[0]? = some (wO (after j e) n (n + 1))) (h1 : h[n]? = some (rO (after j e))) (h2 : h[n + 1]? = some (oO (after j e))) (hn : nodupB [0,n,n + 1] = true) : EndX [0,1,2] 3 h (.d (i (if b = true then 0 else 16))) (.d (i (nE j e))) (wT (nJ j e)):=by
 rw [show nJ j e = after j e from if_pos he]
 have : nE j e = (if b = true then 0 else 16):=by
  unfold nE
  rw [if_pos he,hb]
  cases full (after j e)<;>rfl
 rw [this]
 exact end_w n rfl h0 h1 h2 hn (fun _=>rfl)
attribute [local irreducible] woI withI hasR after checkJ eventErr full
theorem c30e (j : Jrn) (e : Evt) (h0 : e.name.length < 1000000) (h1 : e.nn.length < 1000000) (he : ¬ eventErr e = 0) : Run Tryz.prog 30 [.ptr 0 0 0,.d e.enc] (wS j) (.d (i (nE j e))) (wT (nJ j e)):=by
 refine run_walkV eok Tryz.func30 rfl (by kernel_rfl) [0,1,2] (by rfl) [] ?_
 conv=>whnf
 repeat' (first
 | ((with_reducible refine on_dec_t (by assumption) ?_);conv=>whnf)
 | ((with_reducible refine on_dec_f (by assumption) ?_);conv=>whnf)
 | ((with_reducible refine onBool_t (by assumption) ?_);conv=>whnf)
 | ((with_reducible refine onBool_f (by assumption) ?_);conv=>whnf)
 | ((with_reducible refine on_nt (by assumption) ?_);conv=>whnf)
 | ((with_reducible refine on_nf (by assumption) ?_);conv=>whnf)
 | ((with_reducible refine on_ndec_t (by first | assumption | rfl) ?_);conv=>whnf)
 | ((with_reducible refine on_ndec_f (by assumption) ?_);conv=>whnf)
 | ((with_reducible refine on_dec_t rfl ?_);conv=>whnf)
 | ((with_reducible refine on_dec_f ?_ ?_);(focus ((try simp only [List.length_map,List.length_cons,List.length_nil,List.length_append]);omega));conv=>whnf)
 | ((with_reducible refine on_dec_t ?_ ?_);(focus ((try simp only [List.length_map,List.length_cons,List.length_nil,List.length_append]);omega));conv=>whnf)
 | ((with_reducible refine on_dec (fun h=>?_) (fun h=>?_))<;>(try simp only [List.length_map] at h)<;>conv=>whnf)
 | ((with_reducible refine on_ndec (fun h=>?_) (fun h=>?_))<;>(try simp only [List.length_map] at h)<;>conv=>whnf)
 | ((with_reducible refine on_not (fun h=>?_) (fun h=>?_))<;>conv=>whnf)
 | ((with_reducible refine onBool_split (fun h=>?_) (fun h=>?_))<;>conv=>whnf)
 | ((with_reducible refine call_go ?_);(first | refine call_step (run_data (xs:=[_]) (c65 e h0 h1) _) ?_ | refine call_step (run_wn (xs:=[_]) (c66 j e V he) rfl (fun _=>rfl) rfl rfl rfl rfl rfl rfl) ?_ | refine call_step (run_view (c57 _ 16) rfl rfl) ?_);conv=>whnf)
 | (refine ⟨⟨(by first | rfl | (simp;done)),cap_ok (by simp only [List.length_map,List.length_cons,List.length_nil,List.length_append];omega) rfl⟩,?_⟩;conv=>whnf)
 | (refine ⟨mem_one ⟨rfl,rfl⟩,?_⟩;conv=>whnf)
 | (refine ⟨(by intro y hy;obtain ⟨x,_,rfl⟩:=List.mem_map.1 hy;first | rfl | exact ⟨rfl,rfl⟩),?_⟩;conv=>whnf)
 | (refine ⟨cap_ok (by first | omega | (simp only [List.length_map];omega)) rfl,?_⟩;conv=>whnf)
 | (refine ix_map (by omega) ?_;conv=>whnf)
 | (refine ix_str (by omega) ?_;conv=>whnf)
 | (refine wrap64 (by omega) ?_;conv=>whnf)
 | (exfalso;simp only [List.length_map,List.length_cons,List.length_nil,List.length_append] at h;omega)
 | ((with_reducible refine endx_go ?_);first | (rw [show nJ j e = j from if_neg he,show nE j e = eventErr e from if_neg he];refine endX_of (.inl ⟨[.old 0,.dead,.dead,.old 1,.old 2],rfl,rfl,⟨rfl,trivial⟩,⟨⟨rfl,rfl,.inr ⟨⟨rfl,rfl,rfl,rfl,⟨rfl,rfl,rfl,rfl,rfl⟩,⟨rfl,rfl,rfl,rfl,rfl⟩,trivial⟩,trivial⟩⟩,rfl,rfl,⟨rfl,rfl,.inl ⟨_,rfl,rfl⟩⟩,⟨rfl,rfl,.inl ⟨_,rfl,rfl⟩⟩,trivial⟩⟩);done))
 | (refine ⟨rfl,?_⟩;conv=>whnf)
  | fail
  )
theorem c30o (j : Jrn) (e : Evt) (V : Valid j) (he : eventErr e = 0) : Run Tryz.prog 30 [.ptr 0 0 0,.d e.enc] (wS j) (.d (i (nE j e))) (wT (nJ j e)):=by
 obtain ⟨h0,h1⟩:=ev_nm he
 refine run_walkV eok Tryz.func30 rfl (by kernel_rfl) [0,1,2] (by rfl) [] ?_
 conv=>whnf
 repeat' (first
 | ((with_reducible refine on_dec_t (by assumption) ?_);conv=>whnf)
 | ((with_reducible refine on_dec_f (by assumption) ?_);conv=>whnf)
 | ((with_reducible refine onBool_t (by assumption) ?_);conv=>whnf)
 | ((with_reducible refine onBool_f (by assumption) ?_);conv=>whnf)
 | ((with_reducible refine on_nt (by assumption) ?_);conv=>whnf)
 | ((with_reducible refine on_nf (by assumption) ?_);conv=>whnf)
 | ((with_reducible refine on_ndec_t (by first | assumption | rfl) ?_);conv=>whnf)
 | ((with_reducible refine on_ndec_f (by assumption) ?_);conv=>whnf)
 | ((with_reducible refine on_dec_t rfl ?_);conv=>whnf)
 | ((with_reducible refine on_dec_f ?_ ?_);(focus ((try simp only [List.length_map,List.length_cons,List.length_nil,List.length_append]);omega));conv=>whnf)
 | ((with_reducible refine on_dec_t ?_ ?_);(focus ((try simp only [List.length_map,List.length_cons,List.length_nil,List.length_append]);omega));conv=>whnf)
 | ((with_reducible refine on_dec (fun h=>?_) (fun h=>?_))<;>(try simp only [List.length_map] at h)<;>conv=>whnf)
 | ((with_reducible refine on_ndec (fun h=>?_) (fun h=>?_))<;>(try simp only [List.length_map] at h)<;>conv=>whnf)
 | ((with_reducible refine on_not (fun h=>?_) (fun h=>?_))<;>conv=>whnf)
 | ((with_reducible refine onBool_split (fun h=>?_) (fun h=>?_))<;>conv=>whnf)
 | ((with_reducible refine call_go ?_);(first | refine call_step (run_data (xs:=[_]) (c65 e h0 h1) _) ?_ | refine call_step (run_wn (xs:=[_]) (c66 j e V he) rfl (fun _=>rfl) rfl rfl rfl rfl rfl rfl) ?_ | refine call_step (run_view (c57 _ 16) rfl rfl) ?_);conv=>whnf)
 | (refine ⟨⟨(by first | rfl | (simp;done)),cap_ok (by simp only [List.length_map,List.length_cons,List.length_nil,List.length_append];omega) rfl⟩,?_⟩;conv=>whnf)
 | (refine ⟨mem_one ⟨rfl,rfl⟩,?_⟩;conv=>whnf)
 | (refine ⟨(by intro y hy;obtain ⟨x,_,rfl⟩:=List.mem_map.1 hy;first | rfl | exact ⟨rfl,rfl⟩),?_⟩;conv=>whnf)
 | (refine ⟨cap_ok (by first | omega | (simp only [List.length_map];omega)) rfl,?_⟩;conv=>whnf)
 | (refine ix_map (by omega) ?_;conv=>whnf)
 | (refine ix_str (by omega) ?_;conv=>whnf)
 | (refine wrap64 (by omega) ?_;conv=>whnf)
 | (exfalso;simp only [List.length_map,List.length_cons,List.length_nil,List.length_append] at h;omega)
 | ((with_reducible refine endx_go ?_);first | (exact end_n he 4 (by unfold full;simp_all) rfl rfl rfl rfl;done))
 | (refine ⟨rfl,?_⟩;conv=>whnf)
  | fail
  )
end Go.Proofs.YtkeeienjocbkbaaGreatDoor
namespace Go.Proofs.YtkeeienjocbkbaaGreatDoor
open Go Dw
set_option maxRecDepth 10000
attribute [local irreducible] Run
set_option maxHeartbeats 4000000
theorem c30 (j : Jrn) (e : Evt) (V : Valid j) (h0 : e.name.length < 1000000) (h1 : e.nn.length < 1000000) : Run Tryz.prog 30 [.ptr 0 0 0,.d e.enc] (wS j) (.d (i (nE j e))) (wT (nJ j e)):=by
 by_cases he : eventErr e = 0
 ·exact c30o j e V he
 ·exact c30e j e h0 h1 he
theorem noted_n {j : Jrn} {e : Evt} (V : Valid j) : noted j e = if nE j e = 0 then (nJ j e,0) else (zeroJ,nE j e):=by
 have hc:=valid_check V
 unfold noted nE nJ
 rw [if_neg (by rw [hc];simp)]
 by_cases he : eventErr e = 0
 ·rw [if_neg (by rw [he];simp),if_pos he,if_pos he]
  cases full (after j e)<;>rfl
 ·rw [if_pos he,if_neg he,if_neg he]
theorem noted_e {j : Jrn} {e : Evt} (h : ¬ (checkJ j).2 = 0) : noted j e = (zeroJ,(checkJ j).2):=by
 unfold noted;rw [if_pos h]
def trimT (j : Jrn) : Jrn:=if (checkJ j).2 = 0 then j.trim else zeroJ
attribute [local irreducible] woI withI hasR after checkJ eventErr full noted nE nJ Jrn.trim
theorem c8e (j : Jrn) (e : Evt) (h0 : e.name.length < 1000000) (h1 : e.nn.length < 1000000) (hr : j.recs.length < 1000000) (hn : ∀ x ∈ j.recs,x.name.length < 1000000) (ho : j.opens.length < 1000000) (hc : ¬ (checkJ j).2 = 0) : Fn 8 [j.enc,e.enc] (.tup [(noted j e).1.enc,i (noted j e).2]):=by
 refine run_walkF eok Tryz.func8 rfl (by kernel_rfl) ?_
 conv=>whnf
 repeat' (first
 | ((with_reducible refine on_dec_t (by assumption) ?_);conv=>whnf)
 | ((with_reducible refine on_dec_f (by assumption) ?_);conv=>whnf)
 | ((with_reducible refine onBool_t (by assumption) ?_);conv=>whnf)
 | ((with_reducible refine onBool_f (by assumption) ?_);conv=>whnf)
 | ((with_reducible refine on_nt (by assumption) ?_);conv=>whnf)
 | ((with_reducible refine on_nf (by assumption) ?_);conv=>whnf)
 | ((with_reducible refine on_ndec_t (by first | assumption | rfl) ?_);conv=>whnf)
 | ((with_reducible refine on_ndec_f (by assumption) ?_);conv=>whnf)
 | ((with_reducible refine on_dec_t rfl ?_);conv=>whnf)
 | ((with_reducible refine on_dec_f ?_ ?_);(focus ((try simp only [List.length_map,List.length_cons,List.length_nil,List.length_append]);omega));conv=>whnf)
 | ((with_reducible refine on_dec_t ?_ ?_);(focus ((try simp only [List.length_map,List.length_cons,List.length_nil,List.length_append]);omega));conv=>whnf)
 | ((with_reducible refine on_dec (fun h=>?_) (fun h=>?_))<;>(try simp only [List.length_map] at h)<;>conv=>whnf)
 | ((with_reducible refine on_ndec (fun h=>?_) (fun h=>?_))<;>(try simp only [List.length_map] at h)<;>conv=>whnf)
 | ((with_reducible refine on_not (fun h=>?_) (fun h=>?_))<;>conv=>whnf)
 | ((with_reducible refine onBool_split (fun h=>?_) (fun h=>?_))<;>conv=>whnf)
 | ((with_reducible refine call_go ?_);(first | refine call_step (run_data (xs:=[_]) (c28v hr hn ho) _) ?_ | refine call_step (run_29 j hr ho rfl rfl) ?_ | refine call_step (run_wn (xs:=[e.enc]) (c30 j e V h0 h1) rfl (fun _=>rfl) rfl rfl rfl rfl rfl rfl) ?_);conv=>whnf)
 | (refine ⟨⟨(by first | rfl | (simp;done)),cap_ok (by simp only [List.length_map,List.length_cons,List.length_nil,List.length_append];omega) rfl⟩,?_⟩;conv=>whnf)
 | (refine ⟨mem_one ⟨rfl,rfl⟩,?_⟩;conv=>whnf)
 | (refine ⟨(by intro y hy;obtain ⟨x,_,rfl⟩:=List.mem_map.1 hy;first | rfl | exact ⟨rfl,rfl⟩),?_⟩;conv=>whnf)
 | (refine ⟨cap_ok (by first | omega | (simp only [List.length_map];omega)) rfl,?_⟩;conv=>whnf)
 | (refine ix_map (by omega) ?_;conv=>whnf)
 | (refine ix_str (by omega) ?_;conv=>whnf)
 | (refine wrap64 (by omega) ?_;conv=>whnf)
 | (exfalso;simp only [List.length_map,List.length_cons,List.length_nil,List.length_append] at h;omega)
 | ((with_reducible refine endx_go ?_);first | (refine endxv (view_tup (vlc (view_agg (vlc rfl (vlc rfl (vlc rfl (vlc rfl (vlc rfl (vlc rfl vln))))))) (vlc rfl vln))) ?_;(rw [noted_e hc])<;>rfl;done))
 | (refine ⟨rfl,?_⟩;conv=>whnf)
  | fail
  )
theorem c8o (j : Jrn) (e : Evt) (h0 : e.name.length < 1000000) (h1 : e.nn.length < 1000000) (hr : j.recs.length < 1000000) (hn : ∀ x ∈ j.recs,x.name.length < 1000000) (ho : j.opens.length < 1000000) (hc : (checkJ j).2 = 0) : Fn 8 [j.enc,e.enc] (.tup [(noted j e).1.enc,i (noted j e).2]):=by
 have V:=valid_of hc
 refine run_walkF eok Tryz.func8 rfl (by kernel_rfl) ?_
 conv=>whnf
 repeat' (first
 | ((with_reducible refine on_dec_t (by assumption) ?_);conv=>whnf)
 | ((with_reducible refine on_dec_f (by assumption) ?_);conv=>whnf)
 | ((with_reducible refine onBool_t (by assumption) ?_);conv=>whnf)
 | ((with_reducible refine onBool_f (by assumption) ?_);conv=>whnf)
 | ((with_reducible refine on_nt (by assumption) ?_);conv=>whnf)
 | ((with_reducible refine on_nf (by assumption) ?_);conv=>whnf)
 | ((with_reducible refine on_ndec_t (by first | assumption | rfl) ?_);conv=>whnf)
 | ((with_reducible refine on_ndec_f (by assumption) ?_);conv=>whnf)
 | ((with_reducible refine on_dec_t rfl ?_);conv=>whnf)
 | ((with_reducible refine on_dec_f ?_ ?_);(focus ((try simp only [List.length_map,List.length_cons,List.length_nil,List.length_append]);omega));conv=>whnf)
 | ((with_reducible refine on_dec_t ?_ ?_);(focus ((try simp only [List.length_map,List.length_cons,List.length_nil,List.length_append]);omega));conv=>whnf)
 | ((with_reducible refine on_dec (fun h=>?_) (fun h=>?_))<;>(try simp only [List.length_map] at h)<;>conv=>whnf)
 | ((with_reducible refine on_ndec (fun h=>?_) (fun h=>?_))<;>(try simp only [List.length_map] at h)<;>conv=>whnf)
 | ((with_reducible refine on_not (fun h=>?_) (fun h=>?_))<;>conv=>whnf)
 | ((with_reducible refine onBool_split (fun h=>?_) (fun h=>?_))<;>conv=>whnf)
 | ((with_reducible refine call_go ?_);(first | refine call_step (run_data (xs:=[_]) (c28v hr hn ho) _) ?_ | refine call_step (run_29 j hr ho rfl rfl) ?_ | refine call_step (run_wn (xs:=[e.enc]) (c30 j e V h0 h1) rfl (fun _=>rfl) rfl rfl rfl rfl rfl rfl) ?_);conv=>whnf)
 | (refine ⟨⟨(by first | rfl | (simp;done)),cap_ok (by simp only [List.length_map,List.length_cons,List.length_nil,List.length_append];omega) rfl⟩,?_⟩;conv=>whnf)
 | (refine ⟨mem_one ⟨rfl,rfl⟩,?_⟩;conv=>whnf)
 | (refine ⟨(by intro y hy;obtain ⟨x,_,rfl⟩:=List.mem_map.1 hy;first | rfl | exact ⟨rfl,rfl⟩),?_⟩;conv=>whnf)
 | (refine ⟨cap_ok (by first | omega | (simp only [List.length_map];omega)) rfl,?_⟩;conv=>whnf)
 | (refine ix_map (by omega) ?_;conv=>whnf)
 | (refine ix_str (by omega) ?_;conv=>whnf)
 | (refine wrap64 (by omega) ?_;conv=>whnf)
 | (exfalso;simp only [List.length_map,List.length_cons,List.length_nil,List.length_append] at h;omega)
 | ((with_reducible refine endx_go ?_);first | (refine endxv (view_tup (vlc (view_agg (vlc rfl (vlc rfl (vlc rfl (vlc rfl (vlc rfl (vlc rfl vln))))))) (vlc rfl vln))) ?_;(rw [noted_n V,if_neg (by assumption)])<;>rfl;done) | (refine endxv (view_tup (vlc (view_agg (vlc rfl (vlc rfl (vlc rfl (vlc rfl (vlc (view_map rfl Nat.two_pos) (vlc (view_map rfl Nat.two_pos) vln))))))) (vlc rfl vln))) ?_;(rw [noted_n V,if_pos (by assumption)])<;>rfl;done))
 | (refine ⟨rfl,?_⟩;conv=>whnf)
  | fail
  )
theorem c8 (j : Jrn) (e : Evt) (h0 : e.name.length < 1000000) (h1 : e.nn.length < 1000000) (hr : j.recs.length < 1000000) (hn : ∀ x ∈ j.recs,x.name.length < 1000000) (ho : j.opens.length < 1000000) : Fn 8 [j.enc,e.enc] (.tup [(noted j e).1.enc,i (noted j e).2]):=by
 by_cases hc : (checkJ j).2 = 0
 ·exact c8o j e h0 h1 hr hn ho hc
 ·exact c8e j e h0 h1 hr hn ho hc
abbrev pS (j : Jrn) : Heap:=[pO 1,wO j 2 3,rO j,oO j]
abbrev pT (j : Jrn) : Heap:=[pO 1,wO j 4 5,dead 8,dead 3,rO j,oO j]
end Go.Proofs.YtkeeienjocbkbaaGreatDoor
namespace Go.Proofs.YtkeeienjocbkbaaGreatDoor
open Go Dw
set_option maxRecDepth 10000
attribute [local irreducible] Run
set_option maxHeartbeats 4000000
def nGo (J : Jrn) (k : Nat) : List Evt → Jrn × Int × Int
 | []=>(J,0,0)
 | e :: l=>if nE J e = 0 then nGo (nJ J e) (k + 1) l else (nJ J e,k,nE J e)
attribute [local irreducible] woI withI hasR after checkJ eventErr full noted nE nJ Jrn.trim nGo allR
end Go.Proofs.YtkeeienjocbkbaaGreatDoor
namespace Go.Proofs.YtkeeienjocbkbaaGreatDoor
open Go Dw
set_option maxRecDepth 10000
attribute [local irreducible] Run
set_option maxHeartbeats 4000000
attribute [local irreducible] woI withI hasR after checkJ eventErr full noted nE nJ Jrn.trim nGo allR first
end Go.Proofs.YtkeeienjocbkbaaGreatDoor
namespace Go.Proofs.YtkeeienjocbkbaaGreatDoor
open Go Dw
set_option maxRecDepth 10000
attribute [local irreducible] Run
set_option maxHeartbeats 4000000
structure Bd (j : Jrn) : Prop where
 r : j.recs.length < 1000000
 n : ∀ x ∈ j.recs,x.name.length < 1000000
 o : j.opens.length < 1000000
theorem bd_valid {j : Jrn} (V : Valid j) : Bd j:=⟨by have:=V.recs;omega,valid_nm V,by have:=V.opens;omega⟩
theorem c16b {a b : Jrn} (h : Bd a) (k : Bd b) : Fn 16 [a.enc,b.enc] (.bool (decide (a = b))):=c16 a b h.r k.r h.o k.o
attribute [local irreducible] woI withI hasR after checkJ eventErr full noted nE nJ Jrn.trim nGo allR first fewB shortB trimT
end Go.Proofs.YtkeeienjocbkbaaGreatDoor
namespace Go.Proofs.YtkeeienjocbkbaaGreatDoor
open Go Dw
set_option maxRecDepth 10000
attribute [local irreducible] Run
set_option maxHeartbeats 600000
theorem cJ9 (s : Bs) (hs : s.length < 1000000) : Fn 15 [.str s] (.tup [(jofR s).1.enc,i (jofR s).2]):=by
 by_cases h : 20000 < s.length
 ·exact c9a s hs h
 ·by_cases h2 : s.length < 18
  ·exact c9b s hs h h2
  ·exact c9l s hs h h2
attribute [local irreducible] jofR ofR
end Go.Proofs.YtkeeienjocbkbaaGreatDoor
