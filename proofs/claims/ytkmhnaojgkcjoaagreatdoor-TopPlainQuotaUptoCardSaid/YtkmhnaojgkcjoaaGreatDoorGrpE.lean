/-
  Own lemmas, no conditions: KDa, KWi, KWa, KWb, KPa, KWc, KWd, KPb, KWe, KWf, KWg, KPc, KWh, KWj, KKa, KKb, KPd, KWk, KWl, KWm, KWo, KPf, KQa, KWp.
-/
import Derived.Test.YtkmhnaojgkcjoaaGreatDoorGrpD
import Derived.Shelf.SlIterI.Nil
import Derived.Shelf.SortM.Plain
import Derived.Shelf.SortM.SortNone
set_option linter.unusedVariables false
set_option linter.unusedSimpArgs false
namespace Go.Proofs.YtkmhnaojgkcjoaaGreatDoor.K19
open Go Dw
set_option maxRecDepth 10000
abbrev Bs:=List UInt8
abbrev i (n : Int) : D:=.int .i64 n
def Fn (f : Nat) (xs : List D) (r : D) : Prop:=Run Tryz.prog f (xs.map .d) [] (.d r) []
structure Own where
 who : Int
 used : Int
 warn : Int
 lim : Int
 ref : Int
 deriving DecidableEq
def Own.enc (x : Own) : D:=.agg [i x.who,i x.used,i x.warn,i x.lim,i x.ref]
structure Quo where
 os : List Own
 enf : Bool
 deriving DecidableEq
def Quo.enc (x : Quo) : D:=.agg [.fs (x.os.map Own.enc),.bool x.enf]
structure Lim where
 who : Int
 warn : Int
 lim : Int
 deriving DecidableEq
def Lim.enc (x : Lim) : D:=.agg [i x.who,i x.warn,i x.lim]
structure Act where
 kind : Int
 who : Int
 to : Int
 bytes : Int
 lim : Lim
 deriving DecidableEq
def Act.enc (x : Act) : D:=.agg [i x.kind,i x.who,i x.to,i x.bytes,i x.lim.who,i x.lim.warn,i x.lim.lim]
structure Fil where
 who : Int
 bytes : Int
 deriving DecidableEq
def Fil.enc (x : Fil) : D:=.agg [i x.who,i x.bytes]
structure Gap where
 who : Int
 has : Int
 needs : Int
 deriving DecidableEq
def Gap.enc (x : Gap) : D:=.agg [i x.who,i x.has,i x.needs]
attribute [local irreducible] Run
theorem cl51 : ClSpec Tryz.prog 51 5:=by
 refine clSpec_of (fun a c=>?_) (fun x l hl hk=>?_)
 ·cases a<;>(refine run_walkF eok Tryz.func51 rfl (by kernel_rfl) ?_;conv=>whnf)
  ·refine endX_of (.inl ⟨[.void 5],rfl,rfl,⟨⟨rfl,rfl,rfl,rfl⟩,trivial⟩,⟨rfl,rfl,by decide,rfl⟩,trivial⟩)
  ·refine ⟨by decide,?_⟩;conv=>whnf
   refine endX_of (.inl ⟨[.old 0],rfl,rfl,⟨⟨rfl,rfl,rfl,rfl,rfl⟩,trivial⟩,⟨rfl,rfl,.inr (wksd _ [])⟩,trivial⟩)
 ·refine run_walkF eok Tryz.func51 rfl (by kernel_rfl) ?_
  conv=>whnf
  refine ⟨hk,?_⟩;conv=>whnf
  refine ⟨cap_ok (by simp only [List.length_map];omega) rfl,?_⟩;conv=>whnf
  refine endX_of (.inl ⟨[.old 0],rfl,rfl,⟨⟨rfl,rfl,?_,rfl,rfl⟩,trivial⟩,⟨rfl,rfl,.inr (wksd _ _)⟩,trivial⟩)
  simp only [List.length_map]
end Go.Proofs.YtkmhnaojgkcjoaaGreatDoor.K19
namespace Go.Proofs.YtkmhnaojgkcjoaaGreatDoor.K19
open Go Dw
set_option maxRecDepth 10000
attribute [local irreducible] Run
set_option maxHeartbeats 4000000
theorem c200 {h : Heap} {s2 l2 : Nat} {c1 c2 : Option Nat} {o1 o2 : AO} (h1 : h[1]? = some o1) (h2 : h[0]? = some o2) (t1 : o1.st < 2) (t2 : o2.st < 2) (p2 : 0 < l2) : Run Tryz.prog 200 [.sl 1 0 1 5 c1,.sl 0 s2 l2 5 c2] h (.d (.bool false)) h:=
 run_overlaps (P:=Tryz.prog) (f:=200) (tS:=40) (tR:=4) (e:=50) (k:=5) (by kernel_rfl) (fun w=>Tryz.sizeOf50 w) (fun vs w=>by
  rw [run_callFunc_extern Tryz.func200 (by kernel_rfl) (by kernel_rfl) (by kernel_rfl) (e:=Extern.SlicesOverlaps.overlaps #[40,40] #[4]) (by kernel_rfl)]) o1 o2 h1 h2 t1 t2 (by decide) (by decide) (by decide) p2
def insL (L : List D) (k : Nat) (y : D) : List D:=L.take k ++ y :: L.drop k
theorem own_slc {h : Heap} {id s len k c : Nat} {lo hi : Int} {K : AV → Prop} (a b : Nat) (ha : lo = a) (hb : hi = b) (hab : a ≤ b ∧ b ≤ c) (hk : K (.sl id (s + a) (b - a) k (some (c - a)))) : ownSl h id s len k (some c) lo hi K:=by
 subst ha;subst hb
 exact ⟨.mk,⟨by omega,by omega,.inr (by show ((b : Nat) : Int) ≤ c;omega)⟩,hk⟩
theorem srcB {l : List AV} {s len : Nat} {K : List AV → Prop} {A : List AV → Prop} (Y : List D) (e : (l.drop s).take len = Y.map .d) (h1 : s + len < l.length) (hm : ∀ z ∈ Y,z.memOk = true) (hk : K (Y.map .d)) :
  s + len ≤ l.length ∧ dropK l s (fun r=>onBool (r.length == len) (A r) (onOk ((r.take len).all AV.known) (takeK r len K))):=by
 refine ⟨by omega,?_⟩
 rw [dropK_eq]
 refine onBool_f (by rw [List.length_drop,beq_eq_false_iff_ne];omega) (onOk_of ?_ ?_)
 ·rw [e];exact known_d hm
 ·rw [takeK_eq,e];exact hk
theorem srcC {l : List AV} {s len : Nat} {K : List AV → Prop} {B : List AV → Prop} (Y : List D) (e : l.drop s = Y.map .d) (h1 : s + len = l.length) (hm : ∀ z ∈ Y,z.memOk = true) (hk : K (Y.map .d)) :
  s + len ≤ l.length ∧ dropK l s (fun r=>onBool (r.length == len) (onOk (r.all AV.known) (K r)) (B r)):=by
 refine ⟨by omega,?_⟩
 rw [dropK_eq]
 refine onBool_t ?_ (onOk_of ?_ ?_)
 ·rw [List.length_drop,beq_iff_eq];omega
 ·rw [e];exact known_d hm
 ·rw [e];exact hk
theorem ins_end {L : List D} {y : D} {k m n : Nat} (hk : k = L.length) (hn : n = L.length) (hm : 0 < m) {Z : List AV} (hZ : Z = [.d y]) : over (L.map AV.d ++ List.replicate m .junk) n Z = (insL L k y).map .d ++ List.replicate (m - 1) .junk:=by
 subst hk;subst hn;subst hZ
 unfold over insL
 rw [List.take_left' (by simp),List.take_of_length_le (Nat.le_refl _),List.drop_of_length_le (Nat.le_refl _),List.map_append,List.length_singleton]
 have e : (L.map AV.d ++ List.replicate m AV.junk).drop (L.length + 1) = List.replicate (m - 1) .junk:=by
  rw [List.drop_append,List.drop_of_length_le (by simp),List.nil_append,List.drop_replicate]
  congr 1;simp only [List.length_map];omega
 rw [e];rfl
theorem ins_new {L : List D} {y : D} {k n : Nat} (hk : k = L.length) (hn : n = L.length) {Z X : List AV} (hZ : Z = [.d y]) : ((L.map AV.d ++ X).drop 0).take n ++ Z = (insL L k y).map .d:=by
 subst hk;subst hn;subst hZ
 unfold insL
 rw [List.drop_zero,List.take_left' (by simp),List.take_of_length_le (Nat.le_refl _),List.drop_of_length_le (Nat.le_refl _),List.map_append];rfl
theorem ins_fill {L : List D} {y : D} {k a b : Nat} {X Y Z : List AV} (hk : k < L.length) (hX : X.length = L.length + 1) (hT : X.take k = (L.take k).map .d) (ha : a = k) (hb : b = k + 1) (hZ : Z = [.d y]) (hY : Y = (L.drop k).map .d) : over (over X a Z) b Y = (insL L k y).map .d:=by
 subst ha;subst hb;subst hZ;subst hY
 have e1 : (over X a [.d y]).take (a + 1) = (L.take a).map .d ++ [.d y]:=by
  unfold over
  rw [hT,List.take_left' (by simp;omega)]
 have e2 : (over X a [.d y]).length = L.length + 1:=by
  unfold over;simp;omega
 generalize over X a [.d y] = Z at e1 e2 ⊢
 have e3 : Z.drop (a + 1 + ((L.drop a).map AV.d).length) = []:=List.drop_eq_nil_of_le (by rw [e2];simp only [List.length_map,List.length_drop];omega)
 unfold over
 rw [e1,e3]
 unfold insL
 simp
theorem takeD {L : List D} {R : List AV} {s len k : Nat} (hs : s = k) (hl : len = L.length - k) (hk : k ≤ L.length) : ((L.map AV.d ++ R).drop s).take len = (L.drop k).map .d:=by
 subst hs;subst hl
 rw [List.drop_append_of_le_length (by simp;omega),List.take_append_of_le_length (by simp),List.take_of_length_le (by simp),← List.map_drop]
theorem icT {L : List D} {k : Nat} {R X : List AV} (hk : k ≤ L.length) : ((((L.map AV.d ++ R).drop (0 + 0)).take (k - 0)) ++ X).take k = (L.take k).map .d:=by
 rw [Nat.sub_zero,List.drop_zero,List.take_append_of_le_length (by simp;omega),List.take_take,Nat.min_self,List.take_append_of_le_length (by simp;omega),List.map_take]
theorem ins_room {L : List D} {y : D} {k a b m : Nat} {Y Z : List AV} (hk : k < L.length) (hm : 0 < m) (ha : a = k + 1) (hb : b = k) (hZ : Z = [.d y]) (hY : Y = (L.drop k).map .d) : over (over (L.map AV.d ++ List.replicate m .junk) a Y) b Z = (insL L k y).map .d ++ List.replicate (m - 1) .junk:=by
 subst ha;subst hb;subst hZ;subst hY
 have e0 : (L.map AV.d ++ List.replicate m AV.junk).drop (b + 1 + ((L.drop b).map AV.d).length) = List.replicate (m - 1) .junk:=by
  rw [List.drop_append,List.drop_of_length_le (by simp;omega),List.nil_append,List.drop_replicate]
  congr 1;simp only [List.length_map,List.length_drop];omega
 have e1 : over (L.map AV.d ++ List.replicate m .junk) (b + 1) ((L.drop b).map .d) = (L.take (b + 1)).map .d ++ ((L.drop b).map .d ++ List.replicate (m - 1) .junk):=by
  unfold over
  rw [e0,List.take_append_of_le_length (by simp;omega),← List.map_take,List.append_assoc]
 rw [e1]
 have e2 : (L.take (b + 1)).map AV.d ++ ((L.drop b).map AV.d ++ List.replicate (m - 1) AV.junk) = (L.take b).map .d ++ (AV.d (L[b]'hk) :: ((L.drop b).map .d ++ List.replicate (m - 1) .junk)):=by
  rw [List.take_succ_eq_append_getElem hk,List.map_append,List.append_assoc];rfl
 rw [e2]
 unfold over insL
 rw [List.take_left' (by simp;omega),List.drop_append,List.drop_of_length_le (by simp;omega),List.nil_append]
 have e3 : b + [AV.d y].length - ((L.take b).map AV.d).length = 1:=by simp;omega
 rw [e3];simp
theorem ins_ia (L : List D) (y : D) (hk : ∀ z ∈ L,z.cells.length = 5 ∧ z.memOk = true) (hy : y.cells.length = 5 ∧ y.memOk = true) (hL : L.length < 1000000) (c : Nat) (hc : L.length ≤ c) (k : Nat) (hkn : k = L.length) (hr : L.length + 1 ≤ c) : Run Tryz.prog 175 [.sl 0 0 L.length 5 (some c),.d (i k),.sl 1 0 1 5 (some 1)] [⟨L.map .d ++ List.replicate (c - L.length) .junk,5,0⟩,⟨[.d y],5,0⟩] (.sl 2 0 (L.length + 1) 5 (some c)) [⟨[],5,2⟩,⟨[.d y],5,0⟩,⟨(insL L k y).map .d,5,0⟩]:=by
 refine run_walkV eok Tryz.func175 rfl (by kernel_rfl) [0] (by rfl) [] ?_
 conv=>whnf
 repeat' (first
 | ((with_reducible refine on_dec_t ?_ ?_);(focus (simp only [List.length_drop,List.length_take,List.length_map,List.length_cons,List.length_nil,List.length_append,List.length_replicate,over];omega));conv=>whnf)
 | ((with_reducible refine on_dec_t ?_ ?_);(focus ((try simp only [List.length_map,List.length_cons,List.length_nil,List.length_append]);omega));conv=>whnf)
 | (refine srcA (l:=[.d y]) rfl (by simp [AV.known,hy.2]) ?_;conv=>whnf)
 | (refine own_sl k L.length rfl rfl ⟨by omega,by omega⟩ ?_;conv=>whnf)
 | (refine ⟨(by simp only [List.length_drop,List.length_take,List.length_map,List.length_cons,List.length_nil,List.length_append,List.length_replicate,over];omega),?_⟩;conv=>whnf)
 | ((with_reducible refine endx_go ?_);first | (refine endX_of (.inl ⟨[.dead,.old 1,.cut 0 (L.length + 1)],rfl,rfl,⟨⟨⟨rfl,fun h=>by cases h⟩,rfl,rfl,rfl,rfl⟩,trivial⟩,⟨rfl,⟨rfl,rfl,.inl ⟨[y],rfl,rfl⟩⟩,⟨rfl,rfl,_,_,ins_end (k:=k) hkn (by omega) (by omega) rfl,(by unfold insL;simp;omega),.inl ⟨_,rfl,rfl⟩⟩,trivial⟩⟩);done))
  | fail
  )
theorem ins_ib (L : List D) (y : D) (hk : ∀ z ∈ L,z.cells.length = 5 ∧ z.memOk = true) (hy : y.cells.length = 5 ∧ y.memOk = true) (hL : L.length < 1000000) (c : Nat) (hc : L.length ≤ c) (k : Nat) (hkn : k = L.length) (hr : ¬ L.length + 1 ≤ c) : Run Tryz.prog 175 [.sl 0 0 L.length 5 (some c),.d (i k),.sl 1 0 1 5 (some 1)] [⟨L.map .d ++ List.replicate (c - L.length) .junk,5,0⟩,⟨[.d y],5,0⟩] (.sl 2 0 (L.length + 1) 5 none) [⟨[],5,2⟩,⟨[.d y],5,0⟩,⟨(insL L k y).map .d,5,0⟩]:=by
 refine run_walkV eok Tryz.func175 rfl (by kernel_rfl) [0] (by rfl) [] ?_
 conv=>whnf
 repeat' (first
 | ((with_reducible refine on_dec_f ?_ ?_);(focus (simp only [List.length_drop,List.length_take,List.length_map,List.length_cons,List.length_nil,List.length_append,List.length_replicate,over];omega));conv=>whnf)
 | ((with_reducible refine on_dec_t ?_ ?_);(focus ((try simp only [List.length_map,List.length_cons,List.length_nil,List.length_append]);omega));conv=>whnf)
 | (refine srcA (l:=[.d y]) rfl (by simp [AV.known,hy.2]) ?_;conv=>whnf)
 | (refine own_sl k L.length rfl rfl ⟨by omega,by omega⟩ ?_;conv=>whnf)
 | (refine ⟨⟨(by simp only [List.length_drop,List.length_take,List.length_map,List.length_cons,List.length_nil,List.length_append,List.length_replicate,over];omega),(by have e : (E (E 40).elem).bytes = 40:=rfl;rw [e];(try simp only [List.length_drop,List.length_take,List.length_map,List.length_cons,List.length_nil,List.length_append,List.length_replicate,over]);omega)⟩,?_⟩;conv=>whnf)
 | ((with_reducible refine endx_go ?_);first | (refine endX_of (.inl ⟨[.dead,.old 1,.old 2],rfl,rfl,⟨⟨rfl,rfl,rfl,rfl,rfl⟩,trivial⟩,⟨rfl,⟨rfl,rfl,.inl ⟨[y],rfl,rfl⟩⟩,⟨rfl,rfl,.inl ⟨_,ins_new (k:=k) hkn rfl rfl,rfl⟩⟩,trivial⟩⟩);done))
  | fail
  )
theorem ins_ic (L : List D) (y : D) (hk : ∀ z ∈ L,z.cells.length = 5 ∧ z.memOk = true) (hy : y.cells.length = 5 ∧ y.memOk = true) (hL : L.length < 1000000) (c : Nat) (hc : L.length ≤ c) (k : Nat) (hkn : k < L.length) (hr : ¬ L.length + 1 ≤ c) : Run Tryz.prog 175 [.sl 0 0 L.length 5 (some c),.d (i k),.sl 1 0 1 5 (some 1)] [⟨L.map .d ++ List.replicate (c - L.length) .junk,5,0⟩,⟨[.d y],5,0⟩] (.sl 2 0 (L.length + 1) 5 none) [⟨[],5,2⟩,⟨[.d y],5,0⟩,⟨(insL L k y).map .d,5,0⟩]:=by
 refine run_walkV eok Tryz.func175 rfl (by kernel_rfl) [0] (by rfl) [] ?_
 conv=>whnf
 repeat' (first
 | ((with_reducible refine on_dec_t ?_ ?_);(focus (simp only [List.length_drop,List.length_take,List.length_map,List.length_cons,List.length_nil,List.length_append,List.length_replicate,over];omega));conv=>whnf)
 | ((with_reducible refine on_dec_f ?_ ?_);(focus (simp only [List.length_drop,List.length_take,List.length_map,List.length_cons,List.length_nil,List.length_append,List.length_replicate,over];omega));conv=>whnf)
 | ((with_reducible refine on_dec_f ?_ ?_);(focus ((try simp only [List.length_map,List.length_cons,List.length_nil,List.length_append]);omega));conv=>whnf)
 | ((with_reducible refine on_dec_t ?_ ?_);(focus ((try simp only [List.length_map,List.length_cons,List.length_nil,List.length_append]);omega));conv=>whnf)
 | (refine ⟨[],[],(by decide +kernel),?_⟩;conv=>whnf)
 | (refine wrap64 (by omega) ?_;conv=>whnf)
 | (refine srcC (L.drop k) (by simp only [Nat.zero_add];rw [show c - L.length = 0 by omega];simp) (by simp only [List.length_drop,List.length_take,List.length_map,List.length_cons,List.length_nil,List.length_append,List.length_replicate,over];omega) (fun z hz=>(hk z (List.mem_of_mem_drop hz)).2) ?_;conv=>whnf)
 | (refine srcA (l:=[.d y]) rfl (by simp [AV.known,hy.2]) ?_;conv=>whnf)
 | (refine own_sl k L.length rfl rfl ⟨by omega,by omega⟩ ?_;conv=>whnf)
 | (refine own_sl 0 k rfl rfl ⟨by omega,by omega⟩ ?_;conv=>whnf)
 | (refine own_sl k _ rfl rfl ⟨by omega,(by (try simp only [List.length_drop,List.length_take,List.length_map,List.length_cons,List.length_nil,List.length_append,List.length_replicate,over]);omega)⟩ ?_;conv=>whnf)
 | (refine own_sl (k + 1) _ (by omega) rfl ⟨(by (try simp only [List.length_drop,List.length_take,List.length_map,List.length_cons,List.length_nil,List.length_append,List.length_replicate,over]);omega),(by (try simp only [List.length_drop,List.length_take,List.length_map,List.length_cons,List.length_nil,List.length_append,List.length_replicate,over]);omega)⟩ ?_;conv=>whnf)
 | (refine ⟨⟨(by simp only [List.length_drop,List.length_take,List.length_map,List.length_cons,List.length_nil,List.length_append,List.length_replicate,over];omega),(by have e : (E (E 40).elem).bytes = 40:=rfl;rw [e];(try simp only [List.length_drop,List.length_take,List.length_map,List.length_cons,List.length_nil,List.length_append,List.length_replicate,over]);omega)⟩,?_⟩;conv=>whnf)
 | (refine ⟨⟨by omega,by omega,(by have e : (E (E 40).elem).bytes = 40:=rfl;rw [e];(try simp only [List.length_drop,List.length_take,List.length_map,List.length_cons,List.length_nil,List.length_append,List.length_replicate,over]);omega)⟩,?_⟩;conv=>whnf)
 | (refine ⟨(by simp only [List.length_drop,List.length_take,List.length_map,List.length_cons,List.length_nil,List.length_append,List.length_replicate,over];omega),?_⟩;conv=>whnf)
 | ((with_reducible refine endx_go ?_);first | (refine endX_of (.inl ⟨[.dead,.old 1,.old 2],rfl,rfl,⟨⟨rfl,rfl,(by simp only [List.length_drop,List.length_take,List.length_map,List.length_cons,List.length_nil,List.length_append,List.length_replicate,over];omega),rfl,rfl⟩,trivial⟩,⟨rfl,⟨rfl,rfl,.inl ⟨[y],rfl,rfl⟩⟩,⟨rfl,rfl,.inl ⟨_,ins_fill hkn (by simp only [List.length_drop,List.length_take,List.length_map,List.length_cons,List.length_nil,List.length_append,List.length_replicate,over];omega) (icT (by omega)) (by omega) (by omega) (List.take_of_length_le (by simp only [List.length_drop,List.length_take,List.length_map,List.length_cons,List.length_nil,List.length_append,List.length_replicate,over];omega)) (List.take_of_length_le (by simp only [List.length_drop,List.length_take,List.length_map,List.length_cons,List.length_nil,List.length_append,List.length_replicate,over];omega)),rfl⟩⟩,trivial⟩⟩);done))
  | fail
  )
theorem ins_id (L : List D) (y : D) (hk : ∀ z ∈ L,z.cells.length = 5 ∧ z.memOk = true) (hy : y.cells.length = 5 ∧ y.memOk = true) (hL : L.length < 1000000) (c : Nat) (hc : L.length ≤ c) (k : Nat) (hkn : k < L.length) (hr : L.length + 1 ≤ c) : Run Tryz.prog 175 [.sl 0 0 L.length 5 (some c),.d (i k),.sl 1 0 1 5 (some 1)] [⟨L.map .d ++ List.replicate (c - L.length) .junk,5,0⟩,⟨[.d y],5,0⟩] (.sl 2 0 (L.length + 1) 5 (some c)) [⟨[],5,2⟩,⟨[.d y],5,0⟩,⟨(insL L k y).map .d,5,0⟩]:=by
 refine run_walkV eok Tryz.func175 rfl (by kernel_rfl) [0] (by rfl) [] ?_
 conv=>whnf
 repeat' (first
 | ((with_reducible refine on_dec_f ?_ ?_);(focus ((try simp only [List.length_map,List.length_cons,List.length_nil,List.length_append]);omega));conv=>whnf)
 | ((with_reducible refine on_dec_t ?_ ?_);(focus ((try simp only [List.length_map,List.length_cons,List.length_nil,List.length_append]);omega));conv=>whnf)
 | ((with_reducible refine call_go ?_);(first | refine call_step (c200 (o1:=⟨[.d y],5,0⟩) (o2:=⟨L.map .d ++ List.replicate (c - L.length) .junk,5,0⟩) rfl rfl (Nat.zero_lt_succ 1) (Nat.zero_lt_succ 1) (by omega)) ?_);conv=>whnf)
 | (refine ⟨[],[],(by decide +kernel),?_⟩;conv=>whnf)
 | (refine wrap64 (by omega) ?_;conv=>whnf)
 | (refine srcB (L.drop k) (takeD (by omega) (by omega) (by omega)) (by simp only [List.length_drop,List.length_take,List.length_map,List.length_cons,List.length_nil,List.length_append,List.length_replicate,over];omega) (fun z hz=>(hk z (List.mem_of_mem_drop hz)).2) ?_;conv=>whnf)
 | (refine own_slc 0 (L.length + 1) rfl (by omega) ⟨by omega,by omega⟩ ?_;conv=>whnf)
 | (refine srcA (l:=[.d y]) rfl (by simp [AV.known,hy.2]) ?_;conv=>whnf)
 | (refine own_sl k L.length rfl rfl ⟨by omega,by omega⟩ ?_;conv=>whnf)
 | (refine own_sl k _ rfl rfl ⟨by omega,(by (try simp only [List.length_drop,List.length_take,List.length_map,List.length_cons,List.length_nil,List.length_append,List.length_replicate,over]);omega)⟩ ?_;conv=>whnf)
 | (refine own_sl (k + 1) _ (by omega) rfl ⟨(by (try simp only [List.length_drop,List.length_take,List.length_map,List.length_cons,List.length_nil,List.length_append,List.length_replicate,over]);omega),(by (try simp only [List.length_drop,List.length_take,List.length_map,List.length_cons,List.length_nil,List.length_append,List.length_replicate,over]);omega)⟩ ?_;conv=>whnf)
 | (refine ⟨(by simp only [List.length_drop,List.length_take,List.length_map,List.length_cons,List.length_nil,List.length_append,List.length_replicate,over];omega),?_⟩;conv=>whnf)
 | ((with_reducible refine endx_go ?_);first | (refine endX_of (.inl ⟨[.dead,.old 1,.cut 0 (L.length + 1)],rfl,rfl,⟨⟨⟨rfl,fun h=>by cases h⟩,rfl,rfl,rfl,rfl⟩,trivial⟩,⟨rfl,⟨rfl,rfl,.inl ⟨[y],rfl,rfl⟩⟩,⟨rfl,rfl,_,_,ins_room hkn (by omega) (by omega) (by omega) (List.take_of_length_le (by simp only [List.length_drop,List.length_take,List.length_map,List.length_cons,List.length_nil,List.length_append,List.length_replicate,over];omega)) (List.take_of_length_le (by simp only [List.length_drop,List.length_take,List.length_map,List.length_cons,List.length_nil,List.length_append,List.length_replicate,over];omega)),(by unfold insL;simp;omega),.inl ⟨_,rfl,rfl⟩⟩,trivial⟩⟩);done))
  | fail
  )
theorem insL_len (L : List D) (k : Nat) (y : D) (h : k ≤ L.length) : (insL L k y).length = L.length + 1:=by
 unfold insL;simp;omega
theorem ins175 (L : List D) (y : D) (k : Nat) (hkn : k ≤ L.length) (hk : ∀ z ∈ L,z.cells.length = 5 ∧ z.memOk = true) (hy : y.cells.length = 5 ∧ y.memOk = true) (hL : L.length < 1000000) :
  Run Tryz.prog 175 [.sl 0 0 L.length 5 none,.d (i k),.sl 1 0 1 5 (some 1)] [⟨L.map .d,5,0⟩,⟨[.d y],5,0⟩] (.sl 2 0 (L.length + 1) 5 none) [⟨[],5,2⟩,⟨[.d y],5,0⟩,⟨(insL L k y).map .d,5,0⟩]:=by
 refine run_grow (j:=1) (D1:=⟨[],5,2⟩) (H':=[⟨[.d y],5,0⟩,⟨(insL L k y).map .d,5,0⟩]) (by simp) (fun x hx=>?_) (fun x hx=>?_) (fun o ho x hx=>?_) rfl ⟨_,rfl,by simp [insL_len L k y hkn],Nat.zero_lt_succ 1⟩ fun c hc=>?_
 ·obtain ⟨z,_,rfl⟩:=List.mem_map.1 hx;rfl
 ·simp only [List.mem_cons,List.not_mem_nil,or_false] at hx
  rcases hx with rfl | rfl<;>rfl
 ·simp only [List.mem_singleton] at ho;subst ho
  simp only [List.mem_singleton] at hx;subst hx;rfl
 ·rcases Nat.lt_or_ge k L.length with h | h
  ·by_cases hr : L.length + 1 ≤ c
   ·exact ⟨_,ins_id L y hk hy hL c hc k h hr⟩
   ·exact ⟨_,ins_ic L y hk hy hL c hc k h hr⟩
  ·by_cases hr : L.length + 1 ≤ c
   ·exact ⟨_,ins_ia L y hk hy hL c hc k (by omega) hr⟩
   ·exact ⟨_,ins_ib L y hk hy hL c hc k (by omega) hr⟩
theorem run_ins {L : List D} {y : D} {k n : Nat} {H : Heap} {a b : Nat} (h1 : H[a]? = some ⟨L.map .d,5,0⟩) (h2 : H[b]? = some ⟨[.d y],5,0⟩) (hab : a ≠ b) (hn : n = L.length) (hkn : k ≤ L.length) (hk : ∀ z ∈ L,z.cells.length = 5 ∧ z.memOk = true) (hf : ∀ z ∈ L,z.flat = true)
  (hy : y.cells.length = 5 ∧ y.memOk = true) (hyf : y.flat = true) (hL : L.length < 1000000) :
  Run Tryz.prog 175 [.sl a 0 n 5 none,.d (i k),.sl b 0 1 5 (some 1)] H (.sl H.length 0 (L.length + 1) 5 none) (((H.set a ⟨[],5,2⟩).set b ⟨[.d y],5,0⟩) ++ [⟨(insL L k y).map .d,5,0⟩]):=by
 subst hn
 refine run_at (σ:=[a,b]) (F:=[]) (fl:=true) (ins175 L y k hkn hk hy hL) (by simp [hab]) (fun j hj=>by cases hj) ⟨⟨rfl,rfl,rfl,rfl,rfl⟩,⟨rfl,fun id hid=>by simp [reach] at hid⟩,⟨rfl,rfl,rfl,rfl,rfl⟩,trivial⟩
  ⟨(nthK_iff _ _).2 ⟨_,h1,rfl,rfl,.inl ⟨_,rfl,rfl⟩⟩,(nthK_iff _ _).2 ⟨_,h2,rfl,rfl,.inl ⟨[y],rfl,rfl⟩⟩,trivial⟩ (fun _=>⟨rfl,fun o ho=>?_⟩) ?_ ?_
 ·simp only [List.mem_cons,List.not_mem_nil,or_false] at ho
  rcases ho with rfl | rfl | rfl
  ·exact ⟨rfl,by decide⟩
  ·exact ⟨flats_map [y] (by simpa using hyf),Nat.zero_ne_one⟩
  ·refine ⟨flats_map _ fun z hz=>?_,Nat.zero_ne_one⟩
   unfold insL at hz
   rcases List.mem_append.1 hz with hz | hz
   ·exact hf z (List.mem_of_mem_take hz)
   ·rcases List.mem_cons.1 hz with rfl | hz
    ·exact hyf
    ·exact hf z (List.mem_of_mem_drop hz)
 ·simp [ren,tau]
 ·simp only [outH,setAll,List.map_cons,List.map_nil,List.length_cons,List.length_nil,List.drop_succ_cons,List.drop_zero,renO,rens_D,if_true]
  rfl
def qO (e : Bool) (n a : Nat) : AO:=⟨[.agg [.sl a 0 n 5 none,.d (.bool e)]],2,0⟩
def rO (l : List Own) : AO:=⟨(l.map Own.enc).map .d,5,0⟩
def deadO : AO:=⟨[],5,2⟩
theorem own_ok (l : List Own) : (∀ y ∈ l.map Own.enc,y.cells.length = 5 ∧ y.memOk = true) ∧ ∀ y ∈ l.map Own.enc,y.flat = true:=by
 constructor<;>(intro y hy;obtain ⟨x,_,rfl⟩:=List.mem_map.1 hy;first | exact ⟨rfl,rfl⟩ | rfl)
theorem run_mv {f n : Nat} {xs : List D} {r : AV} {l l' : List Own} {e e' : Bool} (hf : Run Tryz.prog f (.ptr 0 0 0 :: xs.map .d) [qO e l.length 1,rO l] r [qO e' l'.length 2,deadO,rO l']) (hr : r.flat = true) (hrr : ∀ τ,ren τ r = r)
  {H : Heap} {a b : Nat} (h1 : H[a]? = some (qO e n b)) (h2 : H[b]? = some (rO l)) (hn : n = l.length) (hab : a ≠ b) {args : List AV} (hv : vl (view 8 H) args = some xs) (hd : ∀ j ∈ args.flatMap (reach 8 H),j ≠ a ∧ j ≠ b) :
  Run Tryz.prog f (.ptr a 0 0 :: args) H r (((H.set a (qO e' l'.length H.length)).set b deadO) ++ [rO l']):=by
 subst hn
 refine run_at (σ:=[a,b]) (F:=args.flatMap (reach 8 H)) (fl:=true) hf (by simp [hab]) (fun j hj=>by have:=hd j hj;simp;omega) ⟨⟨rfl,rfl,rfl⟩,embs_views1 H args xs _ (fun _ h=>h) hv⟩
  ⟨(nthK_iff _ _).2 ⟨_,h1,rfl,rfl,.inr ⟨⟨⟨rfl,rfl,rfl,rfl,rfl⟩,⟨rfl,fun id hid=>by simp [reach] at hid⟩,trivial⟩,trivial⟩⟩,(nthK_iff _ _).2 ⟨_,h2,rfl,rfl,.inl ⟨_,rfl,rfl⟩⟩,trivial⟩ (fun _=>⟨hr,fun o ho=>?_⟩) (hrr _) ?_
 ·simp only [List.mem_cons,List.not_mem_nil,or_false] at ho
  rcases ho with rfl | rfl | rfl
  ·exact ⟨rfl,Nat.zero_ne_one⟩
  ·exact ⟨rfl,by decide⟩
  ·exact ⟨flats_map _ (own_ok l').2,Nat.zero_ne_one⟩
 ·simp only [outH,setAll,List.map_cons,List.map_nil,List.length_cons,List.length_nil,List.drop_succ_cons,List.drop_zero,if_true]
  have e1 : renO (tau [a,b] H.length) (qO e' l'.length 2) = qO e' l'.length H.length:=rfl
  have e2 : renO (tau [a,b] H.length) (rO l') = rO l':=by unfold renO rO;rw [rens_D]
  rw [e1,e2];rfl
end Go.Proofs.YtkmhnaojgkcjoaaGreatDoor.K19
namespace Go.Proofs.YtkmhnaojgkcjoaaGreatDoor.K19
open Go Dw
set_option maxRecDepth 10000
attribute [local irreducible] Run
set_option maxHeartbeats 4000000
def within (n lo hi : Int) : Bool:=decide (lo ≤ n) && decide (n ≤ hi)
def firstE : List Int → Int
 | []=>0
 | e :: l=>if e = 0 then firstE l else e
theorem firstE_nil : firstE [] = 0:=rfl
theorem firstE_cons (e : Int) (l : List Int) : firstE (e :: l) = if e = 0 then firstE l else e:=rfl
theorem firstE_drop (l : List Int) (k : Nat) (h : k < l.length) : firstE (l.drop k) = if l[k] = 0 then firstE (l.drop (k + 1)) else l[k]:=by
 rw [List.drop_eq_getElem_cons h];rfl
def whoE (n : Int) : Int:=if (decide (n = 4) || (decide (n = 5) || within n 10 999)) = true then 0 else 2
def numE (n : Int) : Int:=if within n 0 2147483647 = true then 0 else 2
def limE (n : Int) : Int:=if within n (-1) 2147483646 = true then 0 else 2
def refE (n : Int) : Int:=if within n 0 65535 = true then 0 else 2
theorem c39 (n lo hi : Int) : Fn 39 [i n,i lo,i hi] (.bool (within n lo hi)):=by
 refine run_walkF eok Tryz.func39 rfl (by kernel_rfl) ?_
 conv=>whnf
 repeat' (first
 | ((with_reducible refine on_dec (fun h=>?_) (fun h=>?_))<;>(try simp only [List.length_map] at h)<;>conv=>whnf)
 | ((with_reducible refine endx_go ?_);first | (exact endx (congrArg D.bool (by simp [within, *]));done))
  | fail
  )
theorem c17 (n lo hi : Int) : Fn 17 [i n,i lo,i hi] (.bool (within n lo hi)):=by
 refine run_walkF eok Tryz.func17 rfl (by kernel_rfl) ?_
 conv=>whnf
 repeat' (first
 | ((with_reducible refine on_dec (fun h=>?_) (fun h=>?_))<;>(try simp only [List.length_map] at h)<;>conv=>whnf)
 | ((with_reducible refine endx_go ?_);first | (exact endx (congrArg D.bool (by simp [within, *]));done))
  | fail
  )
theorem c38 (a : Bool) (e : Int) : Fn 38 [.bool a,i e] (i (if a then 0 else e)):=by
 refine run_walkF eok Tryz.func38 rfl (by kernel_rfl) ?_
 conv=>whnf
 repeat' (first
 | ((with_reducible refine onBool_split (fun h=>?_) (fun h=>?_))<;>conv=>whnf)
 | ((with_reducible refine endx_go ?_);first | (exact endx (congrArg i (by simp [h]));done))
  | fail
  )
theorem c20 (l : List Int) (hl : l.length < 1000000) : Fn 20 [.fs (l.map i)] (i (firstE l)):=by
 refine run_walkF eok Tryz.func20 rfl (by kernel_rfl) ?_
 conv=>whnf
 repeat' (first
 | ((with_reducible refine on_dec (fun h=>?_) (fun h=>?_))<;>(try simp only [List.length_map] at h)<;>conv=>whnf)
 | ((with_reducible refine on_ndec (fun h=>?_) (fun h=>?_))<;>(try simp only [List.length_map] at h)<;>conv=>whnf)
 | ((with_reducible refine loop_go ?_);first | (refine loop1 (fun (k : Nat)=>l.length - k) (fun (k : Nat)=>k ≤ l.length ∧ firstE l = firstE (l.drop k)) (fun (k : Nat)=>[(5,.d (.fs (l.map i))),(6,.d (i l.length)),(7,.d (i k))]) (fun (k : Nat)=>[]) (0) (by first | (simp;done) ) ?_ (fun k C hI hC=>?_);(exact ⟨[],rfl,rfl,⟨(by first | (show (_ : D) = _;with_reducible rfl) ),(by first | exact congrArg (D.int .i64) (by simp only [List.length_map]) ),(by first | exact congrArg (D.int .i64) (by omega) ),trivial⟩,trivial⟩);all_goals (conv=>whnf)))
 | ((with_reducible show C _ _);first | (refine hC (k + 1) _ _ ?_ (by omega) ?_;clear hC;rotate_left;(exact ⟨[],rfl,rfl,⟨(by first | (show (_ : D) = _;with_reducible rfl) ),(by first | (show (_ : D) = _;with_reducible rfl) ),(by first | exact congrArg (D.int .i64) (by omega) ),trivial⟩,trivial⟩);(exact ⟨by omega,by rw [hI.2,firstE_drop _ _ (by omega),if_pos h]⟩)))
 | (refine ix_map (by omega) ?_;conv=>whnf)
 | (refine wrap64 (by omega) ?_;conv=>whnf)
 | ((with_reducible refine endx_go ?_);first | (exact endx (congrArg i (by rw [hI.2,firstE_drop _ _ (by omega),if_neg h]));done) | (exact endx (congrArg i (by rw [hI.2,List.drop_eq_nil_of_le (by omega),firstE_nil]));done))
  | fail
  )
theorem c21 (n : Int) : Fn 21 [i n] (i (whoE n)):=by
 refine run_walkF eok Tryz.func21 rfl (by kernel_rfl) ?_
 conv=>whnf
 repeat' (first
 | ((with_reducible refine on_dec (fun h=>?_) (fun h=>?_))<;>(try simp only [List.length_map] at h)<;>conv=>whnf)
 | ((with_reducible refine call_go ?_);(first | refine call_step (run_view (c39 _ _ _) rfl rfl) ?_ | refine call_step (run_view (c38 _ _) rfl rfl) ?_);conv=>whnf)
 | ((with_reducible refine endx_go ?_);first | (refine endx (congrArg i ?_);unfold whoE;simp_all;done;done))
  | fail
  )
theorem c22 (n : Int) : Fn 22 [i n] (i (numE n)):=by
 refine run_walkF eok Tryz.func22 rfl (by kernel_rfl) ?_
 conv=>whnf
 repeat' (first
 | ((with_reducible refine call_go ?_);(first | refine call_step (run_view (c39 _ _ _) rfl rfl) ?_ | refine call_step (run_view (c38 _ _) rfl rfl) ?_);conv=>whnf)
 | ((with_reducible refine endx_go ?_);first | (exact endx rfl;done))
  | fail
  )
theorem c85 (n : Int) : Fn 85 [i n] (i (limE n)):=by
 refine run_walkF eok Tryz.func85 rfl (by kernel_rfl) ?_
 conv=>whnf
 repeat' (first
 | ((with_reducible refine call_go ?_);(first | refine call_step (run_view (c39 _ _ _) rfl rfl) ?_ | refine call_step (run_view (c38 _ _) rfl rfl) ?_);conv=>whnf)
 | ((with_reducible refine endx_go ?_);first | (exact endx rfl;done))
  | fail
  )
theorem c6 (n : Int) : Fn 6 [i n] (.bool (within n 10 999)):=by
 refine run_walkF eok Tryz.func6 rfl (by kernel_rfl) ?_
 conv=>whnf
 repeat' (first
 | ((with_reducible refine call_go ?_);(first | refine call_step (run_view (c17 _ _ _) rfl rfl) ?_);conv=>whnf)
 | ((with_reducible refine endx_go ?_);first | (exact endx rfl;done))
  | fail
  )
theorem c62 (n : Int) : Fn 62 [i n] (.bool (within n 1 5 || within n 10 999)):=by
 refine run_walkF eok Tryz.func62 rfl (by kernel_rfl) ?_
 conv=>whnf
 repeat' (first
 | ((with_reducible refine onBool_split (fun h=>?_) (fun h=>?_))<;>conv=>whnf)
 | ((with_reducible refine call_go ?_);(first | refine call_step (run_view (c17 _ _ _) rfl rfl) ?_ | refine call_step (run_view (c6 _) rfl rfl) ?_);conv=>whnf)
 | ((with_reducible refine endx_go ?_);first | (refine endx (congrArg D.bool ?_);simp_all;done;done))
  | fail
  )
theorem who_iff {n : Int} : whoE n = 0 ↔ (n = 4 ∨ n = 5 ∨ (10 ≤ n ∧ n ≤ 999)):=by
 unfold whoE within
 by_cases h1 : n = 4<;>by_cases h2 : n = 5<;>by_cases h3 : 10 ≤ n<;>by_cases h4 : n ≤ 999<;>simp [h1,h2,h3,h4]
theorem c149 (b : Bool) : Fn 149 [.bool b] (i (if b then 1 else 0)):=by
 refine run_walkF eok Tryz.func149 rfl (by kernel_rfl) ?_
 conv=>whnf
 repeat' (first
 | ((with_reducible refine onBool_split (fun h=>?_) (fun h=>?_))<;>conv=>whnf)
 | ((with_reducible refine endx_go ?_);first | (refine endx (congrArg i ?_);simp_all;done;done))
  | fail
  )
end Go.Proofs.YtkmhnaojgkcjoaaGreatDoor.K19
namespace Go.Proofs.YtkmhnaojgkcjoaaGreatDoor.K19
open Go Dw
set_option maxRecDepth 10000
attribute [local irreducible] Run
set_option maxHeartbeats 4000000
attribute [local irreducible] whoE numE limE refE
def noOwn : Own:=⟨0,0,0,0,0⟩
def atO (l : List Own) (k : Nat) : Own:=(l[k]?).getD noOwn
theorem atO_at {l : List Own} {k : Nat} (h : k < l.length) : atO l k = l[k]:=by unfold atO;rw [List.getElem?_eq_getElem h];rfl
def oE (l : List Own) (k : Nat) (o : Own) : Int:=
 firstE [whoE o.who,if (decide (k = 0) || decide ((atO l (k - 1)).who < o.who)) = true then 0 else 9,numE o.used,limE o.warn,limE o.lim,refE o.ref]
def cE (all : List Own) : List Own → Nat → Int × Int
 | [],_=>(0,0)
 | o :: r,k=>if oE all k o = 0 then cE all r (k + 1) else ((k : Int),oE all k o)
theorem cE_drop {all l : List Own} {k : Nat} (h : k < l.length) : cE all (l.drop k) k = if oE all k l[k] = 0 then cE all (l.drop (k + 1)) (k + 1) else ((k : Int),oE all k l[k]):=by
 rw [List.drop_eq_getElem_cons h];rfl
theorem cE_end {all l : List Own} {k : Nat} (h : l.length ≤ k) : cE all (l.drop k) k = (0,0):=by
 rw [List.drop_eq_nil_of_le h];rfl
def checkQ (x : Quo) : Int × Int:=if 30 < x.os.length then (0,8) else cE x.os x.os 0
theorem oE_z {l : List Own} {k : Nat} {o : Own} (hk : k = 0) : firstE [whoE o.who,0,numE o.used,limE o.warn,limE o.lim,if within o.ref 0 65535 = true then 0 else 2] = oE l k o:=by
 unfold oE refE;rw [hk];rfl
theorem oE_p {l : List Own} {k : Nat} {o : Own} (hk : ¬ k = 0) {p : Own} (hp : atO l (k - 1) = p) : firstE [whoE o.who,if decide (p.who < o.who) = true then 0 else 9,numE o.used,limE o.warn,limE o.lim,if within o.ref 0 65535 = true then 0 else 2] = oE l k o:=by
 unfold oE refE;rw [hp,decide_eq_false hk,Bool.false_or]
theorem ck_8 {x : Quo} (h : (30 : Int) < x.os.length) : D.tup [i 0,i 8] = .tup [i (checkQ x).1,i (checkQ x).2]:=by
 unfold checkQ
 rw [if_pos (by omega)]
theorem ix_O {x : Quo} {n : Int} (k : Nat) (hn : n = k) {K : D → Prop} (h : k < x.os.length) (hk : K (atO x.os k).enc) : 0 ≤ n ∧ nthK (x.os.map Own.enc) n.toNat K:=by
 rw [atO_at h] at hk
 exact ix_at k hn h hk
attribute [local irreducible] oE
theorem c84z (x : Quo) (hx : x.os.length < 1000) (k : Nat) (hk : k < x.os.length) (o : Own) (hz : k = 0) : Fn 84 [i k,o.enc,.fp x.enc 0] (i (oE x.os k o)):=by
 refine run_walkF eok Tryz.func84 rfl (by kernel_rfl) ?_
 conv=>whnf
 repeat' (first
 | ((with_reducible refine on_dec_t (show (k : Int) = 0 by omega) ?_);conv=>whnf)
 | ((with_reducible refine call_go ?_);(first | refine call_step (run_view (c21 _) rfl rfl) ?_ | refine call_step (run_view (c38 _ _) rfl rfl) ?_ | refine call_step (run_view (c22 _) rfl rfl) ?_ | refine call_step (run_view (c85 _) rfl rfl) ?_ | refine call_step (run_view (c39 _ _ _) rfl rfl) ?_ | refine call_step (run_view (c20 [_,_,_,_,_,_] (by simp)) rfl rfl) ?_);conv=>whnf)
 | (refine ⟨[],[(20,2),(23,2),(26,2),(29,2),(20,18),(23,18),(26,18),(29,18),(23,21),(26,21),(29,21),(26,24),(29,24),(29,27)],(by decide +kernel),?_⟩;conv=>whnf)
 | ((with_reducible refine endx_go ?_);first | (exact endx (congrArg i (oE_z hz));done))
 | (refine ⟨rfl,?_⟩;conv=>whnf)
  | fail
  )
theorem c84p (x : Quo) (hx : x.os.length < 1000) (k : Nat) (hk : k < x.os.length) (o : Own) (hz : ¬ k = 0) : Fn 84 [i k,o.enc,.fp x.enc 0] (i (oE x.os k o)):=by
 refine run_walkF eok Tryz.func84 rfl (by kernel_rfl) ?_
 conv=>whnf
 repeat' (first
 | ((with_reducible refine on_dec_f (show ¬ (k : Int) = 0 by omega) ?_);conv=>whnf)
 | ((with_reducible refine call_go ?_);(first | refine call_step (run_view (c21 _) rfl rfl) ?_ | refine call_step (run_view (c38 _ _) rfl rfl) ?_ | refine call_step (run_view (c22 _) rfl rfl) ?_ | refine call_step (run_view (c85 _) rfl rfl) ?_ | refine call_step (run_view (c39 _ _ _) rfl rfl) ?_ | refine call_step (run_view (c20 [_,_,_,_,_,_] (by simp)) rfl rfl) ?_);conv=>whnf)
 | (refine ⟨[],[(20,2),(23,2),(26,2),(29,2),(20,18),(23,18),(26,18),(29,18),(23,21),(26,21),(29,21),(26,24),(29,24),(29,27)],(by decide +kernel),?_⟩;conv=>whnf)
 | (refine wrap64 (by omega) ?_;conv=>whnf)
 | (refine ix_O (k - 1) (by unfold goMax;split<;>omega) (by omega) ?_;conv=>whnf)
 | ((with_reducible refine endx_go ?_);first | (exact endx (congrArg i (oE_p hz rfl));done))
 | (refine ⟨rfl,?_⟩;conv=>whnf)
  | fail
  )
theorem c84 (x : Quo) (hx : x.os.length < 1000) (k : Nat) (hk : k < x.os.length) (o : Own) : Fn 84 [i k,o.enc,.fp x.enc 0] (i (oE x.os k o)):=by
 by_cases hz : k = 0
 ·exact c84z x hx k hk o hz
 ·exact c84p x hx k hk o hz
theorem c83 (x : Quo) (hx : x.os.length < 1000) : Fn 83 [.fs (x.os.map Own.enc),.fn 84 [] [.fp x.enc 0]] (.tup [i (cE x.os x.os 0).1,i (cE x.os x.os 0).2]):=by
 refine run_walkF eok Tryz.func83 rfl (by kernel_rfl) ?_
 conv=>whnf
 repeat' (first
 | ((with_reducible refine on_dec (fun h=>?_) (fun h=>?_))<;>(try simp only [List.length_map] at h)<;>conv=>whnf)
 | ((with_reducible refine on_ndec (fun h=>?_) (fun h=>?_))<;>(try simp only [List.length_map] at h)<;>conv=>whnf)
 | ((with_reducible refine call_go ?_);(first | refine call_step (run_view (c84 x hx k (by omega) _) rfl rfl) ?_);conv=>whnf)
 | ((with_reducible refine loop_go ?_);first | (refine loop1 (fun (k : Nat)=>x.os.length - k) (fun (k : Nat)=>k ≤ x.os.length ∧ cE x.os x.os 0 = cE x.os (x.os.drop k) k) (fun (k : Nat)=>[(1,.d (.fn 84 [] [.fp x.enc 0])),(9,.d (.fs (x.os.map Own.enc))),(10,.d (i x.os.length)),(11,.d (i k))]) (fun (k : Nat)=>[]) (0) (by first | (simp;done) ) ?_ (fun k C hI hC=>?_);(exact ⟨[],rfl,rfl,⟨(by first | (show (_ : D) = _;with_reducible rfl) ),(by first | (show (_ : D) = _;with_reducible rfl) ),(by first | exact congrArg (D.int .i64) (by simp only [List.length_map]) ),(by first | exact congrArg (D.int .i64) (by omega) ),trivial⟩,trivial⟩);all_goals (conv=>whnf)))
 | ((with_reducible show C _ _);first | (refine hC (k + 1) _ _ ?_ (by omega) ?_;clear hC;rotate_left;(exact ⟨[],rfl,rfl,⟨(by first | (show (_ : D) = _;with_reducible rfl) ),(by first | (show (_ : D) = _;with_reducible rfl) ),(by first | (show (_ : D) = _;with_reducible rfl) ),(by first | exact congrArg (D.int .i64) (by omega) ),trivial⟩,trivial⟩);(exact ⟨by omega,by rw [hI.2,cE_drop (by omega),if_pos h]⟩)))
 | (refine ix_map (by omega) ?_;conv=>whnf)
 | (refine wrap64 (by omega) ?_;conv=>whnf)
 | ((with_reducible refine endx_go ?_);first | (refine endx2 ?_;(rw [hI.2,cE_drop (by omega),if_neg h])<;>rfl;done) | (refine endx2 ?_;(rw [hI.2,cE_end (by omega)])<;>rfl;done))
  | fail
  )
theorem c50 (x : Quo) (hx : x.os.length < 1000) : Fn 50 [x.enc] (.tup [i (checkQ x).1,i (checkQ x).2]):=by
 refine run_walkF eok Tryz.func50 rfl (by kernel_rfl) ?_
 conv=>whnf
 repeat' (first
 | ((with_reducible refine on_dec (fun h=>?_) (fun h=>?_))<;>(try simp only [List.length_map] at h)<;>conv=>whnf)
 | ((with_reducible refine call_go ?_);(first | refine call_step (run_view (c83 x hx) rfl rfl) ?_);conv=>whnf)
 | ((with_reducible refine endx_go ?_);first | (exact endx2 (ck_8 (by simpa using h));done) | (refine endx2 ?_;unfold checkQ;(rw [if_neg (by omega)])<;>rfl;done))
  | fail
  )
end Go.Proofs.YtkmhnaojgkcjoaaGreatDoor.K19
namespace Go.Proofs.YtkmhnaojgkcjoaaGreatDoor.K19
open Go Dw
def cmp (a b : Int) : Int:=if a < b then -1 else if b < a then 1 else 0
theorem cmp_lt {a b : Int} : cmp a b < 0 ↔ a < b:=by
 unfold cmp
 by_cases h : a < b
 ·simp [h]
 ·by_cases h2 : b < a<;>simp [h,h2]
theorem cmp_eq {a b : Int} : cmp a b = 0 ↔ a = b:=by
 unfold cmp
 by_cases h : a < b
 ·simp [h];omega
 ·by_cases h2 : b < a
  ·simp [h,h2];omega
  ·simp [h,h2];omega
def bsAt {α : Type} (c : α → Int) (l : List α) (k : Nat) : Int:=match l[k]? with
 | some x=>c x
 | none=>0
theorem bsAt_eq {α : Type} {c : α → Int} {l : List α} {k : Nat} (h : k < l.length) : bsAt c l k = c l[k]:=by
 simp only [bsAt,List.getElem?_eq_getElem h]
def bsGo {α : Type} (c : α → Int) (l : List α) : Nat → Nat → Nat → Nat
 | 0,a,_=>a
 | n + 1,a,b=>if a < b then (if bsAt c l ((a + b) / 2) < 0 then bsGo c l n ((a + b) / 2 + 1) b else bsGo c l n a ((a + b) / 2)) else a
def bsR {α : Type} (c : α → Int) (l : List α) : Nat × Bool:=
 (bsGo c l l.length 0 l.length,match l[bsGo c l l.length 0 l.length]? with | some x=>decide (c x = 0) | none=>false)
theorem bs_lt {α : Type} {c : α → Int} {l : List α} {n a b : Nat} (hn : b - a ≤ n) (h : a < b) (hl : (a + b) / 2 < l.length) (hc : c l[(a + b) / 2] < 0) : 0 < n ∧ bsGo c l n a b = bsGo c l (n - 1) ((a + b) / 2 + 1) b:=by
 cases n with
 | zero=>omega
 | succ n=>exact ⟨by omega,by simp only [bsGo,if_pos h,bsAt_eq hl,if_pos hc,Nat.add_sub_cancel]⟩
theorem bs_ge {α : Type} {c : α → Int} {l : List α} {n a b : Nat} (hn : b - a ≤ n) (h : a < b) (hl : (a + b) / 2 < l.length) (hc : ¬ c l[(a + b) / 2] < 0) : 0 < n ∧ bsGo c l n a b = bsGo c l (n - 1) a ((a + b) / 2):=by
 cases n with
 | zero=>omega
 | succ n=>exact ⟨by omega,by simp only [bsGo,if_pos h,bsAt_eq hl,if_neg hc,Nat.add_sub_cancel]⟩
theorem bsR_at {α : Type} {c : α → Int} {l : List α} {k : Nat} (h : bsGo c l l.length 0 l.length = k) (hk : k < l.length) : bsR c l = (k,decide (c l[k] = 0)):=by
 simp only [bsR,h,List.getElem?_eq_getElem hk]
theorem bsR_none {α : Type} {c : α → Int} {l : List α} {k : Nat} (h : bsGo c l l.length 0 l.length = k) (hk : ¬ k < l.length) : bsR c l = (k,false):=by
 simp only [bsR,h,List.getElem?_eq_none (Nat.le_of_not_lt hk)]
theorem bs_end {α : Type} {c : α → Int} {l : List α} {n a b : Nat} (h : ¬ a < b) : bsGo c l n a b = a:=by
 cases n<;>simp [bsGo,h]
theorem bsGo_law {α : Type} {c : α → Int} {l : List α} {k : Nat} (hlt : ∀ i (h : i < l.length),i < k → c l[i] < 0) (hge : ∀ i (h : i < l.length),k ≤ i → ¬ c l[i] < 0) : ∀ (n a b : Nat),a ≤ k → k ≤ b → b ≤ l.length → b - a ≤ n → bsGo c l n a b = k
 | 0,a,b,h1,h2,h3,h4=>by simp only [bsGo];omega
 | n + 1,a,b,h1,h2,h3,h4=>by
  simp only [bsGo]
  by_cases hab : a < b
  ·rw [if_pos hab,bsAt_eq (by omega)]
   by_cases hm : (a + b) / 2 < k
   ·rw [if_pos (hlt _ (by omega) hm)]
    exact bsGo_law hlt hge n _ _ (by omega) h2 h3 (by omega)
   ·rw [if_neg (hge _ (by omega) (by omega))]
    exact bsGo_law hlt hge n _ _ h1 (by omega) (by omega) (by omega)
  ·rw [if_neg hab];omega
theorem bsR_law {α : Type} {c : α → Int} {l : List α} {k : Nat} (hk : k ≤ l.length) (hlt : ∀ i (h : i < l.length),i < k → c l[i] < 0) (hge : ∀ i (h : i < l.length),k ≤ i → ¬ c l[i] < 0) : bsR c l = (k,if h : k < l.length then decide (c l[k] = 0) else false):=by
 have h:=bsGo_law hlt hge l.length 0 l.length (by omega) hk (Nat.le_refl _) (by omega)
 by_cases hl : k < l.length
 ·rw [bsR_at h hl,dif_pos hl]
 ·rw [bsR_none h hl,dif_neg hl]
abbrev SRT (l : List Own) : Prop:=l.Pairwise (fun a b=>a.who < b.who)
def newO (w : Int) : Own:=⟨w,0,-1,-1,0⟩
def isR : List Own → Int → Bool
 | [],_=>false
 | o :: l,w=>decide (o.who = w) || isR l w
def ownR : List Own → Int → Own
 | [],w=>newO w
 | o :: l,w=>if o.who = w then o else ownR l w
def cnt : List Own → Int → Nat
 | [],_=>0
 | o :: l,w=>if o.who < w then cnt l w + 1 else 0
def withR : List Own → Own → List Own
 | [],o=>[o]
 | y :: l,o=>if y.who < o.who then y :: withR l o else if y.who = o.who then o :: l else o :: y :: l
theorem cnt_le : ∀ (l : List Own) (w : Int),cnt l w ≤ l.length
 | [],w=>Nat.le_refl _
 | o :: l,w=>by
  have:=cnt_le l w
  simp only [cnt,List.length_cons];split<;>omega
theorem cnt_lt : ∀ (l : List Own) (w : Int) (k : Nat) (h : k < l.length),k < cnt l w → l[k].who < w
 | o :: l,w,k,h,hk=>by
  simp only [cnt] at hk
  split at hk
  ·cases k with
   | zero=>assumption
   | succ k=>exact cnt_lt l w k (by simpa using h) (by omega)
  ·omega
theorem cnt_ge : ∀ (l : List Own) (w : Int),SRT l → ∀ (k : Nat) (h : k < l.length),cnt l w ≤ k → w ≤ l[k].who
 | o :: l,w,hs,k,h,hk=>by
  simp only [cnt] at hk
  rw [SRT,List.pairwise_cons] at hs
  split at hk
  ·cases k with
   | zero=>omega
   | succ k=>exact cnt_ge l w hs.2 k (by simpa using h) (by omega)
  ·cases k with
   | zero=>simp;omega
   | succ k=>
    have hk' : k < l.length:=by simpa using h
    have:=hs.1 (l[k]'hk') (List.getElem_mem _)
    simp only [List.getElem_cons_succ];omega
theorem isR_iff : ∀ (l : List Own) (w : Int),isR l w = true ↔ ∃ o ∈ l,o.who = w
 | [],w=>by simp [isR]
 | o :: l,w=>by simp [isR,isR_iff l w]
theorem isR_cnt : ∀ (l : List Own) (w : Int),SRT l → isR l w = if h : cnt l w < l.length then decide (l[cnt l w].who = w) else false
 | [],w,_=>rfl
 | o :: l,w,hs=>by
  have hs':=hs
  rw [SRT,List.pairwise_cons] at hs
  have ih:=isR_cnt l w hs.2
  simp only [isR,cnt]
  by_cases h : o.who < w
  ·simp only [h,if_true,List.length_cons,Nat.add_lt_add_iff_right,List.getElem_cons_succ]
   rw [decide_eq_false (by omega),Bool.false_or,ih]
  ·simp only [h,if_false,List.length_cons,List.getElem_cons_zero]
   rw [dif_pos (by omega)]
   by_cases h2 : o.who = w
   ·simp [h2]
   ·rw [decide_eq_false h2,Bool.false_or]
    cases hr : isR l w with
    | false=>rfl
    | true=>
     obtain ⟨y,hy,e⟩:=(isR_iff l w).1 hr
     have:=hs.1 y hy
     omega
theorem ownR_cnt : ∀ (l : List Own) (w : Int) (h : cnt l w < l.length),l[cnt l w].who = w → ownR l w = l[cnt l w]
 | o :: l,w,h,e=>by
  simp only [ownR]
  by_cases h1 : o.who < w
  ·have hc : cnt (o :: l) w = cnt l w + 1:=by simp only [cnt,if_pos h1]
   simp only [hc,List.length_cons,Nat.add_lt_add_iff_right,List.getElem_cons_succ] at h e ⊢
   rw [if_neg (by omega)]
   exact ownR_cnt l w h e
  ·have hc : cnt (o :: l) w = 0:=by simp only [cnt,if_neg h1]
   simp only [hc,List.getElem_cons_zero] at e ⊢
   rw [if_pos e]
theorem ownR_none : ∀ (l : List Own) (w : Int),isR l w = false → ownR l w = newO w
 | [],w,_=>rfl
 | o :: l,w,h=>by
  simp only [isR,Bool.or_eq_false_iff,decide_eq_false_iff_not] at h
  rw [ownR,if_neg h.1,ownR_none l w h.2]
theorem withR_set : ∀ (l : List Own) (o : Own) (h : cnt l o.who < l.length),l[cnt l o.who].who = o.who → withR l o = l.set (cnt l o.who) o
 | y :: l,o,h,e=>by
  simp only [withR]
  by_cases h1 : y.who < o.who
  ·have hc : cnt (y :: l) o.who = cnt l o.who + 1:=by simp only [cnt,if_pos h1]
   simp only [hc,List.length_cons,Nat.add_lt_add_iff_right,List.getElem_cons_succ] at h e ⊢
   rw [if_pos h1,withR_set l o h e,List.set_cons_succ]
  ·have hc : cnt (y :: l) o.who = 0:=by simp only [cnt,if_neg h1]
   simp only [hc,List.getElem_cons_zero] at e ⊢
   rw [if_neg h1,if_pos e,List.set_cons_zero]
theorem withR_ins : ∀ (l : List Own) (o : Own),SRT l → isR l o.who = false → withR l o = l.take (cnt l o.who) ++ o :: l.drop (cnt l o.who)
 | [],o,_,_=>rfl
 | y :: l,o,hs,h=>by
  rw [SRT,List.pairwise_cons] at hs
  simp only [isR,Bool.or_eq_false_iff,decide_eq_false_iff_not] at h
  simp only [withR,cnt]
  by_cases h1 : y.who < o.who
  ·rw [if_pos h1,if_pos h1,withR_ins l o hs.2 h.2];rfl
  ·rw [if_neg h1,if_neg h1,if_neg h.1];rfl
theorem pl_law (l : List Own) (w : Int) (hs : SRT l) : bsR (fun x=>cmp x.who w) l = (cnt l w,isR l w):=by
 rw [bsR_law (cnt_le l w) (fun k h hk=>cmp_lt.2 (cnt_lt l w k h hk)) (fun k h hk=>by rw [cmp_lt];have:=cnt_ge l w hs k h hk;omega),isR_cnt l w hs]
 simp only [cmp_eq]
theorem isR_lt {l : List Own} {w : Int} (hs : SRT l) (h : isR l w = true) : ∃ hl : cnt l w < l.length,l[cnt l w].who = w:=by
 rw [isR_cnt l w hs] at h
 split at h
 ·rename_i hl;exact ⟨hl,of_decide_eq_true h⟩
 ·cases h
theorem mem_withR : ∀ {l : List Own} {o y : Own},y ∈ withR l o → y = o ∨ y ∈ l
 | [],o,y,h=>by simpa [withR] using h
 | z :: l,o,y,h=>by
  simp only [withR] at h
  split at h
  ·rcases List.mem_cons.1 h with h | h
   ·exact .inr (by simp [h])
   ·rcases mem_withR h with h | h
    ·exact .inl h
    ·exact .inr (by simp [h])
  ·split at h
   ·rcases List.mem_cons.1 h with h | h
    ·exact .inl h
    ·exact .inr (by simp [h])
   ·rcases List.mem_cons.1 h with h | h
    ·exact .inl h
    ·exact .inr h
theorem withR_srt : ∀ {l : List Own} {o : Own},SRT l → SRT (withR l o)
 | [],o,_=>by simp [withR,SRT]
 | z :: l,o,hs=>by
  have hs':=hs
  rw [SRT,List.pairwise_cons] at hs
  simp only [withR]
  split
  ·rename_i h
   rw [SRT,List.pairwise_cons]
   refine ⟨fun y hy=>?_,withR_srt hs.2⟩
   rcases mem_withR hy with rfl | hy
   ·exact h
   ·exact hs.1 y hy
  ·split
   ·rename_i h h2
    rw [SRT,List.pairwise_cons]
    exact ⟨fun y hy=>by have:=hs.1 y hy;omega,hs.2⟩
   ·rename_i h h2
    rw [SRT,List.pairwise_cons]
    refine ⟨fun y hy=>?_,hs'⟩
    rcases List.mem_cons.1 hy with rfl | hy
    ·omega
    ·have:=hs.1 y hy;omega
theorem isR_cons (o : Own) (l : List Own) (w : Int) : isR (o :: l) w = (decide (o.who = w) || isR l w):=rfl
theorem withR_len : ∀ (l : List Own) (o : Own),SRT l → (withR l o).length = if isR l o.who = true then l.length else l.length + 1
 | [],o,_=>rfl
 | y :: l,o,hs=>by
  have hs':=hs
  rw [SRT,List.pairwise_cons] at hs
  have ih:=withR_len l o hs.2
  have he:=isR_cons y l o.who
  generalize isR (y :: l) o.who = b at he ⊢
  simp only [withR]
  by_cases h1 : y.who < o.who
  ·rw [decide_eq_false (by omega),Bool.false_or] at he
   subst he
   rw [if_pos h1,List.length_cons,ih]
   split<;>simp
  ·rw [if_neg h1]
   by_cases h2 : y.who = o.who
   ·rw [decide_eq_true h2,Bool.true_or] at he
    subst he
    rw [if_pos h2];simp
   ·have : isR l o.who = false:=by
     cases hr : isR l o.who with
     | false=>rfl
     | true=>
      obtain ⟨z,hz,e⟩:=(isR_iff _ _).1 hr
      have:=hs.1 z hz
      omega
    rw [decide_eq_false h2,this] at he
    subst he
    rw [if_neg h2];simp
theorem ownR_who : ∀ (l : List Own) (w : Int),(ownR l w).who = w
 | [],w=>rfl
 | o :: l,w=>by
  simp only [ownR];split
  ·assumption
  ·exact ownR_who l w
theorem ownR_mem : ∀ (l : List Own) (w : Int),isR l w = true → ownR l w ∈ l
 | [],w,h=>by cases h
 | o :: l,w,h=>by
  simp only [isR,Bool.or_eq_true,decide_eq_true_eq] at h
  simp only [ownR]
  split
  ·simp
  ·rename_i hne
   rcases h with h | h
   ·exact absurd h hne
   ·simp [ownR_mem l w h]
end Go.Proofs.YtkmhnaojgkcjoaaGreatDoor.K19
namespace Go.Proofs.YtkmhnaojgkcjoaaGreatDoor.K19
open Go Dw
set_option maxRecDepth 10000
attribute [local irreducible] Run
set_option maxHeartbeats 4000000
attribute [local irreducible] oE checkQ
theorem c131 (n : Int) : Fn 131 [i n] (.bool false):=by
 refine run_walkF eok Tryz.func131 rfl (by kernel_rfl) ?_
 conv=>whnf
 repeat' (first
 | ((with_reducible refine endx_go ?_);first | (exact endx (congrArg D.bool (by simp));done))
  | fail
  )
theorem c88 (a b : Int) : Fn 88 [i a,i b] (i (cmp a b)):=by
 refine run_walkF eok Tryz.func88 rfl (by kernel_rfl) ?_
 conv=>whnf
 repeat' (first
 | ((with_reducible refine on_dec (fun h=>?_) (fun h=>?_))<;>(try simp only [List.length_map] at h)<;>conv=>whnf)
 | ((with_reducible refine call_go ?_);(first | refine call_step (run_view (c131 _) rfl rfl) ?_);conv=>whnf)
 | ((with_reducible refine endx_go ?_);first | (refine endx (congrArg i ?_);unfold cmp;simp_all;done;done) | (refine endx (congrArg i ?_);unfold cmp;simp_all;omega;done))
  | fail
  )
theorem c87 (o : Own) (w : Int) : Fn 87 [o.enc,i w] (i (cmp o.who w)):=by
 refine run_walkF eok Tryz.func87 rfl (by kernel_rfl) ?_
 conv=>whnf
 repeat' (first
 | ((with_reducible refine call_go ?_);(first | refine call_step (run_view (c88 _ _) rfl rfl) ?_);conv=>whnf)
 | ((with_reducible refine endx_go ?_);first | (exact endx rfl;done))
  | fail
  )
theorem c86 (l : List Own) (p : Int) (hl : l.length < 1000000) : Fn 86 [.fs (l.map Own.enc),i p,.fn 87 [] []] (.tup [i (bsR (fun x : Own=>cmp x.who p) l).1,.bool (bsR (fun x : Own=>cmp x.who p) l).2]):=by
 refine run_walkF eok Tryz.func86 rfl (by kernel_rfl) ?_
 conv=>whnf
 repeat' (first
 | ((with_reducible refine on_dec (fun h=>?_) (fun h=>?_))<;>(try simp only [List.length_map] at h)<;>conv=>whnf)
 | ((with_reducible refine call_go ?_);(first | refine call_step (run_view (c87 _ _) rfl rfl) ?_);conv=>whnf)
 | ((with_reducible refine loop_go ?_);first | (refine loop3 (fun (n : Nat) (a : Nat) (b : Nat)=>b - a) (fun (n : Nat) (a : Nat) (b : Nat)=>a ≤ b ∧ b ≤ l.length ∧ b - a ≤ n ∧ bsGo (fun x : Own=>cmp x.who p) l l.length 0 l.length = bsGo (fun x : Own=>cmp x.who p) l n a b) (fun (n : Nat) (a : Nat) (b : Nat)=>[(0,.d (.fs (l.map Own.enc))),(1,.d (i p)),(2,.d (.fn 87 [] [])),(8,.d (i l.length)),(9,.d (i a)),(10,.d (i b))]) (fun (n : Nat) (a : Nat) (b : Nat)=>[]) (l.length) (0) (l.length) (by exact ⟨by omega,by omega,by omega,rfl⟩) ?_ (fun n a b C hI hC=>?_);(exact ⟨[],rfl,rfl,⟨(by first | (show (_ : D) = _;with_reducible rfl) ),(by first | (show (_ : D) = _;with_reducible rfl) ),(by first | (show (_ : D) = _;with_reducible rfl) ),(by first | exact congrArg (D.int .i64) (by simp only [List.length_map]) ),(by first | exact congrArg (D.int .i64) (by omega) ),(by first | exact congrArg (D.int .i64) (by simp only [List.length_map]) ),trivial⟩,trivial⟩);all_goals (conv=>whnf)))
 | ((with_reducible show C _ _);first | (refine hC (n - 1) ((a + b) / 2 + 1) (b) _ _ ?_ (by omega) ?_;clear hC;rotate_left;(exact ⟨[],rfl,rfl,⟨(by first | (show (_ : D) = _;with_reducible rfl) ),(by first | (show (_ : D) = _;with_reducible rfl) ),(by first | (show (_ : D) = _;with_reducible rfl) ),(by first | (show (_ : D) = _;with_reducible rfl) ),(by first | exact congrArg (D.int .i64) (by omega) ),(by first | (show (_ : D) = _;with_reducible rfl) ),trivial⟩,trivial⟩);(exact (by have he:=bs_lt (c:=fun x : Own=>cmp x.who p) (l:=l) (n:=n) (a:=a) (b:=b) hI.2.2.1 (by omega) (by omega) h;exact ⟨by omega,by omega,by omega,by rw [hI.2.2.2,he.2]⟩))) | (refine hC (n - 1) (a) ((a + b) / 2) _ _ ?_ (by omega) ?_;clear hC;rotate_left;(exact ⟨[],rfl,rfl,⟨(by first | (show (_ : D) = _;with_reducible rfl) ),(by first | (show (_ : D) = _;with_reducible rfl) ),(by first | (show (_ : D) = _;with_reducible rfl) ),(by first | (show (_ : D) = _;with_reducible rfl) ),(by first | (show (_ : D) = _;with_reducible rfl) ),(by first | exact congrArg (D.int .i64) (by omega) ),trivial⟩,trivial⟩);(exact (by have he:=bs_ge (c:=fun x : Own=>cmp x.who p) (l:=l) (n:=n) (a:=a) (b:=b) hI.2.2.1 (by omega) (by omega) h;exact ⟨by omega,by omega,by omega,by rw [hI.2.2.2,he.2]⟩))))
 | (refine ix_map (by omega) ?_;conv=>whnf)
 | (refine wrap64 (by omega) ?_;conv=>whnf)
 | (refine wrapU64 (by omega) ?_;conv=>whnf)
 | (refine shr_at 2 ?_ ?_ ?_ ?_;(rfl);(rfl);(rfl);conv=>whnf)
 | (refine ix_at ((a + b) / 2) (by omega) (by omega) ?_;conv=>whnf)
 | ((with_reducible refine endx_go ?_);first | (have he:=bs_end (c:=fun x : Own=>cmp x.who p) (l:=l) (n:=n) (a:=a) (b:=b) (by omega);first | (have hb:=bsR_at (c:=fun x : Own=>cmp x.who p) (l:=l) (k:=a) (by rw [hI.2.2.2,he]) (by omega);exact endx2 (by rw [hb])) | (have hb:=bsR_none (c:=fun x : Own=>cmp x.who p) (l:=l) (k:=a) (by rw [hI.2.2.2,he]) (by omega);exact endx2 (by rw [hb]));done))
  | fail
  )
theorem c86s (l : List Own) (w : Int) (hl : l.length < 1000000) (hs : SRT l) : Fn 86 [.fs (l.map Own.enc),i w,.fn 87 [] []] (.tup [i (cnt l w),.bool (isR l w)]):=by
 have:=c86 l w hl
 rw [pl_law l w hs] at this
 exact this
attribute [local irreducible] cnt isR ownR withR bsR
theorem ix_cnt {l : List Own} {w : Int} (hs : SRT l) (h : isR l w = true) {n : Int} (hn : n = cnt l w) {K : D → Prop} (hk : K (ownR l w).enc) : 0 ≤ n ∧ nthK (l.map Own.enc) n.toNat K:=by
 obtain ⟨h1,h2⟩:=isR_lt hs h
 rw [ownR_cnt l w h1 h2] at hk
 exact ix_at (cnt l w) hn h1 hk
theorem c54 (x : Quo) (hx : x.os.length < 1000000) (hs : SRT x.os) (w : Int) : Fn 54 [.fp x.enc 0,i w] (.tup [i (cnt x.os w),.bool (isR x.os w)]):=by
 refine run_walkF eok Tryz.func54 rfl (by kernel_rfl) ?_
 conv=>whnf
 repeat' (first
 | ((with_reducible refine call_go ?_);(first | refine call_step (run_view (c86s x.os w hx hs) rfl rfl) ?_);conv=>whnf)
 | ((with_reducible refine endx_go ?_);first | (exact endx2 rfl;done))
  | fail
  )
theorem c35t (x : Quo) (hx : x.os.length < 1000000) (hs : SRT x.os) (w : Int) (hw : isR x.os w = true) : Fn 35 [.fp x.enc 0,i w] (ownR x.os w).enc:=by
 refine run_walkF eok Tryz.func35 rfl (by kernel_rfl) ?_
 conv=>whnf
 repeat' (first
 | ((with_reducible refine onBool_t (by assumption) ?_);conv=>whnf)
 | ((with_reducible refine call_go ?_);(first | refine call_step (run_view (c54 x hx hs w) rfl rfl) ?_);conv=>whnf)
 | (refine ix_cnt hs hw rfl ?_;conv=>whnf)
 | ((with_reducible refine endx_go ?_);first | (exact endx rfl;done))
  | fail
  )
theorem c35f (x : Quo) (hx : x.os.length < 1000000) (hs : SRT x.os) (w : Int) (hw : isR x.os w = false) : Fn 35 [.fp x.enc 0,i w] (ownR x.os w).enc:=by
 refine run_walkF eok Tryz.func35 rfl (by kernel_rfl) ?_
 conv=>whnf
 repeat' (first
 | ((with_reducible refine onBool_f (by assumption) ?_);conv=>whnf)
 | ((with_reducible refine call_go ?_);(first | refine call_step (run_view (c54 x hx hs w) rfl rfl) ?_);conv=>whnf)
 | ((with_reducible refine endx_go ?_);first | (refine endxv (view_agg (vlc rfl (vlc rfl (vlc rfl (vlc rfl (vlc rfl vln)))))) ?_;rw [ownR_none x.os w hw];rfl;done))
  | fail
  )
theorem c129t (x : Quo) (hx : x.os.length < 1000000) (hs : SRT x.os) (w : Int) (hw : isR x.os w = true) : Fn 129 [.fp x.enc 0,i w] (.bool (!isR x.os w && decide (x.os.length = 30))):=by
 refine run_walkF eok Tryz.func129 rfl (by kernel_rfl) ?_
 conv=>whnf
 repeat' (first
 | ((with_reducible refine on_nt (by assumption) ?_);conv=>whnf)
 | ((with_reducible refine call_go ?_);(first | refine call_step (run_view (c54 x hx hs w) rfl rfl) ?_);conv=>whnf)
 | ((with_reducible refine endx_go ?_);first | (refine endx (congrArg D.bool ?_);rw [hw];rfl;done))
  | fail
  )
theorem c129f (x : Quo) (hx : x.os.length < 1000000) (hs : SRT x.os) (w : Int) (hw : isR x.os w = false) : Fn 129 [.fp x.enc 0,i w] (.bool (!isR x.os w && decide (x.os.length = 30))):=by
 refine run_walkF eok Tryz.func129 rfl (by kernel_rfl) ?_
 conv=>whnf
 repeat' (first
 | ((with_reducible refine on_nf (by assumption) ?_);conv=>whnf)
 | ((with_reducible refine call_go ?_);(first | refine call_step (run_view (c54 x hx hs w) rfl rfl) ?_);conv=>whnf)
 | ((with_reducible refine endx_go ?_);first | (refine endx (congrArg D.bool ?_);rw [hw];simp [List.length_map];first | omega;done))
  | fail
  )
theorem c35 (x : Quo) (hx : x.os.length < 1000000) (hs : SRT x.os) (w : Int) : Fn 35 [.fp x.enc 0,i w] (ownR x.os w).enc:=by
 cases h : isR x.os w with
 | true=>exact c35t x hx hs w h
 | false=>exact c35f x hx hs w h
theorem c129 (x : Quo) (hx : x.os.length < 1000000) (hs : SRT x.os) (w : Int) : Fn 129 [.fp x.enc 0,i w] (.bool (!isR x.os w && decide (x.os.length = 30))):=by
 cases h : isR x.os w with
 | true=>have:=c129t x hx hs w h;rw [h] at this;exact this
 | false=>have:=c129f x hx hs w h;rw [h] at this;exact this
end Go.Proofs.YtkmhnaojgkcjoaaGreatDoor.K19
namespace Go.Proofs.YtkmhnaojgkcjoaaGreatDoor.K19
open Go Dw
set_option maxRecDepth 10000
attribute [local irreducible] Run
set_option maxHeartbeats 4000000
attribute [local irreducible] oE checkQ cnt isR ownR withR bsR
theorem sm_take {a b : List Own} {k : Nat} (h : a.take k = b.take k) (ha : k < a.length) (hb : k < b.length) (e : a[k] = b[k]) : a.take (k + 1) = b.take (k + 1):=by
 rw [List.take_succ_eq_append_getElem ha,List.take_succ_eq_append_getElem hb,h,e]
theorem view_q {H : Heap} {a b n : Nat} {l : List Own} {e : Bool} (h1 : H[a]? = some (qO e n b)) (h2 : H[b]? = some (rO l)) (hn : n = l.length) : view 8 H (.ptr a 0 0) = some (.fp (Quo.enc ⟨l,e⟩) 0):=by
 subst hn
 refine view_ptr h1 (Nat.zero_lt_succ 1) rfl (view_agg (vlc ?_ (vlc rfl vln)))
 exact view_map (n:=4) (H:=H) (id:=b) (l:=l) (f:=Own.enc) (k:=5) (k':=5) (cap:=none) h2 (Nat.zero_lt_succ 1)
theorem insL_own (l : List Own) (k : Nat) (o : Own) : insL (l.map Own.enc) k o.enc = (l.take k ++ o :: l.drop k).map Own.enc:=by
 unfold insL;simp
theorem c130t (x : Quo) (o : Own) (hx : x.os.length < 1000000) (hs : SRT x.os) (hw : isR x.os o.who = true) : Run Tryz.prog 130 [.ptr 0 0 0,.d o.enc] [qO x.enf x.os.length 1,rO x.os] (.tup []) [qO x.enf (withR x.os o).length 2,deadO,rO (withR x.os o)]:=by
 obtain ⟨hc,hw2⟩:=isR_lt hs hw
 refine run_walkV eok Tryz.func130 rfl (by kernel_rfl) [0,1] (by rfl) [] ?_
 conv=>whnf
 repeat' (first
 | ((with_reducible refine onBool_t (by assumption) ?_);conv=>whnf)
 | ((with_reducible refine call_go ?_);(first | refine call_step (run_view (c54 x hx hs o.who) rfl (vlc (view_q rfl rfl rfl) (vlc rfl vln))) ?_ );conv=>whnf)
 | (refine ⟨[],[],(by decide +kernel),?_⟩;conv=>whnf)
 | (refine ⟨⟨by omega,by omega⟩,?_⟩;conv=>whnf)
 | (refine nthK_row0 hc ?_;conv=>whnf)
 | (refine setK_of ?_;conv=>whnf)
 | ((with_reducible refine endx_go ?_);first | (refine endX_of (.inl ⟨[.old 0,.dead,.old 1],rfl,rfl,⟨trivial,trivial⟩,⟨⟨rfl,rfl,.inr ⟨⟨⟨rfl,rfl,(by rw [withR_len _ _ hs,if_pos hw]),rfl,rfl⟩,rfl,trivial⟩,trivial⟩⟩,rfl,⟨rfl,rfl,.inl ⟨(withR x.os o).map Own.enc,(by rw [withR_set x.os o hc hw2,← set_row,show 0 + ((cnt x.os o.who : Nat) : Int).toNat = cnt x.os o.who by omega];rfl),rfl⟩⟩,trivial⟩⟩);done))
  | fail
  )
theorem c130f (x : Quo) (o : Own) (hx : x.os.length < 1000000) (hs : SRT x.os) (hw : isR x.os o.who = false) : Run Tryz.prog 130 [.ptr 0 0 0,.d o.enc] [qO x.enf x.os.length 1,rO x.os] (.tup []) [qO x.enf (withR x.os o).length 2,deadO,rO (withR x.os o)]:=by
 refine run_walkV eok Tryz.func130 rfl (by kernel_rfl) [0,1] (by rfl) [] ?_
 conv=>whnf
 repeat' (first
 | ((with_reducible refine onBool_f (by assumption) ?_);conv=>whnf)
 | ((with_reducible refine call_go ?_);(first | refine call_step (run_view (c54 x hx hs o.who) rfl (vlc (view_q rfl rfl rfl) (vlc rfl vln))) ?_ | refine call_step (run_ins (L:=x.os.map Own.enc) (k:=cnt x.os o.who) rfl rfl (by decide) (by simp) (by rw [List.length_map];exact cnt_le _ _) (own_ok x.os).1 (own_ok x.os).2 ⟨rfl,rfl⟩ rfl (by rw [List.length_map];exact hx)) ?_);conv=>whnf)
 | (refine ⟨[],[(5,8)],(by decide +kernel),?_⟩;conv=>whnf)
 | ((with_reducible refine endx_go ?_);first | (refine endX_of (.inl ⟨[.old 0,.dead,.old 4],rfl,rfl,⟨trivial,trivial⟩,⟨⟨rfl,rfl,.inr ⟨⟨⟨rfl,rfl,(by rw [withR_len _ _ hs,if_neg (by rw [hw];decide),List.length_map]),rfl,rfl⟩,rfl,trivial⟩,trivial⟩⟩,rfl,⟨rfl,rfl,.inl ⟨(withR x.os o).map Own.enc,(by rw [withR_ins x.os o hs hw,← insL_own]),rfl⟩⟩,trivial⟩⟩);done))
 | (refine ⟨rfl,?_⟩;conv=>whnf)
  | fail
  )
end Go.Proofs.YtkmhnaojgkcjoaaGreatDoor.K19
namespace Go.Proofs.YtkmhnaojgkcjoaaGreatDoor.K19
open Go Dw
structure VO (o : Own) : Prop where
 who : whoE o.who = 0
 used : 0 ≤ o.used ∧ o.used ≤ 2147483647
 warn : -1 ≤ o.warn ∧ o.warn ≤ 2147483646
 lim : -1 ≤ o.lim ∧ o.lim ≤ 2147483646
 ref : 0 ≤ o.ref ∧ o.ref ≤ 65535
structure VQ (x : Quo) : Prop where
 len : x.os.length ≤ 30
 srt : SRT x.os
 own : ∀ o ∈ x.os,VO o
theorem numE_iff {n : Int} : numE n = 0 ↔ 0 ≤ n ∧ n ≤ 2147483647:=by
 unfold numE within;by_cases h1 : 0 ≤ n<;>by_cases h2 : n ≤ 2147483647<;>simp [h1,h2]
theorem limE_iff {n : Int} : limE n = 0 ↔ -1 ≤ n ∧ n ≤ 2147483646:=by
 unfold limE within;by_cases h1 : -1 ≤ n<;>by_cases h2 : n ≤ 2147483646<;>simp [h1,h2]
theorem refE_iff {n : Int} : refE n = 0 ↔ 0 ≤ n ∧ n ≤ 65535:=by
 unfold refE within;by_cases h1 : 0 ≤ n<;>by_cases h2 : n ≤ 65535<;>simp [h1,h2]
theorem firstE_z : ∀ {l : List Int},firstE l = 0 ↔ ∀ e ∈ l,e = 0
 | []=>by simp [firstE]
 | e :: l=>by
  rw [firstE_cons]
  by_cases h : e = 0
  ·rw [if_pos h,firstE_z];simp [h]
  ·rw [if_neg h];simp [h]
theorem oE_z0 {l : List Own} {k : Nat} {o : Own} : oE l k o = 0 ↔ VO o ∧ (k = 0 ∨ (atO l (k - 1)).who < o.who):=by
 unfold oE
 rw [firstE_z]
 constructor
 ·intro h
  have h1:=h _ (List.mem_cons_self)
  have h2:=h (if (decide (k = 0) || decide ((atO l (k - 1)).who < o.who)) = true then 0 else 9) (by simp)
  have h3:=h (numE o.used) (by simp)
  have h4:=h (limE o.warn) (by simp)
  have h5:=h (limE o.lim) (by simp)
  have h6:=h (refE o.ref) (by simp)
  refine ⟨⟨h1,numE_iff.1 h3,limE_iff.1 h4,limE_iff.1 h5,refE_iff.1 h6⟩,?_⟩
  by_cases h7 : (decide (k = 0) || decide ((atO l (k - 1)).who < o.who)) = true
  ·simpa using h7
  ·rw [if_neg h7] at h2;cases h2
 ·rintro ⟨⟨h1,h2,h3,h4,h5⟩,h6⟩ e he
  have h7 : (decide (k = 0) || decide ((atO l (k - 1)).who < o.who)) = true:=by simpa using h6
  simp only [List.mem_cons,List.not_mem_nil,or_false] at he
  rcases he with rfl | rfl | rfl | rfl | rfl | rfl
  ·exact h1
  ·rw [if_pos h7]
  ·exact numE_iff.2 h2
  ·exact limE_iff.2 h3
  ·exact limE_iff.2 h4
  ·exact refE_iff.2 h5
theorem cE_z (all : List Own) : ∀ (n k : Nat),all.length - k = n → ((cE all (all.drop k) k).2 = 0 ↔ ∀ j (h : j < all.length),k ≤ j → oE all j all[j] = 0)
 | 0,k,hn=>by
  rw [cE_end (by omega)]
  exact ⟨fun _ j h hk=>by omega,fun _=>rfl⟩
 | n + 1,k,hn=>by
  have hk : k < all.length:=by omega
  rw [cE_drop hk]
  by_cases h : oE all k all[k] = 0
  ·rw [if_pos h,cE_z all n (k + 1) (by omega)]
   constructor
   ·intro h2 j hj hkj
    by_cases e : j = k
    ·subst e;exact h
    ·exact h2 j hj (by omega)
   ·intro h2 j hj hkj;exact h2 j hj (by omega)
  ·rw [if_neg h]
   exact ⟨fun h2=>absurd h2 h,fun h2=>absurd (h2 k hk (Nat.le_refl _)) h⟩
theorem checkQ_iff (x : Quo) : (checkQ x).2 = 0 ↔ VQ x:=by
 unfold checkQ
 by_cases h : 30 < x.os.length
 ·rw [if_pos h]
  exact ⟨fun e=>absurd e (by decide),fun e=>by have:=e.len;omega⟩
 ·rw [if_neg h]
  have hz:=cE_z x.os _ 0 rfl
  rw [List.drop_zero] at hz
  rw [hz]
  constructor
  ·intro h2
   have adj : ∀ j (hj : j + 1 < x.os.length),(x.os[j]'(by omega)).who < (x.os[j + 1]'hj).who:=by
    intro j hj
    have:=(oE_z0.1 (h2 (j + 1) hj (by omega))).2
    rcases this with e | e
    ·omega
    ·rw [Nat.add_sub_cancel,atO_at (by omega)] at e;exact e
   refine ⟨by omega,?_,fun o ho=>?_⟩
   ·rw [SRT,List.pairwise_iff_getElem]
    intro a b ha hb hab
    have key : ∀ d,∀ a,(ha : a + d + 1 < x.os.length) → (x.os[a]'(by omega)).who < (x.os[a + d + 1]'ha).who:=by
     intro d
     induction d with
     | zero=>intro a ha;exact adj a ha
     | succ d ih=>
      intro a ha
      have h1:=ih a (by omega)
      have h2:=adj (a + d + 1) (by omega)
      have : a + (d + 1) + 1 = a + d + 1 + 1:=by omega
      simp only [this];omega
    have h3:=key (b - a - 1) a (by omega)
    have : a + (b - a - 1) + 1 = b:=by omega
    simpa only [this] using h3
   ·obtain ⟨k,hk,rfl⟩:=List.getElem_of_mem ho
    exact (oE_z0.1 (h2 k hk (Nat.zero_le _))).1
  ·rintro ⟨_,h3,h4⟩ j hj _
   refine oE_z0.2 ⟨h4 _ (List.getElem_mem _),?_⟩
   by_cases e : j = 0
   ·exact .inl e
   ·right
    rw [atO_at (by omega)]
    rw [SRT,List.pairwise_iff_getElem] at h3
    exact h3 (j - 1) j (by omega) hj (by omega)
theorem VQ.new {w : Int} (h : whoE w = 0) : VO (newO w):=⟨h,by simp [newO],by simp [newO],by simp [newO],by simp [newO]⟩
theorem VQ.of {x : Quo} (h : VQ x) {w : Int} (hw : whoE w = 0) : VO (ownR x.os w):=by
 cases hr : isR x.os w with
 | true=>exact h.own _ (ownR_mem _ _ hr)
 | false=>rw [ownR_none _ _ hr];exact VQ.new hw
theorem VQ.nums {x : Quo} (h : VQ x) (w : Int) : (0 ≤ (ownR x.os w).used ∧ (ownR x.os w).used ≤ 2147483647) ∧ (-1 ≤ (ownR x.os w).lim ∧ (ownR x.os w).lim ≤ 2147483646) ∧ (0 ≤ (ownR x.os w).ref ∧ (ownR x.os w).ref ≤ 65535):=by
 cases hr : isR x.os w with
 | true=>have:=h.own _ (ownR_mem _ _ hr);exact ⟨this.used,this.lim,this.ref⟩
 | false=>rw [ownR_none _ _ hr];simp [newO]
def emp : Quo:=⟨[],false⟩
def put1 (x : Quo) (o : Own) : Quo:=⟨withR x.os o,x.enf⟩
def fullQ (x : Quo) (w : Int) : Bool:=!isR x.os w && decide (x.os.length = 30)
def chg (x : Quo) (w b : Int) : Quo × Int:=
 if b = 0 then (x,0) else if fullQ x w = true then (x,16)
 else if (x.enf && (!decide ((ownR x.os w).lim = -1) && decide ((ownR x.os w).lim < (ownR x.os w).used + b))) = true then (put1 x { ownR x.os w with ref:=goMin ((ownR x.os w).ref + 1) 65535 },33)
 else if 2147483647 < (ownR x.os w).used + b then (x,8) else (put1 x { ownR x.os w with used:=(ownR x.os w).used + b },0)
def rls (x : Quo) (w b : Int) : Quo × Int:=
 if (ownR x.os w).used < b then (x,2) else if 0 < b then (put1 x { ownR x.os w with used:=(ownR x.os w).used - b },0) else (x,0)
def mov (x : Quo) (f t b : Int) : Quo × Int:=
 if (ownR x.os f).used < b then (x,2) else if f = t then (x,0) else if (chg x t b).2 = 0 then rls (chg x t b).1 f b else chg x t b
def limErr (x : Quo) (l : Lim) : Int:=
 firstE [whoE l.who,limE l.warn,limE l.lim,if (!(!decide (l.warn = -1) && !decide (l.lim = -1)) || decide (l.warn ≤ l.lim)) = true then 0 else 9,if (!fullQ x l.who) = true then 0 else 16]
def limF (x : Quo) (l : Lim) : Quo × Int:=
 if limErr x l = 0 then (put1 x { ownR x.os l.who with warn:=l.warn,lim:=l.lim },0) else (x,limErr x l)
def actE (a : Act) : Int:=firstE [if a.kind = 2 then firstE [whoE a.who,whoE a.to] else whoE a.who,numE a.bytes]
def doA (x : Quo) (a : Act) : Quo × Int:=
 if a.kind = 3 then limF x a.lim
 else if actE a = 0 then (if a.kind = 0 then chg x a.who a.bytes else if a.kind = 1 then rls x a.who a.bytes else mov x a.who a.to a.bytes)
 else (x,actE a)
def resQ (r : Quo × Int) : Quo × Int:=if r.2 = 0 ∨ r.2 = 33 then r else (emp,r.2)
def aftQ (x : Quo) (a : Act) : Quo × Int:=if (checkQ x).2 = 0 then resQ (doA x a) else (emp,(checkQ x).2)
theorem VQ.put {x : Quo} (h : VQ x) {o : Own} (ho : VO o) (hf : fullQ x o.who = false) : VQ (put1 x o):=by
 refine ⟨?_,withR_srt h.srt,fun y hy=>?_⟩
 ·show (withR x.os o).length ≤ 30
  rw [withR_len _ _ h.srt]
  have:=h.len
  unfold fullQ at hf
  cases hr : isR x.os o.who with
  | true=>rw [if_pos rfl];exact this
  | false=>
   rw [hr] at hf
   rw [if_neg (by decide)]
   simp at hf;omega
 ·rcases mem_withR hy with rfl | hy
  ·exact ho
  ·exact h.own y hy
theorem fullQ_f {x : Quo} {w : Int} (h : ¬ fullQ x w = true) : fullQ x w = false:=by simpa using h
theorem chg_ok {x : Quo} (h : VQ x) {w b : Int} (hw : whoE w = 0) (hb : 0 ≤ b) : VQ (chg x w b).1:=by
 have hv:=h.of hw
 unfold chg
 split
 ·exact h
 ·split
  ·exact h
  ·rename_i hf
   have hf' : fullQ x (ownR x.os w).who = false:=by rw [ownR_who];exact fullQ_f hf
   split
   ·refine h.put ⟨hv.who,hv.used,hv.warn,hv.lim,?_⟩ hf'
    have:=hv.ref
    show 0 ≤ goMin _ _ ∧ goMin _ _ ≤ 65535
    unfold goMin;split<;>omega
   ·split
    ·exact h
    ·refine h.put ⟨hv.who,?_,hv.warn,hv.lim,hv.ref⟩ hf'
     have:=hv.used
     show 0 ≤ (ownR x.os w).used + b ∧ (ownR x.os w).used + b ≤ 2147483647
     omega
theorem rls_full {x : Quo} (_h : VQ x) {w b : Int} (h1 : ¬ (ownR x.os w).used < b) (hb : 0 < b) : fullQ x w = false:=by
 unfold fullQ
 cases hr : isR x.os w with
 | true=>rfl
 | false=>rw [ownR_none _ _ hr] at h1;exact absurd hb (by show ¬ 0 < b;have : (newO w).used = 0:=rfl;omega)
theorem rls_ok {x : Quo} (h : VQ x) {w b : Int} (hw : whoE w = 0) (_hb : 0 ≤ b) : VQ (rls x w b).1:=by
 have hv:=h.of hw
 unfold rls
 split
 ·exact h
 ·rename_i h1
  split
  ·rename_i h2
   refine h.put ⟨hv.who,?_,hv.warn,hv.lim,hv.ref⟩ (by rw [ownR_who];exact rls_full h h1 h2)
   have:=hv.used
   show 0 ≤ (ownR x.os w).used - b ∧ (ownR x.os w).used - b ≤ 2147483647
   omega
  ·exact h
theorem mov_ok {x : Quo} (h : VQ x) {f t b : Int} (hf : whoE f = 0) (ht : whoE t = 0) (hb : 0 ≤ b) : VQ (mov x f t b).1:=by
 unfold mov
 split
 ·exact h
 ·split
  ·exact h
  ·split
   ·exact rls_ok (chg_ok h ht hb) hf hb
   ·exact chg_ok h ht hb
theorem actE_0 {a : Act} (h : actE a = 0) : whoE a.who = 0 ∧ (a.kind = 2 → whoE a.to = 0) ∧ 0 ≤ a.bytes ∧ a.bytes ≤ 2147483647:=by
 unfold actE at h
 rw [firstE_z] at h
 have h1:=h (if a.kind = 2 then firstE [whoE a.who,whoE a.to] else whoE a.who) (by simp)
 have h2:=numE_iff.1 (h (numE a.bytes) (by simp))
 by_cases hk : a.kind = 2
 ·rw [if_pos hk,firstE_z] at h1
  exact ⟨h1 _ (by simp),fun _=>h1 _ (by simp),h2⟩
 ·rw [if_neg hk] at h1
  exact ⟨h1,fun e=>absurd e hk,h2⟩
def kindOk (a : Act) : Prop:=a.kind = 0 ∨ a.kind = 1 ∨ a.kind = 2 ∨ a.kind = 3
end Go.Proofs.YtkmhnaojgkcjoaaGreatDoor.K19
namespace Go.Proofs.YtkmhnaojgkcjoaaGreatDoor.K19
open Go Dw
set_option maxRecDepth 10000
attribute [local irreducible] Run
set_option maxHeartbeats 4000000
theorem cut_ (e : Prop) {G : Prop} (h : e) (k : e → G) : G:=k h
theorem qview {H : Heap} {a b n : Nat} {x : Quo} (h1 : H[a]? = some (qO x.enf n b)) (h2 : H[b]? = some (rO x.os)) (hn : n = x.os.length) {args : List AV} {xs : List D} (hv : vl (view 8 H) args = some xs) : vl (view 8 H) (.ptr a 0 0 :: args) = some (.fp x.enc 0 :: xs):=
 vlc (view_q h1 h2 hn) hv
def Mv (f : Nat) (xs : List D) (x x' : Quo) (r : AV) : Prop:=Run Tryz.prog f (.ptr 0 0 0 :: xs.map .d) [qO x.enf x.os.length 1,rO x.os] r [qO x'.enf x'.os.length 2,deadO,rO x'.os]
theorem Mv.at {f n : Nat} {xs : List D} {r : AV} {x x' : Quo} (hf : Mv f xs x x' r) (hr : r.flat = true) (hrr : ∀ τ,ren τ r = r)
  {H : Heap} {a b : Nat} (h1 : H[a]? = some (qO x.enf n b)) (h2 : H[b]? = some (rO x.os)) (hn : n = x.os.length) (hab : a ≠ b) {args : List AV} (hv : vl (view 8 H) args = some xs) (hd : ∀ j ∈ args.flatMap (reach 8 H),j ≠ a ∧ j ≠ b) :
  Run Tryz.prog f (.ptr a 0 0 :: args) H r (((H.set a (qO x'.enf x'.os.length H.length)).set b deadO) ++ [rO x'.os]):=run_mv hf hr hrr h1 h2 hn hab hv hd
theorem c130 (x : Quo) (o : Own) (hx : x.os.length < 1000000) (hs : SRT x.os) : Mv 130 [o.enc] x (put1 x o) (.tup []):=by
 cases h : isR x.os o.who with
 | true=>exact c130t x o hx hs h
 | false=>exact c130f x o hx hs h
attribute [local irreducible] oE checkQ cnt isR ownR withR bsR fullQ put1 chg rls mov limErr limF actE doA resQ aftQ whoE limE numE goMin
theorem full_eq (x : Quo) (w : Int) : (!isR x.os w && decide (x.os.length = 30)) = fullQ x w:=by unfold fullQ;rfl
theorem c80 (x : Quo) (hv : VQ x) (w b : Int) (hb : 0 ≤ b ∧ b ≤ 2147483647) : Mv 80 [i w,i b] x (chg x w b).1 (.d (i (chg x w b).2)):=by
 have hx : x.os.length < 1000000:=(by have:=hv.len;omega);have hs:=hv.srt;obtain ⟨hn1,hn2,hn3⟩:=hv.nums w
 refine run_walkV eok Tryz.func80 rfl (by kernel_rfl) [0,1] (by rfl) [] ?_
 conv=>whnf
 repeat' (first
 | ((with_reducible refine on_dec_f ?_ ?_);(focus ((try simp only [List.length_map,List.length_cons,List.length_nil,List.length_append]);omega));conv=>whnf)
 | ((with_reducible refine on_dec (fun h=>?_) (fun h=>?_))<;>(try simp only [List.length_map] at h)<;>conv=>whnf)
 | ((with_reducible refine on_ndec (fun h=>?_) (fun h=>?_))<;>(try simp only [List.length_map] at h)<;>conv=>whnf)
 | ((with_reducible refine onBool_split (fun h=>?_) (fun h=>?_))<;>conv=>whnf)
 | ((with_reducible refine call_go ?_);(first | refine call_step (run_view (by have:=c129 x hx hs w;rw [full_eq] at this;exact this) rfl (qview rfl rfl rfl (vlc rfl vln))) ?_ | refine call_step (run_view (c35 x hx hs w) rfl (qview rfl rfl rfl (vlc rfl vln))) ?_ | refine call_step (Mv.at (c130 x { ownR x.os w with used:=(ownR x.os w).used + b } hx hs) rfl (fun _=>rfl) rfl rfl rfl (Nat.ne_of_beq_eq_false rfl) (vlc (view_agg (vlc rfl (vlc rfl (vlc rfl (vlc rfl (vlc rfl vln)))))) vln) (fun j hj=>absurd hj (List.not_mem_nil))) ?_ | refine call_step (Mv.at (c130 x { ownR x.os w with ref:=goMin ((ownR x.os w).ref + 1) 65535 } hx hs) rfl (fun _=>rfl) rfl rfl rfl (Nat.ne_of_beq_eq_false rfl) (vlc (view_agg (vlc rfl (vlc rfl (vlc rfl (vlc rfl (vlc rfl vln)))))) vln) (fun j hj=>absurd hj (List.not_mem_nil))) ?_);conv=>whnf)
 | (refine wrap64 (by omega) ?_;conv=>whnf)
 | ((with_reducible refine endx_go ?_);first | (refine cut_ (chg x w b = (x,0)) ?_ (fun hE=>?_);(focus (unfold chg;(first | (simp_all;done) )));rw [hE];refine endX_of (.inl ⟨[.old 0,.dead,.old 1],rfl,rfl,⟨rfl,trivial⟩,⟨⟨rfl,rfl,.inr ⟨⟨⟨rfl,rfl,rfl,rfl,rfl⟩,rfl,trivial⟩,trivial⟩⟩,rfl,⟨rfl,rfl,.inl ⟨_,rfl,rfl⟩⟩,trivial⟩⟩);done) | (refine cut_ (chg x w b = (x,16)) ?_ (fun hE=>?_);(focus (unfold chg;(first | (simp_all;done) )));rw [hE];refine endX_of (.inl ⟨[.old 0,.dead,.old 1],rfl,rfl,⟨rfl,trivial⟩,⟨⟨rfl,rfl,.inr ⟨⟨⟨rfl,rfl,rfl,rfl,rfl⟩,rfl,trivial⟩,trivial⟩⟩,rfl,⟨rfl,rfl,.inl ⟨_,rfl,rfl⟩⟩,trivial⟩⟩);done) | (refine cut_ (chg x w b = (x,8)) ?_ (fun hE=>?_);(focus (unfold chg;(first | (simp_all;done) )));rw [hE];refine endX_of (.inl ⟨[.old 0,.dead,.old 1],rfl,rfl,⟨rfl,trivial⟩,⟨⟨rfl,rfl,.inr ⟨⟨⟨rfl,rfl,rfl,rfl,rfl⟩,rfl,trivial⟩,trivial⟩⟩,rfl,⟨rfl,rfl,.inl ⟨_,rfl,rfl⟩⟩,trivial⟩⟩);done) | (refine cut_ (chg x w b = (put1 x { ownR x.os w with ref:=goMin ((ownR x.os w).ref + 1) 65535 },33)) ?_ (fun hE=>?_);(focus (unfold chg;(first | (simp_all;done) )));rw [hE];refine endX_of (.inl ⟨[.old 0,.dead,.old 3],rfl,rfl,⟨rfl,trivial⟩,⟨⟨rfl,rfl,.inr ⟨⟨⟨rfl,rfl,rfl,rfl,rfl⟩,rfl,trivial⟩,trivial⟩⟩,rfl,⟨rfl,rfl,.inl ⟨_,rfl,rfl⟩⟩,trivial⟩⟩);done) | (refine cut_ (chg x w b = (put1 x { ownR x.os w with used:=(ownR x.os w).used + b },0)) ?_ (fun hE=>?_);(focus (unfold chg;(first | (simp_all;done) | grind)));rw [hE];refine endX_of (.inl ⟨[.old 0,.dead,.old 3],rfl,rfl,⟨rfl,trivial⟩,⟨⟨rfl,rfl,.inr ⟨⟨⟨rfl,rfl,rfl,rfl,rfl⟩,rfl,trivial⟩,trivial⟩⟩,rfl,⟨rfl,rfl,.inl ⟨_,rfl,rfl⟩⟩,trivial⟩⟩);done))
  | fail
  )
theorem c81 (x : Quo) (hv : VQ x) (w b : Int) (hb : 0 ≤ b ∧ b ≤ 2147483647) : Mv 81 [i w,i b] x (rls x w b).1 (.d (i (rls x w b).2)):=by
 have hx : x.os.length < 1000000:=(by have:=hv.len;omega);have hs:=hv.srt;obtain ⟨hn1,hn2,hn3⟩:=hv.nums w
 refine run_walkV eok Tryz.func81 rfl (by kernel_rfl) [0,1] (by rfl) [] ?_
 conv=>whnf
 repeat' (first
 | ((with_reducible refine on_dec (fun h=>?_) (fun h=>?_))<;>(try simp only [List.length_map] at h)<;>conv=>whnf)
 | ((with_reducible refine call_go ?_);(first | refine call_step (run_view (c35 x hx hs w) rfl (qview rfl rfl rfl (vlc rfl vln))) ?_ | refine call_step (Mv.at (c130 x { ownR x.os w with used:=(ownR x.os w).used - b } hx hs) rfl (fun _=>rfl) rfl rfl rfl (Nat.ne_of_beq_eq_false rfl) (vlc (view_agg (vlc rfl (vlc rfl (vlc rfl (vlc rfl (vlc rfl vln)))))) vln) (fun j hj=>absurd hj (List.not_mem_nil))) ?_);conv=>whnf)
 | (refine wrap64 (by omega) ?_;conv=>whnf)
 | ((with_reducible refine endx_go ?_);first | (refine cut_ (rls x w b = (x,2)) ?_ (fun hE=>?_);(focus (unfold rls;(first | (simp_all;done) )));rw [hE];refine endX_of (.inl ⟨[.old 0,.dead,.old 1],rfl,rfl,⟨rfl,trivial⟩,⟨⟨rfl,rfl,.inr ⟨⟨⟨rfl,rfl,rfl,rfl,rfl⟩,rfl,trivial⟩,trivial⟩⟩,rfl,⟨rfl,rfl,.inl ⟨_,rfl,rfl⟩⟩,trivial⟩⟩);done) | (refine cut_ (rls x w b = (x,0)) ?_ (fun hE=>?_);(focus (unfold rls;(first | grind)));rw [hE];refine endX_of (.inl ⟨[.old 0,.dead,.old 1],rfl,rfl,⟨rfl,trivial⟩,⟨⟨rfl,rfl,.inr ⟨⟨⟨rfl,rfl,rfl,rfl,rfl⟩,rfl,trivial⟩,trivial⟩⟩,rfl,⟨rfl,rfl,.inl ⟨_,rfl,rfl⟩⟩,trivial⟩⟩);done) | (refine cut_ (rls x w b = (put1 x { ownR x.os w with used:=(ownR x.os w).used - b },0)) ?_ (fun hE=>?_);(focus (unfold rls;(first | (simp_all;done) )));rw [hE];refine endX_of (.inl ⟨[.old 0,.dead,.old 3],rfl,rfl,⟨rfl,trivial⟩,⟨⟨rfl,rfl,.inr ⟨⟨⟨rfl,rfl,rfl,rfl,rfl⟩,rfl,trivial⟩,trivial⟩⟩,rfl,⟨rfl,rfl,.inl ⟨_,rfl,rfl⟩⟩,trivial⟩⟩);done))
  | fail
  )
theorem c82 (x : Quo) (hv : VQ x) (w t b : Int) (ht : whoE t = 0) (hb : 0 ≤ b ∧ b ≤ 2147483647) : Mv 82 [i w,i t,i b] x (mov x w t b).1 (.d (i (mov x w t b).2)):=by
 have hx : x.os.length < 1000000:=(by have:=hv.len;omega);have hs:=hv.srt;obtain ⟨hn1,hn2,hn3⟩:=hv.nums w
 refine run_walkV eok Tryz.func82 rfl (by kernel_rfl) [0,1] (by rfl) [] ?_
 conv=>whnf
 repeat' (first
 | ((with_reducible refine on_dec (fun h=>?_) (fun h=>?_))<;>(try simp only [List.length_map] at h)<;>conv=>whnf)
 | ((with_reducible refine on_ndec (fun h=>?_) (fun h=>?_))<;>(try simp only [List.length_map] at h)<;>conv=>whnf)
 | ((with_reducible refine call_go ?_);(first | refine call_step (run_view (c35 x hx hs w) rfl (qview rfl rfl rfl (vlc rfl vln))) ?_ | refine call_step (Mv.at (c80 x hv t b hb) rfl (fun _=>rfl) rfl rfl rfl (Nat.ne_of_beq_eq_false rfl) (vlc rfl (vlc rfl vln)) (fun j hj=>absurd hj (List.not_mem_nil))) ?_ | refine call_step (Mv.at (c81 (chg x t b).1 (chg_ok hv ht hb.1) w b hb) rfl (fun _=>rfl) rfl rfl rfl (Nat.ne_of_beq_eq_false rfl) (vlc rfl (vlc rfl vln)) (fun j hj=>absurd hj (List.not_mem_nil))) ?_);conv=>whnf)
 | ((with_reducible refine endx_go ?_);first | (refine cut_ (mov x w t b = (x,2)) ?_ (fun hE=>?_);(focus (unfold mov;(first | (simp_all;done) )));rw [hE];refine endX_of (.inl ⟨[.old 0,.dead,.old 1],rfl,rfl,⟨rfl,trivial⟩,⟨⟨rfl,rfl,.inr ⟨⟨⟨rfl,rfl,rfl,rfl,rfl⟩,rfl,trivial⟩,trivial⟩⟩,rfl,⟨rfl,rfl,.inl ⟨_,rfl,rfl⟩⟩,trivial⟩⟩);done) | (refine cut_ (mov x w t b = (x,0)) ?_ (fun hE=>?_);(focus (unfold mov;(first | (simp_all;done) )));rw [hE];refine endX_of (.inl ⟨[.old 0,.dead,.old 1],rfl,rfl,⟨rfl,trivial⟩,⟨⟨rfl,rfl,.inr ⟨⟨⟨rfl,rfl,rfl,rfl,rfl⟩,rfl,trivial⟩,trivial⟩⟩,rfl,⟨rfl,rfl,.inl ⟨_,rfl,rfl⟩⟩,trivial⟩⟩);done) | (refine cut_ (mov x w t b = chg x t b) ?_ (fun hE=>?_);(focus (unfold mov;(first | (simp_all;omega) )));rw [hE];refine endX_of (.inl ⟨[.old 0,.dead,.old 2],rfl,rfl,⟨rfl,trivial⟩,⟨⟨rfl,rfl,.inr ⟨⟨⟨rfl,rfl,rfl,rfl,rfl⟩,rfl,trivial⟩,trivial⟩⟩,rfl,⟨rfl,rfl,.inl ⟨_,rfl,rfl⟩⟩,trivial⟩⟩);done) | (refine cut_ (mov x w t b = rls (chg x t b).1 w b) ?_ (fun hE=>?_);(focus (unfold mov;(first | (simp_all;omega) )));rw [hE];refine endX_of (.inl ⟨[.old 0,.dead,.old 3],rfl,rfl,⟨rfl,trivial⟩,⟨⟨rfl,rfl,.inr ⟨⟨⟨rfl,rfl,rfl,rfl,rfl⟩,rfl,trivial⟩,trivial⟩⟩,rfl,⟨rfl,rfl,.inl ⟨_,rfl,rfl⟩⟩,trivial⟩⟩);done))
  | fail
  )
theorem c79a (x : Quo) (hv : VQ x) (l : Lim) (hA : l.warn = -1) : Mv 79 [l.enc] x (limF x l).1 (.d (i (limF x l).2)):=by
 have hx : x.os.length < 1000000:=(by have:=hv.len;omega);have hs:=hv.srt;have hP : limErr x l = firstE [whoE l.who,limE l.warn,limE l.lim,if true = true then 0 else 9,if (!fullQ x l.who) = true then 0 else 16]:=(by unfold limErr;simp [hA])
 refine run_walkV eok Tryz.func79 rfl (by kernel_rfl) [0,1] (by rfl) [] ?_
 conv=>whnf
 repeat' (first
 | ((with_reducible refine on_ndec_t (by first | assumption ) ?_);conv=>whnf)
 | ((with_reducible refine on_ndec (fun h=>?_) (fun h=>?_))<;>conv=>whnf)
 | ((with_reducible refine call_go ?_);(first | refine call_step (run_view (c21 _) rfl rfl) ?_ | refine call_step (run_view (c85 _) rfl rfl) ?_ | refine call_step (run_view (c38 _ _) rfl rfl) ?_ | refine call_step (run_view (by have:=c129 x hx hs l.who;rw [full_eq] at this;exact this) rfl (qview rfl rfl rfl (vlc rfl vln))) ?_ | refine call_step (run_view (c20 [_,_,_,_,_] (by simp)) rfl rfl) ?_ | refine call_step (run_view (c35 x hx hs l.who) rfl (qview rfl rfl rfl (vlc rfl vln))) ?_ | refine call_step (Mv.at (c130 x { ownR x.os l.who with warn:=l.warn,lim:=l.lim } hx hs) rfl (fun _=>rfl) rfl rfl rfl (Nat.ne_of_beq_eq_false rfl) (vlc (view_agg (vlc rfl (vlc rfl (vlc rfl (vlc rfl (vlc rfl vln)))))) vln) (fun j hj=>absurd hj (List.not_mem_nil))) ?_);conv=>whnf)
 | (refine ⟨[],[(4,2),(7,2),(21,2),(7,5),(21,5),(21,8),(21,18)],(by decide +kernel),?_⟩;conv=>whnf)
 | (refine ⟨[],[(3,5)],(by decide +kernel),?_⟩;conv=>whnf)
 | ((with_reducible refine endx_go ?_);first | (refine cut_ (limF x l = (x,firstE [whoE l.who,limE l.warn,limE l.lim,if true = true then 0 else 9,if (!fullQ x l.who) = true then 0 else 16])) ?_ (fun hE=>?_);(focus (unfold limF;rw [hP,if_neg (by assumption)]));rw [hE];refine endX_of (.inl ⟨[.old 0,.dead,.old 1],rfl,rfl,⟨rfl,trivial⟩,⟨⟨rfl,rfl,.inr ⟨⟨⟨rfl,rfl,rfl,rfl,rfl⟩,rfl,trivial⟩,trivial⟩⟩,rfl,⟨rfl,rfl,.inl ⟨_,rfl,rfl⟩⟩,trivial⟩⟩);done) | (refine cut_ (limF x l = (put1 x { ownR x.os l.who with warn:=l.warn,lim:=l.lim },0)) ?_ (fun hE=>?_);(focus (unfold limF;rw [hP,if_pos (by assumption)]));rw [hE];refine endX_of (.inl ⟨[.old 0,.dead,.old 5],rfl,rfl,⟨rfl,trivial⟩,⟨⟨rfl,rfl,.inr ⟨⟨⟨rfl,rfl,rfl,rfl,rfl⟩,rfl,trivial⟩,trivial⟩⟩,rfl,⟨rfl,rfl,.inl ⟨_,rfl,rfl⟩⟩,trivial⟩⟩);done))
 | (refine ⟨rfl,?_⟩;conv=>whnf)
  | fail
  )
theorem c79b (x : Quo) (hv : VQ x) (l : Lim) (hA : ¬ l.warn = -1) (hB : l.lim = -1) : Mv 79 [l.enc] x (limF x l).1 (.d (i (limF x l).2)):=by
 have hx : x.os.length < 1000000:=(by have:=hv.len;omega);have hs:=hv.srt;have hP : limErr x l = firstE [whoE l.who,limE l.warn,limE l.lim,if true = true then 0 else 9,if (!fullQ x l.who) = true then 0 else 16]:=(by unfold limErr;simp [hA,hB])
 refine run_walkV eok Tryz.func79 rfl (by kernel_rfl) [0,1] (by rfl) [] ?_
 conv=>whnf
 repeat' (first
 | ((with_reducible refine on_ndec_f (by assumption) ?_);conv=>whnf)
 | ((with_reducible refine on_ndec (fun h=>?_) (fun h=>?_))<;>conv=>whnf)
 | ((with_reducible refine on_not (fun h=>?_) (fun h=>?_))<;>conv=>whnf)
 | ((with_reducible refine call_go ?_);(first | refine call_step (run_view (c21 _) rfl rfl) ?_ | refine call_step (run_view (c85 _) rfl rfl) ?_ | refine call_step (run_view (c38 _ _) rfl rfl) ?_ | refine call_step (run_view (by have:=c129 x hx hs l.who;rw [full_eq] at this;exact this) rfl (qview rfl rfl rfl (vlc rfl vln))) ?_ | refine call_step (run_view (c20 [_,_,_,_,_] (by simp)) rfl rfl) ?_ | refine call_step (run_view (c35 x hx hs l.who) rfl (qview rfl rfl rfl (vlc rfl vln))) ?_ | refine call_step (Mv.at (c130 x { ownR x.os l.who with warn:=l.warn,lim:=l.lim } hx hs) rfl (fun _=>rfl) rfl rfl rfl (Nat.ne_of_beq_eq_false rfl) (vlc (view_agg (vlc rfl (vlc rfl (vlc rfl (vlc rfl (vlc rfl vln)))))) vln) (fun j hj=>absurd hj (List.not_mem_nil))) ?_);conv=>whnf)
 | (refine ⟨[],[(4,2),(7,2),(21,2),(7,5),(21,5),(21,8),(21,18)],(by decide +kernel),?_⟩;conv=>whnf)
 | (refine ⟨[],[(3,5)],(by decide +kernel),?_⟩;conv=>whnf)
 | (exfalso;simp_all;done)
 | ((with_reducible refine endx_go ?_);first | (refine cut_ (limF x l = (x,firstE [whoE l.who,limE l.warn,limE l.lim,if true = true then 0 else 9,if (!fullQ x l.who) = true then 0 else 16])) ?_ (fun hE=>?_);(focus (unfold limF;rw [hP,if_neg (by assumption)]));rw [hE];refine endX_of (.inl ⟨[.old 0,.dead,.old 1],rfl,rfl,⟨rfl,trivial⟩,⟨⟨rfl,rfl,.inr ⟨⟨⟨rfl,rfl,rfl,rfl,rfl⟩,rfl,trivial⟩,trivial⟩⟩,rfl,⟨rfl,rfl,.inl ⟨_,rfl,rfl⟩⟩,trivial⟩⟩);done) | (refine cut_ (limF x l = (put1 x { ownR x.os l.who with warn:=l.warn,lim:=l.lim },0)) ?_ (fun hE=>?_);(focus (unfold limF;rw [hP,if_pos (by assumption)]));rw [hE];refine endX_of (.inl ⟨[.old 0,.dead,.old 5],rfl,rfl,⟨rfl,trivial⟩,⟨⟨rfl,rfl,.inr ⟨⟨⟨rfl,rfl,rfl,rfl,rfl⟩,rfl,trivial⟩,trivial⟩⟩,rfl,⟨rfl,rfl,.inl ⟨_,rfl,rfl⟩⟩,trivial⟩⟩);done))
 | (refine ⟨rfl,?_⟩;conv=>whnf)
  | fail
  )
theorem c79c (x : Quo) (hv : VQ x) (l : Lim) (hA : ¬ l.warn = -1) (hB : ¬ l.lim = -1) : Mv 79 [l.enc] x (limF x l).1 (.d (i (limF x l).2)):=by
 have hx : x.os.length < 1000000:=(by have:=hv.len;omega);have hs:=hv.srt;have hP : limErr x l = firstE [whoE l.who,limE l.warn,limE l.lim,if decide (l.warn ≤ l.lim) = true then 0 else 9,if (!fullQ x l.who) = true then 0 else 16]:=(by unfold limErr;simp [hA,hB])
 refine run_walkV eok Tryz.func79 rfl (by kernel_rfl) [0,1] (by rfl) [] ?_
 conv=>whnf
 repeat' (first
 | ((with_reducible refine on_ndec_f (by assumption) ?_);conv=>whnf)
 | ((with_reducible refine on_ndec (fun h=>?_) (fun h=>?_))<;>conv=>whnf)
 | ((with_reducible refine on_not (fun h=>?_) (fun h=>?_))<;>conv=>whnf)
 | ((with_reducible refine call_go ?_);(first | refine call_step (run_view (c21 _) rfl rfl) ?_ | refine call_step (run_view (c85 _) rfl rfl) ?_ | refine call_step (run_view (c38 _ _) rfl rfl) ?_ | refine call_step (run_view (by have:=c129 x hx hs l.who;rw [full_eq] at this;exact this) rfl (qview rfl rfl rfl (vlc rfl vln))) ?_ | refine call_step (run_view (c20 [_,_,_,_,_] (by simp)) rfl rfl) ?_ | refine call_step (run_view (c35 x hx hs l.who) rfl (qview rfl rfl rfl (vlc rfl vln))) ?_ | refine call_step (Mv.at (c130 x { ownR x.os l.who with warn:=l.warn,lim:=l.lim } hx hs) rfl (fun _=>rfl) rfl rfl rfl (Nat.ne_of_beq_eq_false rfl) (vlc (view_agg (vlc rfl (vlc rfl (vlc rfl (vlc rfl (vlc rfl vln)))))) vln) (fun j hj=>absurd hj (List.not_mem_nil))) ?_);conv=>whnf)
 | (refine ⟨[],[(4,2),(7,2),(21,2),(7,5),(21,5),(21,8),(21,18)],(by decide +kernel),?_⟩;conv=>whnf)
 | (refine ⟨[],[(3,5)],(by decide +kernel),?_⟩;conv=>whnf)
 | (exfalso;simp_all;done)
 | ((with_reducible refine endx_go ?_);first | (refine cut_ (limF x l = (x,firstE [whoE l.who,limE l.warn,limE l.lim,if decide (l.warn ≤ l.lim) = true then 0 else 9,if (!fullQ x l.who) = true then 0 else 16])) ?_ (fun hE=>?_);(focus (unfold limF;rw [hP,if_neg (by assumption)]));rw [hE];refine endX_of (.inl ⟨[.old 0,.dead,.old 1],rfl,rfl,⟨rfl,trivial⟩,⟨⟨rfl,rfl,.inr ⟨⟨⟨rfl,rfl,rfl,rfl,rfl⟩,rfl,trivial⟩,trivial⟩⟩,rfl,⟨rfl,rfl,.inl ⟨_,rfl,rfl⟩⟩,trivial⟩⟩);done) | (refine cut_ (limF x l = (put1 x { ownR x.os l.who with warn:=l.warn,lim:=l.lim },0)) ?_ (fun hE=>?_);(focus (unfold limF;rw [hP,if_pos (by assumption)]));rw [hE];refine endX_of (.inl ⟨[.old 0,.dead,.old 5],rfl,rfl,⟨rfl,trivial⟩,⟨⟨rfl,rfl,.inr ⟨⟨⟨rfl,rfl,rfl,rfl,rfl⟩,rfl,trivial⟩,trivial⟩⟩,rfl,⟨rfl,rfl,.inl ⟨_,rfl,rfl⟩⟩,trivial⟩⟩);done))
 | (refine ⟨rfl,?_⟩;conv=>whnf)
  | fail
  )
theorem c79 (x : Quo) (hv : VQ x) (l : Lim) : Mv 79 [l.enc] x (limF x l).1 (.d (i (limF x l).2)):=by
 by_cases hA : l.warn = -1
 ·exact c79a x hv l hA
 ·by_cases hB : l.lim = -1
  ·exact c79b x hv l hA hB
  ·exact c79c x hv l hA hB
theorem c69_3 (x : Quo) (hv : VQ x) (a : Act) (hk : a.kind = 3) : Mv 49 [a.enc] x (doA x a).1 (.d (i (doA x a).2)):=by
 refine run_walkV eok Tryz.func49 rfl (by kernel_rfl) [0,1] (by rfl) [] ?_
 conv=>whnf
 repeat' (first
 | ((with_reducible refine on_dec_t (by assumption) ?_);conv=>whnf)
 | ((with_reducible refine call_go ?_);(first | refine call_step (Mv.at (c79 x hv a.lim) rfl (fun _=>rfl) rfl rfl rfl (Nat.ne_of_beq_eq_false rfl) (vlc (view_agg (vlc rfl (vlc rfl (vlc rfl vln)))) vln) (fun j hj=>absurd hj (List.not_mem_nil))) ?_ );conv=>whnf)
 | ((with_reducible refine endx_go ?_);first | (refine cut_ (doA x a = limF x a.lim) ?_ (fun hE=>?_);(focus (unfold doA;simp [*];done));rw [hE];refine endX_of (.inl ⟨[.old 0,.dead,.old 3],rfl,rfl,⟨rfl,trivial⟩,⟨⟨rfl,rfl,.inr ⟨⟨⟨rfl,rfl,rfl,rfl,rfl⟩,rfl,trivial⟩,trivial⟩⟩,rfl,⟨rfl,rfl,.inl ⟨_,rfl,rfl⟩⟩,trivial⟩⟩);done))
  | fail
  )
theorem c69_0 (x : Quo) (hv : VQ x) (a : Act) (hk : a.kind = 0) (h0 : actE a = 0) : Mv 49 [a.enc] x (doA x a).1 (.d (i (doA x a).2)):=by
 have hP : actE a = firstE [whoE a.who,numE a.bytes]:=(by unfold actE;simp [hk]);obtain ⟨hw,ht,hb⟩:=actE_0 h0;have h0q:=hP.symm.trans h0
 refine run_walkV eok Tryz.func49 rfl (by kernel_rfl) [0,1] (by rfl) [] ?_
 conv=>whnf
 repeat' (first
 | ((with_reducible refine on_dec_t (by assumption) ?_);conv=>whnf)
 | ((with_reducible refine on_ndec_t (by first | assumption ) ?_);conv=>whnf)
 | ((with_reducible refine on_dec_f ?_ ?_);(focus ((try simp only [List.length_map,List.length_cons,List.length_nil,List.length_append]);omega));conv=>whnf)
 | ((with_reducible refine call_go ?_);(first | refine call_step (run_view (c21 _) rfl rfl) ?_ | refine call_step (run_view (c20 [_,_] (by simp)) rfl rfl) ?_ | refine call_step (run_view (c22 _) rfl rfl) ?_ | refine call_step (Mv.at (c80 x hv a.who a.bytes hb) rfl (fun _=>rfl) rfl rfl rfl (Nat.ne_of_beq_eq_false rfl) (vlc rfl (vlc rfl vln)) (fun j hj=>absurd hj (List.not_mem_nil))) ?_ );conv=>whnf)
 | ((with_reducible refine endx_go ?_);first | (refine cut_ (doA x a = chg x a.who a.bytes) ?_ (fun hE=>?_);(focus (unfold doA;simp [hk,h0];done));rw [hE];refine endX_of (.inl ⟨[.old 0,.dead,.old 4],rfl,rfl,⟨rfl,trivial⟩,⟨⟨rfl,rfl,.inr ⟨⟨⟨rfl,rfl,rfl,rfl,rfl⟩,rfl,trivial⟩,trivial⟩⟩,rfl,⟨rfl,rfl,.inl ⟨_,rfl,rfl⟩⟩,trivial⟩⟩);done))
  | fail
  )
theorem c69_0e (x : Quo) (hv : VQ x) (a : Act) (hk : a.kind = 0) (h0 : ¬ actE a = 0) : Mv 49 [a.enc] x (doA x a).1 (.d (i (doA x a).2)):=by
 have hP : actE a = firstE [whoE a.who,numE a.bytes]:=(by unfold actE;simp [hk]);rw [hP] at h0
 refine run_walkV eok Tryz.func49 rfl (by kernel_rfl) [0,1] (by rfl) [] ?_
 conv=>whnf
 repeat' (first
 | ((with_reducible refine on_ndec_f (by assumption) ?_);conv=>whnf)
 | ((with_reducible refine on_dec_f ?_ ?_);(focus ((try simp only [List.length_map,List.length_cons,List.length_nil,List.length_append]);omega));conv=>whnf)
 | ((with_reducible refine call_go ?_);(first | refine call_step (run_view (c21 _) rfl rfl) ?_ | refine call_step (run_view (c20 [_,_] (by simp)) rfl rfl) ?_ | refine call_step (run_view (c22 _) rfl rfl) ?_ );conv=>whnf)
 | ((with_reducible refine endx_go ?_);first | (refine cut_ (doA x a = (x,firstE [whoE a.who,numE a.bytes])) ?_ (fun hE=>?_);(focus (unfold doA;rw [hP,if_neg (by omega),if_neg h0]));rw [hE];refine endX_of (.inl ⟨[.old 0,.dead,.old 1],rfl,rfl,⟨rfl,trivial⟩,⟨⟨rfl,rfl,.inr ⟨⟨⟨rfl,rfl,rfl,rfl,rfl⟩,rfl,trivial⟩,trivial⟩⟩,rfl,⟨rfl,rfl,.inl ⟨_,rfl,rfl⟩⟩,trivial⟩⟩);done))
  | fail
  )
theorem c69_1 (x : Quo) (hv : VQ x) (a : Act) (hk : a.kind = 1) (h0 : actE a = 0) : Mv 49 [a.enc] x (doA x a).1 (.d (i (doA x a).2)):=by
 have hP : actE a = firstE [whoE a.who,numE a.bytes]:=(by unfold actE;simp [hk]);obtain ⟨hw,ht,hb⟩:=actE_0 h0;have h0q:=hP.symm.trans h0
 refine run_walkV eok Tryz.func49 rfl (by kernel_rfl) [0,1] (by rfl) [] ?_
 conv=>whnf
 repeat' (first
 | ((with_reducible refine on_dec_t (by assumption) ?_);conv=>whnf)
 | ((with_reducible refine on_ndec_t (by first | assumption ) ?_);conv=>whnf)
 | ((with_reducible refine on_dec_f ?_ ?_);(focus ((try simp only [List.length_map,List.length_cons,List.length_nil,List.length_append]);omega));conv=>whnf)
 | ((with_reducible refine call_go ?_);(first | refine call_step (run_view (c21 _) rfl rfl) ?_ | refine call_step (run_view (c20 [_,_] (by simp)) rfl rfl) ?_ | refine call_step (run_view (c22 _) rfl rfl) ?_ | refine call_step (Mv.at (c81 x hv a.who a.bytes hb) rfl (fun _=>rfl) rfl rfl rfl (Nat.ne_of_beq_eq_false rfl) (vlc rfl (vlc rfl vln)) (fun j hj=>absurd hj (List.not_mem_nil))) ?_ );conv=>whnf)
 | ((with_reducible refine endx_go ?_);first | (refine cut_ (doA x a = rls x a.who a.bytes) ?_ (fun hE=>?_);(focus (unfold doA;simp [hk,h0];done));rw [hE];refine endX_of (.inl ⟨[.old 0,.dead,.old 4],rfl,rfl,⟨rfl,trivial⟩,⟨⟨rfl,rfl,.inr ⟨⟨⟨rfl,rfl,rfl,rfl,rfl⟩,rfl,trivial⟩,trivial⟩⟩,rfl,⟨rfl,rfl,.inl ⟨_,rfl,rfl⟩⟩,trivial⟩⟩);done))
  | fail
  )
theorem c69_1e (x : Quo) (hv : VQ x) (a : Act) (hk : a.kind = 1) (h0 : ¬ actE a = 0) : Mv 49 [a.enc] x (doA x a).1 (.d (i (doA x a).2)):=by
 have hP : actE a = firstE [whoE a.who,numE a.bytes]:=(by unfold actE;simp [hk]);rw [hP] at h0
 refine run_walkV eok Tryz.func49 rfl (by kernel_rfl) [0,1] (by rfl) [] ?_
 conv=>whnf
 repeat' (first
 | ((with_reducible refine on_ndec_f (by assumption) ?_);conv=>whnf)
 | ((with_reducible refine on_dec_f ?_ ?_);(focus ((try simp only [List.length_map,List.length_cons,List.length_nil,List.length_append]);omega));conv=>whnf)
 | ((with_reducible refine call_go ?_);(first | refine call_step (run_view (c21 _) rfl rfl) ?_ | refine call_step (run_view (c20 [_,_] (by simp)) rfl rfl) ?_ | refine call_step (run_view (c22 _) rfl rfl) ?_ );conv=>whnf)
 | ((with_reducible refine endx_go ?_);first | (refine cut_ (doA x a = (x,firstE [whoE a.who,numE a.bytes])) ?_ (fun hE=>?_);(focus (unfold doA;rw [hP,if_neg (by omega),if_neg h0]));rw [hE];refine endX_of (.inl ⟨[.old 0,.dead,.old 1],rfl,rfl,⟨rfl,trivial⟩,⟨⟨rfl,rfl,.inr ⟨⟨⟨rfl,rfl,rfl,rfl,rfl⟩,rfl,trivial⟩,trivial⟩⟩,rfl,⟨rfl,rfl,.inl ⟨_,rfl,rfl⟩⟩,trivial⟩⟩);done))
  | fail
  )
theorem c69_2 (x : Quo) (hv : VQ x) (a : Act) (hk : a.kind = 2) (h0 : actE a = 0) : Mv 49 [a.enc] x (doA x a).1 (.d (i (doA x a).2)):=by
 have hP : actE a = firstE [firstE [whoE a.who,whoE a.to],numE a.bytes]:=(by unfold actE;simp [hk]);obtain ⟨hw,ht,hb⟩:=actE_0 h0;have h0q:=hP.symm.trans h0;have ht:=ht hk
 refine run_walkV eok Tryz.func49 rfl (by kernel_rfl) [0,1] (by rfl) [] ?_
 conv=>whnf
 repeat' (first
 | ((with_reducible refine on_dec_t (by assumption) ?_);conv=>whnf)
 | ((with_reducible refine on_ndec_t (by first | assumption ) ?_);conv=>whnf)
 | ((with_reducible refine on_dec_f ?_ ?_);(focus ((try simp only [List.length_map,List.length_cons,List.length_nil,List.length_append]);omega));conv=>whnf)
 | ((with_reducible refine call_go ?_);(first | refine call_step (run_view (c21 _) rfl rfl) ?_ | refine call_step (run_view (c20 [_,_] (by simp)) rfl rfl) ?_ | refine call_step (run_view (c22 _) rfl rfl) ?_ | refine call_step (Mv.at (c82 x hv a.who a.to a.bytes ht hb) rfl (fun _=>rfl) rfl rfl rfl (Nat.ne_of_beq_eq_false rfl) (vlc rfl (vlc rfl (vlc rfl vln))) (fun j hj=>absurd hj (List.not_mem_nil))) ?_);conv=>whnf)
 | ((with_reducible refine endx_go ?_);first | (refine cut_ (doA x a = mov x a.who a.to a.bytes) ?_ (fun hE=>?_);(focus (unfold doA;simp [hk,h0];done));rw [hE];refine endX_of (.inl ⟨[.old 0,.dead,.old 5],rfl,rfl,⟨rfl,trivial⟩,⟨⟨rfl,rfl,.inr ⟨⟨⟨rfl,rfl,rfl,rfl,rfl⟩,rfl,trivial⟩,trivial⟩⟩,rfl,⟨rfl,rfl,.inl ⟨_,rfl,rfl⟩⟩,trivial⟩⟩);done))
  | fail
  )
theorem c69_2e (x : Quo) (hv : VQ x) (a : Act) (hk : a.kind = 2) (h0 : ¬ actE a = 0) : Mv 49 [a.enc] x (doA x a).1 (.d (i (doA x a).2)):=by
 have hP : actE a = firstE [firstE [whoE a.who,whoE a.to],numE a.bytes]:=(by unfold actE;simp [hk]);rw [hP] at h0
 refine run_walkV eok Tryz.func49 rfl (by kernel_rfl) [0,1] (by rfl) [] ?_
 conv=>whnf
 repeat' (first
 | ((with_reducible refine on_dec_t (by assumption) ?_);conv=>whnf)
 | ((with_reducible refine on_ndec_f (by assumption) ?_);conv=>whnf)
 | ((with_reducible refine on_dec_f ?_ ?_);(focus ((try simp only [List.length_map,List.length_cons,List.length_nil,List.length_append]);omega));conv=>whnf)
 | ((with_reducible refine call_go ?_);(first | refine call_step (run_view (c21 _) rfl rfl) ?_ | refine call_step (run_view (c20 [_,_] (by simp)) rfl rfl) ?_ | refine call_step (run_view (c22 _) rfl rfl) ?_ );conv=>whnf)
 | ((with_reducible refine endx_go ?_);first | (refine cut_ (doA x a = (x,firstE [firstE [whoE a.who,whoE a.to],numE a.bytes])) ?_ (fun hE=>?_);(focus (unfold doA;rw [hP,if_neg (by omega),if_neg h0]));rw [hE];refine endX_of (.inl ⟨[.old 0,.dead,.old 1],rfl,rfl,⟨rfl,trivial⟩,⟨⟨rfl,rfl,.inr ⟨⟨⟨rfl,rfl,rfl,rfl,rfl⟩,rfl,trivial⟩,trivial⟩⟩,rfl,⟨rfl,rfl,.inl ⟨_,rfl,rfl⟩⟩,trivial⟩⟩);done))
  | fail
  )
theorem c49 (x : Quo) (hv : VQ x) (a : Act) (hk : kindOk a) : Mv 49 [a.enc] x (doA x a).1 (.d (i (doA x a).2)):=by
 by_cases h0 : actE a = 0
 ·rcases hk with hk | hk | hk | hk
  ·exact c69_0 x hv a hk h0
  ·exact c69_1 x hv a hk h0
  ·exact c69_2 x hv a hk h0
  ·exact c69_3 x hv a hk
 ·rcases hk with hk | hk | hk | hk
  ·exact c69_0e x hv a hk h0
  ·exact c69_1e x hv a hk h0
  ·exact c69_2e x hv a hk h0
  ·exact c69_3 x hv a hk
end Go.Proofs.YtkmhnaojgkcjoaaGreatDoor.K19
namespace Go.Proofs.YtkmhnaojgkcjoaaGreatDoor.K19
open Go Dw
set_option maxRecDepth 10000
attribute [local irreducible] Run
set_option maxHeartbeats 4000000
attribute [local irreducible] oE checkQ cnt isR ownR withR bsR fullQ put1 chg rls mov limErr limF actE doA resQ aftQ whoE limE numE goMin
theorem run_dataV {f : Nat} {xs : List D} {r : D} {args : List AV} {H : Heap} (hf : Run Tryz.prog f (xs.map .d) [] (.d r) []) (hv : vl (view 8 H) args = some xs) (hre : args.flatMap (reach 8 H) = []) : Run Tryz.prog f args H (.d r) H:=by
 have:=run_viewF hf hv
 rw [hre] at this
 exact this
theorem cl51r (l : List Own) (hl : l.length < 1000000) (H : Heap) : Run Tryz.prog 51 [.d (.fs (l.map Own.enc))] H (.sl H.length 0 (l.map Own.enc).length 5 none) (H ++ [rO l]):=
 run_clone cl51 rfl (by rw [List.length_map];exact hl) (own_ok l).1 (own_ok l).2
theorem c32o (x : Quo) (hx : x.os.length < 1000) (hq : (checkQ x).2 = 0) : Run Tryz.prog 32 [.d x.enc] [] (.tup [.ptr 0 0 0,.d (i 0)]) [qO x.enf x.os.length 1,rO x.os]:=by
 refine run_walkV eok Tryz.func32 rfl (by kernel_rfl) [] (by rfl) [] ?_
 conv=>whnf
 repeat' (first
 | ((with_reducible refine on_ndec_t (by first | assumption ) ?_);conv=>whnf)
 | ((with_reducible refine call_go ?_);(first | refine call_step (run_data (c50 x hx) _) ?_ | refine call_step (cl51r x.os (by omega) _) ?_);conv=>whnf)
 | ((with_reducible refine endx_go ?_);first | (refine endX_of (.inl ⟨[.old 2,.old 1],rfl,rfl,⟨⟨⟨rfl,rfl,rfl⟩,rfl,trivial⟩,trivial⟩,⟨⟨rfl,rfl,.inr ⟨⟨⟨rfl,rfl,(by rw [List.length_map]),rfl,rfl⟩,rfl,trivial⟩,trivial⟩⟩,⟨rfl,rfl,.inl ⟨_,rfl,rfl⟩⟩,trivial⟩⟩);done))
  | fail
  )
theorem c32e (x : Quo) (hx : x.os.length < 1000) (hq : ¬ (checkQ x).2 = 0) : Run Tryz.prog 32 [.d x.enc] [] (.tup [.raw (.pointer none),.d (i (checkQ x).2)]) []:=by
 refine run_walkV eok Tryz.func32 rfl (by kernel_rfl) [] (by rfl) [] ?_
 conv=>whnf
 repeat' (first
 | ((with_reducible refine on_ndec_f (by assumption) ?_);conv=>whnf)
 | ((with_reducible refine call_go ?_);(first | refine call_step (run_data (c50 x hx) _) ?_ );conv=>whnf)
 | ((with_reducible refine endx_go ?_);first | (refine endX_of (.inl ⟨[],rfl,rfl,⟨⟨rfl,rfl,trivial⟩,trivial⟩,trivial⟩);done))
  | fail
  )
theorem c32r (x : Quo) (hx : x.os.length < 1000) (hq : (checkQ x).2 = 0) (H : Heap) : Run Tryz.prog 32 [.d x.enc] H (.tup [.ptr H.length 0 0,.d (i 0)]) (H ++ [qO x.enf x.os.length (H.length + 1),rO x.os]):=by
 refine run_at (σ:=[]) (F:=[]) (fl:=true) (c32o x hx hq) List.nodup_nil (fun _ _ h=>by cases h) ⟨⟨rfl,fun id hid=>by simp [reach] at hid⟩,trivial⟩ (by simp [embH]) (fun _=>⟨rfl,fun o ho=>?_⟩) ?_ ?_
 ·simp only [List.mem_cons,List.not_mem_nil,or_false] at ho
  rcases ho with rfl | rfl
  ·exact ⟨rfl,Nat.zero_ne_one⟩
  ·exact ⟨flats_map _ (own_ok x.os).2,Nat.zero_ne_one⟩
 ·simp [ren,rens,tau]
 ·simp only [outH,setAll,List.length_nil,List.drop_zero,List.map_cons,List.map_nil,if_true]
  have e2 : renO (tau [] H.length) (rO x.os) = rO x.os:=by unfold renO rO;rw [rens_D]
  rw [e2];rfl
theorem c32n (x : Quo) (hx : x.os.length < 1000) (hq : ¬ (checkQ x).2 = 0) (H : Heap) : Run Tryz.prog 32 [.d x.enc] H (.tup [.raw (.pointer none),.d (i (checkQ x).2)]) H:=by
 refine run_at (σ:=[]) (F:=[]) (fl:=true) (c32e x hx hq) List.nodup_nil (fun _ _ h=>by cases h) ⟨⟨rfl,fun id hid=>by simp [reach] at hid⟩,trivial⟩ (by simp [embH]) (fun _=>⟨rfl,fun o ho=>by cases ho⟩) rfl (by simp [outH,setAll])
theorem aft_e {x : Quo} {a : Act} (hq : ¬ (checkQ x).2 = 0) : aftQ x a = (emp,(checkQ x).2):=by unfold aftQ;rw [if_neg hq]
theorem aft_0 {x : Quo} {a : Act} (hq : (checkQ x).2 = 0) (h : (doA x a).2 = 0 ∨ (doA x a).2 = 33) : aftQ x a = doA x a:=by unfold aftQ resQ;rw [if_pos hq,if_pos h]
theorem aft_n {x : Quo} {a : Act} (hq : (checkQ x).2 = 0) (h : ¬ (doA x a).2 = 0) (h2 : ¬ (doA x a).2 = 33) : aftQ x a = (emp,(doA x a).2):=by unfold aftQ resQ;rw [if_pos hq,if_neg (by omega)]
theorem c31e (x : Quo) (hx : x.os.length < 1000) (a : Act) (hk : kindOk a) (hq : ¬ (checkQ x).2 = 0) : Fn 31 [x.enc,a.enc] (.tup [(aftQ x a).1.enc,i (aftQ x a).2]):=by
 refine run_walkF eok Tryz.func31 rfl (by kernel_rfl) ?_
 conv=>whnf
 repeat' (first
 | ((with_reducible refine on_ndec_f (by assumption) ?_);conv=>whnf)
 | ((with_reducible refine call_go ?_);(first | refine call_step (c32n x hx hq _) ?_ );conv=>whnf)
 | ((with_reducible refine endx_go ?_);first | (refine endxv (view_tup (vlc (view_agg (vlc rfl (vlc rfl vln))) (vlc rfl vln))) ?_;(rw [aft_e hq])<;>rfl;done))
  | fail
  )
theorem c31a (x : Quo) (hx : x.os.length < 1000) (a : Act) (hk : kindOk a) (hq : (checkQ x).2 = 0) (h : (doA x a).2 = 0) : Fn 31 [x.enc,a.enc] (.tup [(aftQ x a).1.enc,i (aftQ x a).2]):=by
 refine run_walkF eok Tryz.func31 rfl (by kernel_rfl) ?_
 conv=>whnf
 repeat' (first
 | ((with_reducible refine on_ndec_t (by first | assumption ) ?_);conv=>whnf)
 | ((with_reducible refine call_go ?_);(first | refine call_step (c32r x hx hq _) ?_ | refine call_step (Mv.at (c49 x ((checkQ_iff x).1 hq) a hk) rfl (fun _=>rfl) rfl rfl rfl (Nat.ne_of_beq_eq_false rfl) (vlc rfl vln) (fun j hj=>absurd hj (List.not_mem_nil))) ?_);conv=>whnf)
 | ((with_reducible refine endx_go ?_);first | (refine endxv (view_tup (vlc (view_agg (vlc (view_map rfl Nat.two_pos) (vlc rfl vln))) (vlc rfl vln))) ?_;(rw [aft_0 hq (.inl h)])<;>rfl;done))
  | fail
  )
theorem c31b (x : Quo) (hx : x.os.length < 1000) (a : Act) (hk : kindOk a) (hq : (checkQ x).2 = 0) (h : ¬ (doA x a).2 = 0) (h2 : (doA x a).2 = 33) : Fn 31 [x.enc,a.enc] (.tup [(aftQ x a).1.enc,i (aftQ x a).2]):=by
 refine run_walkF eok Tryz.func31 rfl (by kernel_rfl) ?_
 conv=>whnf
 repeat' (first
 | ((with_reducible refine on_ndec_t (by first | assumption ) ?_);conv=>whnf)
 | ((with_reducible refine on_ndec_f (by assumption) ?_);conv=>whnf)
 | ((with_reducible refine call_go ?_);(first | refine call_step (c32r x hx hq _) ?_ | refine call_step (Mv.at (c49 x ((checkQ_iff x).1 hq) a hk) rfl (fun _=>rfl) rfl rfl rfl (Nat.ne_of_beq_eq_false rfl) (vlc rfl vln) (fun j hj=>absurd hj (List.not_mem_nil))) ?_);conv=>whnf)
 | ((with_reducible refine endx_go ?_);first | (refine endxv (view_tup (vlc (view_agg (vlc (view_map rfl Nat.two_pos) (vlc rfl vln))) (vlc rfl vln))) ?_;(rw [aft_0 hq (.inr h2)])<;>rfl;done))
  | fail
  )
theorem c31c (x : Quo) (hx : x.os.length < 1000) (a : Act) (hk : kindOk a) (hq : (checkQ x).2 = 0) (h : ¬ (doA x a).2 = 0) (h2 : ¬ (doA x a).2 = 33) : Fn 31 [x.enc,a.enc] (.tup [(aftQ x a).1.enc,i (aftQ x a).2]):=by
 refine run_walkF eok Tryz.func31 rfl (by kernel_rfl) ?_
 conv=>whnf
 repeat' (first
 | ((with_reducible refine on_ndec_f (by assumption) ?_);conv=>whnf)
 | ((with_reducible refine call_go ?_);(first | refine call_step (c32r x hx hq _) ?_ | refine call_step (Mv.at (c49 x ((checkQ_iff x).1 hq) a hk) rfl (fun _=>rfl) rfl rfl rfl (Nat.ne_of_beq_eq_false rfl) (vlc rfl vln) (fun j hj=>absurd hj (List.not_mem_nil))) ?_);conv=>whnf)
 | ((with_reducible refine endx_go ?_);first | (refine endxv (view_tup (vlc (view_agg (vlc rfl (vlc rfl vln))) (vlc rfl vln))) ?_;(rw [aft_n hq h h2])<;>rfl;done))
  | fail
  )
theorem c31 (x : Quo) (hx : x.os.length < 1000) (a : Act) (hk : kindOk a) : Fn 31 [x.enc,a.enc] (.tup [(aftQ x a).1.enc,i (aftQ x a).2]):=by
 by_cases hq : (checkQ x).2 = 0
 ·by_cases h : (doA x a).2 = 0
  ·exact c31a x hx a hk hq h
  ·by_cases h2 : (doA x a).2 = 33
   ·exact c31b x hx a hk hq h h2
   ·exact c31c x hx a hk hq h h2
 ·exact c31e x hx a hk hq
def lim0 : Lim:=⟨0,0,0⟩
def actM (f t b : Int) : Act:=⟨2,f,t,b,lim0⟩
theorem c12 (x : Quo) (hx : x.os.length < 1000) (f t b : Int) : Fn 12 [x.enc,i f,i t,i b] (.tup [(aftQ x (actM f t b)).1.enc,i (aftQ x (actM f t b)).2]):=by
 refine run_walkF eok Tryz.func12 rfl (by kernel_rfl) ?_
 conv=>whnf
 repeat' (first
 | ((with_reducible refine call_go ?_);(first | refine call_step (run_dataV (c31 x hx (actM f t b) (by unfold kindOk;first | exact .inr (.inr (.inl rfl)) )) (vlc rfl (vlc (view_agg (vlc rfl (vlc rfl (vlc rfl (vlc rfl (vlc rfl (vlc rfl (vlc rfl vln)))))))) vln)) rfl) ?_);conv=>whnf)
 | ((with_reducible refine endx_go ?_);first | (exact endxv (view_tup (vlc rfl (vlc rfl vln))) rfl;done))
  | fail
  )
end Go.Proofs.YtkmhnaojgkcjoaaGreatDoor.K19
namespace Go.Proofs.YtkmhnaojgkcjoaaGreatDoor.K19
open Go Dw
set_option maxRecDepth 10000
attribute [local irreducible] Run
set_option maxHeartbeats 4000000
def roomQ (x : Quo) (w : Int) : Int:=if (!x.enf || decide ((ownR x.os w).lim = -1)) = true then 2147483647 - (ownR x.os w).used else goMax 0 ((ownR x.os w).lim - (ownR x.os w).used)
def warnB (o : Own) : Bool:=!decide (o.warn = -1) && decide (o.warn < o.used)
def warned (l : List Own) : List Int:=(l.filter warnB).map Own.who
def actErr (x : Quo) (w b : Int) : Int:=firstE [(checkQ x).2,whoE w,numE b]
attribute [local irreducible] oE checkQ cnt isR ownR withR bsR fullQ put1 chg rls mov limErr limF actE doA resQ aftQ whoE limE numE goMin goMax warnB
end Go.Proofs.YtkmhnaojgkcjoaaGreatDoor.K19
namespace Go.Proofs.YtkmhnaojgkcjoaaGreatDoor.K19
open Go Dw
theorem resQ_0 (x : Quo) : resQ (x,0) = (x,0):=rfl
theorem aft_ok {x : Quo} {a : Act} (hk : ¬ a.kind = 3) (h : firstE [(checkQ x).2,actE a] = 0) : (checkQ x).2 = 0 ∧ actE a = 0 ∧ aftQ x a = resQ (if a.kind = 0 then chg x a.who a.bytes else if a.kind = 1 then rls x a.who a.bytes else mov x a.who a.to a.bytes):=by
 rw [firstE_z] at h
 have h1:=h _ (List.mem_cons_self)
 have h2:=h (actE a) (by simp)
 refine ⟨h1,h2,?_⟩
 unfold aftQ doA
 rw [if_pos h1,if_neg hk,if_pos h2]
theorem fe_flat3 (c a b d : Int) : firstE [c,firstE [firstE [a,b],d]] = firstE [c,a,b,d]:=by
 by_cases h : c = 0<;>by_cases h2 : a = 0<;>by_cases h3 : b = 0<;>by_cases h4 : d = 0<;>simp [firstE,h,h2,h3,h4]
def movErr (x : Quo) (f t b : Int) : Int:=firstE [(checkQ x).2,whoE f,whoE t,numE b]
theorem aftM_0 {x : Quo} {f t b : Int} (h : movErr x f t b = 0) : aftQ x (actM f t b) = resQ (mov x f t b):=by
 unfold movErr at h
 rw [← fe_flat3] at h
 exact (aft_ok (a:=actM f t b) (show ¬ (2 : Int) = 3 by decide) h).2.2
theorem ownR_withR : ∀ (l : List Own) (o : Own) (f : Int),SRT l → ownR (withR l o) f = if o.who = f then o else ownR l f
 | [],o,f,_=>rfl
 | y :: l,o,f,hs=>by
  have hs':=hs
  rw [SRT,List.pairwise_cons] at hs
  simp only [withR]
  by_cases h1 : y.who < o.who
  ·rw [if_pos h1]
   simp only [ownR]
   rw [ownR_withR l o f hs.2]
   by_cases h2 : y.who = f
   ·rw [if_pos h2,if_pos h2,if_neg (by omega)]
   ·rw [if_neg h2,if_neg h2]
  ·rw [if_neg h1]
   by_cases h2 : y.who = o.who
   ·rw [if_pos h2]
    simp only [ownR]
    by_cases h3 : o.who = f
    ·rw [if_pos h3,if_pos h3]
    ·rw [if_neg h3,if_neg h3,if_neg (by omega)]
   ·rw [if_neg h2];rfl
theorem chg_own {x : Quo} (h : VQ x) {f t b : Int} (hne : ¬ f = t) : ownR (chg x t b).1.os f = ownR x.os f:=by
 have key : ∀ o : Own,o.who = t → ownR (put1 x o).os f = ownR x.os f:=fun o ho=>by
  show ownR (withR x.os o) f = _
  rw [ownR_withR _ _ _ h.srt,if_neg (by omega)]
 unfold chg
 split
 ·rfl
 ·split
  ·rfl
  ·split
   ·exact key _ (ownR_who _ _)
   ·split
    ·rfl
    ·exact key _ (ownR_who _ _)
end Go.Proofs.YtkmhnaojgkcjoaaGreatDoor.K19
namespace Go.Proofs.YtkmhnaojgkcjoaaGreatDoor.K19
open Go Dw
set_option maxRecDepth 10000
attribute [local irreducible] Run
set_option maxHeartbeats 4000000
def isQ (x : Quo) (e : Int) (y : Quo) (c : Int) : Bool:=decide (e = c) && decide (x = if (!decide (c = 0) && !decide (c = 33)) = true then emp else y)
attribute [local irreducible] oE checkQ cnt isR ownR withR bsR fullQ put1 chg rls mov limErr limF actE doA resQ aftQ whoE limE numE goMin actErr movErr
end Go.Proofs.YtkmhnaojgkcjoaaGreatDoor.K19
namespace Go.Proofs.YtkmhnaojgkcjoaaGreatDoor.K19
open Go Dw
set_option maxRecDepth 10000
attribute [local irreducible] Run
set_option maxHeartbeats 4000000
attribute [local irreducible] oE checkQ cnt isR ownR withR bsR fullQ put1 chg rls mov limErr limF actE doA resQ aftQ whoE limE numE goMin actErr movErr
def exQ : Quo:=⟨[⟨10,100,150,200,0⟩],true⟩
end Go.Proofs.YtkmhnaojgkcjoaaGreatDoor.K19
namespace Go.Proofs.YtkmhnaojgkcjoaaGreatDoor.K19
open Go Dw Go.Proofs Go.RowKit Go.Maps Go.Sort Go.Shelf
def sortedA_ren : Go.Shelf.Ren:=⟨fun | 6=>23 | 8=>40 | 9=>41 | 11=>64 | 13=>66 | 12=>65 | 23=>109 | 24=>110 | 14=>100 | 15=>101 | 16=>102 | 17=>103 | 18=>104 | 19=>105 | 20=>106 | 21=>107 | 22=>108 | 25=>152 | 26=>153 | 27=>154 | 28=>155 | 29=>156 | 30=>131 | 31=>188 | n=>n,fun | 26=>3 | 28=>72 | 24=>69 | 0=>0 | 3=>3 | 37=>127 | 48=>171 | 50=>173 | 4=>4 | 40=>164 | 39=>163 | 45=>111 | 5=>5 | 9=>9 | 51=>215 | 55=>219 | 57=>238 | 58=>95 | 33=>28 | n=>n,fun | n=>n⟩
theorem sortedA : SlLaysZI.n6 Tryz.prog sortedA_ren:={
 mixed:=by kernel_rfl
 f6 := ⟨"slices.Sorted[int]", by decide, Tryz.func23.trans (congrArg some (by kernel_rfl))⟩
 f8 := ⟨"slices.Collect[int]", by decide, Tryz.func40.trans (congrArg some (by kernel_rfl))⟩
 f11 := ⟨"slices.AppendSeq[[]int,int]", by decide, Tryz.func64.trans (congrArg some (by kernel_rfl))⟩
 t0:=Tryz.underlying0
 a0:=Tryz.isAgg0
 z0:=Tryz.sizeOf0
 v0:=Tryz.zeroValue0
 t24:=Tryz.underlying69
 a24:=Tryz.isAgg69
 z24:=Tryz.sizeOf69
 v24:=Tryz.zeroValue69
 t26:=Tryz.underlying3
 a26:=Tryz.isAgg3
 z26:=Tryz.sizeOf3
 v26:=Tryz.zeroValue3
 t28:=Tryz.underlying72
 a28:=Tryz.isAgg72
 z28:=Tryz.sizeOf72
 v28:=Tryz.zeroValue72
 i26:=by kernel_rfl }
def sortA_ren : Go.Shelf.Ren:=⟨fun | 5=>41 | 8=>66 | 7=>65 | 19=>109 | 20=>110 | 10=>100 | 11=>101 | 12=>102 | 13=>103 | 14=>104 | 15=>105 | 16=>106 | 17=>107 | 18=>108 | 30=>152 | 31=>153 | 32=>154 | 33=>155 | 34=>156 | 35=>131 | 40=>188 | n=>n,fun | 23=>69 | 25=>3 | 3=>3 | 32=>127 | 22=>69 | 0=>0 | 44=>171 | 46=>173 | 4=>4 | 36=>164 | 35=>163 | 41=>111 | 5=>5 | 9=>9 | 53=>215 | 57=>219 | 63=>238 | 64=>95 | n=>n,fun | n=>n⟩
theorem sortA : SlLaysM.n5 Tryz.prog sortA_ren:={
 mixed:=by kernel_rfl
 f5 := ⟨"slices.Sort[[]int,int]", by decide, Tryz.func41.trans (congrArg some (by kernel_rfl))⟩
 f7 := ⟨"slices.pdqsortOrdered[int]", by decide, Tryz.func65.trans (congrArg some (by kernel_rfl))⟩
 f8:=Tryz.func66.trans (congrArg some (by kernel_rfl))
 f10 := ⟨"slices.insertionSortOrdered[int]", by decide, Tryz.func100.trans (congrArg some (by kernel_rfl))⟩
 f11 := ⟨"slices.heapSortOrdered[int]", by decide, Tryz.func101.trans (congrArg some (by kernel_rfl))⟩
 f12 := ⟨"slices.breakPatternsOrdered[int]", by decide, Tryz.func102.trans (congrArg some (by kernel_rfl))⟩
 f13 := ⟨"slices.choosePivotOrdered[int]", by decide, Tryz.func103.trans (congrArg some (by kernel_rfl))⟩
 f14 := ⟨"slices.reverseRangeOrdered[int]", by decide, Tryz.func104.trans (congrArg some (by kernel_rfl))⟩
 f15 := ⟨"slices.partialInsertionSortOrdered[int]", by decide, Tryz.func105.trans (congrArg some (by kernel_rfl))⟩
 f16 := ⟨"cmp.Less[int]", by decide, Tryz.func106.trans (congrArg some (by kernel_rfl))⟩
 f17 := ⟨"slices.partitionEqualOrdered[int]", by decide, Tryz.func107.trans (congrArg some (by kernel_rfl))⟩
 f18 := ⟨"slices.partitionOrdered[int]", by decide, Tryz.func108.trans (congrArg some (by kernel_rfl))⟩
 f19:=Tryz.func109.trans (congrArg some (by kernel_rfl))
 f20:=Tryz.func110.trans (congrArg some (by kernel_rfl))
 f30 := ⟨"slices.siftDownOrdered[int]", by decide, Tryz.func152.trans (congrArg some (by kernel_rfl))⟩
 f31:=Tryz.func153.trans (congrArg some (by kernel_rfl))
 f32:=Tryz.func154.trans (congrArg some (by kernel_rfl))
 f33 := ⟨"slices.medianAdjacentOrdered[int]", by decide, Tryz.func155.trans (congrArg some (by kernel_rfl))⟩
 f34 := ⟨"slices.medianOrdered[int]", by decide, Tryz.func156.trans (congrArg some (by kernel_rfl))⟩
 f35 := ⟨"cmp.isNaN[int]", by decide, Tryz.func131.trans (congrArg some (by kernel_rfl))⟩
 f40 := ⟨"slices.order2Ordered[int]", by decide, Tryz.func188.trans (congrArg some (by kernel_rfl))⟩
 t0:=Tryz.underlying0
 a0:=Tryz.isAgg0
 z0:=Tryz.sizeOf0
 v0:=Tryz.zeroValue0
 t3:=Tryz.underlying3
 a3:=Tryz.isAgg3
 z3:=Tryz.sizeOf3
 v3:=Tryz.zeroValue3
 t4:=Tryz.underlying4
 a4:=Tryz.isAgg4
 z4:=Tryz.sizeOf4
 v4:=Tryz.zeroValue4
 t5:=Tryz.underlying5
 a5:=Tryz.isAgg5
 z5:=Tryz.sizeOf5
 v5:=Tryz.zeroValue5
 t9:=Tryz.underlying9
 a9:=Tryz.isAgg9
 z9:=Tryz.sizeOf9
 v9:=Tryz.zeroValue9
 t22:=Tryz.underlying69
 a22:=Tryz.isAgg69
 z22:=Tryz.sizeOf69
 v22:=Tryz.zeroValue69
 t23:=Tryz.underlying69
 a23:=Tryz.isAgg69
 z23:=Tryz.sizeOf69
 v23:=Tryz.zeroValue69
 t25:=Tryz.underlying3
 a25:=Tryz.isAgg3
 z25:=Tryz.sizeOf3
 v25:=Tryz.zeroValue3
 t32:=Tryz.underlying127
 a32:=Tryz.isAgg127
 z32:=Tryz.sizeOf127
 v32:=Tryz.zeroValue127
 t35:=Tryz.underlying163
 a35:=Tryz.isAgg163
 z35:=Tryz.sizeOf163
 v35:=Tryz.zeroValue163
 t36:=Tryz.underlying164
 a36:=Tryz.isAgg164
 z36:=Tryz.sizeOf164
 v36:=Tryz.zeroValue164
 t41:=Tryz.underlying111
 a41:=Tryz.isAgg111
 z41:=Tryz.sizeOf111
 v41:=Tryz.zeroValue111
 t44:=Tryz.underlying171
 a44:=Tryz.isAgg171
 z44:=Tryz.sizeOf171
 v44:=Tryz.zeroValue171
 t46:=Tryz.underlying173
 a46:=Tryz.isAgg173
 z46:=Tryz.sizeOf173
 v46:=Tryz.zeroValue173
 t53:=Tryz.underlying215
 a53:=Tryz.isAgg215
 z53:=Tryz.sizeOf215
 v53:=Tryz.zeroValue215
 t57:=Tryz.underlying219
 a57:=Tryz.isAgg219
 z57:=Tryz.sizeOf219
 v57:=Tryz.zeroValue219
 t63:=Tryz.underlying238
 a63:=Tryz.isAgg238
 z63:=Tryz.sizeOf238
 v63:=Tryz.zeroValue238
 t64:=Tryz.underlying95
 a64:=Tryz.isAgg95
 z64:=Tryz.sizeOf95
 v64:=Tryz.zeroValue95 }
theorem sortsA (m : Nat) : AnyZI.SortsIn Tryz.prog sortedA_ren Fence.wide m:=
  ⟨fun blk off cap ss W hH hblk hsz=>callsIn_wide.2 (AnyM.slices_Sort_int sortA blk off cap ss W hH hblk hsz),
   fun p cap W=>callsIn_wide.2 (AnyM.slices_Sort_int_none sortA p cap W)⟩
end Go.Proofs.YtkmhnaojgkcjoaaGreatDoor.K19
namespace Go.Proofs.YtkmhnaojgkcjoaaGreatDoor.K19
open Go Dw Go.Proofs Go.RowKit Go.Maps Go.Sort Go.Shelf
set_option maxRecDepth 100000 in
set_option maxHeartbeats 1000000 in
theorem keysIn42 {H : Type} (n : Nat) (hn : 1 ≤ n) (l Bm Bo b nn : Nat) (D0 : DataW H) {R : Value → Option (DataW H × List MemPlace)} (J : List Int → World → Prop)
  (hY : ∀ pre x W,J pre W → pre.length < Maps.size D0 → YieldAt Fence.wide (n - 1) Tryz.prog l #[encZ x] W fun e W'=>e = .returned (.bool true) ∧ J (pre ++ [x]) W' ∧ KeepsWalks W W')
  (W : World) (hJ : AbidesFrom W.heap.size J) (hm : W.cell? ⟨Bm,Bo,none⟩ = some (.map (some b))) (hown : W.ownsMap Tryz.prog 3 R b nn D0) (h0 : J [] W) :
  CallsIn Fence.wide n Tryz.prog 42 #[.func (.yield l) #[] #[],.pointer (some ⟨Bm,Bo,none⟩)] W fun e W'=>(∃ v,e = .returned v) ∧ ∃ ss : List Int,ss.Perm (intKeys D0) ∧ J ss W':=by
 have hfF : Fence.wide.fn 42:=trivial
 have k3:=int_keyed Tryz.underlying3
 refine callsIn_of_wp Tryz.func42 rfl trivial ?_ rfl
 simp only [Tryz.ntmps42,List.size_toArray,List.length_cons,List.length_nil,Nat.reduceAdd,Nat.reduceSub,Array.replicate_succ,Array.replicate_zero,List.push_toArray,List.append_toArray,List.nil_append,List.cons_append]
 gi_wp2_with (first
 | (gi_at_range;refine wpListIn_range_own _ rfl _ 64 rfl 3 3 k3 Tryz.underlying64 _ b nn _ rfl hown ?_;intro w0 hrg0 hg0 hs0)
  )
 go_frame
 gi_loopw [3] (fun _ wr=>∃ (left : Lit → Bool) (cnt : Nat) (ss : List Int),wr.ranges Tryz.prog 3 R b W.heap.size nn D0 left cnt ∧ ss.length + cnt ≤ Maps.size D0 ∧ CollectedI D0 left ss ∧ J ss wr)
  (fun _ wr=>wr.rangeLeft b W.heap.size)
 case atStart=>
  exact ⟨_,_,[],hrg0,by simp,CollectedI.start D0,hJ [] W w0 none h0 hg0 (fun r e=>by cases e)⟩
 case round=>
  obtain ⟨left,cnt,ss,hrg,hcs,hC,hJs⟩:=hrel
  gi_wp2_with (first
 | (gi_at_next;refine wpListIn_next_ranges _ rfl _ rfl 3 k3 R encZ id (fun key kl hk=>by obtain ⟨x,hx,_⟩:=Maps.keyOf_i64 Tryz.underlying3 hk;exact ⟨x,hx⟩) (fun v _ _=>⟨v,rfl⟩) b W.heap.size nn _ _ _ rfl hrg ?_ ?_)
   )
  ·intro hc0 hl0
   gi_wp2
   go_end0
   exact ⟨⟨_,rfl⟩,ss,hC.perm hown k3 Tryz.underlying3 hl0,hJs⟩
  ·intro x c kl yd yp w2 cnt2 hkey hlk hv hat hrg2 hlt hg2 hs2 hen
   obtain ⟨x', ex, rfl, _⟩ := Maps.keyOf_i64 Tryz.underlying3 hkey
   obtain rfl : x = x':=encZ_inj ex
   have hJ2 : J ss w2:=hJ ss wr w2 (some W.heap.size) hJs hg2 (fun r e=>by cases e;exact ⟨Nat.le_refl _,hrg.iter_walk⟩)
   obtain ⟨fn,tmps,assign,body,hy,hR⟩:=hY ss x w2 hJ2 (by omega)
   clear hs2
   gi_wp2
   refine hR.mono ?_
   rintro e W3 ⟨rfl,hJ3,hk3⟩
   gi_wp2
   have hrg3:=hrg2.of_walks hk3
   go_roundw
   case rel=>exact ⟨_,cnt2,ss ++ [x],hrg3,by simp;omega,hC.step hlk hat,hJ3⟩
   case measure=>rw [hrg3.left_eq,hrg.left_eq];exact hlt
set_option maxRecDepth 100000 in
set_option maxHeartbeats 1000000 in
theorem keysIn53 {H : Type} (n : Nat) (hn : 1 ≤ n) (l Bm Bo b nn : Nat) (D0 : DataW H) {R : Value → Option (DataW H × List MemPlace)} (J : List Int → World → Prop)
  (hY : ∀ pre x W,J pre W → pre.length < Maps.size D0 → YieldAt Fence.wide (n - 1) Tryz.prog l #[encZ x] W fun e W'=>e = .returned (.bool true) ∧ J (pre ++ [x]) W' ∧ KeepsWalks W W')
  (W : World) (hJ : AbidesFrom W.heap.size J) (hm : W.cell? ⟨Bm,Bo,none⟩ = some (.map (some b))) (hown : W.ownsMap Tryz.prog 3 R b nn D0) (h0 : J [] W) :
  CallsIn Fence.wide n Tryz.prog 53 #[.func (.yield l) #[] #[],.pointer (some ⟨Bm,Bo,none⟩)] W fun e W'=>(∃ v,e = .returned v) ∧ ∃ ss : List Int,ss.Perm (intKeys D0) ∧ J ss W':=by
 have hfF : Fence.wide.fn 53:=trivial
 have k3:=int_keyed Tryz.underlying3
 refine callsIn_of_wp Tryz.func53 rfl trivial ?_ rfl
 simp only [Tryz.ntmps53,List.size_toArray,List.length_cons,List.length_nil,Nat.reduceAdd,Nat.reduceSub,Array.replicate_succ,Array.replicate_zero,List.push_toArray,List.append_toArray,List.nil_append,List.cons_append]
 gi_wp2_with (first
 | (gi_at_range;refine wpListIn_range_own _ rfl _ 88 rfl 3 4 k3 Tryz.underlying88 _ b nn _ rfl hown ?_;intro w0 hrg0 hg0 hs0)
  )
 go_frame
 gi_loopw [3] (fun _ wr=>∃ (left : Lit → Bool) (cnt : Nat) (ss : List Int),wr.ranges Tryz.prog 3 R b W.heap.size nn D0 left cnt ∧ ss.length + cnt ≤ Maps.size D0 ∧ CollectedI D0 left ss ∧ J ss wr)
  (fun _ wr=>wr.rangeLeft b W.heap.size)
 case atStart=>
  exact ⟨_,_,[],hrg0,by simp,CollectedI.start D0,hJ [] W w0 none h0 hg0 (fun r e=>by cases e)⟩
 case round=>
  obtain ⟨left,cnt,ss,hrg,hcs,hC,hJs⟩:=hrel
  gi_wp2_with (first
 | (gi_at_next;refine wpListIn_next_ranges _ rfl _ rfl 3 k3 R encZ id (fun key kl hk=>by obtain ⟨x,hx,_⟩:=Maps.keyOf_i64 Tryz.underlying3 hk;exact ⟨x,hx⟩) (fun v _ _=>⟨v,rfl⟩) b W.heap.size nn _ _ _ rfl hrg ?_ ?_)
   )
  ·intro hc0 hl0
   gi_wp2
   go_end0
   exact ⟨⟨_,rfl⟩,ss,hC.perm hown k3 Tryz.underlying3 hl0,hJs⟩
  ·intro x c kl yd yp w2 cnt2 hkey hlk hv hat hrg2 hlt hg2 hs2 hen
   obtain ⟨x', ex, rfl, _⟩ := Maps.keyOf_i64 Tryz.underlying3 hkey
   obtain rfl : x = x':=encZ_inj ex
   have hJ2 : J ss w2:=hJ ss wr w2 (some W.heap.size) hJs hg2 (fun r e=>by cases e;exact ⟨Nat.le_refl _,hrg.iter_walk⟩)
   obtain ⟨fn,tmps,assign,body,hy,hR⟩:=hY ss x w2 hJ2 (by omega)
   clear hs2
   gi_wp2
   refine hR.mono ?_
   rintro e W3 ⟨rfl,hJ3,hk3⟩
   gi_wp2
   have hrg3:=hrg2.of_walks hk3
   go_roundw
   case rel=>exact ⟨_,cnt2,ss ++ [x],hrg3,by simp;omega,hC.step hlk hat,hJ3⟩
   case measure=>rw [hrg3.left_eq,hrg.left_eq];exact hlt
def srt (l : List Int) : List Int:=l.mergeSort (fun x y=>decide (x ≤ y))
theorem srt_perm {l m : List Int} (h : l.Perm m) : srt l = srt m:=by
 have p : (srt l).Perm (srt m):=((List.mergeSort_perm l _).trans h).trans (List.mergeSort_perm m _).symm
 refine List.Perm.eq_of_pairwise (le:=fun a b=>a ≤ b) (fun a b _ _ h1 h2=>Int.le_antisymm h1 h2) ?_ ?_ p
 ·have:=List.pairwise_mergeSort (le:=fun x y : Int=>decide (x ≤ y)) (fun a b c h1 h2=>by simp at *;omega) (fun a b=>by simp;omega) l
  exact this.imp (fun h=>by simpa using h)
 ·have:=List.pairwise_mergeSort (le:=fun x y : Int=>decide (x ≤ y)) (fun a b c h1 h2=>by simp at *;omega) (fun a b=>by simp;omega) m
  exact this.imp (fun h=>by simpa using h)
theorem srt_length (l : List Int) : (srt l).length = l.length:=List.length_mergeSort l
def anyElem (H : Type) : Value → Option (DataW H × List MemPlace):=fun _=>some (.agg [],[])
theorem owns_of {P : Program} {w : World} {b : Nat} {es : Array MapEntry} {L : List (Int × D)} (u3 : P.underlying 3 = some (.int .i64)) (hb : w.heap[b]? = some (.map es es.size)) (hE : EntsAt (D.int .i64) es.toList L) (hbn : ∀ (i : Nat) (x : MapEntry),es[i]? = some x → x.born = i)
  (hn : (L.map (·.1)).Nodup) (hwf : ∀ p ∈ L,(Lit.int .i64 p.1).wf = true) (hl : L.length ≤ maxLen) :
  ∃ D0 : DataW Unit,w.ownsMap P 3 (anyElem Unit) b es.size D0 ∧ (intKeys D0).Perm (L.map (·.1)) ∧ Maps.size D0 = L.length:=by
 have hsz : es.size = L.length:=by rw [← hE.1,Array.length_toList]
 have hkeys : es.toList.map (·.key) = (L.map (·.1)).map (Value.int .i64):=by
  refine List.ext_getElem? fun i=>?_
  rw [List.getElem?_map,List.getElem?_map,List.getElem?_map]
  rcases Nat.lt_or_ge i es.toList.length with hi | hi
  ·have hi2 : i < L.length:=by rw [← hE.1];exact hi
   rw [List.getElem?_eq_getElem hi,List.getElem?_eq_getElem hi2]
   obtain ⟨h1,_⟩:=hE.2 i _ _ (List.getElem?_eq_getElem hi) (List.getElem?_eq_getElem hi2)
   rw [Option.map_some,Option.map_some,Option.map_some,h1];rfl
  ·rw [List.getElem?_eq_none hi,List.getElem?_eq_none (by rw [← hE.1];exact hi)];rfl
 have hborn : es.toList.map (·.born) = List.range es.size:=by
  refine List.ext_getElem? fun i=>?_
  rw [List.getElem?_map]
  rcases Nat.lt_or_ge i es.size with hi | hi
  ·rw [Array.getElem?_toList,Array.getElem?_eq_getElem hi,List.getElem?_range hi,Option.map_some,hbn i _ (Array.getElem?_eq_getElem hi)]
  ·rw [Array.getElem?_toList,Array.getElem?_eq_none hi,List.getElem?_eq_none (by simpa using hi)];rfl
 have hst : Go.MapKept.Stamped es es.size:=by
  refine ⟨fun x hx=>?_,by rw [hborn];exact List.nodup_range,?_⟩
  ·have : x.born ∈ es.toList.map (·.born):=List.mem_map.2 ⟨x,hx,rfl⟩
   rw [hborn] at this
   exact List.mem_range.1 this
  ·rw [hkeys]
   exact (List.pairwise_map.2 (List.Pairwise.imp (fun h e=>h (by simpa using e)) hn))
 have hrd : ∀ x ∈ es.toList,∃ y : Lit × DataW Unit,Go.WideElems.rd P 3 (anyElem Unit) x = some y ∧ Go.intOf y.1 = (match x.key with | .int _ n=>n | _=>0):=by
  intro x hx
  obtain ⟨i,hi⟩:=List.mem_iff_getElem?.1 hx
  have hi2 : i < L.length:=by rw [← hE.1];exact (List.getElem?_eq_some_iff.1 hi).1
  obtain ⟨h1,_⟩:=hE.2 i x _ hi (List.getElem?_eq_getElem hi2)
  replace h1 : x.key = Value.int .i64 L[i].1:=h1
  have hk:=Go.Maps.keyOf_int_mk u3 (hwf _ (List.getElem_mem hi2))
  refine ⟨(.int .i64 L[i].1,.agg []),?_,?_⟩
  ·simp [Go.WideElems.rd,h1,hk,anyElem]
  ·simp [h1,Go.intOf]
 have hF : Go.WideElems.Fit P 3 (anyElem Unit) es es.size:=⟨by omega,hst,fun x hx=>by obtain ⟨y,h,_⟩:=hrd x hx;exact ⟨y,h⟩⟩
 refine ⟨_,⟨es,es.size,hb,hF,Nat.le_refl _,rfl⟩,?_,?_⟩
 ·simp only [intKeys]
  refine ((Go.WideShapes.sorted_perm _).map _).trans ?_
  rw [List.map_map]
  have : es.toList.map ((fun p : Lit × DataW Unit=>Go.intOf p.1) ∘ Go.WideElems.rg P 3 (anyElem Unit)) = L.map (·.1):=by
   have e1 : es.toList.map ((fun p : Lit × DataW Unit=>Go.intOf p.1) ∘ Go.WideElems.rg P 3 (anyElem Unit)) = (es.toList.map (·.key)).map (fun k=>match k with | .int _ n=>n | _=>0):=by
    rw [List.map_map]
    refine List.map_congr_left fun x hx=>?_
    obtain ⟨y,h,h2⟩:=hrd x hx
    simp only [Function.comp]
    rw [Go.WideElems.rg_of h,h2]
   rw [e1,hkeys,List.map_map]
   exact List.map_id' _ |>.symm ▸ (by simp [Function.comp_def])
  rw [this]
 ·simp only [Maps.size]
  rw [(Go.WideShapes.sorted_perm _).length_eq,List.length_map,Array.length_toList,hsz]
set_option maxRecDepth 100000
theorem enters23 : ∀ vs w,(callFunc 23 vs).run Tryz.prog w = .ok (.enter 23 vs) w:=enters_of Tryz.func23 (by kernel_rfl) rfl
theorem enters41 : ∀ vs w,(callFunc 41 vs).run Tryz.prog w = .ok (.enter 41 vs) w:=enters_of Tryz.func41 (by kernel_rfl) rfl
theorem enters42 : ∀ vs w,(callFunc 42 vs).run Tryz.prog w = .ok (.enter 42 vs) w:=enters_of Tryz.func42 (by kernel_rfl) rfl
theorem enters53 : ∀ vs w,(callFunc 53 vs).run Tryz.prog w = .ok (.enter 53 vs) w:=enters_of Tryz.func53 (by kernel_rfl) rfl
theorem run_keys {g : Nat} (hk : ∀ (l Bm Bo b nn : Nat) (D0 : DataW Unit) (J : List Int → World → Prop), (∀ pre x W, J pre W → pre.length < Maps.size D0 → YieldAt Fence.wide 1 Tryz.prog l #[encZ x] W fun e W' => e = .returned (.bool true) ∧ J (pre ++ [x]) W' ∧ KeepsWalks W W') →
      ∀ (W : World),AbidesFrom W.heap.size J → W.cell? ⟨Bm,Bo,none⟩ = some (.map (some b)) → W.ownsMap Tryz.prog 3 (anyElem Unit) b nn D0 → J [] W →
      CallsIn Fence.wide 2 Tryz.prog g #[.func (.yield l) #[] #[],.pointer (some ⟨Bm,Bo,none⟩)] W fun e W'=>(∃ v,e = .returned v) ∧ ∃ ss : List Int,ss.Perm (intKeys D0) ∧ J ss W')
    (he : ∀ args w,(callFunc g args).run Tryz.prog w = .ok (.enter g args) w) (L : List (Int × D)) (hL : ∀ p ∈ L,scalD p.2 = true) (hn : (L.map (·.1)).Nodup) (hwf : ∀ p ∈ L,(Lit.int .i64 p.1).wf = true) (hl : L.length ≤ 1000000) :
    Run Tryz.prog 23 [.fn g [] [.ptr 0 0 0]] [⟨[.mp 1],1,0⟩,⟨L.map (entA .i64),1,3⟩] (.sl 2 0 L.length 1 none) [⟨[.mp 1],1,0⟩,⟨L.map (entA .i64),1,3⟩,⟨(srt (L.map (·.1))).map (fun n=>.d (.int .i64 n)),1,0⟩]:=by
  have hlen : L.length = (srt (L.map (·.1))).length:=by rw [srt_length,List.length_map]
  rw [hlen]
  refine run_sortedKeys (e:=3) hL (srt (L.map (·.1))) enters23 (fun w Bm Bo b es h1 h2 h3 h4 h5=>?_)
  obtain ⟨D0,d1,d2,d3⟩:=owns_of Tryz.underlying3 h1 h2 h3 hn hwf (show L.length ≤ maxLen by unfold maxLen;omega)
  refine (callsIn_wide (n:=5)).1 ?_
  have hbl:=d1.lt
  have hseq : SeqGives Fence.wide 2 Tryz.prog g #[.pointer (some ⟨Bm,Bo,none⟩)] encZ (fun ss=>ss.Perm (intKeys D0)) (Maps.size D0) w:=fun l J W hW hJ hY h0=>by
    refine hk l Bm Bo b es.size D0 J hY W hJ ((hW.cell (p:=⟨Bm,Bo,none⟩) h4).trans h5) ?_ h0
    obtain ⟨es', clock, hb, Ft, hs, hD⟩ := d1
    exact ⟨es', clock, (hW.block b hbl).trans hb, Ft, hs, hD⟩
  have cS:=AnyZI.sorted_in sortedA Fence.wide 5 trivial trivial trivial trivial rfl (by omega) (sortsA _) enters41 g #[.pointer (some ⟨Bm,Bo,none⟩)] trivial he _ (Maps.size D0) (by rw [d3];unfold maxLen;omega) (by rw [d3];omega) w hseq
  refine cS.mono ?_
  rintro e w' ⟨v,ss,rfl,hp,hrow,_,hb⟩
  have hss : ss.mergeSort (fun x y=>decide (x ≤ y)) = srt (L.map (·.1)):=srt_perm (hp.trans d2)
  have hll : ss.length = (srt (L.map (·.1))).length:=by rw [← hss,List.length_mergeSort]
  rw [hss,hll] at hrow
  exact ⟨v,rfl,hrow,hb⟩
theorem run_keys94 (L : List (Int × D)) (hL : ∀ p ∈ L,scalD p.2 = true) (hn : (L.map (·.1)).Nodup) (hwf : ∀ p ∈ L,(Lit.int .i64 p.1).wf = true) (hl : L.length ≤ 1000000) :
  Run Tryz.prog 23 [.fn 42 [] [.ptr 0 0 0]] [⟨[.mp 1],1,0⟩,⟨L.map (entA .i64),1,3⟩] (.sl 2 0 L.length 1 none) [⟨[.mp 1],1,0⟩,⟨L.map (entA .i64),1,3⟩,⟨(srt (L.map (·.1))).map (fun n=>.d (.int .i64 n)),1,0⟩]:=
 run_keys (fun l Bm Bo b nn D0 J hY W hJ hm ho h0=>keysIn42 2 (by omega) l Bm Bo b nn D0 J hY W hJ hm ho h0) enters42 L hL hn hwf hl
theorem run_keys96 (L : List (Int × D)) (hL : ∀ p ∈ L,scalD p.2 = true) (hn : (L.map (·.1)).Nodup) (hwf : ∀ p ∈ L,(Lit.int .i64 p.1).wf = true) (hl : L.length ≤ 1000000) :
  Run Tryz.prog 23 [.fn 53 [] [.ptr 0 0 0]] [⟨[.mp 1],1,0⟩,⟨L.map (entA .i64),1,3⟩] (.sl 2 0 L.length 1 none) [⟨[.mp 1],1,0⟩,⟨L.map (entA .i64),1,3⟩,⟨(srt (L.map (·.1))).map (fun n=>.d (.int .i64 n)),1,0⟩]:=
 run_keys (fun l Bm Bo b nn D0 J hY W hJ hm ho h0=>keysIn53 2 (by omega) l Bm Bo b nn D0 J hY W hJ hm ho h0) enters53 L hL hn hwf hl
#print axioms run_keys96
end Go.Proofs.YtkmhnaojgkcjoaaGreatDoor.K19
namespace Go.Proofs.YtkmhnaojgkcjoaaGreatDoor.K19
open Go Dw
set_option maxRecDepth 100000
def iget : List (Int × Int) → Int → Int
 | [],_=>0
 | p :: l,n=>if n = p.1 then p.2 else iget l n
def iput : List (Int × Int) → Int → Int → List (Int × Int)
 | [],n,v=>[(n,v)]
 | p :: l,n,v=>if n = p.1 then (n,v) :: l else p :: iput l n v
def jmap (L : List (Int × Int)) : List (Int × D):=L.map (fun p=>(p.1,i p.2))
def eD (p : Int × Int) : D:=.agg [i p.1,i p.2]
def imap (L : List (Int × Int)) : List AV:=(L.map eD).map .d
def mO (L : List (Int × Int)) : AO:=⟨imap L,1,3⟩
def bO (b : Nat) : AO:=⟨[.mp b],1,0⟩
theorem jmap_ent (L : List (Int × Int)) : (jmap L).map (entA .i64) = imap L:=by
 unfold jmap imap
 rw [List.map_map,List.map_map];rfl
theorem jmap_scal (L : List (Int × Int)) : ∀ p ∈ jmap L,scalD p.2 = true:=by
 intro p hp
 obtain ⟨q,_,rfl⟩:=List.mem_map.1 hp
 rfl
theorem mget_j (n : Int) : ∀ (L : List (Int × Int)),mget (D.int .i64 0) (jmap L) n = D.int .i64 (iget L n)
 | []=>rfl
 | p :: L=>by
  show (if n = p.1 then i p.2 else mget (i 0) (jmap L) n) = i (if n = p.1 then p.2 else iget L n)
  rw [mget_j n L];split<;>rfl
theorem mput_j (n v : Int) : ∀ (L : List (Int × Int)),mput (jmap L) n (i v) = jmap (iput L n v)
 | []=>rfl
 | p :: L=>by
  show (if n = p.1 then (n,i v) :: jmap L else (p.1,i p.2) :: mput (jmap L) n (i v)) = jmap (if n = p.1 then (n,v) :: L else p :: iput L n v)
  rw [mput_j n v L];split<;>rfl
theorem ents_go {l : List AV} {L : List (Int × Int)} {K : List (Int × D) → Prop} (hl : l = imap L) (h : K (jmap L)) : entsK .i64 l K:=by
 subst hl
 rw [← jmap_ent]
 exact entsK_of (jmap_scal L) h
theorem mput_i (L : List (Int × Int)) (n v : Int) : (mput (jmap L) n (i v)).map (entA .i64) = imap (iput L n v):=by rw [mput_j,jmap_ent]
theorem mput_d (L : List (Int × Int)) (n v : Int) : (mput (jmap L) n (D.int .i64 v)).map (entA .i64) = ((iput L n v).map eD).map .d:=mput_i L n v
theorem wrap_any {k : IntKind} {x : Int} {K : Int → Prop} (h : K (k.wrap x)) : wrapK k x K:=by rw [wrapK_eq];exact h
def filE (f : Fil) : Int:=firstE [whoE f.who,numE f.bytes]
def addW (L : List (Int × Int)) (f : Fil) : List (Int × Int):=iput L f.who (IntKind.i64.wrap (iget L f.who + f.bytes))
def eF : List Fil → Nat → Int × Int
 | [],_=>(0,0)
 | f :: l,k=>if filE f = 0 then eF l (k + 1) else (k,filE f)
def upto : List Fil → List (Int × Int) → List (Int × Int)
 | [],L=>L
 | f :: l,L=>if filE f = 0 then upto l (addW L f) else addW L f
theorem eF_drop {l : List Fil} {k : Nat} (h : k < l.length) : eF (l.drop k) k = if filE l[k] = 0 then eF (l.drop (k + 1)) (k + 1) else (k,filE l[k]):=by
 rw [List.drop_eq_getElem_cons h];rfl
theorem eF_end {l : List Fil} {k : Nat} (h : ¬ k < l.length) : eF (l.drop k) k = (0,0):=by
 rw [List.drop_eq_nil_of_le (by omega)];rfl
theorem upto_drop {l : List Fil} {k : Nat} (h : k < l.length) (L : List (Int × Int)) : upto (l.drop k) L = if filE l[k] = 0 then upto (l.drop (k + 1)) (addW L l[k]) else addW L l[k]:=by
 rw [List.drop_eq_getElem_cons h];rfl
theorem upto_end {l : List Fil} {k : Nat} (h : ¬ k < l.length) (L : List (Int × Int)) : upto (l.drop k) L = L:=by
 rw [List.drop_eq_nil_of_le (by omega)];rfl
def ikeys (L : List (Int × Int)) : List Int:=L.map (·.1)
def mkO (L : List (Int × Int)) (w : Int) : Own:={ newO w with used:=iget L w }
def bigK (L : List (Int × Int)) (l : List Int) : Bool:=l.any (fun w=>decide (2147483647 < iget L w))
def sumsQ (l : List Fil) : Quo × Int:=
 if 100 < l.length then (emp,8)
 else if ¬ (eF l 0).2 = 0 then (emp,(eF l 0).2)
 else if 30 < (upto l []).length then (emp,16)
 else if bigK (upto l []) (srt (ikeys (upto l []))) = true then (emp,8)
 else (⟨(srt (ikeys (upto l []))).map (mkO (upto l [])),true⟩,0)
theorem iput_keys (n v : Int) : ∀ (L : List (Int × Int)),ikeys (iput L n v) = if n ∈ ikeys L then ikeys L else ikeys L ++ [n]
 | []=>by simp [iput,ikeys]
 | p :: L=>by
  have ih:=iput_keys n v L
  unfold ikeys at *
  simp only [iput]
  by_cases h : n = p.1
  ·simp [h]
  ·rw [if_neg h,List.map_cons,ih]
   by_cases h2 : n ∈ L.map (·.1)
   ·rw [if_pos h2,if_pos (by simp only [List.map_cons,List.mem_cons];exact .inr h2)];rfl
   ·rw [if_neg h2,if_neg (by simp only [List.map_cons,List.mem_cons,not_or];exact ⟨h,h2⟩)];rfl
theorem iput_nodup {n v : Int} {L : List (Int × Int)} (h : (ikeys L).Nodup) : (ikeys (iput L n v)).Nodup:=by
 rw [iput_keys]
 split
 ·exact h
 ·rename_i hn
  refine List.nodup_append.2 ⟨h,by simp,fun a ha b hb e=>?_⟩
  simp only [List.mem_singleton] at hb
  subst hb;subst e;exact hn ha
theorem iput_len (n v : Int) (L : List (Int × Int)) : (iput L n v).length ≤ L.length + 1:=by
 have h:=congrArg List.length (iput_keys n v L)
 unfold ikeys at h
 rw [List.length_map] at h
 rw [h];split<;>simp
theorem upto_nodup : ∀ (l : List Fil) (L : List (Int × Int)),(ikeys L).Nodup → (ikeys (upto l L)).Nodup
 | [],L,h=>h
 | f :: l,L,h=>by
  simp only [upto];split
  ·exact upto_nodup l _ (iput_nodup h)
  ·exact iput_nodup h
theorem upto_len : ∀ (l : List Fil) (L : List (Int × Int)),(upto l L).length ≤ L.length + l.length
 | [],L=>Nat.le_refl _
 | f :: l,L=>by
  have h1:=iput_len f.who (IntKind.i64.wrap (iget L f.who + f.bytes)) L
  simp only [upto];split
  ·have:=upto_len l (addW L f)
   simp only [List.length_cons]
   unfold addW at *
   omega
  ·simp only [List.length_cons];unfold addW;omega
theorem whoE_0 {n : Int} (h : whoE n = 0) : 0 ≤ n ∧ n ≤ 999:=by
 unfold whoE within at h
 simp at h
 omega
theorem filE_0 {f : Fil} (h : filE f = 0) : whoE f.who = 0 ∧ 0 ≤ f.bytes ∧ f.bytes ≤ 2147483647:=by
 unfold filE at h
 rw [firstE_z] at h
 exact ⟨h _ (by simp),numE_iff.1 (h (numE f.bytes) (by simp))⟩
theorem eF_ok : ∀ (l : List Fil) (k : Nat),(eF l k).2 = 0 → ∀ f ∈ l,filE f = 0
 | [],_,_,f,hf=>by cases hf
 | g :: l,k,h,f,hf=>by
  simp only [eF] at h
  split at h
  ·rename_i h0
   rcases List.mem_cons.1 hf with rfl | hf
   ·exact h0
   ·exact eF_ok l _ h f hf
  ·rename_i h0;exact absurd h h0
theorem upto_keys : ∀ (l : List Fil) (L : List (Int × Int)),(∀ f ∈ l,filE f = 0) → ∀ n ∈ ikeys (upto l L),n ∈ ikeys L ∨ ∃ f ∈ l,f.who = n
 | [],L,_,n,hn=>.inl hn
 | f :: l,L,h,n,hn=>by
  simp only [upto,h f (by simp),if_true] at hn
  rcases upto_keys l _ (fun g hg=>h g (by simp [hg])) n hn with hn | ⟨g,hg,e⟩
  ·unfold addW at hn
   rw [iput_keys] at hn
   split at hn
   ·exact .inl hn
   ·rcases List.mem_append.1 hn with hn | hn
    ·exact .inl hn
    ·exact .inr ⟨f,by simp,by simpa using (List.mem_singleton.1 hn).symm⟩
  ·exact .inr ⟨g,by simp [hg],e⟩
theorem jmap_keys (L : List (Int × Int)) : (jmap L).map (·.1) = ikeys L:=by
 unfold jmap ikeys
 rw [List.map_map];rfl
theorem c72_94 (l : List Fil) (hl : l.length ≤ 1000) (h : (eF l 0).2 = 0) :
  Run Tryz.prog 23 [.fn 42 [] [.ptr 0 0 0]] [bO 1,mO (upto l [])] (.sl 2 0 (upto l []).length 1 none) [bO 1,mO (upto l []),⟨((srt (ikeys (upto l []))).map i).map .d,1,0⟩]:=by
 have hr:=run_keys94 (jmap (upto l [])) (jmap_scal _) (by rw [jmap_keys];exact upto_nodup l [] (by simp [ikeys])) (fun p hp=>by
  have hk : p.1 ∈ ikeys (upto l []):=by rw [← jmap_keys];exact List.mem_map.2 ⟨p,hp,rfl⟩
  rcases upto_keys l [] (eF_ok l 0 h) _ hk with hk | ⟨f,hf,e⟩
  ·simp [ikeys] at hk
  ·have:=whoE_0 (filE_0 (eF_ok l 0 h f hf)).1
   rw [e] at this
   simp only [Lit.wf]
   simp [IntKind.min,IntKind.max,IntKind.bits,IntKind.signed]
   omega) (by unfold jmap;rw [List.length_map];have:=upto_len l [];simp at this;omega)
 rw [jmap_ent,jmap_keys] at hr
 unfold jmap at hr
 rw [List.length_map] at hr
 unfold mO bO
 rw [List.map_map]
 exact hr
end Go.Proofs.YtkmhnaojgkcjoaaGreatDoor.K19
namespace Go.Proofs.YtkmhnaojgkcjoaaGreatDoor.K19
open Go Dw
set_option maxRecDepth 10000
attribute [local irreducible] Run
set_option maxHeartbeats 4000000
attribute [local irreducible] oE checkQ cnt isR ownR withR bsR fullQ put1 chg rls mov limErr limF actE doA resQ aftQ whoE limE numE goMin actErr movErr filE iget iput upto eF srt mget mput
theorem c19 (L : List (Int × Int)) (k : Nat) (f : Fil) : Run Tryz.prog 19 [.d (i k),.d f.enc,.ptr 0 0 0] [bO 1,mO L] (.d (i (filE f))) [bO 1,mO (addW L f)]:=by
 refine run_walkV eok Tryz.func19 rfl (by kernel_rfl) [0,1] (by rfl) [] ?_
 conv=>whnf
 repeat' (first
 | ((refine ents_go (by first | rfl ) ?_);conv=>whnf)
 | (refine wrap_any ?_;conv=>whnf)
 | (rw [mget_j];conv=>whnf)
 | ((with_reducible refine call_go ?_);(first | refine call_step (run_view (c21 _) rfl rfl) ?_ | refine call_step (run_view (c22 _) rfl rfl) ?_ | refine call_step (run_view (c20 [_,_] (by simp)) rfl rfl) ?_ );conv=>whnf)
 | (refine ⟨[],[(4,2)],(by decide +kernel),?_⟩;conv=>whnf)
 | ((with_reducible refine endx_go ?_);first | (refine endX_of (.inl ⟨[.old 0,.old 1],rfl,rfl,⟨(by show (_ : D) = _;unfold filE;rfl),trivial⟩,⟨⟨rfl,rfl,.inr ⟨rfl,trivial⟩⟩,⟨rfl,rfl,.inl ⟨_,mput_d _ _ _,rfl⟩⟩,trivial⟩⟩);done))
 | (refine ⟨rfl,?_⟩;conv=>whnf)
  | fail
  )
theorem c19at (L : List (Int × Int)) (k : Nat) (f : Fil) {H : Heap} {a b : Nat} (h1 : H[a]? = some (bO b)) (h2 : H[b]? = some (mO L)) (hab : a ≠ b) {x : AV} (hv : view 8 H x = some f.enc) (hr : reach 8 H x = []) :
  Run Tryz.prog 19 [.d (i k),x,.ptr a 0 0] H (.d (i (filE f))) (H.set b (mO (addW L f))):=by
 refine run_at (σ:=[a,b]) (F:=[]) (fl:=true) (c19 L k f) ?_ (fun _ h=>by cases h) ⟨⟨rfl,fun id hid=>by simp [reach] at hid⟩,⟨hv,fun id hid=>by rw [hr] at hid;cases hid⟩,⟨rfl,rfl,rfl⟩,trivial⟩ ?_ (fun _=>⟨rfl,fun o ho=>?_⟩) rfl ?_
 ·simp [hab]
 ·refine ⟨(nthK_iff _ _).2 ⟨_,h1,rfl,rfl,.inr ⟨rfl,trivial⟩⟩,(nthK_iff _ _).2 ⟨_,h2,rfl,rfl,.inl ⟨_,rfl,rfl⟩⟩,trivial⟩
 ·simp only [List.mem_cons,List.not_mem_nil,or_false] at ho
  rcases ho with rfl | rfl
  ·exact ⟨rfl,Nat.zero_ne_one⟩
  ·exact ⟨flats_map _ (fun x hx=>by obtain ⟨p,_,rfl⟩:=List.mem_map.1 hx;rfl),by show (3 : Nat) ≠ 1;omega⟩
 ·have e1 : renO (tau [a,b] H.length) (bO 1) = bO b:=rfl
  have e2 : renO (tau [a,b] H.length) (mO (addW L f)) = mO (addW L f):=by show AO.mk _ _ _ = _;rw [show rens (tau [a,b] H.length) (mO (addW L f)).elems = (mO (addW L f)).elems from rens_D _ _]
  simp only [outH,List.map_cons,List.map_nil,e1,e2,setAll,List.length_cons,List.length_nil,List.drop_succ_cons,List.drop_zero,List.append_nil,if_true]
  have e3 : H.set a (bO b) = H:=by
   obtain ⟨hl,he⟩:=List.getElem?_eq_some_iff.1 h1
   rw [← he];exact List.set_getElem_self hl
  rw [e3]
theorem c18 (l : List Fil) (hl : l.length < 1000) : Run Tryz.prog 18 [.d (.fs (l.map Fil.enc)),.fn 19 [] [.ptr 0 0 0]] [bO 1,mO []] (.tup [.d (i (eF l 0).1),.d (i (eF l 0).2)]) [bO 1,mO (upto l [])]:=by
 refine run_walkV eok Tryz.func18 rfl (by kernel_rfl) [0,1] (by rfl) [] ?_
 conv=>whnf
 repeat' (first
 | ((with_reducible refine on_dec (fun h=>?_) (fun h=>?_))<;>(try simp only [List.length_map] at h)<;>conv=>whnf)
 | ((with_reducible refine on_ndec (fun h=>?_) (fun h=>?_))<;>(try simp only [List.length_map] at h)<;>conv=>whnf)
 | ((with_reducible refine call_go ?_);(first | refine call_step (c19at L k l[k] rfl rfl (Nat.ne_of_beq_eq_false rfl) rfl rfl) ?_);conv=>whnf)
 | ((with_reducible refine loop_go ?_);first | (refine loop2 (fun (k : Nat) (L : List (Int × Int))=>l.length - k) (fun (k : Nat) (L : List (Int × Int))=>k ≤ l.length ∧ eF l 0 = eF (l.drop k) k ∧ upto l [] = upto (l.drop k) L) (fun (k : Nat) (L : List (Int × Int))=>[(1,.fn 19 [] [.ptr 0 0 0]),(9,.d (.fs (l.map Fil.enc))),(10,.d (i l.length)),(11,.d (i k))]) (fun (k : Nat) (L : List (Int × Int))=>[bO 1,mO L]) (0) ([]) (by exact ⟨Nat.zero_le _,rfl,rfl⟩) ?_ (fun k L C hI hC=>?_);(exact ⟨[.old 0,.old 1],rfl,rfl,⟨⟨rfl,trivial,⟨⟨rfl,rfl,rfl⟩,trivial⟩⟩,(by first | (show (_ : D) = _;with_reducible rfl) ),(by first | exact congrArg (D.int .i64) (by simp only [List.length_map]) ),(by first | exact congrArg (D.int .i64) (by omega) ),trivial⟩,⟨⟨rfl,rfl,.inr ⟨rfl,trivial⟩⟩,⟨rfl,rfl,.inl ⟨_,rfl,rfl⟩⟩,trivial⟩⟩);all_goals (conv=>whnf)))
 | ((with_reducible show C _ _);first | (refine hC (k + 1) (addW L l[k]) _ _ ?_ (by omega) ?_;clear hC;rotate_left;(exact ⟨[.old 0,.old 1],rfl,rfl,⟨⟨rfl,trivial,⟨⟨rfl,rfl,rfl⟩,trivial⟩⟩,(by first | (show (_ : D) = _;with_reducible rfl) ),(by first | (show (_ : D) = _;with_reducible rfl) ),(by first | exact congrArg (D.int .i64) (by omega) ),trivial⟩,⟨⟨rfl,rfl,.inr ⟨rfl,trivial⟩⟩,⟨rfl,rfl,.inl ⟨_,rfl,rfl⟩⟩,trivial⟩⟩);(exact ⟨by omega,by rw [hI.2.1,eF_drop (by omega),if_pos h],by rw [hI.2.2,upto_drop (by omega),if_pos h]⟩)))
 | (refine ix_map (by omega) ?_;conv=>whnf)
 | (refine wrap64 (by omega) ?_;conv=>whnf)
 | ((with_reducible refine endx_go ?_);first | (refine cut_ (eF l 0 = ((k : Int),filE l[k]) ∧ upto l [] = addW L l[k]) ?_ (fun hE=>?_);(focus (exact ⟨by rw [hI.2.1,eF_drop (by omega),if_neg h],by rw [hI.2.2,upto_drop (by omega),if_neg h]⟩));rw [hE.1,hE.2];refine endX_of (.inl ⟨[.old 0,.old 1],rfl,rfl,⟨⟨rfl,rfl,trivial⟩,trivial⟩,⟨⟨rfl,rfl,.inr ⟨rfl,trivial⟩⟩,⟨rfl,rfl,.inl ⟨_,rfl,rfl⟩⟩,trivial⟩⟩);done) | (refine cut_ (eF l 0 = (0,0) ∧ upto l [] = L) ?_ (fun hE=>?_);(focus (exact ⟨by rw [hI.2.1,eF_end (by omega)],by rw [hI.2.2,upto_end (by omega)]⟩));rw [hE.1,hE.2];refine endX_of (.inl ⟨[.old 0,.old 1],rfl,rfl,⟨⟨rfl,rfl,trivial⟩,trivial⟩,⟨⟨rfl,rfl,.inr ⟨rfl,trivial⟩⟩,⟨rfl,rfl,.inl ⟨_,rfl,rfl⟩⟩,trivial⟩⟩);done))
  | fail
  )
theorem c24 (L : List (Int × Int)) : Run Tryz.prog 24 [.mp 0] [mO L] (.fn 42 [] [.ptr 1 0 0]) [mO L,bO 0]:=by
 refine run_walkV eok Tryz.func24 rfl (by kernel_rfl) [0] (by rfl) [] ?_
 conv=>whnf
 repeat' (first
 | ((with_reducible refine endx_go ?_);first | (refine endX_of (.inl ⟨[.old 0,.old 1],rfl,rfl,⟨⟨rfl,trivial,⟨⟨rfl,rfl,rfl⟩,trivial⟩⟩,trivial⟩,⟨⟨rfl,rfl,.inl ⟨_,rfl,rfl⟩⟩,⟨rfl,rfl,.inr ⟨rfl,trivial⟩⟩,trivial⟩⟩);done))
  | fail
  )
theorem flat_mO (L : List (Int × Int)) : AV.flats (mO L).elems = true ∧ (mO L).st ≠ 1:=⟨flats_map _ (fun x hx=>by obtain ⟨p,_,rfl⟩:=List.mem_map.1 hx;rfl),by show (3 : Nat) ≠ 1;omega⟩
theorem ren_mO (τ : Nat → Nat) (L : List (Int × Int)) : renO τ (mO L) = mO L:=by show AO.mk _ _ _ = _;rw [show rens τ (mO L).elems = (mO L).elems from rens_D _ _]
theorem set_same {H : Heap} {a : Nat} {o : AO} (h : H[a]? = some o) : H.set a o = H:=by
 obtain ⟨hl,he⟩:=List.getElem?_eq_some_iff.1 h
 rw [← he];exact List.set_getElem_self hl
theorem c18at (l : List Fil) (hl : l.length < 1000) {H : Heap} {a b : Nat} (h1 : H[a]? = some (bO b)) (h2 : H[b]? = some (mO [])) (hab : a ≠ b) :
  Run Tryz.prog 18 [.d (.fs (l.map Fil.enc)),.fn 19 [] [.ptr a 0 0]] H (.tup [.d (i (eF l 0).1),.d (i (eF l 0).2)]) (H.set b (mO (upto l []))):=by
 refine run_at (σ:=[a,b]) (F:=[]) (fl:=true) (c18 l hl) ?_ (fun _ h=>by cases h) ⟨⟨rfl,fun id hid=>by simp [reach] at hid⟩,⟨rfl,trivial,⟨⟨rfl,rfl,rfl⟩,trivial⟩⟩,trivial⟩ ?_ (fun _=>⟨rfl,fun o ho=>?_⟩) rfl ?_
 ·simp [hab]
 ·refine ⟨(nthK_iff _ _).2 ⟨_,h1,rfl,rfl,.inr ⟨rfl,trivial⟩⟩,(nthK_iff _ _).2 ⟨_,h2,rfl,rfl,.inl ⟨_,rfl,rfl⟩⟩,trivial⟩
 ·simp only [List.mem_cons,List.not_mem_nil,or_false] at ho
  rcases ho with rfl | rfl
  ·exact ⟨rfl,Nat.zero_ne_one⟩
  ·exact flat_mO _
 ·have e1 : renO (tau [a,b] H.length) (bO 1) = bO b:=rfl
  simp only [outH,List.map_cons,List.map_nil,e1,ren_mO,setAll,List.length_cons,List.length_nil,List.drop_succ_cons,List.drop_zero,List.append_nil,if_true]
  rw [set_same h1]
theorem c24at (L : List (Int × Int)) {H : Heap} {b : Nat} (h2 : H[b]? = some (mO L)) : Run Tryz.prog 24 [.mp b] H (.fn 42 [] [.ptr H.length 0 0]) (H ++ [bO b]):=by
 refine run_at (σ:=[b]) (F:=[]) (fl:=true) (c24 L) (by simp) (fun _ h=>by cases h) ⟨rfl,trivial⟩ ?_ (fun _=>⟨rfl,fun o ho=>?_⟩) ?_ ?_
 ·refine ⟨(nthK_iff _ _).2 ⟨_,h2,rfl,rfl,.inl ⟨_,rfl,rfl⟩⟩,trivial⟩
 ·simp only [List.mem_cons,List.not_mem_nil,or_false] at ho
  rcases ho with rfl | rfl
  ·exact flat_mO _
  ·exact ⟨rfl,Nat.zero_ne_one⟩
 ·simp [ren,rens,tau]
 ·have e1 : renO (tau [b] H.length) (bO 0) = bO b:=rfl
  simp only [outH,List.map_cons,List.map_nil,e1,ren_mO,setAll,List.length_cons,List.length_nil,List.drop_succ_cons,List.drop_zero,if_true]
  rw [set_same h2]
theorem c23at {g : Nat} {L : List (Int × Int)} {ks : List Int} (hf : Run Tryz.prog 23 [.fn g [] [.ptr 0 0 0]] [bO 1,mO L] (.sl 2 0 L.length 1 none) [bO 1,mO L,⟨(ks.map i).map .d,1,0⟩]) {H : Heap} {a b : Nat} (h1 : H[a]? = some (bO b)) (h2 : H[b]? = some (mO L)) (hab : a ≠ b) :
  Run Tryz.prog 23 [.fn g [] [.ptr a 0 0]] H (.sl H.length 0 L.length 1 none) (H ++ [⟨(ks.map i).map .d,1,0⟩]):=by
 refine run_at (σ:=[a,b]) (F:=[]) (fl:=true) hf ?_ (fun _ h=>by cases h) ⟨⟨rfl,trivial,⟨⟨rfl,rfl,rfl⟩,trivial⟩⟩,trivial⟩ ?_ (fun _=>⟨rfl,fun o ho=>?_⟩) ?_ ?_
 ·simp [hab]
 ·refine ⟨(nthK_iff _ _).2 ⟨_,h1,rfl,rfl,.inr ⟨rfl,trivial⟩⟩,(nthK_iff _ _).2 ⟨_,h2,rfl,rfl,.inl ⟨_,rfl,rfl⟩⟩,trivial⟩
 ·simp only [List.mem_cons,List.not_mem_nil,or_false] at ho
  rcases ho with rfl | rfl | rfl
  ·exact ⟨rfl,Nat.zero_ne_one⟩
  ·exact flat_mO _
  ·exact ⟨flats_map _ (fun x hx=>by obtain ⟨p,_,rfl⟩:=List.mem_map.1 hx;rfl),Nat.zero_ne_one⟩
 ·simp [ren,tau]
 ·have e1 : renO (tau [a,b] H.length) (bO 1) = bO b:=rfl
  have e3 : renO (tau [a,b] H.length) (⟨(ks.map i).map .d,1,0⟩ : AO) = ⟨(ks.map i).map .d,1,0⟩:=by show AO.mk _ _ _ = _;rw [rens_D]
  simp only [outH,List.map_cons,List.map_nil,e1,e3,ren_mO,setAll,List.length_cons,List.length_nil,List.drop_succ_cons,List.drop_zero,if_true]
  rw [set_same h1,set_same h2]
end Go.Proofs.YtkmhnaojgkcjoaaGreatDoor.K19
namespace Go.Proofs.YtkmhnaojgkcjoaaGreatDoor.K19
open Go Dw
set_option maxRecDepth 10000
attribute [local irreducible] Run
set_option maxHeartbeats 4000000
attribute [local irreducible] oE checkQ cnt isR ownR withR bsR fullQ put1 chg rls mov limErr limF actE doA resQ aftQ whoE limE numE goMin actErr movErr filE iget iput upto eF srt mget mput
theorem c8e (l : List Fil) (hl : l.length < 1000) (h0 : ¬ (eF l 0).2 = 0) : Fn 8 [.fs (l.map Fil.enc)] (.tup [(sumsQ l).1.enc,i (sumsQ l).2]):=by
 refine run_walkF eok Tryz.func8 rfl (by kernel_rfl) ?_
 conv=>whnf
 repeat' (first
 | ((with_reducible refine on_ndec_f (by assumption) ?_);conv=>whnf)
 | ((with_reducible refine on_dec (fun h=>?_) (fun h=>?_))<;>(try simp only [List.length_map] at h)<;>conv=>whnf)
 | ((with_reducible refine call_go ?_);(first | refine call_step (c18at l (by omega) rfl rfl (Nat.ne_of_beq_eq_false rfl)) ?_ );conv=>whnf)
 | ((with_reducible refine endx_go ?_);first | (refine cut_ (sumsQ l = (emp,8)) ?_ (fun hE=>?_);(focus ((unfold sumsQ;rw [if_pos (by omega)])));refine endxv (view_tup (vlc (view_agg (vlc rfl (vlc rfl vln))) (vlc rfl vln))) ?_;rw [hE];rfl;done) | (refine cut_ (sumsQ l = (emp,(eF l 0).2)) ?_ (fun hE=>?_);(focus (unfold sumsQ;rw [if_neg (by omega),if_pos h0]));refine endxv (view_tup (vlc (view_agg (vlc rfl (vlc rfl vln))) (vlc rfl vln))) ?_;rw [hE];rfl;done))
  | fail
  )
theorem ks_len (l : List Fil) : (srt (ikeys (upto l []))).length = (upto l []).length:=by rw [srt_length];unfold ikeys;rw [List.length_map]
theorem mO_len (L : List (Int × Int)) : (mO L).elems.length = L.length:=by unfold mO imap;simp
theorem bigK_t {L : List (Int × Int)} {l : List Int} {k : Nat} (h : k < l.length) (hb : 2147483647 < iget L l[k]) : bigK L l = true:=by
 unfold bigK;rw [List.any_eq_true];exact ⟨l[k],List.getElem_mem h,decide_eq_true hb⟩
theorem bigK_take {L : List (Int × Int)} {l : List Int} {k : Nat} (h : k < l.length) (hb : ¬ 2147483647 < iget L l[k]) (h2 : bigK L (l.take k) = false) : bigK L (l.take (k + 1)) = false:=by
 unfold bigK at *
 rw [List.take_succ_eq_append_getElem h,List.any_append,h2];simp;omega
theorem out_take {l : List Int} {k : Nat} (f : Int → Own) {out : List Own} (h : k < l.length) (ho : out = (l.take k).map f) : out ++ [f l[k]] = (l.take (k + 1)).map f:=by
 rw [List.take_succ_eq_append_getElem h,ho,List.map_append];rfl
theorem nth_i {ks : List Int} {k j : Nat} {K : AV → Prop} (hj : j = k) (h : k < ks.length) (hk : K (.d (i ks[k]))) : nthK ((ks.map i).map .d) j K:=by
 subst hj
 exact (nthK_iff _ _).2 ⟨_,by rw [List.getElem?_map,List.getElem?_map,List.getElem?_eq_getElem h];rfl,hk⟩
theorem c8o (l : List Fil) (hl : l.length < 1000) (h0 : (eF l 0).2 = 0) : Fn 8 [.fs (l.map Fil.enc)] (.tup [(sumsQ l).1.enc,i (sumsQ l).2]):=by
 refine run_walkF eok Tryz.func8 rfl (by kernel_rfl) ?_
 conv=>whnf
 repeat' (first
 | ((with_reducible refine on_ndec_t (by first | assumption ) ?_);conv=>whnf)
 | ((refine ents_go (by first | rfl ) ?_);conv=>whnf)
 | (rw [mget_j];conv=>whnf)
 | ((with_reducible refine on_dec_f ?_ ?_);(focus ((try simp only [List.length_map,List.length_cons,List.length_nil,List.length_append]);omega));conv=>whnf)
 | ((with_reducible refine on_dec (fun h=>?_) (fun h=>?_))<;>(try simp only [List.length_map] at h)<;>conv=>whnf)
 | ((with_reducible refine call_go ?_);(first | refine call_step (c18at l (by omega) rfl rfl (Nat.ne_of_beq_eq_false rfl)) ?_ | refine call_step (c24at _ rfl) ?_ | refine call_step (c23at (c72_94 l (by omega) h0) rfl rfl (Nat.ne_of_beq_eq_false rfl)) ?_);conv=>whnf)
 | ((with_reducible refine loop_go ?_);first | (refine loop2 (fun (k : Nat) (out : List Own)=>(upto l []).length - k) (fun (k : Nat) (out : List Own)=>k ≤ (upto l []).length ∧ out.length = k ∧ out = ((srt (ikeys (upto l []))).take k).map (mkO (upto l [])) ∧ bigK (upto l []) ((srt (ikeys (upto l []))).take k) = false) (fun (k : Nat) (out : List Own)=>[(2,.ptr 0 0 0),(4,.ptr 2 0 0),(7,.ptr 3 0 0),(32,.sl 4 0 (upto l []).length 1 none),(33,.d (i (upto l []).length)),(34,.d (i k))]) (fun (k : Nat) (out : List Own)=>[⟨[.junk],2,0⟩,mO (upto l []),bO 1,⟨[.agg [.sl 5 0 out.length 5 none,.d (.bool true)]],2,0⟩,⟨((srt (ikeys (upto l []))).map i).map .d,1,0⟩,⟨(out.map Own.enc).map .d,5,0⟩]) (0) ([]) (by exact ⟨Nat.zero_le _,rfl,rfl,rfl⟩) ?_ (fun k out C hI hC=>?_);(exact ⟨[.old 0,.old 1,.old 2,.old 3,.old 5,.void 5],rfl,rfl,⟨⟨rfl,rfl,rfl⟩,⟨rfl,rfl,rfl⟩,⟨rfl,rfl,rfl⟩,(by first | exact ⟨rfl,rfl,rfl,rfl,rfl⟩ ),(by first | (show (_ : D) = _;with_reducible rfl) ),(by first | exact congrArg (D.int .i64) (by omega) ),trivial⟩,⟨⟨rfl,rfl,.inr ⟨trivial,trivial⟩⟩,⟨rfl,rfl,.inl ⟨_,rfl,rfl⟩⟩,⟨rfl,rfl,.inr ⟨rfl,trivial⟩⟩,⟨rfl,rfl,.inr ⟨⟨⟨rfl,rfl,rfl,rfl⟩,rfl,trivial⟩,trivial⟩⟩,⟨rfl,rfl,.inl ⟨_,rfl,rfl⟩⟩,⟨rfl,rfl,(by decide),rfl⟩,trivial⟩⟩);all_goals (conv=>whnf)))
 | ((with_reducible show C _ _);first | (refine hC (k + 1) (out ++ [mkO (upto l []) ((srt (ikeys (upto l [])))[k]'(by rw [ks_len];omega))]) _ _ ?_ (by omega) ?_;clear hC;rotate_left;(exact ⟨[.old 0,.old 1,.old 2,.old 3,.old 4,.old 7],rfl,rfl,⟨⟨rfl,rfl,rfl⟩,⟨rfl,rfl,rfl⟩,⟨rfl,rfl,rfl⟩,(by first | exact ⟨rfl,rfl,rfl,rfl,rfl⟩ ),(by first | (show (_ : D) = _;with_reducible rfl) ),(by first | exact congrArg (D.int .i64) (by omega) ),trivial⟩,⟨⟨rfl,rfl,.inr ⟨trivial,trivial⟩⟩,⟨rfl,rfl,.inl ⟨_,rfl,rfl⟩⟩,⟨rfl,rfl,.inr ⟨rfl,trivial⟩⟩,⟨rfl,rfl,.inr ⟨⟨⟨rfl,rfl,(by simp),rfl,rfl⟩,rfl,trivial⟩,trivial⟩⟩,⟨rfl,rfl,.inl ⟨_,rfl,rfl⟩⟩,⟨rfl,rfl,.inr (wks_add (wksd _ _) ⟨rfl,rfl,rfl,rfl,rfl,rfl,trivial⟩)⟩,trivial⟩⟩);(exact ⟨by omega,by simp [hI.2.1],out_take _ (by rw [ks_len];omega) hI.2.2.1,bigK_take (by rw [ks_len];omega) (by assumption) hI.2.2.2⟩)))
 | (refine wrap64 (by obtain ⟨hI1,hI2,hI3,hI4⟩:=hI;have hu:=upto_len l [];simp only [List.length_nil] at hu;omega) ?_;conv=>whnf)
 | (refine ⟨⟨by omega,by omega⟩,?_⟩;conv=>whnf)
 | (refine nth_i (k:=k) (by omega) (by rw [ks_len];omega) ?_;conv=>whnf)
 | (refine ⟨Nat.le_refl _,?_⟩;conv=>whnf)
 | (refine ⟨⟨(by simp only [List.length_map,List.length_append];omega),cap_ok (by obtain ⟨hI1,hI2,hI3,hI4⟩:=hI;have hu:=upto_len l [];simp only [List.length_nil] at hu;simp only [List.length_map,List.length_cons,List.length_nil,List.length_append];omega) rfl⟩,?_⟩;conv=>whnf)
 | ((with_reducible refine endx_go ?_);first | (refine cut_ (sumsQ l = (emp,8)) ?_ (fun hE=>?_);(focus ((unfold sumsQ;rw [if_pos (by omega)])));refine endxv (view_tup (vlc (view_agg (vlc rfl (vlc rfl vln))) (vlc rfl vln))) ?_;rw [hE];rfl;done) | (refine cut_ (sumsQ l = (emp,16)) ?_ (fun hE=>?_);(focus (have hn100 : ¬ 100 < l.length:=(by omega);have hm : 30 < (upto l []).length:=(by rw [mO_len] at h;omega);unfold sumsQ;rw [if_neg hn100,if_neg (by simp [h0]),if_pos hm]));refine endxv (view_tup (vlc (view_agg (vlc rfl (vlc rfl vln))) (vlc rfl vln))) ?_;rw [hE];rfl;done) | (refine cut_ (sumsQ l = (emp,8)) ?_ (fun hE=>?_);(focus (have hn100 : ¬ 100 < l.length:=(by omega);have hn30 : ¬ 30 < (upto l []).length:=(by have hh : ¬ (30 : Int) < ↑(mO (upto l [])).elems.length:=(by assumption);rw [mO_len] at hh;omega);unfold sumsQ;rw [if_neg hn100,if_neg (by simp [h0]),if_neg hn30,if_pos (bigK_t (k:=k) (by rw [ks_len];omega) (by assumption))]));refine endxv (view_tup (vlc (view_agg (vlc rfl (vlc rfl vln))) (vlc rfl vln))) ?_;rw [hE];rfl;done) | (refine cut_ (sumsQ l = (⟨out,true⟩,0)) ?_ (fun hE=>?_);(focus (have hn100 : ¬ 100 < l.length:=(by omega);have hn30 : ¬ 30 < (upto l []).length:=(by have hh : ¬ (30 : Int) < ↑(mO (upto l [])).elems.length:=(by assumption);rw [mO_len] at hh;omega);obtain ⟨hI1,hI2,hI3,hI4⟩:=hI;rw [List.take_of_length_le (by rw [ks_len];omega)] at hI3 hI4;unfold sumsQ;rw [if_neg hn100,if_neg (by simp [h0]),if_neg hn30,hI4,if_neg (by decide),hI3]));refine endxv (view_tup (vlc (view_agg (vlc (view_map rfl Nat.two_pos) (vlc rfl vln))) (vlc rfl vln))) ?_;(rw [hE])<;>rfl;done))
  | fail
  )
theorem c8 (l : List Fil) (hl : l.length < 1000) : Fn 8 [.fs (l.map Fil.enc)] (.tup [(sumsQ l).1.enc,i (sumsQ l).2]):=by
 by_cases h0 : (eF l 0).2 = 0
 ·exact c8o l hl h0
 ·exact c8e l hl h0
end Go.Proofs.YtkmhnaojgkcjoaaGreatDoor.K19
namespace Go.Proofs.YtkmhnaojgkcjoaaGreatDoor.K19
open Go Dw
set_option maxRecDepth 10000
attribute [local irreducible] Run
set_option maxHeartbeats 4000000
theorem ex_25 : aftQ exQ (actM 10 11 100) = (⟨[⟨10,0,150,200,0⟩,⟨11,100,-1,-1,0⟩],true⟩,0):=by decide +kernel
theorem a25 : Fn 12 [exQ.enc,i 10,i 11,i 100] (.tup [.agg [.fs [.agg [i 10,i 0,i 150,i 200,i 0],.agg [i 11,i 100,i (-1),i (-1),i 0]],.bool true],i 0]):=by
 have:=c12 exQ (by decide) 10 11 100;rw [ex_25] at this;exact this
end Go.Proofs.YtkmhnaojgkcjoaaGreatDoor.K19
namespace Go.Proofs.YtkmhnaojgkcjoaaGreatDoor.K19
open Go Dw
set_option maxRecDepth 10000
attribute [local irreducible] Run
set_option maxHeartbeats 4000000
attribute [local irreducible] oE checkQ cnt isR ownR withR bsR fullQ put1 chg rls mov limErr limF actE doA resQ aftQ whoE limE numE goMin goMax actErr movErr filE iget iput upto eF srt isQ roomQ warned
def zO : AV:=.agg [.d (i 0),.d (i 0),.d (i 0),.d (i 0),.d (i 0)]
theorem c52p (n : Nat) (hn : n < 1000) (h0 : 0 < n) : Run Tryz.prog 52 [.nilS,.d (i n)] [] (.sl 0 0 0 5 none) [⟨List.replicate n zO,5,0⟩]:=by
 refine run_walkV eok Tryz.func52 rfl (by kernel_rfl) [] (by rfl) [] ?_
 conv=>whnf
 repeat' (first
 | ((with_reducible refine on_dec_t ?_ ?_);(focus ((try simp only [List.length_map,List.length_cons,List.length_nil,List.length_append]);omega));conv=>whnf)
 | (refine wrap64 (by omega) ?_;conv=>whnf)
 | (refine own_sl 0 0 rfl rfl ⟨Nat.le_refl _,Nat.zero_le _⟩ ?_;conv=>whnf)
 | (refine ⟨⟨rfl,rfl,rfl⟩,?_⟩;conv=>whnf)
 | (refine ⟨⟨by omega,by omega,(by rw [show (E (E 40).elem).bytes = 40 from rfl];omega)⟩,?_⟩;conv=>whnf)
 | (refine ⟨(by rw [List.length_replicate,show (E (E 40).elem).bytes = 40 from rfl];omega),?_⟩;conv=>whnf)
 | ((with_reducible refine endx_go ?_);first | (rw [show ((n : Int) - (0 - 0)).toNat = n by omega];exact endx_same rfl rfl;done))
  | fail
  )
theorem c52z : Run Tryz.prog 52 [.nilS,.d (i 0)] [] .nilS []:=by
 refine run_walkV eok Tryz.func52 rfl (by kernel_rfl) [] (by rfl) [] ?_
 conv=>whnf
 repeat' (first
 | (refine wrap64 (by omega) ?_;conv=>whnf)
 | ((with_reducible refine endx_go ?_);first | (refine endX_of (.inl ⟨[],rfl,rfl,⟨trivial,trivial⟩,trivial⟩);done))
  | fail
  )
def cut1 (LL : List (List Own)) (k : Nat) : List Own:=(LL.take k).flatten
theorem cut1_succ {LL : List (List Own)} {k : Nat} (h : k < LL.length) : cut1 LL (k + 1) = cut1 LL k ++ LL[k]:=by
 unfold cut1;rw [List.take_succ_eq_append_getElem h,List.flatten_append];simp
theorem cut1_end {LL : List (List Own)} {k : Nat} (h : ¬ k < LL.length) : cut1 LL k = LL.flatten:=by unfold cut1;rw [List.take_of_length_le (by omega)]
theorem cut1_le {LL : List (List Own)} {k : Nat} (h : k < LL.length) : (cut1 LL k).length + LL[k].length ≤ LL.flatten.length:=by
 have h1 : LL.flatten = cut1 LL (k + 1) ++ (LL.drop (k + 1)).flatten:=by unfold cut1;rw [← List.flatten_append,List.take_append_drop]
 rw [h1,cut1_succ h,List.length_append,List.length_append];omega
theorem cut1_len {LL : List (List Own)} {k : Nat} (h : k < LL.length) : (cut1 LL (k + 1)).length = (cut1 LL k).length + LL[k].length:=by rw [cut1_succ h,List.length_append]
def cO (A : List Own) (m : Nat) : AO:=⟨(A.map Own.enc).map .d ++ List.replicate m zO,5,0⟩
theorem c52k {LL : List (List Own)} {k : Nat} (hk : ¬ (k : Int) < LL.length) (hf : LL.flatten.length < 1000) (h0 : 0 < LL.flatten.length) : Run Tryz.prog 52 [.nilS,.d (i (cut1 LL k).length)] [] (.sl 0 0 0 5 none) [cO [] LL.flatten.length]:=by
 rw [cut1_end (by omega)]
 exact c52p _ hf h0
theorem c52l {LL : List (List Own)} {k : Nat} (hk : ¬ (k : Int) < LL.length) (h0 : LL.flatten.length = 0) : Run Tryz.prog 52 [.nilS,.d (i (cut1 LL k).length)] [] .nilS []:=by
 rw [cut1_end (by omega),h0]
 exact c52z
theorem wks_cO (μ : List Mu) : ∀ (A : List D) (m : Nat),wks μ (A.map .d ++ List.replicate m zO) (A.map .d ++ List.replicate m zO)
 | [],0=>trivial
 | [],m + 1=>⟨⟨rfl,rfl,rfl,rfl,rfl,trivial⟩,wks_cO μ [] m⟩
 | x :: A,m=>⟨rfl,wks_cO μ A m⟩
theorem over_cO (A B : List Own) (n : Nat) (h : A.length + B.length ≤ n) : over ((A.map Own.enc).map .d ++ List.replicate (n - A.length) zO) A.length ((B.map Own.enc).map .d) = ((A ++ B).map Own.enc).map .d ++ List.replicate (n - (A ++ B).length) zO:=by
 unfold over
 have h1 : ((A.map Own.enc).map AV.d).length = A.length:=by simp
 have h2 : ((A.map Own.enc).map AV.d ++ List.replicate (n - A.length) zO).take A.length = (A.map Own.enc).map AV.d:=by
  rw [← h1,List.take_left]
 have h3 : ((A.map Own.enc).map AV.d ++ List.replicate (n - A.length) zO).drop (A.length + ((B.map Own.enc).map AV.d).length) = List.replicate (n - (A ++ B).length) zO:=by
  have : A.length + ((B.map Own.enc).map AV.d).length = ((A.map Own.enc).map AV.d).length + B.length:=by simp
  have e : (n - A.length) - B.length = n - (A ++ B).length:=by rw [List.length_append];omega
  rw [this,List.drop_append,List.drop_eq_nil_of_le (by omega),List.nil_append,Nat.add_sub_cancel_left,List.drop_replicate,e]
 rw [h2,h3];simp
theorem cO_len (A : List Own) (m : Nat) : (cO A m).elems.length = A.length + m:=by unfold cO;simp
theorem cO_0 (A : List Own) : cO A 0 = ⟨(A.map Own.enc).map .d,5,0⟩:=by unfold cO;simp
theorem wks_step (μ : List Mu) {LL : List (List Own)} {k : Nat} (h : k < LL.length) : wks μ (over (cO (cut1 LL k) (LL.flatten.length - (cut1 LL k).length)).elems (0 + (cut1 LL k).length) ((LL[k].map Own.enc).map .d)) (cO (cut1 LL (k + 1)) (LL.flatten.length - (cut1 LL (k + 1)).length)).elems:=by
 have:=cut1_le h
 rw [Nat.zero_add]
 show wks μ (over ((cut1 LL k).map Own.enc |>.map .d |> fun x=>x ++ List.replicate (LL.flatten.length - (cut1 LL k).length) zO) _ _) _
 rw [cut1_succ h]
 have e:=over_cO (cut1 LL k) LL[k] LL.flatten.length (by omega)
 show wks μ (over (((cut1 LL k).map Own.enc).map .d ++ List.replicate (LL.flatten.length - (cut1 LL k).length) zO) _ _) _
 rw [e]
 exact wks_cO μ _ _
theorem c33p (LL : List (List Own)) (hL : LL.length < 1000) (hf : LL.flatten.length < 1000) (h0 : 0 < LL.flatten.length) : Fn 33 [.fs (LL.map (fun l=>.fs (l.map Own.enc)))] (.fs (LL.flatten.map Own.enc)):=by
 refine run_walkF eok Tryz.func33 rfl (by kernel_rfl) ?_
 conv=>whnf
 repeat' (first
 | ((with_reducible refine on_dec (fun h=>?_) (fun h=>?_))<;>(try simp only [List.length_map] at h)<;>conv=>whnf)
 | ((with_reducible refine call_go ?_);(first | refine call_step (c52k (LL:=LL) (by assumption) hf h0) ?_ );conv=>whnf)
 | ((with_reducible refine loop_go ?_);first | (refine loop1 (fun (k : Nat)=>LL.length - k) (fun (k : Nat)=>k ≤ LL.length) (fun (k : Nat)=>[(6,.sl 0 0 (cut1 LL k).length 5 none),(25,.d (.fs (LL.map (fun l=>.fs (l.map Own.enc))))),(26,.d (i LL.length)),(27,.d (i k))]) (fun (k : Nat)=>[cO (cut1 LL k) (LL.flatten.length - (cut1 LL k).length)]) (0) (by exact Nat.zero_le _) ?_ (fun k Cb hIb hCb=>?_);(exact ⟨[.old 0],rfl,rfl,⟨(by first | exact ⟨rfl,rfl,rfl,rfl,rfl⟩ ),(by first | (show (_ : D) = _;with_reducible rfl) ),(by first | exact congrArg (D.int .i64) (by simp only [List.length_map]) ),(by first | exact congrArg (D.int .i64) (by omega) ),trivial⟩,⟨⟨rfl,rfl,.inr (wks_cO _ [] _)⟩,trivial⟩⟩);all_goals (conv=>whnf)) | (refine loop1 (fun (k : Nat)=>LL.length - k) (fun (k : Nat)=>k ≤ LL.length) (fun (k : Nat)=>[(0,.d (.fs (LL.map (fun l=>.fs (l.map Own.enc))))),(3,.d (i (cut1 LL k).length)),(9,.d (.fs (LL.map (fun l=>.fs (l.map Own.enc))))),(10,.d (i LL.length)),(11,.d (i k))]) (fun (k : Nat)=>[]) (0) (by exact Nat.zero_le _) ?_ (fun k C hI hC=>?_);(exact ⟨[],rfl,rfl,⟨(by first | (show (_ : D) = _;with_reducible rfl) ),(by first | exact rfl),(by first | (show (_ : D) = _;with_reducible rfl) ),(by first | exact congrArg (D.int .i64) (by simp only [List.length_map]) ),(by first | exact congrArg (D.int .i64) (by omega) ),trivial⟩,trivial⟩);all_goals (conv=>whnf)))
 | ((with_reducible show C _ _);first | (refine hC (k + 1) _ _ ?_ (by omega) ?_;clear hC;rotate_left;(exact ⟨[],rfl,rfl,⟨(by first | (show (_ : D) = _;with_reducible rfl) ),(by refine congrArg (D.int .i64) ?_;rw [cut1_len (by omega),List.length_map];omega),(by first | (show (_ : D) = _;with_reducible rfl) ),(by first | (show (_ : D) = _;with_reducible rfl) ),(by first | exact congrArg (D.int .i64) (by omega) ),trivial⟩,trivial⟩);(exact (by omega : k + 1 ≤ LL.length))))
 | ((with_reducible show Cb _ _);first | (refine hCb (k + 1) _ _ ?_ (by omega) ?_;clear hCb;rotate_left;(exact ⟨[.old 0],rfl,rfl,⟨⟨rfl,rfl,(by rw [cut1_len (by omega)];simp),rfl,rfl⟩,(by first | (show (_ : D) = _;with_reducible rfl) ),(by first | (show (_ : D) = _;with_reducible rfl) ),(by first | exact congrArg (D.int .i64) (by omega) ),trivial⟩,⟨⟨rfl,rfl,.inr (wks_step _ (by omega))⟩,trivial⟩⟩);(exact (by omega : k + 1 ≤ LL.length))))
 | (refine ⟨(by intro y hy;obtain ⟨x,_,rfl⟩:=List.mem_map.1 hy;first | exact ⟨rfl,rfl⟩),?_⟩;conv=>whnf)
 | (refine ix_map (by omega) ?_;conv=>whnf)
 | (refine wrap64 (by omega) ?_;conv=>whnf)
 | (refine wrap64 (by have hc:=cut1_le (LL:=LL) (k:=k) (by omega);simp only [List.length_map];omega) ?_;conv=>whnf)
 | (exfalso;have hc:=cut1_le (LL:=LL) (k:=k) (by omega);rw [cO_len] at h;omega)
 | ((with_reducible refine endx_go ?_);first | (rw [cut1_end (by omega),Nat.sub_self,cO_0];exact endxv (view_map rfl Nat.two_pos) rfl;done))
  | fail
  )
theorem c33z (LL : List (List Own)) (hL : LL.length < 1000) (hf : LL.flatten.length < 1000) (h0 : LL.flatten.length = 0) : Fn 33 [.fs (LL.map (fun l=>.fs (l.map Own.enc)))] (.fs (LL.flatten.map Own.enc)):=by
 refine run_walkF eok Tryz.func33 rfl (by kernel_rfl) ?_
 conv=>whnf
 repeat' (first
 | ((with_reducible refine on_dec (fun h=>?_) (fun h=>?_))<;>(try simp only [List.length_map] at h)<;>conv=>whnf)
 | ((with_reducible refine call_go ?_);(first | refine call_step (c52l (LL:=LL) (by assumption) h0) ?_);conv=>whnf)
 | ((with_reducible refine loop_go ?_);first | (refine loop1 (fun (k : Nat)=>LL.length - k) (fun (k : Nat)=>k ≤ LL.length) (fun (k : Nat)=>[(6,.sl 0 0 (cut1 LL k).length 5 none),(25,.d (.fs (LL.map (fun l=>.fs (l.map Own.enc))))),(26,.d (i LL.length)),(27,.d (i k))]) (fun (k : Nat)=>[cO (cut1 LL k) (LL.flatten.length - (cut1 LL k).length)]) (0) (by exact Nat.zero_le _) ?_ (fun k Cb hIb hCb=>?_);(exact ⟨[.void 5],rfl,rfl,⟨⟨rfl,rfl,rfl,rfl⟩,(by first | (show (_ : D) = _;with_reducible rfl) ),(by first | exact congrArg (D.int .i64) (by simp only [List.length_map]) ),(by first | exact congrArg (D.int .i64) (by omega) ),trivial⟩,⟨⟨(by rw [h0];rfl),rfl,Nat.zero_lt_succ _,rfl⟩,trivial⟩⟩);all_goals (conv=>whnf)) | (refine loop1 (fun (k : Nat)=>LL.length - k) (fun (k : Nat)=>k ≤ LL.length) (fun (k : Nat)=>[(0,.d (.fs (LL.map (fun l=>.fs (l.map Own.enc))))),(3,.d (i (cut1 LL k).length)),(9,.d (.fs (LL.map (fun l=>.fs (l.map Own.enc))))),(10,.d (i LL.length)),(11,.d (i k))]) (fun (k : Nat)=>[]) (0) (by exact Nat.zero_le _) ?_ (fun k C hI hC=>?_);(exact ⟨[],rfl,rfl,⟨(by first | (show (_ : D) = _;with_reducible rfl) ),(by first | exact rfl),(by first | (show (_ : D) = _;with_reducible rfl) ),(by first | exact congrArg (D.int .i64) (by simp only [List.length_map]) ),(by first | exact congrArg (D.int .i64) (by omega) ),trivial⟩,trivial⟩);all_goals (conv=>whnf)))
 | ((with_reducible show C _ _);first | (refine hC (k + 1) _ _ ?_ (by omega) ?_;clear hC;rotate_left;(exact ⟨[],rfl,rfl,⟨(by first | (show (_ : D) = _;with_reducible rfl) ),(by refine congrArg (D.int .i64) ?_;rw [cut1_len (by omega),List.length_map];omega),(by first | (show (_ : D) = _;with_reducible rfl) ),(by first | (show (_ : D) = _;with_reducible rfl) ),(by first | exact congrArg (D.int .i64) (by omega) ),trivial⟩,trivial⟩);(exact (by omega : k + 1 ≤ LL.length))))
 | ((with_reducible show Cb _ _);first | (refine hCb (k + 1) _ _ ?_ (by omega) ?_;clear hCb;rotate_left;(exact ⟨[.old 0],rfl,rfl,⟨⟨rfl,rfl,(by rw [cut1_len (by omega)];simp),rfl,rfl⟩,(by first | (show (_ : D) = _;with_reducible rfl) ),(by first | (show (_ : D) = _;with_reducible rfl) ),(by first | exact congrArg (D.int .i64) (by omega) ),trivial⟩,⟨⟨rfl,rfl,.inr (wks_step _ (by omega))⟩,trivial⟩⟩);(exact (by omega : k + 1 ≤ LL.length))))
 | (refine ⟨(by intro y hy;obtain ⟨x,_,rfl⟩:=List.mem_map.1 hy;first | exact ⟨rfl,rfl⟩),?_⟩;conv=>whnf)
 | (refine ix_map (by omega) ?_;conv=>whnf)
 | (refine wrap64 (by omega) ?_;conv=>whnf)
 | (refine wrap64 (by have hc:=cut1_le (LL:=LL) (k:=k) (by omega);simp only [List.length_map];omega) ?_;conv=>whnf)
 | (exfalso;have hc:=cut1_le (LL:=LL) (k:=k) (by omega);rw [cO_len] at h;omega)
 | ((with_reducible refine endx_go ?_);first | (rw [cut1_end (by omega),Nat.sub_self,cO_0];exact endxv (view_map rfl Nat.two_pos) rfl;done))
  | fail
  )
theorem c33 (LL : List (List Own)) (hL : LL.length < 1000) (hf : LL.flatten.length < 1000) : Fn 33 [.fs (LL.map (fun l=>.fs (l.map Own.enc)))] (.fs (LL.flatten.map Own.enc)):=by
 rcases Nat.eq_zero_or_pos LL.flatten.length with h0 | h0
 ·exact c33z LL hL hf h0
 ·exact c33p LL hL hf h0
end Go.Proofs.YtkmhnaojgkcjoaaGreatDoor.K19
namespace Go.Proofs.YtkmhnaojgkcjoaaGreatDoor.K19
open Go Dw
set_option maxRecDepth 100000
def bmap (l : List Int) : List (Int × D):=l.map (fun n=>(n,D.bool true))
def bD (n : Int) : D:=.agg [i n,.bool true]
def bmO (l : List Int) : AO:=⟨(l.map bD).map .d,1,3⟩
def addK (l : List Int) (n : Int) : List Int:=if n ∈ l then l else l ++ [n]
theorem bmap_ent (l : List Int) : (bmap l).map (entA .i64) = (l.map bD).map .d:=by
 unfold bmap
 rw [List.map_map,List.map_map];rfl
theorem bmap_scal (l : List Int) : ∀ p ∈ bmap l,scalD p.2 = true:=by
 intro p hp
 obtain ⟨q,_,rfl⟩:=List.mem_map.1 hp
 rfl
theorem mput_b (n : Int) : ∀ (l : List Int),mput (bmap l) n (.bool true) = bmap (addK l n)
 | []=>rfl
 | a :: l=>by
  have ih:=mput_b n l
  show (if n = a then (n,D.bool true) :: bmap l else (a,D.bool true) :: mput (bmap l) n (.bool true)) = bmap (addK (a :: l) n)
  rw [ih]
  unfold addK
  by_cases h : n = a
  ·subst h;simp [bmap]
  ·by_cases h2 : n ∈ l
   ·simp [h,h2,bmap]
   ·simp [h,h2,bmap]
theorem ents_gb {l : List AV} {L : List Int} {K : List (Int × D) → Prop} (hl : l = (L.map bD).map .d) (h : K (bmap L)) : entsK .i64 l K:=by
 subst hl
 rw [← bmap_ent]
 exact entsK_of (bmap_scal L) h
theorem mput_bd (L : List Int) (n : Int) : (mput (bmap L) n (D.bool true)).map (entA .i64) = ((addK L n).map bD).map .d:=by rw [mput_b,bmap_ent]
def allK (l : List Own) : List Int:=l.foldl (fun ks o=>addK ks o.who) []
theorem allK_snoc (l : List Own) (o : Own) : allK (l ++ [o]) = addK (allK l) o.who:=by unfold allK;rw [List.foldl_append];rfl
theorem allK_take {l : List Own} {k : Nat} (h : k < l.length) : allK (l.take (k + 1)) = addK (allK (l.take k)) l[k].who:=by
 rw [List.take_succ_eq_append_getElem h,allK_snoc]
theorem addK_nodup {l : List Int} {n : Int} (h : l.Nodup) : (addK l n).Nodup:=by
 unfold addK;split
 ·exact h
 ·rename_i hn
  refine List.nodup_append.2 ⟨h,by simp,fun a ha b hb e=>?_⟩
  simp only [List.mem_singleton] at hb
  subst hb;subst e;exact hn ha
theorem addK_mem {l : List Int} {n m : Int} : m ∈ addK l n ↔ m ∈ l ∨ m = n:=by
 unfold addK;split
 ·rename_i h;exact ⟨.inl,fun h2=>h2.elim id (fun e=>e ▸ h)⟩
 ·simp
theorem addK_len (l : List Int) (n : Int) : (addK l n).length ≤ l.length + 1:=by unfold addK;split<;>simp
theorem fold_nodup : ∀ (l : List Own) (ks : List Int),ks.Nodup → (l.foldl (fun ks o=>addK ks o.who) ks).Nodup
 | [],_,h=>h
 | o :: l,ks,h=>fold_nodup l _ (addK_nodup h)
theorem fold_mem : ∀ (l : List Own) (ks : List Int) (n : Int),n ∈ l.foldl (fun ks o=>addK ks o.who) ks ↔ n ∈ ks ∨ ∃ o ∈ l,o.who = n
 | [],_,_=>by simp
 | o :: l,ks,n=>by
  rw [List.foldl_cons,fold_mem l,addK_mem]
  constructor
  ·rintro ((h | h) | ⟨p,hp,e⟩)
   ·exact .inl h
   ·exact .inr ⟨o,by simp,h.symm⟩
   ·exact .inr ⟨p,by simp [hp],e⟩
  ·rintro (h | ⟨p,hp,e⟩)
   ·exact .inl (.inl h)
   ·rcases List.mem_cons.1 hp with rfl | hp
    ·exact .inl (.inr e.symm)
    ·exact .inr ⟨p,hp,e⟩
theorem fold_len : ∀ (l : List Own) (ks : List Int),(l.foldl (fun ks o=>addK ks o.who) ks).length ≤ ks.length + l.length
 | [],_=>Nat.le_refl _
 | o :: l,ks=>by
  have h1:=fold_len l (addK ks o.who)
  have h2:=addK_len ks o.who
  rw [List.foldl_cons,List.length_cons];omega
theorem allK_nodup (l : List Own) : (allK l).Nodup:=fold_nodup l [] List.nodup_nil
theorem allK_mem (l : List Own) (n : Int) : n ∈ allK l ↔ ∃ o ∈ l,o.who = n:=by unfold allK;rw [fold_mem];simp
theorem allK_len (l : List Own) : (allK l).length ≤ l.length:=by have:=fold_len l [];simpa [allK] using this
theorem bmap_keys (L : List Int) : (bmap L).map (·.1) = L:=by
 unfold bmap
 rw [List.map_map];exact List.map_id' L
def difU (a b : Quo) (w : Int) : Bool:=!decide ((ownR a.os w).used = (ownR b.os w).used)
def mkG (a b : Quo) (w : Int) : Gap:=⟨w,(ownR a.os w).used,(ownR b.os w).used⟩
def gaps (a b : Quo) (ks : List Int) : List Gap:=(ks.filter (difU a b)).map (mkG a b)
theorem gaps_t {a b : Quo} {ks : List Int} {k : Nat} (h : k < ks.length) (hu : ¬ (ownR a.os ks[k]).used = (ownR b.os ks[k]).used) : gaps a b (ks.take (k + 1)) = gaps a b (ks.take k) ++ [mkG a b ks[k]]:=by
 unfold gaps;rw [List.take_succ_eq_append_getElem h,List.filter_append,List.map_append];simp [difU,hu]
theorem gaps_f {a b : Quo} {ks : List Int} {k : Nat} (h : k < ks.length) (hu : (ownR a.os ks[k]).used = (ownR b.os ks[k]).used) : gaps a b (ks.take (k + 1)) = gaps a b (ks.take k):=by
 unfold gaps;rw [List.take_succ_eq_append_getElem h,List.filter_append,List.map_append];simp [difU,hu]
def kys (a b : Quo) : List Int:=srt (allK (a.os ++ b.os))
theorem kys_len (a b : Quo) : (kys a b).length = (allK (a.os ++ b.os)).length:=srt_length _
def diffQ (a b : Quo) : List Gap × Int:=if firstE [(checkQ a).2,(checkQ b).2] = 0 then (gaps a b (kys a b),0) else ([],firstE [(checkQ a).2,(checkQ b).2])
theorem c72_96 {a b : Quo} (ha : VQ a) (hb : VQ b) :
  Run Tryz.prog 23 [.fn 53 [] [.ptr 0 0 0]] [bO 1,bmO (allK (a.os ++ b.os))] (.sl 2 0 (allK (a.os ++ b.os)).length 1 none) [bO 1,bmO (allK (a.os ++ b.os)),⟨((kys a b).map i).map .d,1,0⟩]:=by
 have hl:=allK_len (a.os ++ b.os)
 rw [List.length_append] at hl
 have h1:=ha.len
 have h2:=hb.len
 have hr:=run_keys96 (bmap (allK (a.os ++ b.os))) (bmap_scal _) (by rw [bmap_keys];exact allK_nodup _) (fun p hp=>by
  have hk : p.1 ∈ allK (a.os ++ b.os):=by rw [← bmap_keys (allK (a.os ++ b.os))];exact List.mem_map.2 ⟨p,hp,rfl⟩
  obtain ⟨o,ho,e⟩:=(allK_mem _ _).1 hk
  have hw : whoE o.who = 0:=by
   rcases List.mem_append.1 ho with ho | ho
   ·exact (ha.own o ho).who
   ·exact (hb.own o ho).who
  have:=whoE_0 hw
  rw [e] at this
  simp only [Lit.wf]
  simp [IntKind.min,IntKind.max,IntKind.bits,IntKind.signed]
  omega) (by unfold bmap;rw [List.length_map];omega)
 rw [bmap_ent,bmap_keys] at hr
 unfold bmap at hr
 rw [List.length_map] at hr
 unfold bmO bO kys
 have e : ((srt (allK (a.os ++ b.os))).map i).map AV.d = (srt (allK (a.os ++ b.os))).map (fun n=>.d (i n)):=by rw [List.map_map];rfl
 rw [e]
 exact hr
theorem flat_bmO (L : List Int) : AV.flats (bmO L).elems = true ∧ (bmO L).st ≠ 1:=⟨flats_map _ (fun x hx=>by obtain ⟨p,_,rfl⟩:=List.mem_map.1 hx;rfl),by show (3 : Nat) ≠ 1;omega⟩
theorem ren_bmO (τ : Nat → Nat) (L : List Int) : renO τ (bmO L) = bmO L:=by show AO.mk _ _ _ = _;rw [show rens τ (bmO L).elems = (bmO L).elems from rens_D _ _]
theorem c23bt {g n : Nat} {L : List Int} {ks : List Int} (hf : Run Tryz.prog 23 [.fn g [] [.ptr 0 0 0]] [bO 1,bmO L] (.sl 2 0 n 1 none) [bO 1,bmO L,⟨(ks.map i).map .d,1,0⟩]) {H : Heap} {a b : Nat} (h1 : H[a]? = some (bO b)) (h2 : H[b]? = some (bmO L)) (hab : a ≠ b) :
  Run Tryz.prog 23 [.fn g [] [.ptr a 0 0]] H (.sl H.length 0 n 1 none) (H ++ [⟨(ks.map i).map .d,1,0⟩]):=by
 refine run_at (σ:=[a,b]) (F:=[]) (fl:=true) hf ?_ (fun _ h=>by cases h) ⟨⟨rfl,trivial,⟨⟨rfl,rfl,rfl⟩,trivial⟩⟩,trivial⟩ ?_ (fun _=>⟨rfl,fun o ho=>?_⟩) ?_ ?_
 ·simp [hab]
 ·refine ⟨(nthK_iff _ _).2 ⟨_,h1,rfl,rfl,.inr ⟨rfl,trivial⟩⟩,(nthK_iff _ _).2 ⟨_,h2,rfl,rfl,.inl ⟨_,rfl,rfl⟩⟩,trivial⟩
 ·simp only [List.mem_cons,List.not_mem_nil,or_false] at ho
  rcases ho with rfl | rfl | rfl
  ·exact ⟨rfl,Nat.zero_ne_one⟩
  ·exact flat_bmO _
  ·exact ⟨flats_map _ (fun x hx=>by obtain ⟨p,_,rfl⟩:=List.mem_map.1 hx;rfl),Nat.zero_ne_one⟩
 ·simp [ren,tau]
 ·have e1 : renO (tau [a,b] H.length) (bO 1) = bO b:=rfl
  have e3 : renO (tau [a,b] H.length) (⟨(ks.map i).map .d,1,0⟩ : AO) = ⟨(ks.map i).map .d,1,0⟩:=by show AO.mk _ _ _ = _;rw [rens_D]
  simp only [outH,List.map_cons,List.map_nil,e1,e3,ren_bmO,setAll,List.length_cons,List.length_nil,List.drop_succ_cons,List.drop_zero,if_true]
  rw [set_same h1,set_same h2]
end Go.Proofs.YtkmhnaojgkcjoaaGreatDoor.K19
namespace Go.Proofs.YtkmhnaojgkcjoaaGreatDoor.K19
open Go Dw
theorem iget_put (n v m : Int) : ∀ (L : List (Int × Int)),iget (iput L n v) m = if m = n then v else iget L m
 | []=>by simp only [iput,iget]
 | p :: L=>by
  have ih:=iget_put n v m L
  simp only [iput]
  by_cases h : n = p.1
  ·rw [if_pos h]
   simp only [iget]
   by_cases h2 : m = n
   ·simp [h2]
   ·have : ¬ m = p.1:=by omega
    simp [h2,this]
  ·rw [if_neg h]
   simp only [iget,ih]
   by_cases h2 : m = n
   ·subst h2;simp [h]
   ·simp [h2]
theorem iget_none {n : Int} : ∀ {L : List (Int × Int)},¬ n ∈ ikeys L → iget L n = 0
 | [],_=>rfl
 | p :: L,h=>by
  unfold ikeys at h
  simp only [List.map_cons,List.mem_cons,not_or] at h
  simp only [iget]
  rw [if_neg h.1]
  exact iget_none h.2
def sumW : List Fil → Int → Int
 | [],_=>0
 | f :: l,w=>(if f.who = w then f.bytes else 0) + sumW l w
def totF : List Fil → Int
 | []=>0
 | f :: l=>f.bytes + totF l
structure FsOk (l : List Fil) : Prop where
 len : l.length ≤ 20
 ok : ∀ f ∈ l,filE f = 0
 pos : ∀ f ∈ l,0 < f.bytes
 tot : totF l ≤ 8192
theorem totF_nn : ∀ {l : List Fil},(∀ f ∈ l,filE f = 0) → 0 ≤ totF l
 | [],_=>by simp [totF]
 | f :: l,h=>by
  have h1:=(filE_0 (h f (by simp))).2.1
  have h2:=totF_nn (l:=l) (fun g hg=>h g (by simp [hg]))
  simp only [totF];omega
theorem sumW_bd (w : Int) : ∀ {l : List Fil},(∀ f ∈ l,filE f = 0) → 0 ≤ sumW l w ∧ sumW l w ≤ totF l
 | [],_=>by simp [sumW,totF]
 | f :: l,h=>by
  have h1:=(filE_0 (h f (by simp))).2.1
  have h2:=sumW_bd w (l:=l) (fun g hg=>h g (by simp [hg]))
  simp only [sumW,totF]
  split<;>omega
theorem addW_get {L : List (Int × Int)} {f : Fil} {t : Int} (hf : filE f = 0) (h0 : ∀ w,0 ≤ iget L w) (hb : ∀ w,iget L w + (f.bytes + t) ≤ 1000000) (ht : 0 ≤ t) (w : Int) : iget (addW L f) w = iget L w + (if f.who = w then f.bytes else 0):=by
 have h1:=filE_0 hf
 have h2:=h0 f.who
 have h3:=hb f.who
 have hw : IntKind.i64.wrap (iget L f.who + f.bytes) = iget L f.who + f.bytes:=Go.IntWalk.i64_in _ (by omega)
 unfold addW
 rw [iget_put,hw]
 by_cases h : w = f.who
 ·rw [if_pos h,if_pos h.symm,h]
 ·rw [if_neg h,if_neg (fun e=>h e.symm)];omega
theorem upto_get : ∀ (l : List Fil) (L : List (Int × Int)),(∀ f ∈ l,filE f = 0) → (∀ w,0 ≤ iget L w) → (∀ w,iget L w + totF l ≤ 1000000) → ∀ w,iget (upto l L) w = iget L w + sumW l w
 | [],L,_,_,_,w=>by simp [upto,sumW]
 | f :: l,L,h,h0,hb,w=>by
  have hf:=h f (by simp)
  have hl : ∀ g ∈ l,filE g = 0:=fun g hg=>h g (by simp [hg])
  have hn:=totF_nn hl
  have hg:=addW_get (L:=L) (t:=totF l) hf h0 hb hn
  have h1:=(filE_0 hf).2.1
  simp only [upto,if_pos hf]
  rw [upto_get l (addW L f) hl (fun v=>by have:=h0 v;rw [hg v];split<;>omega) (fun v=>by have h2:=hb v;have h3 : totF (f :: l) = f.bytes + totF l:=rfl;rw [hg v];split<;>omega) w,hg w]
  simp only [sumW];omega
theorem up_get {l : List Fil} (K : FsOk l) (w : Int) : iget (upto l []) w = sumW l w:=by
 rw [upto_get l [] K.ok (fun _=>Int.le_refl 0) (fun _=>by have:=K.tot;show 0 + totF l ≤ 1000000;omega) w]
 show 0 + _ = _
 omega
def sumM : List (Int × Int) → Int
 | []=>0
 | p :: L=>p.2 + sumM L
theorem sumM_put (n v : Int) : ∀ (L : List (Int × Int)),sumM (iput L n v) = sumM L - iget L n + v
 | []=>by simp [iput,iget,sumM]
 | p :: L=>by
  have ih:=sumM_put n v L
  simp only [iput,iget]
  split
  ·simp only [sumM];omega
  ·simp only [sumM,ih];omega
theorem sumM_upto : ∀ (l : List Fil) (L : List (Int × Int)),(∀ f ∈ l,filE f = 0) → (∀ w,0 ≤ iget L w) → (∀ w,iget L w + totF l ≤ 1000000) → sumM (upto l L) = sumM L + totF l
 | [],L,_,_,_=>by simp [upto,totF]
 | f :: l,L,h,h0,hb=>by
  have hf:=h f (by simp)
  have hl : ∀ g ∈ l,filE g = 0:=fun g hg=>h g (by simp [hg])
  have hn:=totF_nn hl
  have hg:=addW_get (L:=L) (t:=totF l) hf h0 hb hn
  have h1:=filE_0 hf
  have h2:=h0 f.who
  have h3:=hb f.who
  have h4 : totF (f :: l) = f.bytes + totF l:=rfl
  have hw : IntKind.i64.wrap (iget L f.who + f.bytes) = iget L f.who + f.bytes:=Go.IntWalk.i64_in _ (by omega)
  simp only [upto,if_pos hf]
  rw [sumM_upto l (addW L f) hl (fun v=>by have:=h0 v;rw [hg v];split<;>omega) (fun v=>by have h2:=hb v;rw [hg v];split<;>omega)]
  unfold addW
  rw [sumM_put,hw]
  omega
def sumI (f : Int → Int) : List Int → Int
 | []=>0
 | a :: l=>f a + sumI f l
theorem sumI_perm {f : Int → Int} {l m : List Int} (h : l.Perm m) : sumI f l = sumI f m:=by
 induction h with
 | nil=>rfl
 | cons x _ ih=>simp only [sumI,ih]
 | swap x y l=>simp only [sumI];omega
 | trans _ _ h1 h2=>exact h1.trans h2
theorem sumI_congr {f g : Int → Int} : ∀ {l : List Int},(∀ w ∈ l,f w = g w) → sumI f l = sumI g l
 | [],_=>rfl
 | a :: l,h=>by
  simp only [sumI]
  rw [h a (by simp),sumI_congr (fun w hw=>h w (by simp [hw]))]
theorem sumI_keys : ∀ (L : List (Int × Int)),(ikeys L).Nodup → sumI (iget L) (ikeys L) = sumM L
 | [],_=>rfl
 | p :: L,h=>by
  unfold ikeys at h
  rw [List.map_cons,List.nodup_cons] at h
  have ih:=sumI_keys L h.2
  show iget (p :: L) p.1 + sumI (iget (p :: L)) (ikeys L) = p.2 + sumM L
  rw [sumI_congr (g:=iget L) (fun w hw=>by
   have : ¬ w = p.1:=fun e=>h.1 (e ▸ hw)
   simp only [iget,if_neg this]),ih]
  simp [iget]
def usedS : List Own → Int
 | []=>0
 | o :: l=>o.used + usedS l
theorem usedS_take {l : List Own} {k : Nat} (h : k < l.length) : usedS (l.take (k + 1)) = usedS (l.take k) + l[k].used:=by
 have key : ∀ (a : List Own) (b : Own),usedS (a ++ [b]) = usedS a + b.used:=by
  intro a b
  induction a with
  | nil=>simp [usedS]
  | cons x a ih=>simp only [List.cons_append,usedS,ih];omega
 rw [List.take_succ_eq_append_getElem h,key]
theorem usedS_map (M : List (Int × Int)) : ∀ (ks : List Int),usedS (ks.map (mkO M)) = sumI (iget M) ks
 | []=>rfl
 | a :: l=>by
  simp only [List.map_cons,usedS,sumI,usedS_map M l];rfl
def sQ (l : List Fil) : Quo:=⟨(srt (ikeys (upto l []))).map (mkO (upto l [])),true⟩
theorem mem_srt {l : List Int} {w : Int} : w ∈ srt l ↔ w ∈ l:=by unfold srt;rw [List.mem_mergeSort]
theorem keys_nodup (l : List Fil) : (ikeys (upto l [])).Nodup:=upto_nodup l [] (by simp [ikeys])
theorem sQ_tot {l : List Fil} (K : FsOk l) : usedS (sQ l).os = totF l:=by
 unfold sQ
 show usedS ((srt (ikeys (upto l []))).map (mkO (upto l []))) = totF l
 have hp : (srt (ikeys (upto l []))).Perm (ikeys (upto l [])):=List.mergeSort_perm _ _
 rw [usedS_map,sumI_perm hp,sumI_keys _ (keys_nodup l),sumM_upto l [] K.ok (fun _=>Int.le_refl 0) (fun _=>by have:=K.tot;show 0 + totF l ≤ 1000000;omega)]
 simp [sumM]
theorem ownR_map (M : List (Int × Int)) : ∀ (ks : List Int) (w : Int),ownR (ks.map (mkO M)) w = if w ∈ ks then mkO M w else newO w
 | [],w=>by simp [ownR]
 | a :: ks,w=>by
  rw [List.map_cons]
  simp only [ownR]
  have e : (mkO M a).who = a:=rfl
  rw [e]
  by_cases h : a = w
  ·rw [if_pos h,h];simp
  ·rw [if_neg h,ownR_map M ks w]
   by_cases h2 : w ∈ ks
   ·rw [if_pos h2,if_pos (by simp [h2])]
   ·rw [if_neg h2,if_neg (by simp only [List.mem_cons,not_or];exact ⟨fun e=>h e.symm,h2⟩)]
theorem sQ_own {l : List Fil} (K : FsOk l) (w : Int) : (ownR (sQ l).os w).used = sumW l w ∧ (ownR (sQ l).os w).lim = -1:=by
 unfold sQ
 rw [ownR_map]
 by_cases h : w ∈ srt (ikeys (upto l []))
 ·rw [if_pos h]
  exact ⟨up_get K w,rfl⟩
 ·rw [if_neg h]
  refine ⟨?_,rfl⟩
  rw [← up_get K w,iget_none (fun c=>h (mem_srt.2 c))];rfl
theorem sQ_len (l : List Fil) : (sQ l).os.length ≤ l.length:=by
 unfold sQ
 rw [List.length_map,srt_length]
 have:=upto_len l []
 unfold ikeys
 rw [List.length_map]
 simpa using this
theorem sQ_srt (l : List Fil) : SRT (sQ l).os:=by
 have hn : (srt (ikeys (upto l []))).Nodup:=(List.mergeSort_perm _ _ : (srt (ikeys (upto l []))).Perm _).nodup_iff.2 (keys_nodup l)
 have hp:=List.pairwise_mergeSort (le:=fun x y : Int=>decide (x ≤ y)) (fun a b c h1 h2=>by simp at *;omega) (fun a b=>by simp;omega) (ikeys (upto l []))
 unfold sQ SRT
 rw [List.pairwise_map]
 have:=List.pairwise_and_iff.2 ⟨hp,hn⟩
 exact this.imp (fun {a b} h=>by
  have h1 : a ≤ b:=by simpa using h.1
  have h2 : a ≠ b:=h.2
  show a < b
  omega)
theorem sQ_who {l : List Fil} (K : FsOk l) {o : Own} (ho : o ∈ (sQ l).os) : ∃ f ∈ l,f.who = o.who:=by
 unfold sQ at ho
 obtain ⟨w,hw,rfl⟩:=List.mem_map.1 ho
 rcases upto_keys l [] K.ok w (mem_srt.1 hw) with c | c
 ·simp [ikeys] at c
 ·exact c
theorem sQ_used {l : List Fil} (K : FsOk l) {o : Own} (ho : o ∈ (sQ l).os) : o.used = sumW l o.who:=by
 unfold sQ at ho
 obtain ⟨w,hw,rfl⟩:=List.mem_map.1 ho
 exact up_get K w
theorem sQ_vq {l : List Fil} (K : FsOk l) : VQ (sQ l):=by
 refine ⟨?_,sQ_srt l,fun o ho=>?_⟩
 ·have h1:=sQ_len l
  have h2:=K.len
  omega
 ·have h1:=sQ_used K ho
  obtain ⟨f,hf,e⟩:=sQ_who K ho
  have h2:=sumW_bd o.who K.ok
  have h3:=K.tot
  unfold sQ at ho
  obtain ⟨w,hw,rfl⟩:=List.mem_map.1 ho
  refine ⟨?_,by omega,by simp [mkO,newO],by simp [mkO,newO],by simp [mkO,newO]⟩
  rw [← e];exact (filE_0 (K.ok f hf)).1
theorem eF_z : ∀ (l : List Fil) (k : Nat),(∀ f ∈ l,filE f = 0) → eF l k = (0,0)
 | [],_,_=>rfl
 | f :: l,k,h=>by
  simp only [eF,if_pos (h f (by simp))]
  exact eF_z l _ (fun g hg=>h g (by simp [hg]))
theorem sums_ok {l : List Fil} (K : FsOk l) : sumsQ l = (sQ l,0):=by
 have h1:=K.len
 have h2:=upto_len l []
 simp only [List.length_nil,Nat.zero_add] at h2
 unfold sumsQ
 rw [if_neg (by omega),if_neg (by rw [eF_z l 0 K.ok];simp),if_neg (by omega),if_neg ?_]
 ·rfl
 ·unfold bigK
  rw [Bool.not_eq_true,List.any_eq_false]
  intro w _
  rw [up_get K w]
  have h3:=sumW_bd w K.ok
  have h4:=K.tot
  simp;omega
theorem FsOk.as {f : Fil} {l : List Fil} (K : FsOk (f :: l)) {w : Int} (hw : whoE w = 0) : FsOk (⟨w,f.bytes⟩ :: l):=by
 have hf:=filE_0 (K.ok f (by simp))
 refine ⟨K.len,fun g hg=>?_,fun g hg=>?_,K.tot⟩
 ·rcases List.mem_cons.1 hg with rfl | hg
  ·unfold filE
   rw [firstE_z]
   intro e he
   simp only [List.mem_cons,List.not_mem_nil,or_false] at he
   rcases he with rfl | rfl
   ·exact hw
   ·exact numE_iff.2 hf.2
  ·exact K.ok g (by simp [hg])
 ·rcases List.mem_cons.1 hg with rfl | hg
  ·exact K.pos f (by simp)
  ·exact K.pos g (by simp [hg])
theorem mov_law {f : Fil} {l : List Fil} (K : FsOk (f :: l)) {w : Int} (hw : whoE w = 0) : ∃ m,aftQ (sQ (f :: l)) (actM f.who w f.bytes) = (m,0) ∧ VQ m ∧ ∀ v,(ownR m.os v).used = sumW (⟨w,f.bytes⟩ :: l) v:=by
 have V:=sQ_vq K
 have hf:=filE_0 (K.ok f (by simp))
 have hp:=K.pos f (by simp)
 have he : movErr (sQ (f :: l)) f.who w f.bytes = 0:=by
  unfold movErr
  rw [firstE_z]
  intro e h
  simp only [List.mem_cons,List.not_mem_nil,or_false] at h
  rcases h with rfl | rfl | rfl | rfl
  ·exact (checkQ_iff _).2 V
  ·exact hf.1
  ·exact hw
  ·exact numE_iff.2 hf.2
 rw [aftM_0 he]
 have hl : ∀ g ∈ l,filE g = 0:=fun g hg=>K.ok g (by simp [hg])
 have o1:=fun v=>(sQ_own K v).1
 have u1 : f.bytes ≤ (ownR (sQ (f :: l)).os f.who).used:=by
  rw [o1]
  simp only [sumW,if_true]
  have:=sumW_bd f.who hl
  omega
 have VM:=mov_ok V hf.1 hw hf.2.1
 by_cases hfw : f.who = w
 ·have e : mov (sQ (f :: l)) f.who w f.bytes = (sQ (f :: l),0):=by
   unfold mov
   rw [if_neg (by omega),if_pos hfw]
  rw [e]
  refine ⟨_,resQ_0 _,V,fun v=>?_⟩
  rw [o1];simp only [sumW,hfw]
 ·have e1 : chg (sQ (f :: l)) w f.bytes = (put1 (sQ (f :: l)) { ownR (sQ (f :: l)).os w with used:=(ownR (sQ (f :: l)).os w).used + f.bytes },0):=by
   unfold chg
   have h1 : fullQ (sQ (f :: l)) w = false:=by
    unfold fullQ
    have h2:=sQ_len (f :: l)
    have h3:=K.len
    rw [decide_eq_false (by omega),Bool.and_false]
   have h2:=(sQ_own K w).2
   have h3:=sumW_bd w K.ok
   have h4:=K.tot
   have h5:=hf.2
   rw [if_neg (by omega),h1,if_neg (by decide),h2,decide_eq_true rfl,if_neg (by simp),if_neg (by rw [o1];simp only [totF] at h3 h4;have h6:=totF_nn hl;omega)]
  have w1 : ∀ v,ownR (put1 (sQ (f :: l)) { ownR (sQ (f :: l)).os w with used:=(ownR (sQ (f :: l)).os w).used + f.bytes }).os v = if w = v then { ownR (sQ (f :: l)).os w with used:=(ownR (sQ (f :: l)).os w).used + f.bytes } else ownR (sQ (f :: l)).os v:=fun v=>by
   have:=ownR_withR (sQ (f :: l)).os { ownR (sQ (f :: l)).os w with used:=(ownR (sQ (f :: l)).os w).used + f.bytes } v V.srt
   rw [show ({ ownR (sQ (f :: l)).os w with used:=(ownR (sQ (f :: l)).os w).used + f.bytes } : Own).who = w from ownR_who _ _] at this
   exact this
  have VC:=chg_ok V hw hf.2.1 (b:=f.bytes)
  have e2 : mov (sQ (f :: l)) f.who w f.bytes = (put1 (chg (sQ (f :: l)) w f.bytes).1 { ownR (chg (sQ (f :: l)) w f.bytes).1.os f.who with used:=(ownR (chg (sQ (f :: l)) w f.bytes).1.os f.who).used - f.bytes },0):=by
   unfold mov
   have h1:=chg_own V hfw (b:=f.bytes)
   rw [if_neg (by omega),if_neg hfw,if_pos (by rw [e1])]
   unfold rls
   rw [if_neg (by rw [h1];omega),if_pos hp]
  rw [e2] at VM ⊢
  refine ⟨_,resQ_0 _,VM,fun v=>?_⟩
  have w2:=ownR_withR (chg (sQ (f :: l)) w f.bytes).1.os { ownR (chg (sQ (f :: l)) w f.bytes).1.os f.who with used:=(ownR (chg (sQ (f :: l)) w f.bytes).1.os f.who).used - f.bytes } v VC.srt
  rw [show ({ ownR (chg (sQ (f :: l)) w f.bytes).1.os f.who with used:=(ownR (chg (sQ (f :: l)) w f.bytes).1.os f.who).used - f.bytes } : Own).who = f.who from ownR_who _ _] at w2
  show (ownR (withR _ _) v).used = _
  rw [w2,e1]
  by_cases c1 : f.who = v
  ·rw [if_pos c1]
   show (ownR _ f.who).used - f.bytes = _
   rw [w1,if_neg (by omega),o1]
   simp only [sumW,if_true]
   rw [if_neg (by omega),c1];omega
  ·rw [if_neg c1]
   show (ownR _ v).used = _
   rw [w1]
   by_cases c2 : w = v
   ·rw [if_pos c2]
    show (ownR _ w).used + f.bytes = _
    rw [o1]
    simp only [sumW]
    rw [if_neg hfw,if_pos c2,c2];omega
   ·rw [if_neg c2,o1]
    simp only [sumW]
    rw [if_neg c1,if_neg c2]
theorem dif_law {a b : Quo} (ha : VQ a) (hb : VQ b) (h : ∀ v,(ownR a.os v).used = (ownR b.os v).used) : diffQ a b = ([],0):=by
 unfold diffQ
 rw [(checkQ_iff a).2 ha,(checkQ_iff b).2 hb,if_pos (by decide)]
 unfold gaps
 rw [List.filter_eq_nil_iff.2 (fun w _=>by unfold difU;rw [h w];simp)]
 rfl
theorem move_law {f : Fil} {l : List Fil} (K : FsOk (f :: l)) {w : Int} (hw : whoE w = 0) : ∃ m,aftQ (sQ (f :: l)) (actM f.who w f.bytes) = (m,0) ∧ m.os.length ≤ 30 ∧ sumsQ (⟨w,f.bytes⟩ :: l) = (sQ (⟨w,f.bytes⟩ :: l),0) ∧ diffQ m (sQ (⟨w,f.bytes⟩ :: l)) = ([],0):=by
 obtain ⟨m,h1,h2,h3⟩:=mov_law K hw
 have K2:=K.as hw
 exact ⟨m,h1,h2.len,sums_ok K2,dif_law h2 (sQ_vq K2) (fun v=>by rw [h3,(sQ_own K2 v).1])⟩
end Go.Proofs.YtkmhnaojgkcjoaaGreatDoor.K19
namespace Go.Proofs.YtkmhnaojgkcjoaaGreatDoor.K19
open Go Dw
set_option maxRecDepth 10000
attribute [local irreducible] Run
set_option maxHeartbeats 4000000
attribute [local irreducible] oE checkQ cnt isR ownR withR bsR fullQ put1 chg rls mov limErr limF actE doA resQ aftQ whoE limE numE goMin goMax actErr movErr filE iget iput upto eF srt isQ roomQ warned mget mput addK allK kys
theorem c34 (L : List Int) : Run Tryz.prog 34 [.mp 0] [bmO L] (.fn 53 [] [.ptr 1 0 0]) [bmO L,bO 0]:=by
 refine run_walkV eok Tryz.func34 rfl (by kernel_rfl) [0] (by rfl) [] ?_
 conv=>whnf
 repeat' (first
 | ((with_reducible refine endx_go ?_);first | (refine endX_of (.inl ⟨[.old 0,.old 1],rfl,rfl,⟨⟨rfl,trivial,⟨⟨rfl,rfl,rfl⟩,trivial⟩⟩,trivial⟩,⟨⟨rfl,rfl,.inl ⟨_,rfl,rfl⟩⟩,⟨rfl,rfl,.inr ⟨rfl,trivial⟩⟩,trivial⟩⟩);done))
  | fail
  )
theorem c34at (L : List Int) {H : Heap} {b : Nat} (h2 : H[b]? = some (bmO L)) : Run Tryz.prog 34 [.mp b] H (.fn 53 [] [.ptr H.length 0 0]) (H ++ [bO b]):=by
 refine run_at (σ:=[b]) (F:=[]) (fl:=true) (c34 L) (by simp) (fun _ h=>by cases h) ⟨rfl,trivial⟩ ?_ (fun _=>⟨rfl,fun o ho=>?_⟩) ?_ ?_
 ·refine ⟨(nthK_iff _ _).2 ⟨_,h2,rfl,rfl,.inl ⟨_,rfl,rfl⟩⟩,trivial⟩
 ·simp only [List.mem_cons,List.not_mem_nil,or_false] at ho
  rcases ho with rfl | rfl
  ·exact flat_bmO _
  ·exact ⟨rfl,Nat.zero_ne_one⟩
 ·simp [ren,rens,tau]
 ·have e1 : renO (tau [b] H.length) (bO 0) = bO b:=rfl
  simp only [outH,List.map_cons,List.map_nil,e1,ren_bmO,setAll,List.length_cons,List.length_nil,List.drop_succ_cons,List.drop_zero,if_true]
  rw [set_same h2]
theorem c33ab (a b : List Own) (h : a.length + b.length < 1000) : Fn 33 [.fs [.fs (a.map Own.enc),.fs (b.map Own.enc)]] (.fs ((a ++ b).map Own.enc)):=by
 have:=c33 [a,b] (by simp) (by simp;omega)
 rw [show [a,b].flatten = a ++ b by simp] at this
 exact this
theorem c23k {a b : Quo} (ha : VQ a) (hb : VQ b) {k : Nat} {ks : List Int} (hk : ks = allK ((a.os ++ b.os).take k)) (h : ¬ (k : Int) < (a.os ++ b.os).length) :
  Run Tryz.prog 23 [.fn 53 [] [.ptr 0 0 0]] [bO 1,bmO ks] (.sl 2 0 (allK (a.os ++ b.os)).length 1 none) [bO 1,bmO ks,⟨((kys a b).map i).map .d,1,0⟩]:=by
 rw [List.take_of_length_le (by omega)] at hk
 subst hk
 exact c72_96 ha hb
theorem nth_k {ks : List Int} {k j : Nat} {K : AV → Prop} (hj : j = k) (h : k < ks.length) (hk : K (.d (i ks[k]))) : nthK ((ks.map i).map .d) j K:=nth_i hj h hk
theorem gap_of {a b : Quo} {ks : List Int} {k : Nat} {out : List Gap} (ho : out = gaps a b (ks.take k)) (h : k < ks.length) (hu : ¬ (ownR a.os ks[k]).used = (ownR b.os ks[k]).used) : out ++ [mkG a b ks[k]] = gaps a b (ks.take (k + 1)):=by rw [gaps_t h hu,ho]
theorem gap_no {a b : Quo} {ks : List Int} {k : Nat} {out : List Gap} (ho : out = gaps a b (ks.take k)) (h : k < ks.length) (hu : (ownR a.os ks[k]).used = (ownR b.os ks[k]).used) : out = gaps a b (ks.take (k + 1)):=by rw [gaps_f h hu,ho]
theorem c13x (a b : Quo) (ha : a.os.length < 1000) (hb : b.os.length < 1000) (hqa : ¬ (checkQ a).2 = 0) (hqb : (checkQ b).2 = 0) : Fn 13 [a.enc,b.enc] (.tup [.fs ((diffQ a b).1.map Gap.enc),i (diffQ a b).2]):=by
 have hv : firstE [(checkQ a).2,0] = (checkQ a).2:=(by rw [firstE_cons,if_neg hqa]);have hn : ¬ firstE [(checkQ a).2,0] = 0:=(by rw [hv];assumption);have hv2 : firstE [(checkQ a).2,(checkQ b).2] = (checkQ a).2:=(by rw [firstE_cons,if_neg hqa]);have hd : diffQ a b = ([],(checkQ a).2):=(by unfold diffQ;rw [hv2,if_neg (by assumption)])
 refine run_walkF eok Tryz.func13 rfl (by kernel_rfl) ?_
 conv=>whnf
 repeat' (first
 | ((with_reducible refine on_ndec_f (by assumption) ?_);conv=>whnf)
 | ((with_reducible refine call_go ?_);(first | refine call_step (c32n a ha hqa _) ?_ | refine call_step (c32r b hb hqb _) ?_ | refine call_step (run_view (c20 [_,_] (by simp)) rfl rfl) ?_);conv=>whnf)
 | ((with_reducible refine endx_go ?_);first | (refine endxv (view_tup (vlc rfl (vlc rfl vln))) ?_;(rw [hd,hv])<;>rfl;done))
  | fail
  )
theorem c13y (a b : Quo) (ha : a.os.length < 1000) (hb : b.os.length < 1000) (hqa : ¬ (checkQ a).2 = 0) (hqb : ¬ (checkQ b).2 = 0) : Fn 13 [a.enc,b.enc] (.tup [.fs ((diffQ a b).1.map Gap.enc),i (diffQ a b).2]):=by
 have hv : firstE [(checkQ a).2,(checkQ b).2] = (checkQ a).2:=(by rw [firstE_cons,if_neg hqa]);have hn : ¬ firstE [(checkQ a).2,(checkQ b).2] = 0:=(by rw [hv];assumption);have hv2 : firstE [(checkQ a).2,(checkQ b).2] = (checkQ a).2:=(by rw [firstE_cons,if_neg hqa]);have hd : diffQ a b = ([],(checkQ a).2):=(by unfold diffQ;rw [hv2,if_neg (by assumption)])
 refine run_walkF eok Tryz.func13 rfl (by kernel_rfl) ?_
 conv=>whnf
 repeat' (first
 | ((with_reducible refine on_ndec_f (by assumption) ?_);conv=>whnf)
 | ((with_reducible refine call_go ?_);(first | refine call_step (c32n a ha hqa _) ?_ | refine call_step (c32n b hb hqb _) ?_ | refine call_step (run_view (c20 [_,_] (by simp)) rfl rfl) ?_);conv=>whnf)
 | ((with_reducible refine endx_go ?_);first | (refine endxv (view_tup (vlc rfl (vlc rfl vln))) ?_;(rw [hd,hv])<;>rfl;done))
  | fail
  )
theorem c13z (a b : Quo) (ha : a.os.length < 1000) (hb : b.os.length < 1000) (hqa : (checkQ a).2 = 0) (hqb : ¬ (checkQ b).2 = 0) : Fn 13 [a.enc,b.enc] (.tup [.fs ((diffQ a b).1.map Gap.enc),i (diffQ a b).2]):=by
 have hv : firstE [0,(checkQ b).2] = (checkQ b).2:=(by rw [firstE_cons,if_pos rfl,firstE_cons,if_neg hqb]);have hn : ¬ firstE [0,(checkQ b).2] = 0:=(by rw [hv];assumption);have hv2 : firstE [(checkQ a).2,(checkQ b).2] = (checkQ b).2:=(by rw [firstE_cons,if_pos hqa,firstE_cons,if_neg hqb]);have hd : diffQ a b = ([],(checkQ b).2):=(by unfold diffQ;rw [hv2,if_neg (by assumption)])
 refine run_walkF eok Tryz.func13 rfl (by kernel_rfl) ?_
 conv=>whnf
 repeat' (first
 | ((with_reducible refine on_ndec_f (by assumption) ?_);conv=>whnf)
 | ((with_reducible refine call_go ?_);(first | refine call_step (c32r a ha hqa _) ?_ | refine call_step (c32n b hb hqb _) ?_ | refine call_step (run_view (c20 [_,_] (by simp)) rfl rfl) ?_);conv=>whnf)
 | ((with_reducible refine endx_go ?_);first | (refine endxv (view_tup (vlc rfl (vlc rfl vln))) ?_;(rw [hd,hv])<;>rfl;done))
  | fail
  )
theorem c13o (a b : Quo) (ha : a.os.length < 1000) (hb : b.os.length < 1000) (hqa : (checkQ a).2 = 0) (hqb : (checkQ b).2 = 0) : Fn 13 [a.enc,b.enc] (.tup [.fs ((diffQ a b).1.map Gap.enc),i (diffQ a b).2]):=by
 have hva:=(checkQ_iff a).1 hqa;have hvb:=(checkQ_iff b).1 hqb;have hla:=hva.len;have hlb:=hvb.len;have hfl : a.os.length + b.os.length < 1000:=(by omega);have hn : firstE [0,0] = 0:=rfl;have hal:=allK_len (a.os ++ b.os);rw [List.length_append] at hal;have hkl:=kys_len a b
 refine run_walkF eok Tryz.func13 rfl (by kernel_rfl) ?_
 conv=>whnf
 repeat' (first
 | ((refine ents_gb (by first | rfl ) ?_);conv=>whnf)
 | ((with_reducible refine on_dec_f ?_ ?_);(focus ((try simp only [List.length_map,List.length_cons,List.length_nil,List.length_append]);omega));conv=>whnf)
 | ((with_reducible refine on_dec (fun h=>?_) (fun h=>?_))<;>(try simp only [List.length_map] at h)<;>conv=>whnf)
 | ((with_reducible refine on_ndec (fun h=>?_) (fun h=>?_))<;>(try simp only [List.length_map] at h)<;>conv=>whnf)
 | ((with_reducible refine call_go ?_);(first | refine call_step (c32r a ha hqa _) ?_ | refine call_step (c32r b hb hqb _) ?_ | refine call_step (run_view (c20 [_,_] (by simp)) rfl rfl) ?_ | refine call_step (run_viewF (c33ab a.os b.os hfl) rfl) ?_ | refine call_step (c34at _ rfl) ?_ | refine call_step (c23bt (c23k hva hvb hI.2 (by assumption)) rfl rfl (Nat.ne_of_beq_eq_false rfl)) ?_ | refine call_step (run_view (c35 a (by omega) hva.srt _) rfl (qview rfl rfl rfl (vlc rfl vln))) ?_ | refine call_step (run_view (c35 b (by omega) hvb.srt _) rfl (qview rfl rfl rfl (vlc rfl vln))) ?_);conv=>whnf)
 | ((with_reducible refine loop_go ?_);first | (refine loop2 (fun (k : Nat) (out : List Gap)=>(kys a b).length - k) (fun (k : Nat) (out : List Gap)=>k ≤ (kys a b).length ∧ out.length ≤ k ∧ out = gaps a b ((kys a b).take k)) (fun (k : Nat) (out : List Gap)=>[(6,.ptr 0 0 0),(8,.ptr 2 0 0),(13,.sl 5 0 out.length 3 none),(53,.sl 4 0 (allK (a.os ++ b.os)).length 1 none),(54,.d (i (allK (a.os ++ b.os)).length)),(55,.d (i k))]) (fun (k : Nat) (out : List Gap)=>[qO a.enf a.os.length 1,rO a.os,qO b.enf b.os.length 3,rO b.os,⟨((kys a b).map i).map .d,1,0⟩,⟨(out.map Gap.enc).map .d,3,0⟩]) (0) ([]) (by exact ⟨Nat.zero_le _,Nat.le_refl _,rfl⟩) ?_ (fun k out Cb hIb hCb=>?_);(exact ⟨[.old 0,.old 1,.old 2,.old 3,.old 6,.void 3],rfl,rfl,⟨⟨rfl,rfl,rfl⟩,⟨rfl,rfl,rfl⟩,⟨rfl,rfl,rfl,rfl⟩,(by first | exact ⟨rfl,rfl,rfl,rfl,rfl⟩ ),(by first | (show (_ : D) = _;with_reducible rfl) ),(by first | exact congrArg (D.int .i64) (by omega) ),trivial⟩,⟨⟨rfl,rfl,.inr ⟨⟨⟨rfl,rfl,rfl,rfl,rfl⟩,rfl,trivial⟩,trivial⟩⟩,⟨rfl,rfl,.inl ⟨_,rfl,rfl⟩⟩,⟨rfl,rfl,.inr ⟨⟨⟨rfl,rfl,rfl,rfl,rfl⟩,rfl,trivial⟩,trivial⟩⟩,⟨rfl,rfl,.inl ⟨_,rfl,rfl⟩⟩,⟨rfl,rfl,.inl ⟨_,rfl,rfl⟩⟩,⟨rfl,rfl,Nat.zero_lt_succ _,rfl⟩,trivial⟩⟩);all_goals (conv=>whnf)) | (refine loop2 (fun (k : Nat) (ks : List Int)=>(a.os ++ b.os).length - k) (fun (k : Nat) (ks : List Int)=>k ≤ (a.os ++ b.os).length ∧ ks = allK ((a.os ++ b.os).take k)) (fun (k : Nat) (ks : List Int)=>[(6,.ptr 0 0 0),(8,.ptr 2 0 0),(10,.mp 4),(41,.d (.fs ((a.os ++ b.os).map Own.enc))),(42,.d (i (a.os ++ b.os).length)),(43,.d (i k))]) (fun (k : Nat) (ks : List Int)=>[qO a.enf a.os.length 1,rO a.os,qO b.enf b.os.length 3,rO b.os,bmO ks]) (0) ([]) (by exact ⟨Nat.zero_le _,by unfold allK;rfl⟩) ?_ (fun k ks C hI hC=>?_);(exact ⟨[.old 2,.old 3,.old 4,.old 5,.old 7],rfl,rfl,⟨⟨rfl,rfl,rfl⟩,⟨rfl,rfl,rfl⟩,(by exact rfl),(by first | (show (_ : D) = _;with_reducible rfl) ),(by first | exact congrArg (D.int .i64) (by simp only [List.length_map]) ),(by first | exact congrArg (D.int .i64) (by omega) ),trivial⟩,⟨⟨rfl,rfl,.inr ⟨⟨⟨rfl,rfl,rfl,rfl,rfl⟩,rfl,trivial⟩,trivial⟩⟩,⟨rfl,rfl,.inl ⟨_,rfl,rfl⟩⟩,⟨rfl,rfl,.inr ⟨⟨⟨rfl,rfl,rfl,rfl,rfl⟩,rfl,trivial⟩,trivial⟩⟩,⟨rfl,rfl,.inl ⟨_,rfl,rfl⟩⟩,⟨rfl,rfl,.inl ⟨_,rfl,rfl⟩⟩,trivial⟩⟩);all_goals (conv=>whnf)))
 | ((with_reducible show C _ _);first | (refine hC (k + 1) (addK ks (a.os ++ b.os)[k].who) _ _ ?_ (by omega) ?_;clear hC;rotate_left;(exact ⟨[.old 0,.old 1,.old 2,.old 3,.old 4],rfl,rfl,⟨⟨rfl,rfl,rfl⟩,⟨rfl,rfl,rfl⟩,(by exact rfl),(by first | (show (_ : D) = _;with_reducible rfl) ),(by first | (show (_ : D) = _;with_reducible rfl) ),(by first | exact congrArg (D.int .i64) (by omega) ),trivial⟩,⟨⟨rfl,rfl,.inr ⟨⟨⟨rfl,rfl,rfl,rfl,rfl⟩,rfl,trivial⟩,trivial⟩⟩,⟨rfl,rfl,.inl ⟨_,rfl,rfl⟩⟩,⟨rfl,rfl,.inr ⟨⟨⟨rfl,rfl,rfl,rfl,rfl⟩,rfl,trivial⟩,trivial⟩⟩,⟨rfl,rfl,.inl ⟨_,rfl,rfl⟩⟩,⟨rfl,rfl,.inl ⟨_,mput_bd _ _,rfl⟩⟩,trivial⟩⟩);(exact ⟨by omega,by rw [hI.2,allK_take (by omega)]⟩)))
 | ((with_reducible show Cb _ _);first | (refine hCb (k + 1) (out ++ [mkG a b ((kys a b)[k]'(by rw [kys_len];omega))]) _ _ ?_ (by omega) ?_;clear hCb;rotate_left;(exact ⟨[.old 0,.old 1,.old 2,.old 3,.old 4,.old 7],rfl,rfl,⟨⟨rfl,rfl,rfl⟩,⟨rfl,rfl,rfl⟩,⟨rfl,rfl,(by simp),rfl,rfl⟩,(by first | exact ⟨rfl,rfl,rfl,rfl,rfl⟩ ),(by first | (show (_ : D) = _;with_reducible rfl) ),(by first | exact congrArg (D.int .i64) (by omega) ),trivial⟩,⟨⟨rfl,rfl,.inr ⟨⟨⟨rfl,rfl,rfl,rfl,rfl⟩,rfl,trivial⟩,trivial⟩⟩,⟨rfl,rfl,.inl ⟨_,rfl,rfl⟩⟩,⟨rfl,rfl,.inr ⟨⟨⟨rfl,rfl,rfl,rfl,rfl⟩,rfl,trivial⟩,trivial⟩⟩,⟨rfl,rfl,.inl ⟨_,rfl,rfl⟩⟩,⟨rfl,rfl,.inl ⟨_,rfl,rfl⟩⟩,⟨rfl,rfl,.inr (wks_add (wksd _ _) ⟨rfl,rfl,rfl,rfl,trivial⟩)⟩,trivial⟩⟩);(exact ⟨by omega,by simp;omega,gap_of hIb.2.2 (by omega) (by assumption)⟩)) | (refine hCb (k + 1) (out) _ _ ?_ (by omega) ?_;clear hCb;rotate_left;(exact ⟨[.old 0,.old 1,.old 2,.old 3,.old 4,.old 5],rfl,rfl,⟨⟨rfl,rfl,rfl⟩,⟨rfl,rfl,rfl⟩,⟨rfl,rfl,rfl,rfl,rfl⟩,(by first | exact ⟨rfl,rfl,rfl,rfl,rfl⟩ ),(by first | (show (_ : D) = _;with_reducible rfl) ),(by first | exact congrArg (D.int .i64) (by omega) ),trivial⟩,⟨⟨rfl,rfl,.inr ⟨⟨⟨rfl,rfl,rfl,rfl,rfl⟩,rfl,trivial⟩,trivial⟩⟩,⟨rfl,rfl,.inl ⟨_,rfl,rfl⟩⟩,⟨rfl,rfl,.inr ⟨⟨⟨rfl,rfl,rfl,rfl,rfl⟩,rfl,trivial⟩,trivial⟩⟩,⟨rfl,rfl,.inl ⟨_,rfl,rfl⟩⟩,⟨rfl,rfl,.inl ⟨_,rfl,rfl⟩⟩,⟨rfl,rfl,.inl ⟨_,rfl,rfl⟩⟩,trivial⟩⟩);(exact ⟨by omega,by omega,gap_no hIb.2.2 (by omega) (by assumption)⟩)))
 | (refine ⟨⟨(by first | (simp;done)),cap_ok (by simp only [List.length_map,List.length_cons,List.length_nil,List.length_append];omega) rfl⟩,?_⟩;conv=>whnf)
 | (refine ix_map (by omega) ?_;conv=>whnf)
 | (refine wrap64 (by omega) ?_;conv=>whnf)
 | (refine wrap64 (by have h8 : (a.os ++ b.os).length = a.os.length + b.os.length:=List.length_append;omega) ?_;conv=>whnf)
 | (refine ⟨⟨by omega,by omega⟩,?_⟩;conv=>whnf)
 | (refine nth_k (k:=k) (by omega) (by omega) ?_;conv=>whnf)
 | (refine ⟨Nat.le_refl _,?_⟩;conv=>whnf)
 | ((with_reducible refine endx_go ?_);first | (refine cut_ (diffQ a b = (out,0)) ?_ (fun hE=>?_);(focus (obtain ⟨hJ1,hJ2,hJ3⟩:=hIb;rw [List.take_of_length_le (by omega)] at hJ3;unfold diffQ;rw [firstE_cons,if_pos hqa,firstE_cons,if_pos hqb,firstE_nil,if_pos rfl,hJ3]));refine endxv (view_tup (vlc (view_map rfl Nat.two_pos) (vlc rfl vln))) ?_;(rw [hE])<;>rfl;done))
  | fail
  )
theorem c13 (a b : Quo) (ha : a.os.length < 1000) (hb : b.os.length < 1000) : Fn 13 [a.enc,b.enc] (.tup [.fs ((diffQ a b).1.map Gap.enc),i (diffQ a b).2]):=by
 by_cases hqa : (checkQ a).2 = 0
 ·by_cases hqb : (checkQ b).2 = 0
  ·exact c13o a b ha hb hqa hqb
  ·exact c13z a b ha hb hqa hqb
 ·by_cases hqb : (checkQ b).2 = 0
  ·exact c13x a b ha hb hqa hqb
  ·exact c13y a b ha hb hqa hqb
end Go.Proofs.YtkmhnaojgkcjoaaGreatDoor.K19
