/-
  Chapter 28: NotifyNoneMissed holds at every input: no condition of ours (its card lists two tables of the library, tied to the text).
-/
import Derived.Test.YtbkmjpmgiaiacaaGreatDoorGrpK
set_option linter.unusedVariables false
set_option linter.unusedSimpArgs false

/-! Vf -/
namespace Go.Proofs.YtbkmjpmgiaiacaaGreatDoor
open Go Dw
set_option maxRecDepth 10000
set_option linter.unusedVariables false
set_option linter.unusedSimpArgs false
attribute [local irreducible] Run
set_option maxHeartbeats 4000000

open Paths
attribute [local irreducible] newD Own checkB addErr roomy bsR ixB dropB addB sz roomOf
def rnGo (l : List Rec) (room : Int) : Nat → Nat → Nat
  | 0, k => k
  | f + 1, k => if k < l.length ∧ roomOf (l.take (k + 1)) ≤ room then rnGo l room f (k + 1) else k
/-- How many records fit. -/
def readN (l : List Rec) (room : Int) : Nat := rnGo l room l.length 0
theorem rn_t {l : List Rec} {room : Int} {k : Nat} (h : k < l.length) (h2 : roomOf (l.take (k + 1)) ≤ room) : rnGo l room (l.length - k) k = rnGo l room (l.length - (k + 1)) (k + 1) := by
  rw [show l.length - k = l.length - (k + 1) + 1 by omega]
  simp only [rnGo, if_pos (show k < l.length ∧ roomOf (l.take (k + 1)) ≤ room from ⟨h, h2⟩)]
theorem rn_f {l : List Rec} {room : Int} {f k : Nat} (h : ¬ (k < l.length ∧ roomOf (l.take (k + 1)) ≤ room)) : rnGo l room f k = k := by
  cases f <;> simp [rnGo, h]
theorem rn_e {l : List Rec} {room : Int} {f k : Nat} (h : l.length ≤ k) : rnGo l room f k = k := rn_f (fun e => by omega)
theorem rn_le {l : List Rec} {room : Int} : ∀ (f k : Nat), k ≤ l.length → rnGo l room f k ≤ l.length
  | 0, k, h => h
  | f + 1, k, h => by
    simp only [rnGo]
    split
    · exact rn_le f (k + 1) (by omega)
    · exact h
theorem readN_le (l : List Rec) (room : Int) : readN l room ≤ l.length := rn_le _ _ (Nat.zero_le _)
theorem RecAt.take {H : Heap} {id n : Nat} {l : List Rec} (h : RecAt H id l) : RecAt H id (l.take n) := by
  obtain ⟨A, h1, h2, h3⟩ := h
  refine ⟨A, h1, by rw [List.length_take]; omega, fun j r hr => h3 j r ?_⟩
  rw [List.getElem?_take] at hr
  split at hr
  · exact hr
  · cases hr
theorem view_recT {H : Heap} {id n k s f : Nat} {l : List Rec} {c : Option Nat} (h : RecAt H id l) (hs : s = 0) (hk : k = n) (hn : n ≤ l.length) : view (f + 3) H (.sl id s k 2 c) = some (.fs ((l.take n).map Rec.enc)) := by
  subst hs; subst hk
  have := view_rec (n := f) (c := c) (h.take (n := k))
  rwa [List.length_take, Nat.min_eq_left hn] at this
theorem small_take {l : List Rec} {n : Nat} (h : small l) : small (l.take n) := ⟨by have := h.1; rw [List.length_take]; omega, fun x hx => h.2 x (List.mem_of_mem_take hx)⟩
theorem pre_at {A : List AV} {L n s1 s2 : Nat} {z : List AV} (hE : L ≤ A.length) (hn : n ≤ L) (h1 : s1 = 0) (h2 : s2 = L - n) (hz : z.length = n) : L - n ≤ (over (over A s1 ((A.drop n).take (L - n))) s2 z).length ∧ ∀ j, j < L - n → (over (over A s1 ((A.drop n).take (L - n))) s2 z)[j]? = A[n + j]? := by
  subst h1; subst h2
  have hl : ((A.drop n).take (L - n)).length = L - n := by rw [List.length_take, List.length_drop]; omega
  have h1 : (over A 0 ((A.drop n).take (L - n))).length = A.length := over_length (by omega)
  refine ⟨by rw [over_length (by omega), h1]; omega, fun j hj => ?_⟩
  rw [over_get (by omega), if_pos hj, over_get (by omega), if_neg (by omega), if_pos (by omega), List.getElem?_take_of_lt (by omega), List.getElem?_drop, Nat.sub_zero]
theorem pre_len {A : List AV} {L n s1 : Nat} (hE : L ≤ A.length) (hn : n ≤ L) (h1 : s1 = 0) : (over A s1 ((A.drop n).take (L - n))).length = A.length := by
  subst h1
  exact over_length (by rw [List.length_take, List.length_drop]; omega)
theorem sl_len2 {q a b : Nat} (h : a = b) : AV.sl q 0 a 2 none = AV.sl q 0 b 2 none := by rw [h]

theorem c105z (L id n : Nat) (A : List AV) (H0 : Heap) (hid : H0[id]? = some ⟨A, 2, 0⟩) (hE : L ≤ A.length) (hL : L < 1000000) (hn : n ≤ L) (h0 : n = 0) : ∃ r H, Run Tryz.prog 105 [.sl id 0 L 2 none, .d (i 0), .d (i n)] H0 r H ∧ (r = .sl id 0 L 2 none ∧ H = H0) := by
  have hlid := lt_of_at hid
  refine run_walkQ eok Tryz.func105 rfl (by kernel_rfl) ?_
  conv => whnf
  repeat' (first
    | ((with_reducible refine on_dec_t ?_ ?_); (focus ((try simp only [List.length_map, List.length_cons, List.length_nil, List.length_append]); omega)); conv => whnf)
    | ((with_reducible refine on_dec (fun h => ?_) (fun h => ?_)) <;> (try simp only [List.length_map] at h) <;> conv => whnf)
    | (refine ⟨⟨by omega, by omega⟩, ?_⟩; conv => whnf)
    | ((with_reducible refine endq_go ?_); first | (exact endq ⟨rfl, rfl⟩; done))
    | fail
    )

theorem c105d (L id n : Nat) (A : List AV) (H0 : Heap) (hid : H0[id]? = some ⟨A, 2, 0⟩) (hE : L ≤ A.length) (hL : L < 1000000) (hn : n ≤ L) (h0 : 0 < n) (hk : ∀ j, j < L → ∃ e, A[j]? = some e ∧ e.known = true) : ∃ r H, Run Tryz.prog 105 [.sl id 0 L 2 none, .d (i 0), .d (i n)] H0 r H ∧ (r = .sl id 0 (L - n) 2 none ∧ ∃ F, H[id]? = some ⟨F, 2, 0⟩ ∧ L - n ≤ F.length ∧ (∀ j, j < L - n → F[j]? = A[n + j]?) ∧ H.length = H0.length ∧ ∀ i, i ≠ id → H[i]? = H0[i]?) := by
  have hlid := lt_of_at hid; have hdl : ((A.drop n).take (L - n)).length = L - n := (by rw [List.length_take, List.length_drop]; omega)
  refine run_walkQ eok Tryz.func105 rfl (by kernel_rfl) ?_
  conv => whnf
  repeat' (first
    | ((with_reducible refine on_dec_f ?_ ?_); (focus ((try simp only [List.length_map, List.length_cons, List.length_nil, List.length_append]); omega)); conv => whnf)
    | ((with_reducible refine on_dec_t ?_ ?_); (focus ((try simp only [List.length_map, List.length_cons, List.length_nil, List.length_append]); omega)); conv => whnf)
    | (refine ⟨[], [], (by decide +kernel), ?_⟩; conv => whnf)
    | (refine own_slr (L - n) L _ (by (repeat (first | assumption ))) Nat.two_pos (show ((0 - 0 + ((A.drop n).take (L - n)).length : Nat) : Int) = ((L - n : Nat) : Int) by rw [hdl]; omega) rfl ⟨by omega, (by have h9 := pre_len (s1 := 0 + 0 + (0 - 0)) hE hn (by omega); show 0 + 0 + L ≤ (over A (0 + 0 + (0 - 0)) ((A.drop n).take (L - n))).length; omega)⟩ ?_; conv => whnf)
    | (refine ⟨(by have h9 := pre_len (s1 := 0 + 0 + (0 - 0)) hE hn (by omega); show 0 + 0 + (L - n) + (L - (L - n)) ≤ (over A (0 + 0 + (0 - 0)) ((A.drop n).take (L - n))).length; omega), ?_⟩; conv => whnf)
    | (refine own_sl 0 0 rfl rfl ⟨by omega, by omega⟩ ?_; conv => whnf)
    | (refine own_sl n L rfl rfl ⟨by omega, by omega⟩ ?_; conv => whnf)
    | (refine srcB0 (by dsimp only; omega) (del_known hE hk) ?_; conv => whnf)
    | (refine setG (by first | omega ) (fun H hl hf ho => ?_); (try dsimp only at hl hf); conv => whnf)
    | (refine nthG (x := ?_) ?_ ?_; rotate_left; (focus ((repeat (first | assumption )); done)); conv => whnf)
    | (refine ⟨⟨by omega, by omega⟩, ?_⟩; conv => whnf)
    | ((with_reducible refine endq_go ?_); first | (have h8 := pre_at (s1 := 0 + 0 + (0 - 0)) (s2 := 0 + 0 + (L - n)) (z := List.replicate (L - (L - n)) (E (E 52).elem).zero) hE hn (by omega) (by omega) (by rw [List.length_replicate]; omega); refine endq ⟨sl_len2 (show 0 - 0 + ((A.drop n).take (L - n)).length = L - n by rw [hdl]; omega), _, (by (repeat (first | assumption ))), h8.1, h8.2, by omega, ?_⟩; intro i hi; (repeat (first | rfl | refine look_set (by assumption) (by omega) ?_)); done))
    | fail
    )

theorem rec_known {A : List AV} {l : List Rec} (ht : ∀ (j : Nat) (r : Rec), l[j]? = some r → ∃ a : AV, A[j]? = some a ∧ RecV a r) : ∀ j, j < l.length → ∃ e, A[j]? = some e ∧ e.known = true := by
  intro j hj
  obtain ⟨a, h1, h2⟩ := ht j _ (List.getElem?_eq_getElem hj)
  rcases h2 with rfl | rfl <;> exact ⟨_, h1, rfl⟩
theorem c105 (L id n : Nat) (A : List AV) (H0 : Heap) (hid : H0[id]? = some ⟨A, 2, 0⟩) (hE : L ≤ A.length) (hL : L < 1000000) (hn : n ≤ L) (hk : ∀ j, j < L → ∃ e, A[j]? = some e ∧ e.known = true) : ∃ r H, Run Tryz.prog 105 [.sl id 0 L 2 none, .d (i 0), .d (i n)] H0 r H ∧ (r = .sl id 0 (L - n) 2 none ∧ ∃ F, H[id]? = some ⟨F, 2, 0⟩ ∧ L - n ≤ F.length ∧ (∀ j, j < L - n → F[j]? = A[n + j]?) ∧ H.length = H0.length ∧ ∀ i, i ≠ id → H[i]? = H0[i]?) := by
  by_cases h0 : n = 0
  · obtain ⟨r, H, h1, h2, h3⟩ := c105z L id n A H0 hid hE hL hn h0
    subst h3; subst h2; subst h0
    exact ⟨_, _, h1, rfl, A, hid, hE, fun j _ => by rw [Nat.zero_add], rfl, fun _ _ => rfl⟩
  · exact c105d L id n A H0 hid hE hL hn (by omega) hk
def rdErr (b : Bd) (t most : Int) : Int := firstE [if 0 ≤ ixB t b.ws 0 then 0 else 6, if decide (0 ≤ most ∧ most ≤ 400) = true then 0 else 2]
theorem c102v {H : Heap} {id n k s : Nat} {l : List Rec} {K : KV} (hR : RecAt H id l) (hs : s = 0) (hk : k = n) (hn : n ≤ l.length) (hl : l.length < 1000000)
    (kk : ∀ (c : Nat) (H' : Heap), H.length = c → H'.length = c + 1 → (∀ i, i < c → H'[i]? = H[i]?) → H'[c]? = some ⟨((l.take n).map Rec.enc).map .d, 2, 0⟩ → K (.sl c 0 n 2 none) H') : ∃ r h', Run Tryz.prog 102 [.sl id s k 2 none] H r h' ∧ K r h' := by
  have hlen : ((l.take n).map Rec.enc).length = n := by rw [List.length_map, List.length_take]; omega
  have h := run_clone cl102 (view_recT (f := 5) (c := none) hR hs hk hn) (by rw [hlen]; omega) (fun y hy => by obtain ⟨x, _, rfl⟩ := List.mem_map.1 hy; exact ⟨rfl, rfl⟩) (fun y hy => by obtain ⟨x, _, rfl⟩ := List.mem_map.1 hy; rfl)
  rw [hlen] at h
  exact ⟨_, _, h, kk _ _ rfl (by simp) (fun i hi => List.getElem?_append_left hi) (by simp)⟩
theorem c102n {H : Heap} {K : KV} (kk : ∀ (c : Nat) (H' : Heap), H.length = c → H'.length = c + 1 → (∀ i, i < c → H'[i]? = H[i]?) → H'[c]? = some ⟨[], 2, 0⟩ → K (.sl c 0 0 2 none) H') : ∃ r h', Run Tryz.prog 102 [.nilS] H r h' ∧ K r h' := by
  have h := run_clone cl102 (H := H) (a := .nilS) (l := []) rfl (by decide) (fun y hy => by cases hy) (fun y hy => by cases hy)
  exact ⟨_, _, h, kk _ _ rfl (by simp) (fun i hi => List.getElem?_append_left hi) (by simp)⟩

theorem view_pair {H : Heap} {n k f : Nat} {a b : D} {c : Option Nat} (h : H[n]? = some ⟨[.d a, .d b], k, 0⟩) : view (f + 2) H (.sl n 0 2 k c) = some (.fs [a, b]) := by
  show (match H[n]? with
    | some o => if o.st < 2 then (if 0 + 2 ≤ o.elems.length then (vl (Dw.view (f + 1) H) ((o.elems.drop 0).take 2)).map D.fs else none) else none
    | none => none) = _
  simp only [h]
  rfl
theorem f54a (z : Int) : Fn 54 [.fs [i 6, i z]] (i 6) := by
  have h := c54 [6, z] (by simp)
  rwa [firstE_cons, if_neg (by decide)] at h
theorem f54b {most : Int} (hm : within most 0 400 = true) : Fn 54 [.fs [i 0, i (if within most 0 400 = true then 0 else 2)]] (i 0) := by
  have h := c54 [0, if within most 0 400 = true then 0 else 2] (by simp)
  have e : firstE [0, if within most 0 400 = true then 0 else 2] = 0 := by simp [firstE, hm]
  rw [e] at h; exact h
theorem f54c {most : Int} (hm : ¬ within most 0 400 = true) : Fn 54 [.fs [i 0, i (if within most 0 400 = true then 0 else 2)]] (i 2) := by
  have h := c54 [0, if within most 0 400 = true then 0 else 2] (by simp)
  have e : firstE [0, if within most 0 400 = true then 0 else 2] = 2 := by simp [firstE, hm]
  rw [e] at h; exact h

theorem c69f (b : Bd) (t most : Int) (hb : SB b) (hc : asc b.ws) (m p q : Nat) (Es : List AV) (H0 : Heap) (hp : H0[p]? = some ⟨[.agg [.sl q 0 b.ws.length 7 none, .d (i b.next)]], 2, 0⟩) (hq : H0[q]? = some ⟨Es, 7, 0⟩) (hE : b.ws.length ≤ Es.length) (hd : p ≠ q ∧ m ≤ p ∧ m ≤ q) (hO : Own m H0 [p, q] Es b.ws b.ws.length) (x : Int) (hn : Run Tryz.prog 104 [.ptr p 0 0, .d (i t)] H0 (.tup [.d (i x), .d (i 6)]) H0) : ∃ r H, Run Tryz.prog 69 [.ptr p 0 0, .d (i t), .d (i most)] H0 r H ∧ (r = .tup [.nilS, .d (i 6)] ∧ H0.length ≤ H.length ∧ ∀ i, i < H0.length → H[i]? = H0[i]?) := by
  have hlp := lt_of_at hp; have hlq := lt_of_at hq; have hbn := hb.n; 
  refine run_walkQ eok Tryz.func69 rfl (by kernel_rfl) ?_
  conv => whnf
  repeat' (first
    | ((with_reducible refine call_go ?_); (first | refine call_step (hn) ?_ | refine call_step (run_view (c56 _ _ _) rfl rfl) ?_ | refine call_step (run_view (c55 _ _) rfl rfl) ?_ | refine call_step (run_view (f54a _) rfl (vlc (view_pair (by (repeat (first | assumption )))) vln)) ?_ ); conv => whnf)
    | (refine newG (fun n H hn hl hf ho => ?_); conv => whnf)
    | ((with_reducible refine endq_go ?_); first | (exact endq ⟨rfl, by omega, by (intro i hi; (repeat (first | rfl | refine look_new (by assumption) (by omega) ?_ )))⟩; done))
    | fail
    )

theorem c69r (b : Bd) (t most : Int) (hb : SB b) (hc : asc b.ws) (m p q : Nat) (Es : List AV) (H0 : Heap) (hp : H0[p]? = some ⟨[.agg [.sl q 0 b.ws.length 7 none, .d (i b.next)]], 2, 0⟩) (hq : H0[q]? = some ⟨Es, 7, 0⟩) (hE : b.ws.length ≤ Es.length) (hd : p ≠ q ∧ m ≤ p ∧ m ≤ q) (hO : Own m H0 [p, q] Es b.ws b.ws.length) (a : Nat) (ha : ixB t b.ws 0 = a) (hm : ¬ within most 0 400 = true) : ∃ r H, Run Tryz.prog 69 [.ptr p 0 0, .d (i t), .d (i most)] H0 r H ∧ (r = .tup [.nilS, .d (i 2)] ∧ H0.length ≤ H.length ∧ ∀ i, i < H0.length → H[i]? = H0[i]?) := by
  have hlp := lt_of_at hp; have hlq := lt_of_at hq; have hbn := hb.n; 
  refine run_walkQ eok Tryz.func69 rfl (by kernel_rfl) ?_
  conv => whnf
  repeat' (first
    | ((with_reducible refine call_go ?_); (first | refine call_step (c104o b t a hb hc ha m p _ ⟨q, Es, hp, hq, hE, hd, hO⟩) ?_ | refine call_step (run_view (c56 _ _ _) rfl rfl) ?_ | refine call_step (run_view (c55 _ _) rfl rfl) ?_ | refine call_step (run_view (f54c hm) rfl (vlc (view_pair (by (repeat (first | assumption )))) vln)) ?_ ); conv => whnf)
    | (refine newG (fun n H hn hl hf ho => ?_); conv => whnf)
    | ((with_reducible refine endq_go ?_); first | (exact endq ⟨rfl, by omega, by (intro i hi; (repeat (first | rfl | refine look_new (by assumption) (by omega) ?_ )))⟩; done))
    | fail
    )

theorem c69l (b : Bd) (t most : Int) (hb : SB b) (hc : asc b.ws) (m p q : Nat) (Es : List AV) (H0 : Heap) (hp : H0[p]? = some ⟨[.agg [.sl q 0 b.ws.length 7 none, .d (i b.next)]], 2, 0⟩) (hq : H0[q]? = some ⟨Es, 7, 0⟩) (hE : b.ws.length ≤ Es.length) (hd : p ≠ q ∧ m ≤ p ∧ m ≤ q) (hO : Own m H0 [p, q] Es b.ws b.ws.length) (a : Nat) (ha : ixB t b.ws 0 = a) (hm : within most 0 400 = true) (hla : a < b.ws.length) (x : BW) (cr : AV) (hEa : Es[a]? = some (.agg [.d (i x.id), .d (.str x.w.path), .d (.bool x.w.deep), .d (i x.w.filter), .d (i x.w.room), cr, .d (.bool x.lost)])) (hlo : x.lost = true) : ∃ r H, Run Tryz.prog 69 [.ptr p 0 0, .d (i t), .d (i most)] H0 r H ∧ (r = .tup [.nilS, .d (i 16)] ∧ H0.length ≤ H.length ∧ ∃ Fs, H[q]? = some ⟨Fs, 7, 0⟩ ∧ Fs.length = Es.length ∧ (∀ i, i ≠ a → Fs[i]? = Es[i]?) ∧ Fs[a]? = some (.agg [.d (i x.id), .d (.str x.w.path), .d (.bool x.w.deep), .d (i x.w.filter), .d (i x.w.room), cr, .d (.bool false)]) ∧ ∀ i, i ≠ q → i < H0.length → H[i]? = H0[i]?) := by
  have hlp := lt_of_at hp; have hlq := lt_of_at hq; have hbn := hb.n; have hla2 := lt_of_at hEa
  refine run_walkQ eok Tryz.func69 rfl (by kernel_rfl) ?_
  conv => whnf
  repeat' (first
    | ((with_reducible refine onBool_t (by assumption) ?_); conv => whnf)
    | ((with_reducible refine call_go ?_); (first | refine call_step (c104o b t a hb hc ha m p _ ⟨q, Es, hp, hq, hE, hd, hO⟩) ?_ | refine call_step (run_view (c56 _ _ _) rfl rfl) ?_ | refine call_step (run_view (c55 _ _) rfl rfl) ?_ | refine call_step (run_view (f54b hm) rfl (vlc (view_pair (by (repeat (first | assumption )))) vln)) ?_ ); conv => whnf)
    | (refine newG (fun n H hn hl hf ho => ?_); conv => whnf)
    | (refine setGk (by first | omega ) (fun H hl hf ho => ?_); (try dsimp only at hl hf); conv => whnf)
    | (refine setG (by first | omega ) (fun H hl hf ho => ?_); (try dsimp only at hl hf); conv => whnf)
    | (refine nthGk (x := ?_) ?_ ?_; rotate_left; (focus ((repeat (first | assumption )); done)); conv => whnf)
    | (refine nthG (x := ?_) ?_ ?_; rotate_left; (focus ((repeat (first | assumption | refine look_new (by assumption) (by omega) ?_ )); done)); conv => whnf)
    | (refine ⟨⟨by omega, by omega⟩, ?_⟩; conv => whnf)
    | ((with_reducible refine endq_go ?_); first | (refine endq ⟨rfl, by omega, ?_, ?_, ?_, ?_, ?_, ?_⟩; rotate_left; (focus ((repeat (first | assumption )); done)); (focus (dsimp only at *; omega)); (focus (intro i hi; (repeat (first | rfl | refine look_set (by assumption) (by omega) ?_)))); (focus ((repeat (first | assumption )); done)); (focus (intro i hi hlt; (repeat (first | rfl | refine look_new (by assumption) (by omega) ?_ | refine look_set (by assumption) (by omega) ?_)))); done))
    | fail
    )

theorem c105n (H0 : Heap) : ∃ r H, Run Tryz.prog 105 [.nilS, .d (i 0), .d (i 0)] H0 r H ∧ (r = .nilS ∧ H = H0) := by
  refine run_walkQ eok Tryz.func105 rfl (by kernel_rfl) ?_
  conv => whnf
  repeat' (first
    | (refine ⟨⟨by omega, by omega⟩, ?_⟩; conv => whnf)
    | ((with_reducible refine endq_go ?_); first | (exact endq ⟨rfl, rfl⟩; done))
    | fail
    )

theorem c69n (b : Bd) (t most : Int) (hb : SB b) (hc : asc b.ws) (m p q : Nat) (Es : List AV) (H0 : Heap) (hp : H0[p]? = some ⟨[.agg [.sl q 0 b.ws.length 7 none, .d (i b.next)]], 2, 0⟩) (hq : H0[q]? = some ⟨Es, 7, 0⟩) (hE : b.ws.length ≤ Es.length) (hd : p ≠ q ∧ m ≤ p ∧ m ≤ q) (hO : Own m H0 [p, q] Es b.ws b.ws.length) (a : Nat) (ha : ixB t b.ws 0 = a) (hm : within most 0 400 = true) (hla : a < b.ws.length) (x : BW) (hEa : Es[a]? = some (.agg [.d (i x.id), .d (.str x.w.path), .d (.bool x.w.deep), .d (i x.w.filter), .d (i x.w.room), .nilS, .d (.bool x.lost)])) (hlo : x.lost = false) (hx0 : x.recs = []) : ∃ r H, Run Tryz.prog 69 [.ptr p 0 0, .d (i t), .d (i most)] H0 r H ∧ (∃ c, r = .tup [.sl c 0 (readN x.recs most) 2 none, .d (i 0)] ∧ H[c]? = some ⟨((x.recs.take (readN x.recs most)).map Rec.enc).map .d, 2, 0⟩ ∧ H0.length ≤ c ∧ ∃ Fs, H[q]? = some ⟨Fs, 7, 0⟩ ∧ Fs.length = Es.length ∧ (∀ i, i ≠ a → Fs[i]? = Es[i]?) ∧ Fs[a]? = some (.agg [.d (i x.id), .d (.str x.w.path), .d (.bool x.w.deep), .d (i x.w.filter), .d (i x.w.room), .nilS, .d (.bool x.lost)]) ∧ ∀ i, i ≠ q → i < H0.length → H[i]? = H0[i]?) := by
  have hlp := lt_of_at hp; have hlq := lt_of_at hq; have hbn := hb.n; have hla2 := lt_of_at hEa
  refine run_walkQ eok Tryz.func69 rfl (by kernel_rfl) ?_
  conv => whnf
  repeat' (first
    | ((with_reducible refine onBool_f (by assumption) ?_); conv => whnf)
    | (refine call_stepQ (c105n _) (fun r H hQ => ?_); obtain ⟨rfl, rfl⟩ := hQ; conv => whnf)
    | ((with_reducible refine call_go ?_); (first | refine call_step (c104o b t a hb hc ha m p _ ⟨q, Es, hp, hq, hE, hd, hO⟩) ?_ | refine call_step (run_view (c56 _ _ _) rfl rfl) ?_ | refine call_step (run_view (c55 _ _) rfl rfl) ?_ | refine call_step (run_view (f54b hm) rfl (vlc (view_pair (by (repeat (first | assumption )))) vln)) ?_ ); conv => whnf)
    | ((with_reducible refine loop_go ?_); first | (apply loopG1 (fun (k : Nat) (H : Heap) => x.recs.length - k) (fun (k : Nat) (H : Heap) => k ≤ x.recs.length ∧ readN x.recs most = rnGo x.recs most (x.recs.length - k) k ∧ H0.length ≤ H.length ∧ ∀ i, i < H0.length → H[i]? = H0[i]?) (fun (k : Nat) (H : Heap) => [(2, .d (i most)), (10, .ptr q a 0), (11, .d (i k))]) (0); rotate_left; (focus (exact .inl ⟨rfl, ⟨(by first | rfl ), congrArg (fun z => AV.ptr q z 0) (by omega), (by first | rfl ), trivial⟩⟩)); rotate_left; (focus (exact ⟨Nat.zero_le _, rfl, by omega, by (intro i hi; (repeat (first | rfl | refine look_new (by assumption) (by omega) ?_ )))⟩)); intro k H C hI hC; obtain ⟨hk, hkn, hlen, hfr⟩ := hI; have hq1 := (hfr q hlq).trans hq; have hlq1 := lt_of_at hq1; (obtain rfl : k = 0 := (by rw [hx0] at hk; simpa using hk)); all_goals (conv => whnf)))
    | (refine c102n (fun c H hn hl hf ho => ?_); conv => whnf)
    | (refine newG (fun n H hn hl hf ho => ?_); conv => whnf)
    | (refine setG (by first | omega ) (fun H hl hf ho => ?_); (try dsimp only at hl hf); conv => whnf)
    | (refine nthGk (x := ?_) ?_ ?_; rotate_left; (focus ((repeat (first | assumption )); done)); conv => whnf)
    | (refine nthG (x := ?_) ?_ ?_; rotate_left; (focus ((repeat (first | assumption | refine look_new (by assumption) (by omega) ?_ )); done)); conv => whnf)
    | (refine ⟨⟨by omega, by omega⟩, ?_⟩; conv => whnf)
    | ((with_reducible refine endq_go ?_); first | (rw [show readN x.recs most = 0 by rw [hkn, rn_e (by rw [hx0]; exact Nat.le_refl _)]]; refine endq ⟨_, rfl, ?_, by omega, ?_, ?_, ?_, ?_, ?_, ?_⟩; rotate_left; rotate_left; (focus ((repeat (first | assumption )); done)); (focus (dsimp only at *; omega)); (focus (intro i hi; (repeat (first | rfl | refine look_set (by assumption) (by omega) ?_)))); (focus ((repeat (first | assumption )); done)); (focus (intro i hi hlt; (repeat (first | rfl | refine look_new (by assumption) (by omega) ?_ | refine look_set (by assumption) (by omega) ?_)))); (focus (rw [hx0]; (repeat (first | assumption | refine look_set (by assumption) (by omega) ?_)))); done))
    | fail
    )

theorem c69s (b : Bd) (t most : Int) (hb : SB b) (hc : asc b.ws) (m p q : Nat) (Es : List AV) (H0 : Heap) (hp : H0[p]? = some ⟨[.agg [.sl q 0 b.ws.length 7 none, .d (i b.next)]], 2, 0⟩) (hq : H0[q]? = some ⟨Es, 7, 0⟩) (hE : b.ws.length ≤ Es.length) (hd : p ≠ q ∧ m ≤ p ∧ m ≤ q) (hO : Own m H0 [p, q] Es b.ws b.ws.length) (a : Nat) (ha : ixB t b.ws 0 = a) (hm : within most 0 400 = true) (hla : a < b.ws.length) (x : BW) (id : Nat) (A : List AV) (hEa : Es[a]? = some (.agg [.d (i x.id), .d (.str x.w.path), .d (.bool x.w.deep), .d (i x.w.filter), .d (i x.w.room), .sl id 0 x.recs.length 2 none, .d (.bool x.lost)])) (hlo : x.lost = false) (hs : small x.recs) (hid : H0[id]? = some ⟨A, 2, 0⟩) (hlA : x.recs.length ≤ A.length) (htA : ∀ (j : Nat) (r : Rec), x.recs[j]? = some r → ∃ a : AV, A[j]? = some a ∧ RecV a r) (hne : id ≠ q ∧ id ≠ p) : ∃ r H, Run Tryz.prog 69 [.ptr p 0 0, .d (i t), .d (i most)] H0 r H ∧ (∃ c, r = .tup [.sl c 0 (readN x.recs most) 2 none, .d (i 0)] ∧ H[c]? = some ⟨((x.recs.take (readN x.recs most)).map Rec.enc).map .d, 2, 0⟩ ∧ H0.length ≤ c ∧ ∃ Fs, H[q]? = some ⟨Fs, 7, 0⟩ ∧ Fs.length = Es.length ∧ (∀ i, i ≠ a → Fs[i]? = Es[i]?) ∧ Fs[a]? = some (.agg [.d (i x.id), .d (.str x.w.path), .d (.bool x.w.deep), .d (i x.w.filter), .d (i x.w.room), .sl id 0 (x.recs.length - readN x.recs most) 2 none, .d (.bool x.lost)]) ∧ (∀ i, i ≠ q → i ≠ id → i < H0.length → H[i]? = H0[i]?) ∧ ∃ F, H[id]? = some ⟨F, 2, 0⟩ ∧ x.recs.length - readN x.recs most ≤ F.length ∧ ∀ j, j < x.recs.length - readN x.recs most → F[j]? = A[readN x.recs most + j]?) := by
  have hlp := lt_of_at hp; have hlq := lt_of_at hq; have hbn := hb.n; have hla2 := lt_of_at hEa; have hlid := lt_of_at hid; have hs1 := hs.1
  refine run_walkQ eok Tryz.func69 rfl (by kernel_rfl) ?_
  conv => whnf
  repeat' (first
    | ((with_reducible refine onBool_f (by assumption) ?_); conv => whnf)
    | ((with_reducible refine on_dec (fun h => ?_) (fun h => ?_)) <;> (try simp only [List.length_map] at h) <;> conv => whnf)
    | (refine c102v (n := k) hR (by omega) (by omega) hk (by omega) (fun c H hn hl hf ho => ?_); conv => whnf)
    | (refine call_stepQ (c105 x.recs.length id k A _ (by (repeat (first | assumption | refine look_new (by assumption) (by omega) ?_ ))) hlA (by omega) hk (rec_known htA)) (fun r H hQ => ?_); obtain ⟨rfl, F, hF, hFl, hFa, hHl, hHf⟩ := hQ; have hlF := lt_of_at hF; conv => whnf)
    | ((with_reducible refine call_go ?_); (first | refine call_step (c104o b t a hb hc ha m p _ ⟨q, Es, hp, hq, hE, hd, hO⟩) ?_ | refine call_step (run_view (c56 _ _ _) rfl rfl) ?_ | refine call_step (run_view (c55 _ _) rfl rfl) ?_ | refine call_step (run_view (f54b hm) rfl (vlc (view_pair (by (repeat (first | assumption )))) vln)) ?_ | refine call_step (run_view (c77 (x.recs.take (k + 1)) (small_take hs)) rfl (vlc (view_recT hR (by omega) (by omega) (by omega)) vln)) ?_); conv => whnf)
    | ((with_reducible refine loop_go ?_); first | (apply loopG1 (fun (k : Nat) (H : Heap) => x.recs.length - k) (fun (k : Nat) (H : Heap) => k ≤ x.recs.length ∧ readN x.recs most = rnGo x.recs most (x.recs.length - k) k ∧ H0.length ≤ H.length ∧ ∀ i, i < H0.length → H[i]? = H0[i]?) (fun (k : Nat) (H : Heap) => [(2, .d (i most)), (10, .ptr q a 0), (11, .d (i k))]) (0); rotate_left; (focus (exact .inl ⟨rfl, ⟨(by first | rfl ), congrArg (fun z => AV.ptr q z 0) (by omega), (by first | rfl ), trivial⟩⟩)); rotate_left; (focus (exact ⟨Nat.zero_le _, rfl, by omega, by (intro i hi; (repeat (first | rfl | refine look_new (by assumption) (by omega) ?_ )))⟩)); intro k H C hI hC; obtain ⟨hk, hkn, hlen, hfr⟩ := hI; have hq1 := (hfr q hlq).trans hq; have hlq1 := lt_of_at hq1; have hid1 := (hfr id hlid).trans hid; have hlid1 := lt_of_at hid1; have hR : RecAt H id x.recs := ⟨A, hid1, hlA, htA⟩; all_goals (conv => whnf)))
    | ((with_reducible show C _ _); first | (refine hC (k + 1) _ _ ?_ (by omega) ?_; clear hC; rotate_left; (exact ⟨(by first | rfl ), congrArg (fun z => AV.ptr q z 0) (by omega), (by first | rfl ), trivial⟩); exact ⟨by omega, by rw [hkn, rn_t (by omega) (by omega)], by omega, by (intro i hi; (repeat (first | rfl | refine look_new (by assumption) (by omega) ?_ )))⟩))
    | (refine wrap64 (by omega) ?_; conv => whnf)
    | (refine own_sl 0 (k + 1) rfl (by omega) ⟨by omega, by omega⟩ ?_; conv => whnf)
    | (refine own_sl 0 k rfl rfl ⟨by omega, by omega⟩ ?_; conv => whnf)
    | (refine newG (fun n H hn hl hf ho => ?_); conv => whnf)
    | (refine setG (by first | omega ) (fun H hl hf ho => ?_); (try dsimp only at hl hf); conv => whnf)
    | (refine nthGk (x := ?_) ?_ ?_; rotate_left; (focus ((repeat (first | assumption )); done)); conv => whnf)
    | (refine nthG (x := ?_) ?_ ?_; rotate_left; (focus ((repeat (first | assumption | refine look_new (by assumption) (by omega) ?_ | refine look_set (by assumption) (by omega) ?_)); done)); conv => whnf)
    | (refine ⟨⟨by omega, by omega⟩, ?_⟩; conv => whnf)
    | ((with_reducible refine endq_go ?_); first | (rw [show readN x.recs most = k by rw [hkn, rn_f (by omega)]]; refine endq ⟨_, rfl, ?_, by omega, ?_, ?_, ?_, ?_, ?_, ?_, F, ?_, hFl, hFa⟩; rotate_left; rotate_left; (focus ((repeat (first | assumption )); done)); (focus (dsimp only at *; omega)); (focus (intro i hi; (repeat (first | rfl | refine look_set (by assumption) (by omega) ?_)))); (focus ((repeat (first | assumption )); done)); (focus (intro i hi hi2 hlt; (repeat (first | rfl | refine look_new (by assumption) (by omega) ?_ | refine look_set (by assumption) (by omega) ?_)))); (focus ((repeat (first | assumption | refine look_set (by assumption) (by omega) ?_)); done)); (focus ((repeat (first | assumption | refine look_set (by assumption) (by omega) ?_)); done)); done))
    | fail
    )

end Go.Proofs.YtbkmjpmgiaiacaaGreatDoor

/-! Vg -/
namespace Go.Proofs.YtbkmjpmgiaiacaaGreatDoor
open Go Dw
set_option maxRecDepth 10000
set_option linter.unusedVariables false
set_option linter.unusedSimpArgs false
attribute [local irreducible] Run
set_option maxHeartbeats 4000000

open Paths
attribute [local irreducible] newD Own checkB addErr roomy bsR ixB dropB addB sz roomOf
/-- A watch after a reading. -/
def readW (x : BW) (room : Int) : BW := if x.lost = true then ⟨x.id, x.w, x.recs, false⟩ else ⟨x.id, x.w, x.recs.drop (readN x.recs room), x.lost⟩
def readL (x : BW) (room : Int) : List Rec := if x.lost = true then [] else x.recs.take (readN x.recs room)
def readC (x : BW) : Int := if x.lost = true then 16 else 0
def readB (b : Bd) (a : Nat) (room : Int) : Bd := match b.ws[a]? with
  | some x => ⟨b.ws.set a (readW x room), b.next⟩
  | none => b
theorem readB_ws {b : Bd} {a : Nat} {x : BW} {room : Int} (hx : b.ws[a]? = some x) : readB b a room = ⟨b.ws.set a (readW x room), b.next⟩ := by unfold readB; rw [hx]
theorem flat_recs (H : Heap) (n : Nat) : ∀ l : List Rec, ((l.map Rec.enc).map AV.d).flatMap (reach n H) = []
  | [] => rfl
  | x :: l => by
    rw [List.map_cons, List.map_cons, List.flatMap_cons, flat_recs H n l]
    cases n <;> rfl
theorem reach_recs {H : Heap} {n c k : Nat} {l : List Rec} (h : H[c]? = some ⟨(l.map Rec.enc).map .d, 2, 0⟩) : reach (n + 1) H (.sl c 0 k 2 none) = [c] := by
  show c :: (match H[c]? with | some o => o.elems.flatMap (Dw.reach n H) | none => []) = [c]
  rw [h]
  simp only [flat_recs]
theorem rd_fin {f : Nat} {args : List AV} {b' : Bd} {m p : Nat} {H0 H : Heap} {X : List Nat} {cv : AV} {l : List Rec} {e : Int} (h1 : Run Tryz.prog f args H0 (.tup [cv, .d (i e)]) H) (hv : view 7 H cv = some (.fs (l.map Rec.enc))) (hr : reach 7 H cv = X)
    (h3 : BHX m H p b' X) (hX : ∀ i ∈ X, m ≤ i) (hf : ∀ i, i < m → H[i]? = H0[i]?) : ∃ r H', Run Tryz.prog f args H0 r H' ∧ (r = .d (.tup [.fs (l.map Rec.enc), i e]) ∧ BH m H' p b' ∧ ∀ i, i < m → H'[i]? = H0[i]?) := by
  have hr2 : reach 8 H (.tup [cv, .d (i e)]) = X := by
    show ([cv, AV.d (i e)]).flatMap (reach 7 H) = X
    rw [List.flatMap_cons, hr]
    simp [reach]
  refine ⟨_, _, run_giveH h1 (view_tup (vlc hv (vlc rfl vln))), rfl, h3.frame (fun i hi => freeze_at (by rw [hr2]; exact hi)), fun i hi => ?_⟩
  rw [freeze_at (by rw [hr2]; intro h; have := hX i h; omega)]
  exact hf i hi
/-- read: what is read is data. -/
theorem c69 (b : Bd) (t most : Int) (hb : SB b) (hc : asc b.ws) (a : Nat) (ha : ixB t b.ws 0 = a) (hm : within most 0 400 = true) (x : BW) (hx : b.ws[a]? = some x) (m p : Nat) (H0 : Heap) (hB : BH m H0 p b) :
    ∃ r H, Run Tryz.prog 69 [.ptr p 0 0, .d (i t), .d (i most)] H0 r H ∧ (r = .d (.tup [.fs ((readL x most).map Rec.enc), i (readC x)]) ∧ BH m H p (readB b a most) ∧ ∀ i, i < m → H[i]? = H0[i]?) := by
  obtain ⟨q, Es, hp, hq, hE, hd, hO⟩ := hB
  have hlp := lt_of_at hp; have hlq := lt_of_at hq
  obtain ⟨hla, hxa⟩ := List.getElem?_eq_some_iff.1 hx
  obtain ⟨o, hoK, hset⟩ := hO.focus (Nat.le_refl _) hla
  rw [hxa] at hoK
  have hs : small x.recs := hb.r x (hxa ▸ List.getElem_mem hla)
  have hn := readN_le x.recs most
  have hlen : b.ws.length = (readB b a most).ws.length := by rw [readB_ws hx, List.length_set]
  have hnext : (readB b a most).next = b.next := by rw [readB_ws hx]
  have hws : (readB b a most).ws = b.ws.set a (readW x most) := by rw [readB_ws hx]
  obtain ⟨d1, d2, d3⟩ := hd
  by_cases hlo : x.lost = true
  · have hW : readW x most = ⟨x.id, x.w, x.recs, false⟩ := by unfold readW; rw [if_pos hlo]
    have hL : readL x most = [] := by unfold readL; rw [if_pos hlo]
    have hC : readC x = 16 := by unfold readC; rw [if_pos hlo]
    rw [hL, hC]
    have key : ∀ cr : AV, Es[a]? = some (bwX x cr) → (∀ (H : Heap) (Fs : List AV), (∀ i, i ≠ q → i < H0.length → H[i]? = H0[i]?) → Fs[a]? = some (bwX ⟨x.id, x.w, x.recs, false⟩ cr) → OwnAt m H [p, q] Fs[a]? ⟨x.id, x.w, x.recs, false⟩ o) → ∃ r H, Run Tryz.prog 69 [.ptr p 0 0, .d (i t), .d (i most)] H0 r H ∧ (r = .d (.tup [.fs (([] : List Rec).map Rec.enc), i 16]) ∧ BH m H p (readB b a most) ∧ ∀ i, i < m → H[i]? = H0[i]?) := by
      intro cr hEa hown
      obtain ⟨r, H, h1, rfl, h2, Fs, h3, h4, h5, h6, h7⟩ := c69l b t most hb hc m p q Es H0 hp hq hE ⟨d1, d2, d3⟩ hO a ha hm hla x cr hEa hlo
      refine rd_fin (X := []) h1 rfl rfl (BHX.of hlen (by rw [hnext, h7 p d1 hlp]; exact hp) h3 (by omega) ⟨d1, d2, d3⟩ ⟨by simp, by simp⟩ ?_) (fun i h => by cases h) (fun i hi => h7 i (by omega) (by omega))
      rw [hws, hW]
      exact hset H ([p, q] ++ []) Fs ⟨x.id, x.w, x.recs, false⟩ o (fun i hi => .inl (by simpa using hi)) h5 (by simpa using hown H Fs h7 h6) (fun a h => .inl h) (fun i hi _ hlt _ => h7 i (fun e => hi (by simp [e])) hlt)
    rcases hoK.split with ⟨rfl, hr0, hEa⟩ | ⟨id, A, rfl, hEa, hid, hlA, htA, hidB, hidm⟩
    · exact key .nilS hEa fun H Fs _ h => ⟨hr0, h⟩
    · exact key (.sl id 0 x.recs.length 2 none) hEa fun H Fs hf h => ⟨h, RecAt.look ⟨A, hid, hlA, htA⟩ (hf id (fun e => hidB (by simp [e])) (lt_of_at hid)), hidB, hidm⟩
  · have hlo' : x.lost = false := by simpa using hlo
    have hW : readW x most = ⟨x.id, x.w, x.recs.drop (readN x.recs most), x.lost⟩ := by unfold readW; rw [if_neg hlo]
    have hL : readL x most = x.recs.take (readN x.recs most) := by unfold readL; rw [if_neg hlo]
    have hC : readC x = 0 := by unfold readC; rw [if_neg hlo]
    rw [hL, hC]
    have hlt : (x.recs.take (readN x.recs most)).length = readN x.recs most := by rw [List.length_take]; omega
    have fin : ∀ (H : Heap) (c : Nat) (Fs : List AV) (o' : Option Nat), Run Tryz.prog 69 [.ptr p 0 0, .d (i t), .d (i most)] H0 (.tup [.sl c 0 (readN x.recs most) 2 none, .d (i 0)]) H → H[c]? = some ⟨((x.recs.take (readN x.recs most)).map Rec.enc).map .d, 2, 0⟩ → H0.length ≤ c → H[q]? = some ⟨Fs, 7, 0⟩ → Fs.length = Es.length → (∀ i, i ≠ a → Fs[i]? = Es[i]?) → (∀ i, i ≠ q → o ≠ some i → i < H0.length → H[i]? = H0[i]?) → OwnAt m H ([p, q] ++ [c]) Fs[a]? (readW x most) o' → (∀ a, o' = some a → o = some a) → ∃ r H, Run Tryz.prog 69 [.ptr p 0 0, .d (i t), .d (i most)] H0 r H ∧ (r = .d (.tup [.fs ((x.recs.take (readN x.recs most)).map Rec.enc), i 0]) ∧ BH m H p (readB b a most) ∧ ∀ i, i < m → H[i]? = H0[i]?) := by
      intro H c Fs o' h1 hc1 hc2 h3 h4 h5 h6 h7 h8
      have hv : view 7 H (.sl c 0 (readN x.recs most) 2 none) = some (.fs ((x.recs.take (readN x.recs most)).map Rec.enc)) := by
        have := view_rec (n := 4) (c := none) (RecAt.of hc1)
        rwa [hlt] at this
      have hne := hoK.ne
      refine rd_fin (X := [c]) h1 hv (reach_recs hc1) (BHX.of hlen (by rw [hnext, h6 p d1 (hne.1 p (by simp)) hlp]; exact hp) h3 (by omega) ⟨d1, d2, d3⟩ ⟨by simp; omega, by simp; omega⟩ ?_) (fun i hi => by rw [List.mem_singleton.1 hi]; omega) (fun i hi => h6 i (by omega) (hne.2 i hi) (by omega))
      rw [hws]
      exact hset H ([p, q] ++ [c]) Fs (readW x most) o' (fun i hi => by simp only [List.mem_append, List.mem_cons, List.not_mem_nil, or_false] at hi ⊢; omega) h5 h7 (fun a h => .inl (h8 a h)) (fun i hi _ hlt hne => h6 i (fun e => hi (by simp [e])) hne hlt)
    rcases hoK.split with ⟨rfl, hr0, hEa⟩ | ⟨id, A, rfl, hEa, hid, hlA, htA, hidB, hidm⟩
    · obtain ⟨r, H, h1, c, rfl, hc1, hc2, Fs, h3, h4, h5, h6, h7⟩ := c69n b t most hb hc m p q Es H0 hp hq hE ⟨d1, d2, d3⟩ hO a ha hm hla x hEa hlo' hr0
      exact fin H c Fs none h1 hc1 hc2 h3 h4 h5 (fun i hi _ hl => h7 i hi hl) ⟨by rw [hW]; show x.recs.drop _ = []; rw [hr0, List.drop_nil], by rw [hW]; exact h6⟩ (fun a h => by cases h)
    · obtain ⟨r, H, h1, c, rfl, hc1, hc2, Fs, h3, h4, h5, h6, h7, F, hF, hFl, hFa⟩ := c69s b t most hb hc m p q Es H0 hp hq hE ⟨d1, d2, d3⟩ hO a ha hm hla x id A hEa hlo' hs hid hlA htA ⟨fun e => hidB (by simp [e]), fun e => hidB (by simp [e])⟩
      have hlid := lt_of_at hid
      refine fin H c Fs (some id) h1 hc1 hc2 h3 h4 h5 (fun i hi hn hl => h7 i hi (fun e => hn (by rw [e])) hl) ?_ (fun a h => h)
      rw [hW]
      have hdl : (x.recs.drop (readN x.recs most)).length = x.recs.length - readN x.recs most := List.length_drop
      refine ⟨by rw [h6]; unfold bwA; rw [show (BW.mk x.id x.w (x.recs.drop (readN x.recs most)) x.lost).recs.length = x.recs.length - readN x.recs most from hdl]; rfl, ⟨F, hF, by show (x.recs.drop _).length ≤ _; omega, fun j r hr => ?_⟩, fun hb => ?_, hidm⟩
      · have hr : (x.recs.drop (readN x.recs most))[j]? = some r := hr
        have hj := lt_of_at hr
        rw [List.getElem?_drop] at hr
        rw [hFa j (by omega)]
        exact htA _ r hr
      · simp only [List.mem_append, List.mem_cons, List.not_mem_nil, or_false] at hb hidB; omega

end Go.Proofs.YtbkmjpmgiaiacaaGreatDoor

/-! Vh -/
namespace Go.Proofs.YtbkmjpmgiaiacaaGreatDoor
open Go Dw
set_option maxRecDepth 10000
set_option linter.unusedVariables false
set_option linter.unusedSimpArgs false
attribute [local irreducible] Run
set_option maxHeartbeats 4000000

open Paths
attribute [local irreducible] newD Own checkB addErr roomy bsR ixB dropB addB sz roomOf readB readL readC readN
theorem BH.keep {m : Nat} {H H' : Heap} {p : Nat} {b : Bd} (h : BH m H p b) (hf : ∀ i, i < H.length → H'[i]? = H[i]?) : BH m H' p b := by
  obtain ⟨q, Es, hp, hq, hE, hd, hO⟩ := h
  exact ⟨q, Es, by rw [hf p (lt_of_at hp)]; exact hp, by rw [hf q (lt_of_at hq)]; exact hq, hE, hd, hO.frame (fun i hi => .inl hi) fun i _ _ hl => hf i hl⟩
def findE (b : Bd) (t most : Int) : Int := if ixB t b.ws 0 < 0 then 6 else (if within most 0 400 = true then 0 else 2)
def readE (b : Bd) (t most : Int) : Int := if (checkB b).2 = 0 then findE b t most else (checkB b).2
theorem c69x (b : Bd) (t most : Int) (hb : SB b) (hc : asc b.ws) (he : ¬ findE b t most = 0) (m p : Nat) (H0 : Heap) (hB : BH m H0 p b) : ∃ r H, Run Tryz.prog 69 [.ptr p 0 0, .d (i t), .d (i most)] H0 r H ∧ (r = .d (.tup [.fs [], i (findE b t most)]) ∧ BH m H p b ∧ ∀ i, i < m → H[i]? = H0[i]?) := by
  have hm := hB.le
  have fin : ∀ (e : Int) (H : Heap), Run Tryz.prog 69 [.ptr p 0 0, .d (i t), .d (i most)] H0 (.tup [.nilS, .d (i e)]) H → (∀ i, i < H0.length → H[i]? = H0[i]?) → ∃ r H, Run Tryz.prog 69 [.ptr p 0 0, .d (i t), .d (i most)] H0 r H ∧ (r = .d (.tup [.fs [], i e]) ∧ BH m H p b ∧ ∀ i, i < m → H[i]? = H0[i]?) := by
    intro e H h1 hf
    refine ⟨_, _, run_giveH h1 (view_tup (vlc rfl (vlc rfl vln))), rfl, hB.keep (fun i hi => ?_), fun i hi => ?_⟩
    · rw [freeze_at (by simp [reach])]; exact hf i hi
    · rw [freeze_at (by simp [reach])]; exact hf i (by omega)
  by_cases h6 : ixB t b.ws 0 < 0
  · have e6 : findE b t most = 6 := by unfold findE; rw [if_pos h6]
    obtain ⟨x, hn⟩ := c104n b t hb hc (by omega) m p H0 hB
    obtain ⟨q, Es, hp, hq, hE, hd, hO⟩ := hB
    obtain ⟨r, H, h1, rfl, h2, h3⟩ := c69f b t most hb hc m p q Es H0 hp hq hE hd hO x hn
    rw [e6]; exact fin 6 H h1 h3
  · by_cases hw : within most 0 400 = true
    · exfalso; apply he; unfold findE; rw [if_neg h6, if_pos hw]
    · have e2 : findE b t most = 2 := by unfold findE; rw [if_neg h6, if_neg hw]
      obtain ⟨q, Es, hp, hq, hE, hd, hO⟩ := hB
      obtain ⟨r, H, h1, rfl, h2, h3⟩ := c69r b t most hb hc m p q Es H0 hp hq hE hd hO (ixB t b.ws 0).toNat (by omega) hw
      rw [e2]; exact fin 2 H h1 h3
theorem c69c (b : Bd) (t most : Int) (hb : SB b) (hc : asc b.ws) (a : Nat) (ha : ixB t b.ws 0 = a) (hm : within most 0 400 = true) (x : BW) (hx : b.ws[a]? = some x) (e : Int) (he : readC x = e) (m p : Nat) (H0 : Heap) (hB : BH m H0 p b) :
    ∃ r H, Run Tryz.prog 69 [.ptr p 0 0, .d (i t), .d (i most)] H0 r H ∧ (r = .d (.tup [.fs ((readL x most).map Rec.enc), i e]) ∧ BH m H p (readB b a most) ∧ ∀ i, i < m → H[i]? = H0[i]?) := by
  subst he; exact c69 b t most hb hc a ha hm x hx m p H0 hB
attribute [local irreducible] findE

theorem c26o (b : Bd) (t most : Int) (hb : SB b) (hc : (checkB b).2 = 0) (a : Nat) (ha : ixB t b.ws 0 = a) (hm : within most 0 400 = true) (x : BW) (hx : b.ws[a]? = some x) (he : readC x = 0) (H0 : Heap) : ∃ r H, Run Tryz.prog 26 [.d b.enc, .d (i t), .d (i most)] H0 r H ∧ view 8 H r = some (.tup [(readB b a most).enc, .fs ((readL x most).map Rec.enc), i 0]) := by
  refine run_walkQ eok Tryz.func26 rfl (by kernel_rfl) ?_
  conv => whnf
  repeat' (first
    | (refine call_stepQ (c65o b hb hc _) (fun r H hQ => ?_); obtain ⟨p, rfl, hB, hf⟩ := hQ; conv => whnf)
    | (refine call_stepQ (c69c b t most hb (asc_ok hc) a ha hm x hx 0 he _ _ _ hB) (fun r H hQ => ?_); obtain ⟨rfl, hB, hf⟩ := hQ; obtain ⟨q, Es, hp, hq, hE, hd, hO⟩ := hB; have hlp := lt_of_at hp; have hlq := lt_of_at hq; conv => whnf)
    | (refine newG (fun n H hn hl hf ho => ?_); conv => whnf)
    | (refine setG (by first | omega | exact lt_of_at (by (repeat (first | assumption )))) (fun H hl hf ho => ?_); (try dsimp only at hl hf); conv => whnf)
    | (refine nthG (x := ?_) ?_ ?_; rotate_left; (focus ((repeat (first | assumption | refine look_new (by assumption) (by omega) ?_ )); done)); conv => whnf)
    | ((with_reducible refine endq_go ?_); first | (exact endq (view_tup (vlc (view_agg (vlc (view_own_k (by (repeat (first | assumption | refine look_set (by assumption) (by omega) ?_))) hE rfl (Own.frame (B' := [p, q]) hO (by (intro i hi; simp only [List.mem_cons, List.not_mem_nil, or_false] at hi ⊢; omega)) (by (intro i hi hmi hlt; simp only [List.mem_cons, List.not_mem_nil, or_false, not_or] at hi; (repeat (first | rfl | refine look_set (by assumption) (by omega) ?_)))))) (vlc rfl vln))) (vlc rfl (vlc rfl vln)))); done))
    | fail
    )

theorem c26l (b : Bd) (t most : Int) (hb : SB b) (hc : (checkB b).2 = 0) (a : Nat) (ha : ixB t b.ws 0 = a) (hm : within most 0 400 = true) (x : BW) (hx : b.ws[a]? = some x) (he : readC x = 16) (H0 : Heap) : ∃ r H, Run Tryz.prog 26 [.d b.enc, .d (i t), .d (i most)] H0 r H ∧ view 8 H r = some (.tup [(readB b a most).enc, .fs ((readL x most).map Rec.enc), i 16]) := by
  refine run_walkQ eok Tryz.func26 rfl (by kernel_rfl) ?_
  conv => whnf
  repeat' (first
    | (refine call_stepQ (c65o b hb hc _) (fun r H hQ => ?_); obtain ⟨p, rfl, hB, hf⟩ := hQ; conv => whnf)
    | (refine call_stepQ (c69c b t most hb (asc_ok hc) a ha hm x hx 16 he _ _ _ hB) (fun r H hQ => ?_); obtain ⟨rfl, hB, hf⟩ := hQ; obtain ⟨q, Es, hp, hq, hE, hd, hO⟩ := hB; have hlp := lt_of_at hp; have hlq := lt_of_at hq; conv => whnf)
    | (refine newG (fun n H hn hl hf ho => ?_); conv => whnf)
    | (refine setG (by first | omega | exact lt_of_at (by (repeat (first | assumption )))) (fun H hl hf ho => ?_); (try dsimp only at hl hf); conv => whnf)
    | (refine nthG (x := ?_) ?_ ?_; rotate_left; (focus ((repeat (first | assumption | refine look_new (by assumption) (by omega) ?_ )); done)); conv => whnf)
    | ((with_reducible refine endq_go ?_); first | (exact endq (view_tup (vlc (view_agg (vlc (view_own_k (by (repeat (first | assumption | refine look_set (by assumption) (by omega) ?_))) hE rfl (Own.frame (B' := [p, q]) hO (by (intro i hi; simp only [List.mem_cons, List.not_mem_nil, or_false] at hi ⊢; omega)) (by (intro i hi hmi hlt; simp only [List.mem_cons, List.not_mem_nil, or_false, not_or] at hi; (repeat (first | rfl | refine look_set (by assumption) (by omega) ?_)))))) (vlc rfl vln))) (vlc rfl (vlc rfl vln)))); done))
    | fail
    )

theorem c26n (b : Bd) (t most : Int) (hb : SB b) (hc : (checkB b).2 = 0) (he : ¬ findE b t most = 0) (he16 : ¬ findE b t most = 16) (H0 : Heap) : ∃ r H, Run Tryz.prog 26 [.d b.enc, .d (i t), .d (i most)] H0 r H ∧ view 8 H r = some (.tup [bd0.enc, .fs [], i (findE b t most)]) := by
  refine run_walkQ eok Tryz.func26 rfl (by kernel_rfl) ?_
  conv => whnf
  repeat' (first
    | ((with_reducible refine on_ndec_f (by assumption) ?_); conv => whnf)
    | (refine call_stepQ (c65o b hb hc _) (fun r H hQ => ?_); obtain ⟨p, rfl, hB, hf⟩ := hQ; conv => whnf)
    | (refine call_stepQ (c69x b t most hb (asc_ok hc) he _ _ _ hB) (fun r H hQ => ?_); obtain ⟨rfl, hB, hf⟩ := hQ; conv => whnf)
    | (refine newG (fun n H hn hl hf ho => ?_); conv => whnf)
    | (refine setG (by first | exact lt_of_at (by (repeat (first | assumption | refine look_new (by assumption) (by omega) ?_ )))) (fun H hl hf ho => ?_); (try dsimp only at hl hf); conv => whnf)
    | (refine nthG (x := ?_) ?_ ?_; rotate_left; (focus ((repeat (first | assumption | refine look_new (by assumption) (by omega) ?_ )); done)); conv => whnf)
    | ((with_reducible refine endq_go ?_); first | (exact endq (view_tup (vlc (view_agg (vlc rfl (vlc rfl vln))) (vlc rfl (vlc rfl vln)))); done))
    | fail
    )

theorem c26c (b : Bd) (t most : Int) (hb : SB b) (hc : ¬ (checkB b).2 = 0) (H0 : Heap) : ∃ r H, Run Tryz.prog 26 [.d b.enc, .d (i t), .d (i most)] H0 r H ∧ view 8 H r = some (.tup [bd0.enc, .fs [], i (checkB b).2]) := by
  refine run_walkQ eok Tryz.func26 rfl (by kernel_rfl) ?_
  conv => whnf
  repeat' (first
    | ((with_reducible refine on_ndec_f (by assumption) ?_); conv => whnf)
    | (refine call_stepQ (c65e b hb hc _) (fun r H hQ => ?_); obtain ⟨p, rfl, hf⟩ := hQ; conv => whnf)
    | (refine newG (fun n H hn hl hf ho => ?_); conv => whnf)
    | (refine setG (by first | exact lt_of_at (by (repeat (first | assumption | refine look_new (by assumption) (by omega) ?_ )))) (fun H hl hf ho => ?_); (try dsimp only at hl hf); conv => whnf)
    | (refine nthG (x := ?_) ?_ ?_; rotate_left; (focus ((repeat (first | assumption | refine look_new (by assumption) (by omega) ?_ )); done)); conv => whnf)
    | ((with_reducible refine endq_go ?_); first | (exact endq (view_tup (vlc (view_agg (vlc rfl (vlc rfl vln))) (vlc rfl (vlc rfl vln)))); done))
    | fail
    )

theorem findE_16 (b : Bd) (t most : Int) : ¬ findE b t most = 16 := by
  unfold findE; split
  · decide
  · split <;> decide
theorem findE_0 {b : Bd} {t most : Int} (h : findE b t most = 0) : ¬ ixB t b.ws 0 < 0 ∧ within most 0 400 = true := by
  unfold findE at h
  by_cases h1 : ixB t b.ws 0 < 0
  · rw [if_pos h1] at h; cases h
  · rw [if_neg h1] at h
    by_cases h2 : within most 0 400 = true
    · exact ⟨h1, h2⟩
    · rw [if_neg h2] at h; cases h
theorem readE_0 {b : Bd} {t most : Int} (h : readE b t most = 0) : (checkB b).2 = 0 ∧ findE b t most = 0 := by
  unfold readE at h
  by_cases hc : (checkB b).2 = 0
  · rw [if_pos hc] at h; exact ⟨hc, h⟩
  · rw [if_neg hc] at h; exact absurd h hc
theorem ix_at {b : Bd} {t : Int} (hc : asc b.ws) (h : ¬ ixB t b.ws 0 < 0) : ∃ (a : Nat) (x : BW), ixB t b.ws 0 = a ∧ b.ws[a]? = some x := by
  obtain ⟨_, f2⟩ := find_ok (t := t) hc
  obtain ⟨_, f3⟩ := f2 (by omega)
  refine ⟨(ixB t b.ws 0).toNat, b.ws[(ixB t b.ws 0).toNat]'(by omega), by omega, List.getElem?_eq_getElem _⟩
theorem readC_or (x : BW) : readC x = 0 ∨ readC x = 16 := by unfold readC; split <;> simp
/-- ReadFrom. -/
theorem f26o (b : Bd) (t most : Int) (hb : SB b) (h : readE b t most = 0) (a : Nat) (x : BW) (ha : ixB t b.ws 0 = a) (hx : b.ws[a]? = some x) : Fn 26 [b.enc, i t, i most] (.tup [(readB b a most).enc, .fs ((readL x most).map Rec.enc), i (readC x)]) := by
  obtain ⟨hc, h0⟩ := readE_0 h
  obtain ⟨_, hm⟩ := findE_0 h0
  rcases readC_or x with he | he <;> rw [he]
  · obtain ⟨r, H, h1, h2⟩ := c26o b t most hb hc a ha hm x hx he []
    exact run_give h1 h2
  · obtain ⟨r, H, h1, h2⟩ := c26l b t most hb hc a ha hm x hx he []
    exact run_give h1 h2
theorem f26n (b : Bd) (t most : Int) (hb : SB b) (h : ¬ readE b t most = 0) : Fn 26 [b.enc, i t, i most] (.tup [bd0.enc, .fs [], i (readE b t most)]) := by
  unfold readE at h ⊢
  by_cases hc : (checkB b).2 = 0
  · rw [if_pos hc] at h ⊢
    obtain ⟨r, H, h1, h2⟩ := c26n b t most hb hc h (findE_16 b t most) []
    exact run_give h1 h2
  · rw [if_neg hc] at h ⊢
    obtain ⟨r, H, h1, h2⟩ := c26c b t most hb hc []
    exact run_give h1 h2
theorem readE_n {b : Bd} {t most : Int} (h : ¬ (checkB b).2 = 0) : readE b t most = (checkB b).2 := by unfold readE; rw [if_neg h]
theorem readE_m {b : Bd} {t most : Int} (h : (checkB b).2 = 0) (h2 : ixB t b.ws 0 < 0) : readE b t most = 6 := by unfold readE findE; rw [if_pos h, if_pos h2]
theorem readE_r {b : Bd} {t most : Int} (h : (checkB b).2 = 0) (h2 : ¬ ixB t b.ws 0 < 0) (h3 : within most 0 400 = false) : readE b t most = 2 := by unfold readE findE; rw [if_pos h, if_neg h2, h3]; rfl
theorem readE_o {b : Bd} {t most : Int} (h : (checkB b).2 = 0) (h2 : ¬ ixB t b.ws 0 < 0) (h3 : within most 0 400 = true) : readE b t most = 0 := by unfold readE findE; rw [if_pos h, if_neg h2, if_pos h3]

end Go.Proofs.YtbkmjpmgiaiacaaGreatDoor

/-! Vi -/
namespace Go.Proofs.YtbkmjpmgiaiacaaGreatDoor
open Go Dw
set_option maxRecDepth 10000
set_option linter.unusedVariables false
set_option linter.unusedSimpArgs false
attribute [local irreducible] Run
set_option maxHeartbeats 4000000

open Paths
attribute [local irreducible] Own checkB addErr roomy bsR ixB dropB addB sz roomOf readB readL readC readN findE readE

theorem c27 (b : Bd) (t most : Int) (hb : SB b) : Fn 27 [b.enc, i t, i most] (i (readE b t most)) := by
  refine run_walkF eok Tryz.func27 rfl (by kernel_rfl) ?_
  conv => whnf
  repeat' (first
    | ((with_reducible refine on_dec (fun h => ?_) (fun h => ?_)) <;> (try simp only [List.length_map] at h) <;> conv => whnf)
    | ((with_reducible refine on_ndec (fun h => ?_) (fun h => ?_)) <;> (try simp only [List.length_map] at h) <;> conv => whnf)
    | ((with_reducible refine on_not (fun h => ?_) (fun h => ?_)) <;> conv => whnf)
    | ((with_reducible refine call_go ?_); (first | refine call_step (run_view (c25 b hb) rfl rfl) ?_ | refine call_step (run_view (c70 b t hb.n) rfl rfl) ?_ | refine call_step (run_view (c58 most 0 400) rfl rfl) ?_); conv => whnf)
    | ((with_reducible refine endx_go ?_); first | (refine endx (congrArg i ?_); first | exact (readE_n (by assumption)).symm | exact (readE_m (by assumption) (by assumption)).symm | exact (readE_r (by assumption) (by assumption) (by assumption)).symm | exact (readE_o (by assumption) (by assumption) (by assumption)).symm; done))
    | fail
    )


attribute [local irreducible] newD
/-- A slice of records that does not lie at q. -/
def RecS (m : Nat) (H : Heap) (q : Nat) (cr : AV) (l : List Rec) : Prop := (l = [] ∧ cr = .nilS) ∨ ∃ id A, cr = .sl id 0 l.length 2 none ∧ H[id]? = some ⟨A, 2, 0⟩ ∧ l.length ≤ A.length ∧ (∀ (j : Nat) (r : Rec), l[j]? = some r → ∃ a : AV, A[j]? = some a ∧ RecV a r) ∧ (id ≠ q ∧ m ≤ id)
theorem RecS.frame {m : Nat} {H H' : Heap} {q : Nat} {cr : AV} {l : List Rec} (h : RecS m H q cr l) (hf : ∀ i, i ≠ q → m ≤ i → i < H.length → H'[i]? = H[i]?) : RecS m H' q cr l := by
  rcases h with h | ⟨id, A, h1, h2, h3, h4, h5⟩
  · exact .inl h
  · exact .inr ⟨id, A, h1, by rw [hf id h5.1 h5.2 (lt_of_at h2)]; exact h2, h3, h4, h5⟩
theorem OwnAt.toS {m : Nat} {H : Heap} {q : Nat} {e : Option AV} {x : BW} {o : Option Nat} (h : OwnAt m H [q] e x o) : ∃ cr, e = some (.agg [.d (i x.id), .d (.str x.w.path), .d (.bool x.w.deep), .d (i x.w.filter), .d (i x.w.room), cr, .d (.bool x.lost)]) ∧ RecS m H q cr x.recs := by
  rcases h.split with ⟨_, h1, h2⟩ | ⟨id, A, _, h2, h3, h4, h5, h6, h7⟩
  · exact ⟨.nilS, h2, .inl ⟨h1, rfl⟩⟩
  · exact ⟨_, h2, .inr ⟨id, A, rfl, h3, h4, h5, ⟨fun e => h6 (by simp [e]), h7⟩⟩⟩
theorem RecS.view {m : Nat} {H : Heap} {q n : Nat} {cr : AV} {l : List Rec} (h : RecS m H q cr l) : view (n + 3) H cr = some (.fs (l.map Rec.enc)) := by
  rcases h with ⟨rfl, rfl⟩ | ⟨id, A, rfl, h2, h3, h4, _⟩
  · rfl
  · exact view_rec ⟨A, h2, h3, h4⟩
theorem view_recD {H : Heap} {id n k s f : Nat} {l : List Rec} {c : Option Nat} (h : RecAt H id l) (hs : s = n) (hk : k = l.length - n) (hn : n ≤ l.length) : view (f + 3) H (.sl id s k 2 c) = some (.fs ((l.drop n).map Rec.enc)) := by
  subst hs; subst hk
  obtain ⟨A, h1, h2, h3⟩ := h
  show (match H[id]? with
    | some o => if o.st < 2 then (if s + (l.length - s) ≤ o.elems.length then (vl (Dw.view (f + 2) H) ((o.elems.drop s).take (l.length - s))).map D.fs else none) else none
    | none => none) = _
  simp only [h1]
  rw [if_pos (by decide), if_pos (by omega), vl_of (r := (l.drop s).map Rec.enc) (by rw [List.length_take, List.length_drop, List.length_map, List.length_drop]; omega) (fun j a x ha hx => ?_)]
  · rfl
  · rw [List.getElem?_map] at hx
    obtain ⟨r, hr, rfl⟩ := Option.map_eq_some_iff.1 hx
    have hj := lt_of_at hr
    rw [List.length_drop] at hj
    rw [List.getElem?_drop] at hr
    obtain ⟨b, hb, hv⟩ := h3 _ r hr
    rw [List.getElem?_take_of_lt (by omega), List.getElem?_drop, hb] at ha
    cases ha
    rcases hv with rfl | rfl
    · rfl
    · exact view_agg (vlc rfl (vlc rfl vln))
theorem rec_pre {H : Heap} {t k : Nat} {A : List AV} {l : List Rec} (h : H[t]? = some ⟨(A.drop 0).take k, 2, 0⟩) (hA : l.length ≤ A.length) (ht : ∀ (j : Nat) (r : Rec), l[j]? = some r → ∃ a : AV, A[j]? = some a ∧ RecV a r) (hk : k ≤ l.length) : RecAt H t (l.take k) := by
  refine ⟨_, h, by simp only [List.length_take, List.drop_zero]; omega, fun j r hr => ?_⟩
  have hj := lt_of_at hr
  rw [List.length_take] at hj
  rw [List.getElem?_take_of_lt (by omega)] at hr
  obtain ⟨a, h1, h2⟩ := ht j r hr
  exact ⟨a, by rw [List.drop_zero, List.getElem?_take_of_lt (by omega)]; exact h1, h2⟩
/-- One watch of a row was changed. -/
theorem view_set {m q a n f : Nat} {Hc H : Heap} {Es Fs : List AV} {ws : List BW} {e : AV} {x : BW} (hO : Own m Hc [q] Es ws n) (hn : n = ws.length) (hq : H[q]? = some ⟨Fs, 7, 0⟩) (hF : n ≤ Fs.length) (hne : ∀ i, i ≠ a → Fs[i]? = Es[i]?) (hf : ∀ i, i ≠ q → m ≤ i → i < Hc.length → H[i]? = Hc[i]?)
    (ha : Fs[a]? = some e) (hv : view (f + 4) H e = some x.enc) : view (f + 5) H (.sl q 0 n 7 none) = some (.fs ((ws.set a x).map BW.enc)) := by
  subst hn
  show (match H[q]? with
    | some o => if o.st < 2 then (if 0 + ws.length ≤ o.elems.length then (vl (Dw.view (f + 4) H) ((o.elems.drop 0).take ws.length)).map D.fs else none) else none
    | none => none) = _
  simp only [hq]
  rw [if_pos (by decide), if_pos (by omega), List.drop_zero]
  rw [vl_of (r := (ws.set a x).map BW.enc) (by rw [List.length_take, List.length_map, List.length_set]; omega) (fun j b y hb hy => ?_)]
  · rfl
  · rw [List.getElem?_map] at hy
    obtain ⟨z, hz, rfl⟩ := Option.map_eq_some_iff.1 hy
    have hj := lt_of_at hz
    rw [List.length_set] at hj
    rw [List.getElem?_take_of_lt hj] at hb
    by_cases e1 : j = a
    · subst e1
      rw [List.getElem?_set_self hj] at hz; cases hz
      rw [ha] at hb; cases hb
      exact hv
    · rw [List.getElem?_set_ne (fun e => e1 e.symm)] at hz
      rw [hne j e1] at hb
      unfold Own at hO
      obtain ⟨ids, h1, _⟩ := hO
      have h2 := h1 j z hj hz
      rw [hb] at h2
      exact view_bw (h2.frame (B' := [q]) (H' := H) (fun i hi => .inl hi) fun i hi hm hl => hf i (fun e => hi (by simp [e])) hm hl)
theorem readN_0 (l : List Rec) (room : Int) : readN l room = rnGo l room (l.length - 0) 0 := by unfold readN; rfl
theorem pre_known {A : List AV} {l : List Rec} {k : Nat} (ht : ∀ (j : Nat) (r : Rec), l[j]? = some r → ∃ a : AV, A[j]? = some a ∧ RecV a r) (hA : l.length ≤ A.length) (hk : k ≤ l.length) : ((A.drop 0).take k).all AV.known = true := by
  have := del_known (Es := A) (n := k) (a := 0) (by omega) (fun j hj => rec_known ht j (by omega))
  simpa using this
theorem pre_len2 {A : List AV} {L k : Nat} (hA : L ≤ A.length) (hk : k ≤ L) : ((A.drop 0).take k).length = k := by rw [List.drop_zero, List.length_take]; omega
theorem view_pre {H : Heap} {t k : Nat} {A : List AV} {l : List Rec} (h : H[t]? = some ⟨(A.drop 0).take k, 2, 0⟩) (hA : l.length ≤ A.length) (ht : ∀ (j : Nat) (r : Rec), l[j]? = some r → ∃ a : AV, A[j]? = some a ∧ RecV a r) (hk : k ≤ l.length) (f : Nat) : view (f + 3) H (.sl t 0 ((A.drop 0).take k).length 2 none) = some (.fs ((l.take k).map Rec.enc)) := by
  rw [pre_len2 hA hk]
  have := view_rec (n := f) (c := none) (rec_pre h hA ht hk)
  rwa [List.length_take, Nat.min_eq_left hk] at this
theorem view_empty {H : Heap} {t k : Nat} (h : H[t]? = some ⟨[], k, 0⟩) (f : Nat) : view (f + 3) H (.sl t 0 0 k none) = some (.fs []) := by
  show (match H[t]? with
    | some o => if o.st < 2 then (if 0 + 0 ≤ o.elems.length then (vl (Dw.view (f + 2) H) ((o.elems.drop 0).take 0)).map D.fs else none) else none
    | none => none) = _
  simp only [h]; rfl
theorem row_n1 {H Hc : Heap} {B : List Nat} {cw : AV} {ws : List BW} {k : Nat} (hR : RowK H.length Hc B cw ws k) : ∃ n1, H.length = n1 ∧ RowK n1 Hc B cw ws k := ⟨_, rfl, hR⟩
theorem c70a {b : Bd} {t : Int} {a : Nat} (hb : SB b) (ha : ixB t b.ws 0 = a) : Fn 70 [b.enc, i t] (i (a : Int)) := by
  rw [← ha]; exact c70 b t hb.n
attribute [local irreducible] RecS

theorem c28l (b : Bd) (t most : Int) (hb : SB b) (a : Nat) (ha : ixB t b.ws 0 = a) (x : BW) (hla : a < b.ws.length) (hxa : b.ws[a] = x) (hlo : x.lost = true) (H0 : Heap) : ∃ r H, Run Tryz.prog 28 [.d b.enc, .d (i t), .d (i most)] H0 r H ∧ (∃ (q : Nat) (Hc : Heap) (Es Fs : List AV) (m : Nat) (cr : AV), Own m Hc [q] Es b.ws b.ws.length ∧ b.ws.length ≤ Es.length ∧ H[q]? = some ⟨Fs, 7, 0⟩ ∧ Fs.length = Es.length ∧ (∀ i, i ≠ a → Fs[i]? = Es[i]?) ∧ (∀ i, i ≠ q → m ≤ i → i < Hc.length → H[i]? = Hc[i]?) ∧ RecS m Hc q cr x.recs ∧ Fs[a]? = some (.agg [.d (i x.id), .d (.str x.w.path), .d (.bool x.w.deep), .d (i x.w.filter), .d (i x.w.room), cr, .d (.bool false)]) ∧ r = .tup [.agg [.sl q 0 b.ws.length 7 none, .d (i b.next)], .nilS, .d (.bool true)]) := by
  refine run_walkQ eok Tryz.func28 rfl (by kernel_rfl) ?_
  conv => whnf
  repeat' (first
    | ((with_reducible refine onBool_t (by assumption) ?_); conv => whnf)
    | (refine call_stepQ (c20o b hb _) (fun r Hc hQ => ?_); obtain ⟨cw, rfl, hR, hgl, hf⟩ := hQ; obtain ⟨n1, hn1, hR⟩ := row_n1 hR; rcases hR with ⟨hk0, rfl⟩ | ⟨q, Es, rfl, hqq, hEl, ⟨hqB, hqm⟩, hO⟩; (focus (exact absurd hla (by omega))); have hlq := lt_of_at hqq; obtain ⟨o, hoK, _⟩ := hO.focus (Nat.le_refl _) hla; rw [hxa] at hoK; obtain ⟨cr, hEa, hRS⟩ := hoK.toS; have hla2 := lt_of_at hEa; conv => whnf)
    | ((with_reducible refine call_go ?_); (first | refine call_step (run_view (c70a hb ha) rfl rfl) ?_); conv => whnf)
    | (refine ⟨[], [(1, 4)], (by decide +kernel), ?_⟩; conv => whnf)
    | (refine newG (fun n H hn hl hf ho => ?_); conv => whnf)
    | (refine setGk (by first | omega ) (fun H hl hf ho => ?_); (try dsimp only at hl hf); conv => whnf)
    | (refine setG (by first | omega ) (fun H hl hf ho => ?_); (try dsimp only at hl hf); conv => whnf)
    | (refine nthGk (x := ?_) ?_ ?_; rotate_left; (focus ((repeat (first | assumption )); done)); conv => whnf)
    | (refine nthG (x := ?_) ?_ ?_; rotate_left; (focus ((repeat (first | assumption | refine look_new (by assumption) (by omega) ?_ | refine look_set (by assumption) (by omega) ?_)); done)); conv => whnf)
    | (refine ⟨⟨by omega, by omega⟩, ?_⟩; conv => whnf)
    | (refine ⟨congrArg (Option.map AO.vis) (Eq.symm (by (repeat (first | rfl )))), ?_⟩; conv => whnf)
    | ((with_reducible refine endq_go ?_); first | (refine endq ⟨q, Hc, Es, ?_, _, cr, hO, hEl, ?_, ?_, ?_, ?_, hRS, ?_, rfl⟩; rotate_left; (focus ((repeat (first | assumption | refine look_set (by assumption) (by omega) ?_)); done)); (focus (dsimp only at *; omega)); (focus (intro i hi; (repeat (first | rfl | refine look_set (by assumption) (by omega) ?_)))); (focus (intro i hi hmi hlt; (repeat (first | rfl | refine look_new (by assumption) (by omega) ?_ | refine look_set (by assumption) (by omega) ?_)))); (focus ((repeat (first | assumption )); done)); done))
    | fail
    )

theorem c28n (b : Bd) (t most : Int) (hb : SB b) (a : Nat) (ha : ixB t b.ws 0 = a) (x : BW) (hla : a < b.ws.length) (hxa : b.ws[a] = x) (hlo : x.lost = false) (hs : small x.recs) (H0 : Heap) : ∃ r H, Run Tryz.prog 28 [.d b.enc, .d (i t), .d (i most)] H0 r H ∧ (∃ (q : Nat) (Hc : Heap) (Es Fs : List AV) (m : Nat) (cr : AV), Own m Hc [q] Es b.ws b.ws.length ∧ b.ws.length ≤ Es.length ∧ H[q]? = some ⟨Fs, 7, 0⟩ ∧ Fs.length = Es.length ∧ (∀ i, i ≠ a → Fs[i]? = Es[i]?) ∧ (∀ i, i ≠ q → m ≤ i → i < Hc.length → H[i]? = Hc[i]?) ∧ ∃ cl cr2, (∀ f, view (f + 3) H cl = some (.fs ((x.recs.take (readN x.recs most)).map Rec.enc))) ∧ (∀ f, view (f + 3) H cr2 = some (.fs ((x.recs.drop (readN x.recs most)).map Rec.enc))) ∧ Fs[a]? = some (.agg [.d (i x.id), .d (.str x.w.path), .d (.bool x.w.deep), .d (i x.w.filter), .d (i x.w.room), cr2, .d (.bool x.lost)]) ∧ r = .tup [.agg [.sl q 0 b.ws.length 7 none, .d (i b.next)], cl, .d (.bool false)]) := by
  refine run_walkQ eok Tryz.func28 rfl (by kernel_rfl) ?_
  conv => whnf
  repeat' (first
    | ((with_reducible refine onBool_f (by assumption) ?_); conv => whnf)
    | ((with_reducible refine on_dec (fun h => ?_) (fun h => ?_)) <;> (try simp only [List.length_map] at h) <;> conv => whnf)
    | (refine call_stepQ (c20o b hb _) (fun r Hc hQ => ?_); obtain ⟨cw, rfl, hR, hgl, hf⟩ := hQ; obtain ⟨n1, hn1, hR⟩ := row_n1 hR; rcases hR with ⟨hk0, rfl⟩ | ⟨q, Es, rfl, hqq, hEl, ⟨hqB, hqm⟩, hO⟩; (focus (exact absurd hla (by omega))); have hlq := lt_of_at hqq; obtain ⟨o, hoK, _⟩ := hO.focus (Nat.le_refl _) hla; rw [hxa] at hoK; obtain ⟨cr, hEa, hRS⟩ := hoK.toS; have hla2 := lt_of_at hEa; conv => whnf)
    | ((with_reducible refine call_go ?_); (first | refine call_step (run_view (c70a hb ha) rfl rfl) ?_ | refine call_step (run_view (c68 (x.recs.take (k + 1)) (small_take hs)) rfl (vlc (view_recT hR (by omega) (by omega) (by omega)) vln)) ?_); conv => whnf)
    | (refine ⟨[], [(1, 4)], (by decide +kernel), ?_⟩; conv => whnf)
    | ((with_reducible refine loop_go ?_); first | (apply loopG3 (fun (k : Nat) (z : Nat) (y : Nat) (H : Heap) => x.recs.length - k) (fun (k : Nat) (z : Nat) (y : Nat) (H : Heap) => k ≤ x.recs.length ∧ readN x.recs most = rnGo x.recs most (x.recs.length - k) k ∧ H[z]? = some ⟨[.agg [.sl q 0 b.ws.length 7 none, .d (i b.next)]], 2, 0⟩ ∧ H[y]? = some ⟨[(E 39).zero], (E 39).size, 0⟩ ∧ H[q]? = some ⟨Es, 7, 0⟩ ∧ RecS n1 H q cr x.recs ∧ (z ≠ y ∧ z ≠ q ∧ y ≠ q) ∧ (Hc.length ≤ z ∧ y < n1 ∧ n1 ≤ Hc.length ∧ n1 ≤ q) ∧ Hc.length ≤ H.length ∧ ∀ i, i ≠ q → n1 ≤ i → i < Hc.length → H[i]? = Hc[i]?) (fun (k : Nat) (z : Nat) (y : Nat) (H : Heap) => [(2, .d (i most)), (6, .ptr y 0 0), (9, .ptr z 0 0), (10, .ptr q a 0), (11, .d (i k))]) (0); rotate_left; (focus (exact .inl ⟨rfl, ⟨(by first | rfl ), (by first | rfl ), (by first | rfl ), congrArg (fun z => AV.ptr q z 0) (by omega), (by first | rfl ), trivial⟩⟩)); rotate_left; (focus (exact ⟨Nat.zero_le _, readN_0 _ _, (by (repeat (first | assumption ))), (by (repeat (first | assumption | refine look_new (by assumption) (by omega) ?_ | refine look_set (by assumption) (by omega) ?_))), (by (repeat (first | assumption | refine look_new (by assumption) (by omega) ?_ | refine look_set (by assumption) (by omega) ?_))), hRS.frame (by (intro i hi hmi hlt; (repeat (first | rfl | refine look_new (by assumption) (by omega) ?_ | refine look_set (by assumption) (by omega) ?_)))), by omega, ⟨by omega, by omega, by omega, hqm⟩, by omega, by (intro i hi hmi hlt; (repeat (first | rfl | refine look_new (by assumption) (by omega) ?_ | refine look_set (by assumption) (by omega) ?_)))⟩)); intro k z y H C hI hC; have hs1 := hs.1; obtain ⟨hk, hkn, h0, h1, hq1, hRS1, hdz, hbd, hlen, hfr⟩ := hI; have hRS2 := hRS1; unfold RecS at hRS1; have hl0 := lt_of_at h0; have hl1 := lt_of_at h1; have hlq1 := lt_of_at hq1; rcases hRS1 with ⟨hx0, rfl⟩ | ⟨id, A, rfl, hid, hlA, htA, hidq⟩; (obtain rfl : k = 0 := (by rw [hx0] at hk; simpa using hk)); all_goals skip; all_goals (try (have hlid := lt_of_at hid)); all_goals (try (have hR : RecAt _ id x.recs := ⟨A, hid, hlA, htA⟩)); all_goals (conv => whnf)))
    | ((with_reducible show C _ _); first | (refine hC (k + 1) (z) (y) _ _ ?_ (by omega) ?_; clear hC; rotate_left; (exact ⟨(by first | rfl ), (by first | rfl ), (by first | rfl ), congrArg (fun z => AV.ptr q z 0) (by omega), (by first | rfl ), trivial⟩); exact ⟨by omega, by rw [hkn, rn_t (by omega) (by omega)], h0, h1, hq1, hRS2, hdz, hbd, by omega, hfr⟩))
    | (refine wrap64 (by omega) ?_; conv => whnf)
    | (refine own_sl 0 (k + 1) rfl (by omega) ⟨by omega, by omega⟩ ?_; conv => whnf)
    | (refine own_sl 0 k rfl rfl ⟨by omega, by omega⟩ ?_; conv => whnf)
    | (refine own_sl k x.recs.length rfl rfl ⟨by omega, by omega⟩ ?_; conv => whnf)
    | (refine srcB0 (by dsimp only; omega) (pre_known htA hlA hk) ?_; conv => whnf)
    | (refine ⟨cap_ok (show ((A.drop 0).take (k - 0)).length ≤ 10000000 by rw [Nat.sub_zero, pre_len2 hlA hk]; omega) rfl, ?_⟩; conv => whnf)
    | (refine ⟨cap_ok (by (try dsimp only [List.length]); omega) rfl, ?_⟩; conv => whnf)
    | (refine newG (fun n H hn hl hf ho => ?_); conv => whnf)
    | (refine setG (by first | omega ) (fun H hl hf ho => ?_); (try dsimp only at hl hf); conv => whnf)
    | (refine nthGk (x := ?_) ?_ ?_; rotate_left; (focus ((repeat (first | assumption )); done)); conv => whnf)
    | (refine nthG (x := ?_) ?_ ?_; rotate_left; (focus ((repeat (first | assumption | refine look_new (by assumption) (by omega) ?_ | refine look_set (by assumption) (by omega) ?_)); done)); conv => whnf)
    | (refine ⟨⟨by omega, by omega⟩, ?_⟩; conv => whnf)
    | (refine ⟨congrArg (Option.map AO.vis) (Eq.symm (by (repeat (first | rfl )))), ?_⟩; conv => whnf)
    | ((with_reducible refine endq_go ?_); first | (refine endq ⟨q, Hc, Es, ?_, n1, .nilS, hO, hEl, ?_, ?_, ?_, ?_, _, .nilS, ?_, ?_, ?_, rfl⟩; rotate_left; (focus ((repeat (first | assumption | refine look_set (by assumption) (by omega) ?_)); done)); (focus (dsimp only at *; omega)); (focus (intro i hi; (repeat (first | rfl | refine look_set (by assumption) (by omega) ?_)))); (focus (intro i hi hmi hlt; (repeat (first | exact hfr i hi hmi hlt | refine look_new (by assumption) (by omega) ?_ | refine look_set (by assumption) (by omega) ?_)))); (focus (rw [hx0]; intro f; simp only [List.take_nil, List.map_nil]; exact view_empty (by (repeat (first | assumption | refine look_set (by assumption) (by omega) ?_))) f)); (focus (rw [hx0]; intro f; simp only [List.drop_nil, List.map_nil]; rfl)); (focus ((repeat (first | assumption )); done)); done) | (refine endq ⟨q, Hc, Es, ?_, n1, .nilS, hO, hEl, ?_, ?_, ?_, ?_, _, .sl id (0 + k) (x.recs.length - k) 2 none, ?_, ?_, ?_, rfl⟩; rotate_left; (focus ((repeat (first | assumption | refine look_set (by assumption) (by omega) ?_)); done)); (focus (dsimp only at *; omega)); (focus (intro i hi; (repeat (first | rfl | refine look_set (by assumption) (by omega) ?_)))); (focus (intro i hi hmi hlt; (repeat (first | exact hfr i hi hmi hlt | refine look_new (by assumption) (by omega) ?_ | refine look_set (by assumption) (by omega) ?_)))); (focus (rw [show readN x.recs most = k by rw [hkn, rn_f (by omega)]]; intro f; exact view_pre (by (repeat (first | assumption | refine look_set (by assumption) (by omega) ?_))) hlA htA hk f)); (focus (rw [show readN x.recs most = k by rw [hkn, rn_f (by omega)]]; intro f; exact view_recD ⟨A, (by (repeat (first | assumption | refine look_new (by assumption) (by omega) ?_ | refine look_set (by assumption) (by omega) ?_))), hlA, htA⟩ (by omega) (by omega) hk)); (focus ((repeat (first | assumption )); done)); done))
    | fail
    )

end Go.Proofs.YtbkmjpmgiaiacaaGreatDoor

/-! Vc -/
namespace Go.Proofs.YtbkmjpmgiaiacaaGreatDoor
open Go Dw
set_option maxRecDepth 10000
set_option linter.unusedVariables false
set_option linter.unusedSimpArgs false
attribute [local irreducible] Run
set_option maxHeartbeats 4000000

open Paths
attribute [local irreducible] Own checkB addErr roomy bsR ixB dropB addB sz roomOf putB seesW belowI tellB told isAct fewB fewW addE dropErr tellErr eventErr
theorem SB0 : SB bd0 := ⟨by decide, fun x h => by cases h⟩
theorem c22z : Fn 22 [bd0.enc, bd0.enc] (.bool true) := c22 bd0 SB0
theorem tell_SB {b : Bd} {e : Rec} (h : tellErr b e = 0) : SB (tellB b e) ∧ (checkB (tellB b e)).2 = 0 ∧ (checkB b).2 = 0 ∧ eventErr e.act e.path = 0 := by
  have h1 : (checkB b).2 = 0 := by
    by_cases h0 : (checkB b).2 = 0
    · exact h0
    · rw [tellE_n h0] at h; exact absurd h h0
  rw [tellE_c h1] at h
  have hv := (checkB_iff.1 h1).tell h
  exact ⟨hv.small, checkB_iff.2 hv, h1, h⟩
theorem told_len (e : Rec) (ws : List BW) : (told e ws).length ≤ ws.length := by
  unfold told; rw [List.length_map]; exact List.length_filter_le _ _
theorem f19o (b : Bd) (e : Rec) (hea : e.act < 9223372036854775808) (hb : SB b) (h : tellErr b e = 0) : Fn 19 [b.enc, e.enc] (.tup [(tellB b e).enc, .fs ((told e b.ws).map i), i 0]) := by
  have := f19 b e hea hb; rwa [if_pos h] at this
theorem f19n (b : Bd) (e : Rec) (hea : e.act < 9223372036854775808) (hb : SB b) (h : ¬ tellErr b e = 0) : Fn 19 [b.enc, e.enc] (.tup [bd0.enc, .fs [], i (tellErr b e)]) := by
  have := f19 b e hea hb; rwa [if_neg h] at this

theorem c4o (b : Bd) (e : Rec) (hea : e.act < 9223372036854775808) (hb : SB b) (hf : fewB b = true) (h0 : tellErr b e = 0) : Fn 4 [b.enc, e.enc] (.bool true) := by
  obtain ⟨hsb, hv, hok, hev⟩ := tell_SB h0; have htl := told_len e b.ws; have hbn := hb.n
  refine run_walkF eok Tryz.func4 rfl (by kernel_rfl) ?_
  conv => whnf
  repeat' (first
    | ((with_reducible refine on_nt (by assumption) ?_); conv => whnf)
    | ((with_reducible refine on_ndec_t (by first | assumption ) ?_); conv => whnf)
    | ((with_reducible refine on_dec (fun h => ?_) (fun h => ?_)) <;> (try simp only [List.length_map] at h) <;> conv => whnf)
    | ((with_reducible refine call_go ?_); (first | refine call_step (run_view c11 rfl rfl) ?_ | refine call_step (run_view (c18 b) rfl rfl) ?_ | refine call_step (run_viewF (c20 b hb) rfl) ?_ | refine call_step (run_viewF (f19o b e hea hb h0) rfl) ?_ | refine call_step (run_view (c21 b e hb) rfl rfl) ?_ | refine call_step (run_view (c22 (tellB b e) hsb) rfl rfl) ?_ | refine call_step (run_viewF (f23 b e hb (checkB_w hok) hev) rfl) ?_ | refine call_step (run_view (c24 (told e b.ws) (by omega)) rfl rfl) ?_ | refine call_step (run_view (c25 (tellB b e) hsb) rfl rfl) ?_); conv => whnf)
    | (refine ⟨[], [(8, 1), (8, 3), (2, 1)], (by decide +kernel), ?_⟩; conv => whnf)
    | ((with_reducible refine endx_go ?_); first | (exact endx rfl; done) | (exact endx (congrArg D.bool (decide_eq_true hv)); done))
    | (refine ⟨rfl, ?_⟩; conv => whnf)
    | fail
    )

theorem c4e (b : Bd) (e : Rec) (hea : e.act < 9223372036854775808) (hb : SB b) (hf : fewB b = true) (h0 : ¬ tellErr b e = 0) : Fn 4 [b.enc, e.enc] (.bool true) := by
  refine run_walkF eok Tryz.func4 rfl (by kernel_rfl) ?_
  conv => whnf
  repeat' (first
    | ((with_reducible refine on_nt (by assumption) ?_); conv => whnf)
    | ((with_reducible refine on_ndec_f (by assumption) ?_); conv => whnf)
    | ((with_reducible refine on_dec_t rfl ?_); conv => whnf)
    | ((with_reducible refine on_dec (fun h => ?_) (fun h => ?_)) <;> (try simp only [List.length_map] at h) <;> conv => whnf)
    | ((with_reducible refine call_go ?_); (first | refine call_step (run_view c11 rfl rfl) ?_ | refine call_step (run_view (c18 b) rfl rfl) ?_ | refine call_step (run_viewF (c20 b hb) rfl) ?_ | refine call_step (run_viewF (f19n b e hea hb h0) rfl) ?_ | refine call_step (run_view (c21 b e hb) rfl rfl) ?_ | refine call_step (run_view c22z rfl rfl) ?_ ); conv => whnf)
    | (refine ⟨[], [(8, 1), (8, 3), (2, 1)], (by decide +kernel), ?_⟩; conv => whnf)
    | ((with_reducible refine endx_go ?_); first | (exact endx rfl; done))
    | (refine ⟨rfl, ?_⟩; conv => whnf)
    | fail
    )

theorem c4f (b : Bd) (e : Rec) (hf : fewB b = false) : Fn 4 [b.enc, e.enc] (.bool true) := by
  refine run_walkF eok Tryz.func4 rfl (by kernel_rfl) ?_
  conv => whnf
  repeat' (first
    | ((with_reducible refine on_nf (by assumption) ?_); conv => whnf)
    | ((with_reducible refine call_go ?_); (first | refine call_step (run_view c11 rfl rfl) ?_ | refine call_step (run_view (c18 b) rfl rfl) ?_ ); conv => whnf)
    | ((with_reducible refine endx_go ?_); first | (exact endx rfl; done))
    | fail
    )

theorem c4 (b : Bd) (e : Rec) (ha : actsOk b) (hea : e.act < 9223372036854775808) : Fn 4 [b.enc, e.enc] (.bool true) := by
  by_cases hf : fewB b = true
  · have hb := few_SB hf ha
    by_cases h0 : tellErr b e = 0
    · exact c4o b e hea hb hf h0
    · exact c4e b e hea hb hf h0
  · exact c4f b e (by simpa using hf)

end Go.Proofs.YtbkmjpmgiaiacaaGreatDoor

/-! Vj -/
namespace Go.Proofs.YtbkmjpmgiaiacaaGreatDoor
open Go Dw
set_option maxRecDepth 10000
set_option linter.unusedVariables false
set_option linter.unusedSimpArgs false
attribute [local irreducible] Run
set_option maxHeartbeats 4000000

open Paths
attribute [local irreducible] Own checkB addErr roomy bsR ixB dropB addB sz roomOf putB seesW belowI tellB told isAct fewB fewW addE dropErr tellErr eventErr readN findE readE
theorem view_wt {H : Heap} {f : Nat} {x : BW} {cr : AV} {l : List Rec} {o : Bool} (h : view (f + 3) H cr = some (.fs (l.map Rec.enc))) : view (f + 4) H (.agg [.d (i x.id), .d (.str x.w.path), .d (.bool x.w.deep), .d (i x.w.filter), .d (i x.w.room), cr, .d (.bool o)]) = some (BW.mk x.id x.w l o).enc :=
  view_agg (vlc rfl (vlc rfl (vlc rfl (vlc rfl (vlc rfl (vlc h (vlc rfl vln)))))))
theorem readB_enc {b : Bd} {a : Nat} {x : BW} {most : Int} (hx : b.ws[a]? = some x) : (readB b a most).enc = .agg [.fs ((b.ws.set a (readW x most)).map BW.enc), i b.next] := by rw [readB_ws hx]; rfl
/-- The document's Read. -/
theorem f28t (b : Bd) (t most : Int) (hb : SB b) (a : Nat) (x : BW) (ha : ixB t b.ws 0 = a) (hx : b.ws[a]? = some x) (hlo : x.lost = true) : Fn 28 [b.enc, i t, i most] (.tup [(readB b a most).enc, .fs ((readL x most).map Rec.enc), .bool true]) := by
  obtain ⟨hla, hxa⟩ := List.getElem?_eq_some_iff.1 hx
  obtain ⟨r, H, h1, q, Hc, Es, Fs, m, cr, hO, hE, hq, hF, hne, hf, hRS, hFa, rfl⟩ := c28l b t most hb a ha x hla hxa hlo []
  rw [readB_enc hx, show readW x most = ⟨x.id, x.w, x.recs, false⟩ by unfold readW; rw [if_pos hlo], show readL x most = [] by unfold readL; rw [if_pos hlo]]
  exact run_give h1 (view_tup (vlc (view_agg (vlc (view_set (f := 1) hO rfl hq (by omega) hne hf hFa (view_wt ((hRS.frame hf).view))) (vlc rfl vln))) (vlc rfl (vlc rfl vln))))
theorem f28f (b : Bd) (t most : Int) (hb : SB b) (a : Nat) (x : BW) (ha : ixB t b.ws 0 = a) (hx : b.ws[a]? = some x) (hlo : x.lost = false) : Fn 28 [b.enc, i t, i most] (.tup [(readB b a most).enc, .fs ((readL x most).map Rec.enc), .bool false]) := by
  obtain ⟨hla, hxa⟩ := List.getElem?_eq_some_iff.1 hx
  have hs : small x.recs := hb.r x (hxa ▸ List.getElem_mem hla)
  obtain ⟨r, H, h1, q, Hc, Es, Fs, m, cr, hO, hE, hq, hF, hne, hf, cl, cr2, hv1, hv2, hFa, rfl⟩ := c28n b t most hb a ha x hla hxa hlo hs []
  have hn : ¬ x.lost = true := by rw [hlo]; decide
  rw [readB_enc hx, show readW x most = ⟨x.id, x.w, x.recs.drop (readN x.recs most), x.lost⟩ by unfold readW; rw [if_neg hn], show readL x most = x.recs.take (readN x.recs most) by unfold readL; rw [if_neg hn]]
  exact run_give h1 (view_tup (vlc (view_agg (vlc (view_set (f := 1) hO rfl hq (by omega) hne hf hFa (view_wt (hv2 _))) (vlc rfl vln))) (vlc (hv1 _) (vlc rfl vln))))
theorem readB_SB {b : Bd} {a : Nat} {x : BW} (most : Int) (hb : SB b) (hx : b.ws[a]? = some x) : SB (readB b a most) ∧ small (readL x most) := by
  obtain ⟨hla, hxa⟩ := List.getElem?_eq_some_iff.1 hx
  have hs : small x.recs := hb.r x (hxa ▸ List.getElem_mem hla)
  rw [readB_ws hx]
  refine ⟨⟨by show (b.ws.set a _).length < _; rw [List.length_set]; exact hb.n, fun y hy => ?_⟩, ?_⟩
  · rcases List.mem_or_eq_of_mem_set hy with h | rfl
    · exact hb.r y h
    · unfold readW; split
      · exact hs
      · exact ⟨by have := hs.1; show (x.recs.drop _).length < _; rw [List.length_drop]; omega, fun r hr => hs.2 r (List.mem_of_mem_drop hr)⟩
  · unfold readL; split
    · exact ⟨by decide, fun r hr => by cases hr⟩
    · exact small_take hs
theorem f26t (b : Bd) (t most : Int) (hb : SB b) (h : readE b t most = 0) (a : Nat) (x : BW) (ha : ixB t b.ws 0 = a) (hx : b.ws[a]? = some x) (hlo : x.lost = true) : Fn 26 [b.enc, i t, i most] (.tup [(readB b a most).enc, .fs ((readL x most).map Rec.enc), i 16]) := by
  have := f26o b t most hb h a x ha hx
  rwa [show readC x = 16 by unfold readC; rw [if_pos hlo]] at this
theorem f26f (b : Bd) (t most : Int) (hb : SB b) (h : readE b t most = 0) (a : Nat) (x : BW) (ha : ixB t b.ws 0 = a) (hx : b.ws[a]? = some x) (hlo : x.lost = false) : Fn 26 [b.enc, i t, i most] (.tup [(readB b a most).enc, .fs ((readL x most).map Rec.enc), i 0]) := by
  have := f26o b t most hb h a x ha hx
  rwa [show readC x = 0 by unfold readC; rw [if_neg (by rw [hlo]; decide)]] at this
attribute [local irreducible] readB readL readC readW

theorem c5t (b : Bd) (t most : Int) (hb : SB b) (hf : fewB b = true) (he : readE b t most = 0) (a : Nat) (x : BW) (ha : ixB t b.ws 0 = a) (hx : b.ws[a]? = some x) (hlo : x.lost = true) : Fn 5 [b.enc, i t, i most] (.bool true) := by
  obtain ⟨hsb, hsl⟩ := readB_SB most hb hx; have hbn := hb.n
  refine run_walkF eok Tryz.func5 rfl (by kernel_rfl) ?_
  conv => whnf
  repeat' (first
    | ((with_reducible refine on_nt (by assumption) ?_); conv => whnf)
    | ((with_reducible refine on_ndec_t (by first | assumption ) ?_); conv => whnf)
    | ((with_reducible refine on_dec_t rfl ?_); conv => whnf)
    | ((with_reducible refine call_go ?_); (first | refine call_step (run_view c11 rfl rfl) ?_ | refine call_step (run_view (c18 b) rfl rfl) ?_ | refine call_step (run_viewF (c20 b hb) rfl) ?_ | refine call_step (run_viewF (f26t b t most hb he a x ha hx hlo) rfl) ?_ | refine call_step (run_view (c27 b t most hb) rfl rfl) ?_ | refine call_step (run_view (c22 (readB b a most) hsb) rfl rfl) ?_ | refine call_step (run_viewF (f28t b t most hb a x ha hx hlo) rfl) ?_ | refine call_step (run_view (c29 (readL x most) (readL x most) (by have := hsl.1; omega) (by have := hsl.1; omega)) rfl rfl) ?_); conv => whnf)
    | ((with_reducible refine endx_go ?_); first | (exact endx rfl; done) )
    | fail
    )

theorem c5f (b : Bd) (t most : Int) (hb : SB b) (hf : fewB b = true) (he : readE b t most = 0) (a : Nat) (x : BW) (ha : ixB t b.ws 0 = a) (hx : b.ws[a]? = some x) (hlo : x.lost = false) : Fn 5 [b.enc, i t, i most] (.bool true) := by
  obtain ⟨hsb, hsl⟩ := readB_SB most hb hx; have hbn := hb.n
  refine run_walkF eok Tryz.func5 rfl (by kernel_rfl) ?_
  conv => whnf
  repeat' (first
    | ((with_reducible refine on_nt (by assumption) ?_); conv => whnf)
    | ((with_reducible refine on_ndec_t (by first | assumption ) ?_); conv => whnf)
    | ((with_reducible refine on_dec_t rfl ?_); conv => whnf)
    | ((with_reducible refine call_go ?_); (first | refine call_step (run_view c11 rfl rfl) ?_ | refine call_step (run_view (c18 b) rfl rfl) ?_ | refine call_step (run_viewF (c20 b hb) rfl) ?_ | refine call_step (run_viewF (f26f b t most hb he a x ha hx hlo) rfl) ?_ | refine call_step (run_view (c27 b t most hb) rfl rfl) ?_ | refine call_step (run_view (c22 (readB b a most) hsb) rfl rfl) ?_ | refine call_step (run_viewF (f28f b t most hb a x ha hx hlo) rfl) ?_ | refine call_step (run_view (c29 (readL x most) (readL x most) (by have := hsl.1; omega) (by have := hsl.1; omega)) rfl rfl) ?_); conv => whnf)
    | ((with_reducible refine endx_go ?_); first | (exact endx rfl; done) )
    | fail
    )

theorem c5e (b : Bd) (t most : Int) (hb : SB b) (hf : fewB b = true) (he : ¬ readE b t most = 0) : Fn 5 [b.enc, i t, i most] (.bool true) := by
  refine run_walkF eok Tryz.func5 rfl (by kernel_rfl) ?_
  conv => whnf
  repeat' (first
    | ((with_reducible refine on_nt (by assumption) ?_); conv => whnf)
    | ((with_reducible refine on_ndec_f (by assumption) ?_); conv => whnf)
    | ((with_reducible refine on_dec_t rfl ?_); conv => whnf)
    | ((with_reducible refine call_go ?_); (first | refine call_step (run_view c11 rfl rfl) ?_ | refine call_step (run_view (c18 b) rfl rfl) ?_ | refine call_step (run_viewF (c20 b hb) rfl) ?_ | refine call_step (run_viewF (f26n b t most hb he) rfl) ?_ | refine call_step (run_view (c27 b t most hb) rfl rfl) ?_ | refine call_step (run_view c22z rfl rfl) ?_ ); conv => whnf)
    | ((with_reducible refine endx_go ?_); first | (exact endx rfl; done))
    | fail
    )

theorem c5n (b : Bd) (t most : Int) (hf : fewB b = false) : Fn 5 [b.enc, i t, i most] (.bool true) := by
  refine run_walkF eok Tryz.func5 rfl (by kernel_rfl) ?_
  conv => whnf
  repeat' (first
    | ((with_reducible refine on_nf (by assumption) ?_); conv => whnf)
    | ((with_reducible refine call_go ?_); (first | refine call_step (run_view c11 rfl rfl) ?_ | refine call_step (run_view (c18 b) rfl rfl) ?_ ); conv => whnf)
    | ((with_reducible refine endx_go ?_); first | (exact endx rfl; done))
    | fail
    )

theorem c5 (b : Bd) (t most : Int) (ha : actsOk b) : Fn 5 [b.enc, i t, i most] (.bool true) := by
  by_cases hf : fewB b = true
  · have hb := few_SB hf ha
    by_cases he : readE b t most = 0
    · obtain ⟨hc, h0⟩ := readE_0 he
      obtain ⟨a, x, h1, h2⟩ := Go.Proofs.YtbkmjpmgiaiacaaGreatDoor.ix_at (asc_ok hc) (findE_0 h0).1
      cases hlo : x.lost
      · exact c5f b t most hb hf he a x h1 h2 hlo
      · exact c5t b t most hb hf he a x h1 h2 hlo
    · exact c5e b t most hb hf he
  · exact c5n b t most (by simpa using hf)

end Go.Proofs.YtbkmjpmgiaiacaaGreatDoor

/-! Pw -/
namespace Go.Proofs.YtbkmjpmgiaiacaaGreatDoor
open Go Dw Paths
attribute [local irreducible] Run
theorem VW.mono {n n' : Int} {x : BW} (h : VW n x) (hn : n ≤ n') : VW n' x := ⟨⟨h.id.1, by have := h.id.2; omega⟩, h.w, h.lost, h.recs, h.room⟩
theorem room_ge : ∀ l : List Rec, 0 ≤ roomOf l
  | [] => by rw [room0]; omega
  | r :: l => by
    have := room_ge l
    have h1 : 0 ≤ sz r := by unfold sz; omega
    show 0 ≤ sz r + roomOf l
    omega
theorem room_td : ∀ (l : List Rec) (k : Nat), roomOf l = roomOf (l.take k) + roomOf (l.drop k)
  | [], k => by simp [room0]
  | r :: l, 0 => by rw [List.take_zero, room0, List.drop_zero]; omega
  | r :: l, k + 1 => by
    have := room_td l k
    show sz r + roomOf l = (sz r + roomOf (l.take k)) + roomOf (l.drop k)
    omega
theorem rn_all {l : List Rec} {room : Int} (h : roomOf l ≤ room) : ∀ (f k : Nat), f = l.length - k → k ≤ l.length → rnGo l room f k = l.length
  | 0, k, hf, hk => by simp only [rnGo]; omega
  | f + 1, k, hf, hk => by
    have h1 := room_td l (k + 1)
    have h2 := room_ge (l.drop (k + 1))
    simp only [rnGo, if_pos (show k < l.length ∧ roomOf (l.take (k + 1)) ≤ room from ⟨by omega, by omega⟩)]
    exact rn_all h f (k + 1) (by omega) (by omega)
theorem readN_all {l : List Rec} {room : Int} (h : roomOf l ≤ room) : readN l room = l.length := by unfold readN; exact rn_all h _ _ (by omega) (Nat.zero_le _)
theorem dbl_drop {l : List Rec} {k j : Nat} (hj : j < (l.drop k).length) (h : dblB l (k + j) = false) : dblB (l.drop k) j = false := by
  rw [List.length_drop] at hj
  unfold dblB at h ⊢
  by_cases h0 : 0 < j
  · rw [List.getElem?_drop, List.getElem?_drop, show k + (j - 1) = k + j - 1 by omega]
    rw [decide_eq_true (show 0 < k + j by omega)] at h
    rw [decide_eq_true h0]; exact h
  · rw [decide_eq_false h0]; rfl
theorem recI_iff {w : Wt} {r : Rec} {d : Bool} : recI w r d = 0 ↔ recE w r = 0 ∧ d = false := by
  unfold recI
  by_cases h : recE w r = 0
  · rw [if_pos h]; cases d <;> simp [h]
  · rw [if_neg h]; simp [h]
theorem VW.read {n : Int} {x : BW} (h : VW n x) (most : Int) : VW n (readW x most) := by
  unfold readW
  by_cases hl : x.lost = true
  · rw [if_pos hl]
    exact ⟨h.id, h.w, (fun e => by cases e), h.recs, h.room⟩
  · rw [if_neg hl]
    refine ⟨h.id, h.w, fun e => absurd e hl, fun j hj => ?_, ?_⟩
    · show recI x.w ((x.recs.drop (readN x.recs most))[j]'hj) (dblB (x.recs.drop (readN x.recs most)) j) = 0
      have hj2 : j < (x.recs.drop (readN x.recs most)).length := hj
      have hj3 := hj2
      rw [List.length_drop] at hj3
      have h1 := recI_iff.1 (h.recs (readN x.recs most + j) (by omega))
      rw [List.getElem_drop]
      exact recI_iff.2 ⟨h1.1, dbl_drop hj2 h1.2⟩
    · show roomOf (x.recs.drop _) ≤ x.w.room
      have h1 := room_td x.recs (readN x.recs most)
      have h2 := room_ge (x.recs.take (readN x.recs most))
      have := h.room; omega
theorem tellW_w (e : Rec) (x : BW) : (tellW e x).w = x.w := by
  unfold tellW putB
  split
  · split
    · rfl
    · split <;> rfl
  · rfl
def al (x : BW) : Bd := ⟨[x], 2⟩
def bo (x y : BW) : Bd := ⟨[x, y], 3⟩
def x0 (w : Wt) (n : Int) : BW := ⟨n, w, [], false⟩
def xK (w : Wt) (es : List Rec) (k : Nat) : BW := (es.take k).foldl (fun x e => tellW e x) (x0 w 1)
def yK (v : Wt) (es : List Rec) (k : Nat) : BW := (es.take k).foldl (fun y e => readW (tellW e y) 20) (x0 v 2)
theorem xK_0 (w : Wt) (es : List Rec) : xK w es 0 = x0 w 1 := rfl
theorem xK_s {w : Wt} {es : List Rec} {k : Nat} (h : k < es.length) : xK w es (k + 1) = tellW es[k] (xK w es k) := by
  unfold xK; rw [List.take_succ_eq_append_getElem h, List.foldl_append]; rfl
theorem foldT_w : ∀ (l : List Rec) (x : BW), (l.foldl (fun x e => tellW e x) x).w = x.w ∧ (l.foldl (fun x e => tellW e x) x).id = x.id
  | [], _ => ⟨rfl, rfl⟩
  | e :: l, x => by
    have := foldT_w l (tellW e x)
    rw [tellW_w, tellW_id] at this; exact this
theorem xK_w (w : Wt) (es : List Rec) (k : Nat) : (xK w es k).w = w ∧ (xK w es k).id = 1 := foldT_w _ _
theorem VW0 {w : Wt} {n m : Int} (h : watchErr w.path w.filter w.room = 0) (h1 : 1 ≤ n) (h2 : n ≤ m - 1) : VW m (x0 w n) :=
  ⟨⟨h1, h2⟩, h, fun _ => rfl, fun j hj => by simp [x0] at hj, by have := watchErr_ok h; show roomOf [] ≤ w.room; rw [room0]; omega⟩
theorem VB_al {x : BW} (h : VW 2 x) : VB (al x) :=
  ⟨show (1 : Nat) ≤ 8 by decide, show (1 : Int) ≤ 2 ∧ (2 : Int) ≤ 2147483647 by decide, fun i j hij hj => by have : j < 1 := hj; omega, fun y hy => by rw [List.mem_singleton.1 hy]; exact h⟩
theorem ev_bd {e : Rec} (h : eventErr e.act e.path = 0) : e.act < 9223372036854775808 := by
  have := isAct_iff.1 (eventErr_ok h).1; omega
theorem tA {x : BW} {e : Rec} (h : VW 2 x) (he : eventErr e.act e.path = 0) : Fn 19 [(al x).enc, e.enc] (.tup [(al (tellW e x)).enc, .fs ((told e (al x).ws).map i), i 0]) := by
  rw [← show tellB (al x) e = al (tellW e x) from rfl]
  exact f19o (al x) e (ev_bd he) (VB_al h).small (by rw [tellE_c (checkB_iff.2 (VB_al h))]; exact he)
theorem ix_al {x : BW} (h : x.id = 1) : ixB 1 (al x).ws 0 = 0 := by unfold al ixB; rw [if_pos h]; rfl
theorem rd_0 {b : Bd} {t most : Int} (h : VB b) (h2 : 0 ≤ ixB t b.ws 0) (h3 : within most 0 400 = true) : readE b t most = 0 := readE_o (checkB_iff.2 h) (by omega) h3
theorem id_1 {x : BW} (h : VW 2 x) : x.id = 1 := by have := h.id; omega
theorem rA {x : BW} (hx : VW 2 x) : Fn 26 [(al x).enc, i 1, i 400] (.tup [(al (readW x 400)).enc, .fs ((readL x 400).map Rec.enc), i (readC x)]) := by
  rw [← show readB (al x) 0 400 = al (readW x 400) from rfl]
  exact f26o (al x) 1 400 (VB_al hx).small (rd_0 (VB_al hx) (by rw [ix_al (id_1 hx)]; decide) (by decide)) 0 x (ix_al (id_1 hx)) rfl
theorem VW.r400 {n : Int} {x : BW} (h : VW n x) : roomOf x.recs ≤ 400 := by have := h.room; have := watchErr_ok h.w; omega
theorem rd_f {n : Int} {x : BW} (hx : VW n x) (h : x.lost = false) : readL x 400 = x.recs ∧ readC x = 0 := by
  unfold readL readC
  rw [if_neg (by rw [h]; decide), if_neg (by rw [h]; decide), readN_all hx.r400, List.take_length]; exact ⟨rfl, rfl⟩
theorem rA_f {x : BW} (hx : VW 2 x) (h : x.lost = false) : Fn 26 [(al x).enc, i 1, i 400] (.tup [(al (readW x 400)).enc, .fs (x.recs.map Rec.enc), i 0]) := by
  have := rA hx; rwa [(rd_f hx h).1, (rd_f hx h).2] at this
theorem f30x {b : Bd} {w : Wt} (hb : VB b) (h : addErr b w = 0) : Fn 30 [b.enc, w.enc] (.tup [(addB b w).enc, i b.next, i 0]) := by
  have := f30 b w hb.small
  rwa [if_pos (by rw [addE_c (checkB_iff.2 hb)]; exact h)] at this
theorem VB_0 : VB ⟨[], 1⟩ := ⟨show (0 : Nat) ≤ 8 by decide, show (1 : Int) ≤ 1 ∧ (1 : Int) ≤ 2147483647 by decide, fun i j hij hj => absurd hj (Nat.not_lt_zero _), fun x hx => by cases hx⟩
theorem add1 {w : Wt} (h : watchErr w.path w.filter w.room = 0) : Fn 30 [(Bd.mk [] 1).enc, w.enc] (.tup [(al (x0 w 1)).enc, i 1, i 0]) := by
  rw [← show addB (Bd.mk [] 1) w = al (x0 w 1) from rfl]
  exact f30x VB_0 (addErr_c h (show (0 : Int) < 8 by decide) (show (1 : Int) < 2147483647 by decide))
end Go.Proofs.YtbkmjpmgiaiacaaGreatDoor

/-! Vk -/
namespace Go.Proofs.YtbkmjpmgiaiacaaGreatDoor
open Go Dw
set_option maxRecDepth 10000
set_option linter.unusedVariables false
set_option linter.unusedSimpArgs false
attribute [local irreducible] Run
set_option maxHeartbeats 4000000

open Paths
attribute [local irreducible] Own checkB addErr roomy bsR ixB dropB addB sz roomOf putB seesW belowI tellB told isAct addE dropErr tellErr eventErr watchErr readN findE readE readB readL readC readW tellW xK yK al bo x0

theorem c31 : Fn 31 [] (Bd.mk [] 1).enc := by
  refine run_walkF eok Tryz.func31 rfl (by kernel_rfl) ?_
  conv => whnf
  repeat' (first
    | ((with_reducible refine endx_go ?_); first | (exact endxv rfl rfl; done) )
    | fail
    )

theorem sz_pos (r : Rec) : 4 ≤ sz r := by unfold sz; omega
theorem tell_no {e : Rec} {x : BW} {w : Wt} (hw : x.w = w) (h : (seesW w e).2 = false) : tellW e x = x := by unfold tellW; rw [hw, if_neg (by rw [h]; decide)]
attribute [local irreducible] newD

theorem evs_of : ∀ (l : List D), (∀ y ∈ l, ∃ r : Rec, y = r.enc ∧ r.act < 9223372036854775808) → ∃ r : List Rec, l = r.map Rec.enc
  | [], _ => ⟨[], rfl⟩
  | x :: l, h => by
    obtain ⟨a, rfl, ha⟩ := h x (by simp)
    obtain ⟨r, rfl⟩ := evs_of l fun y hy => h y (by simp [hy])
    exact ⟨a :: r, rfl⟩
theorem shpEvs {n : Nat} {x : D} (h : shp E (n + 3) 60 x) : ∃ r : List Rec, x = .fs (r.map Rec.enc) := by
  obtain ⟨l, rfl, _, h3⟩ := h
  obtain ⟨r, rfl⟩ := evs_of l fun y hy => shpEv (h3 y hy)
  exact ⟨r, rfl⟩

end Go.Proofs.YtbkmjpmgiaiacaaGreatDoor

/-! Vl -/
namespace Go.Proofs.YtbkmjpmgiaiacaaGreatDoor
open Go Dw
set_option maxRecDepth 10000
set_option linter.unusedVariables false
set_option linter.unusedSimpArgs false
attribute [local irreducible] Run
set_option maxHeartbeats 4000000

open Paths
def w4 (w : Wt) : Wt := ⟨w.path, w.deep, w.filter, 400⟩
theorem w4_ok {w : Wt} (h : watchErr w.path w.filter w.room = 0) : watchErr (w4 w).path (w4 w).filter (w4 w).room = 0 := by
  obtain ⟨h1, h2, h3, _, _⟩ := watchErr_ok h
  show watchErr w.path w.filter 400 = 0
  unfold watchErr
  rw [if_pos h1, if_pos ⟨by omega, by omega, by omega, by omega⟩]
/-- What is due, and what the board holds. -/
def Jn (x : BW) (due : List Rec) (s : Int) : Prop := s = roomOf due ∧ ((x.lost = false ∧ x.recs = due) ∨ (x.lost = true ∧ 400 < s))
theorem Jn.zero (w : Wt) : Jn (x0 w 1) [] 0 := ⟨by rw [room0], .inl ⟨rfl, rfl⟩⟩
theorem Jn.fin {x : BW} {due : List Rec} {s : Int} (h : Jn x due s) (hs : ¬ 400 < s) : x.lost = false ∧ x.recs = due := by
  rcases h.2 with h | h
  · exact h
  · exact absurd h.2 hs
theorem skip_eq {x : BW} {w : Wt} {r : Rec} (h : x.lost = false) : putSkip x r = putSkip ⟨0, w, x.recs, false⟩ r := by unfold putSkip; rw [h]
theorem Jn.like {x : BW} {w : Wt} {due : List Rec} {s : Int} {e : Rec} (h : Jn x due s) (hw : x.w = w) (hs : (seesW w e).2 = true) (hk : putSkip ⟨0, w, due, false⟩ ⟨e.act, (seesW w e).1⟩ = true) : Jn (tellW e x) due s := by
  have : tellW e x = x := by
    unfold tellW
    rw [hw, if_pos hs]
    rcases h.2 with ⟨h1, h2⟩ | ⟨h1, _⟩
    · subst h2; exact put_2 (by rw [skip_eq (w := w) h1]; exact hk)
    · exact put_1 h1
  rw [this]; exact h
theorem Jn.add {x : BW} {w : Wt} {due : List Rec} {s : Int} {e : Rec} (h : Jn x due s) (hw : x.w = w) (hr : w.room = 400) (hs : (seesW w e).2 = true) (hk : putSkip ⟨0, w, due, false⟩ ⟨e.act, (seesW w e).1⟩ = false) : Jn (tellW e x) (due ++ [⟨e.act, (seesW w e).1⟩]) (s + sz ⟨e.act, (seesW w e).1⟩) := by
  obtain ⟨h0, h⟩ := h
  have hp := sz_pos ⟨e.act, (seesW w e).1⟩
  refine ⟨by rw [room_snoc, h0], ?_⟩
  unfold tellW
  rw [hw, if_pos hs]
  rcases h with ⟨h1, h2⟩ | ⟨h1, h2⟩
  · subst h2
    have hk2 : putSkip x ⟨e.act, (seesW w e).1⟩ = false := by rw [skip_eq (w := w) h1]; exact hk
    by_cases hf : x.w.room < roomOf x.recs + sz ⟨e.act, (seesW w e).1⟩
    · rw [put_3 hk2 hf]
      exact .inr ⟨rfl, by rw [hw, hr] at hf; omega⟩
    · rw [put_4 hk2 hf]
      exact .inl ⟨h1, rfl⟩
  · rw [put_1 h1]
    exact .inr ⟨h1, by omega⟩
theorem RecS.one {m : Nat} {H : Heap} {t q : Nat} {r : Rec} (h : H[t]? = some ⟨[.agg [.d (i r.act), .d (.str r.path)]], 2, 0⟩) (hq : t ≠ q) (hm : m ≤ t) : RecS m H q (.sl t 0 1 2 none) [r] :=
  .inr ⟨t, _, rfl, h, Nat.le_refl _, fun j r' hr => by
    have hj : j < 1 := lt_of_at hr
    obtain rfl : j = 0 := by omega
    cases hr
    exact ⟨_, rfl, .inr rfl⟩, hq, hm⟩
theorem RecS.snoc {m : Nat} {H : Heap} {id q : Nat} {A A' : List AV} {l : List Rec} {r : Rec} (h1 : H[id]? = some ⟨A', 2, 0⟩) (h2 : l.length + 1 ≤ A'.length) (h3 : ∀ j, j < l.length → A'[j]? = A[j]?) (h4 : A'[l.length]? = some (.agg [.d (i r.act), .d (.str r.path)])) (ht : ∀ (j : Nat) (r : Rec), l[j]? = some r → ∃ a : AV, A[j]? = some a ∧ RecV a r) (hq : id ≠ q) (hm : m ≤ id) : RecS m H q (.sl id 0 (l.length + 1) 2 none) (l ++ [r]) := by
  refine .inr ⟨id, A', by rw [List.length_append, List.length_singleton], h1, by rw [List.length_append, List.length_singleton]; exact h2, fun j r' hr => ?_, hq, hm⟩
  rw [List.getElem?_append] at hr
  split at hr
  · rename_i hj
    rw [h3 j hj]; exact ht j r' hr
  · have hj2 : j - l.length = 0 := by
      have := lt_of_at hr
      simp only [List.length_singleton] at this; omega
    have hj3 : j = l.length := by omega
    rw [hj2] at hr; cases hr
    rw [hj3, h4]
    exact ⟨_, rfl, .inr rfl⟩
theorem told_t1 {e : Rec} {x : BW} {w : Wt} (hx : VW 2 x) (hw : x.w = w) (hs : (seesW w e).2 = true) : told e (al x).ws = [1] := by
  show told e [x] = [1]
  unfold told; simp [hw, hs, id_1 hx]
theorem told_f1 {e : Rec} {x : BW} {w : Wt} (hw : x.w = w) (hs : (seesW w e).2 = false) : told e (al x).ws = [] := by
  show told e [x] = []
  unfold told; simp [hw, hs]
theorem tAt {x : BW} {e : Rec} {w : Wt} (h : VW 2 x) (he : eventErr e.act e.path = 0) (hw : x.w = w) (hs : (seesW w e).2 = true) : Fn 19 [(al x).enc, e.enc] (.tup [(al (tellW e x)).enc, .fs [i 1], i 0]) := by
  have := tA h he
  rwa [told_t1 h hw hs] at this
theorem tAf {x : BW} {e : Rec} {w : Wt} (h : VW 2 x) (he : eventErr e.act e.path = 0) (hw : x.w = w) (hs : (seesW w e).2 = false) : Fn 19 [(al x).enc, e.enc] (.tup [(al (tellW e x)).enc, .fs [], i 0]) := by
  have := tA h he
  rwa [told_f1 hw hs] at this
theorem rA_d {x : BW} {due : List Rec} (hx : VW 2 x) (h : x.lost = false ∧ x.recs = due) : Fn 26 [(al x).enc, i 1, i 400] (.tup [(al (readW x 400)).enc, .fs (due.map Rec.enc), i 0]) := by
  have := rA_f hx h.1; rwa [h.2] at this
theorem run_dataV {f : Nat} {xs : List D} {r : D} {args : List AV} {H : Heap} (hf : Run Tryz.prog f (xs.map .d) [] (.d r) []) (hv : vl (view 8 H) args = some xs) (hre : args.flatMap (reach 8 H) = []) : Run Tryz.prog f args H (.d r) H := by
  have := run_viewF hf hv
  rw [hre] at this; exact this
theorem mrg_t {a : Int} (h : a = 16 ∨ a = 32) : mrg a = true := by unfold mrg; rcases h with rfl | rfl <;> rfl
theorem mrg_f {a : Int} (h : ¬ a = 16) (h2 : ¬ a = 32) : mrg a = false := by unfold mrg; rw [decide_eq_false h, decide_eq_false h2]; rfl
attribute [local irreducible] newD Own checkB addErr roomy bsR ixB dropB addB sz roomOf putB seesW belowI tellB told isAct addE dropErr tellErr eventErr watchErr readN findE readE readB readL readC readW tellW xK yK al bo x0 putSkip lastIs mrg Jn appD

theorem sees_sz4 {w : Wt} {e : Rec} (he : eventErr e.act e.path = 0) : 0 ≤ sz ⟨e.act, (seesW w e).1⟩ ∧ sz ⟨e.act, (seesW w e).1⟩ ≤ 1010 := by
  have := sees_len (w := w) he
  exact sz_bd ⟨e.act, (seesW w e).1⟩ this

theorem c6o (w : Wt) (es : List Rec) (hl : ¬ (20 : Int) < es.length) (hw : watchErr w.path w.filter w.room = 0) (H0 : Heap) : ∃ r H, Run Tryz.prog 6 [.d w.enc, .d (.fs (es.map Rec.enc))] H0 r H ∧ r = .d (.bool true) := by
  have hw4 := w4_ok hw
  refine run_walkQ eok Tryz.func6 rfl (by kernel_rfl) ?_
  conv => whnf
  repeat' (first
    | ((with_reducible refine on_ndec_t (by first | assumption ) ?_); conv => whnf)
    | ((with_reducible refine on_dec_f ?_ ?_); (focus ((try simp only [List.length_map, List.length_cons, List.length_nil, List.length_append]); omega)); conv => whnf)
    | ((with_reducible refine on_dec (fun h => ?_) (fun h => ?_)) <;> (try simp only [List.length_map] at h) <;> conv => whnf)
    | ((with_reducible refine on_ndec (fun h => ?_) (fun h => ?_)) <;> (try simp only [List.length_map] at h) <;> conv => whnf)
    | ((with_reducible refine on_not (fun h => ?_) (fun h => ?_)) <;> conv => whnf)
    | ((with_reducible refine onBool_split (fun h => ?_) (fun h => ?_)) <;> conv => whnf)
    | ((with_reducible refine call_go ?_); (first | refine call_step (run_view c11 rfl rfl) ?_ | refine call_step (run_view (c13 w) rfl rfl) ?_ | refine call_step (run_data c31 _) ?_ | refine call_step (run_dataV (add1 hw4) (vlc rfl (vlc (view_agg (vlc rfl (vlc rfl (vlc rfl (vlc rfl vln))))) vln)) rfl) ?_ | refine call_step (run_view (c15 (es[k]'(by omega))) rfl rfl) ?_ | refine call_step (run_view (c17' (w4 w) (es[k]'(by omega)) hw4 (by assumption)) rfl (vlc (view_agg (vlc rfl (vlc rfl (vlc rfl (vlc rfl vln))))) (vlc rfl vln))) ?_ | refine call_step (run_view (c32 ⟨(es[k]'(by omega)).act, (seesW (w4 w) (es[k]'(by omega))).1⟩ (by have := sees_len (w := w4 w) (e := (es[k]'(by omega))) (by assumption); show (seesW (w4 w) (es[k]'(by omega))).1.length < _; omega)) rfl (vlc (view_agg (vlc rfl (vlc rfl vln))) vln)) ?_ | refine call_step (run_data (tAt hVx (by assumption) hxw (by assumption)) _) ?_ | refine call_step (run_data (tAf hVx (by assumption) hxw (by assumption)) _) ?_ | refine call_step (run_data (rA_d hVx (hJ.fin (by assumption))) _) ?_ | refine call_step (run_view (c29 [] [] (by decide) (by decide)) rfl rfl) ?_ | refine call_step (run_view (c29 due due (by omega) (by omega)) rfl (vlc rfl (vlc (view_rec ⟨A, (by (repeat (first | assumption | refine look_new (by assumption) (by omega) ?_ | refine look_set (by assumption) (by omega) ?_))), hlA, htA⟩) vln))) ?_); conv => whnf)
    | (refine ⟨[], [(7, 0), (7, 2), (1, 0)], (by decide +kernel), ?_⟩; conv => whnf)
    | (refine ⟨[], [(10, 5)], (by decide +kernel), ?_⟩; conv => whnf)
    | ((with_reducible refine loop_go ?_); first | (apply loopG6 (fun (k : Nat) (s : Int) (due : List Rec) (cd : AV) (z : Nat) (p : Nat) (H : Heap) => es.length - k) (fun (k : Nat) (s : Int) (due : List Rec) (cd : AV) (z : Nat) (p : Nat) (H : Heap) => k ≤ es.length ∧ VW 2 (xK (w4 w) es k) ∧ (0 ≤ s ∧ s ≤ 2000 * k) ∧ due.length ≤ k ∧ Jn (xK (w4 w) es k) due s ∧ H[z]? = some ⟨[.agg [.d (.str w.path), .d (.bool w.deep), .d (i w.filter), .d (i 400)]], (E 23).size, 0⟩ ∧ H[p]? = some ⟨[.d (al (xK (w4 w) es k)).enc], (E 39).size, 0⟩ ∧ z < p ∧ RecS (p + 1) H z cd due) (fun (k : Nat) (s : Int) (due : List Rec) (cd : AV) (z : Nat) (p : Nat) (H : Heap) => [(1, .d (.fs (es.map Rec.enc))), (2, .ptr z 0 0), (5, .ptr p 0 0), (6, .d (i 1)), (8, cd), (9, .d (i s)), (10, .d (i k))]) (0) (0) ([]) (.nilS); rotate_left; (focus (exact .inl ⟨rfl, ⟨(by first | rfl ), (by first | rfl ), (by first | rfl ), (by first | rfl ), (by first | rfl ), (by first | rfl ), (by first | rfl ), trivial⟩⟩)); rotate_left; (focus (exact ⟨Nat.zero_le _, (by rw [xK_0]; exact VW0 hw4 (by decide) (by decide)), by omega, Nat.le_refl _, (by rw [xK_0]; exact Jn.zero _), (by (repeat (first | refine look_new (by with_reducible assumption) (by omega) ?_ | refine look_set (by with_reducible assumption) (by omega) ?_ | assumption))), (by rw [xK_0]; (repeat (first | assumption))), by omega, .inl ⟨rfl, rfl⟩⟩)); intro k s due cd z p H C hI hC; obtain ⟨hk, hVx, hsb, hdl, hJ, h0, h1, hzp, hRS⟩ := hI; have hRS2 := hRS; unfold RecS at hRS; have hl0 := lt_of_at h0; have hl1 := lt_of_at h1; have hxw := (xK_w (w4 w) es k).1; rcases hRS with ⟨rfl, rfl⟩ | ⟨id, A, rfl, hid, hlA, htA, hidq⟩; all_goals (try have hlid := lt_of_at hid); all_goals (conv => whnf)))
    | ((with_reducible show C _ _); first | (refine hC (k + 1) (s) ([]) (.nilS) (z) (p) _ _ ?_ (by omega) ?_; clear hC; rotate_left; (exact ⟨(by first | rfl ), (by first | rfl ), (by first | rfl ), (by first | rfl ), (by first | rfl ), (by first | rfl ), (by first | rfl ), trivial⟩); exact ⟨by omega, (by rw [xK_s (by omega)]; exact hVx.tell (by assumption)), (by have := sees_sz4 (w := w4 w) (e := (es[k]'(by omega))) (by assumption); omega), (by (try simp only [List.length_append, List.length_singleton, List.length_nil]); omega), (by rw [xK_s (by omega)]; (rw [tell_no hxw (by assumption)]; exact hJ)), (by (repeat (first | with_reducible assumption | refine look_new (by with_reducible assumption) (by omega) ?_ | refine look_set (by with_reducible assumption) (by omega) ?_ ))), (by rw [xK_s (by omega)]; (repeat (first | with_reducible assumption ))), hzp, (hRS2.frame (by (intro i hi hmi hlt; (repeat (first | with_reducible rfl | refine look_new (by with_reducible assumption) (by omega) ?_ | refine look_set (by with_reducible assumption) (by omega) ?_ )))))⟩) | (refine hC (k + 1) (s) (due) ((.sl id 0 due.length 2 none)) (z) (p) _ _ ?_ (by omega) ?_; clear hC; rotate_left; (exact ⟨(by first | rfl ), (by first | rfl ), (by first | rfl ), (by first | rfl ), (by first | rfl ), (by first | rfl ), (by first | rfl ), trivial⟩); exact ⟨by omega, (by rw [xK_s (by omega)]; exact hVx.tell (by assumption)), (by have := sees_sz4 (w := w4 w) (e := (es[k]'(by omega))) (by assumption); omega), (by (try simp only [List.length_append, List.length_singleton, List.length_nil]); omega), (by rw [xK_s (by omega)]; (rw [tell_no hxw (by assumption)]; exact hJ)), (by (repeat (first | with_reducible assumption | refine look_new (by with_reducible assumption) (by omega) ?_ | refine look_set (by with_reducible assumption) (by omega) ?_ ))), (by rw [xK_s (by omega)]; (repeat (first | with_reducible assumption ))), hzp, (hRS2.frame (by (intro i hi hmi hlt; (repeat (first | with_reducible rfl | refine look_new (by with_reducible assumption) (by omega) ?_ | refine look_set (by with_reducible assumption) (by omega) ?_ )))))⟩) | (refine hC (k + 1) (s) (due) ((.sl id 0 due.length 2 none)) (z) (p) _ _ ?_ (by omega) ?_; clear hC; rotate_left; (exact ⟨(by first | rfl ), (by first | rfl ), (by first | rfl ), (by first | rfl ), (by first | rfl ), (by first | rfl ), (by first | rfl ), trivial⟩); exact ⟨by omega, (by rw [xK_s (by omega)]; exact hVx.tell (by assumption)), (by have := sees_sz4 (w := w4 w) (e := (es[k]'(by omega))) (by assumption); omega), (by (try simp only [List.length_append, List.length_singleton, List.length_nil]); omega), (by rw [xK_s (by omega)]; exact hJ.like hxw (by assumption) (skip_t (x := ⟨0, w4 w, due, false⟩) (r := ⟨(es[k]'(by omega)).act, (seesW (w4 w) (es[k]'(by omega))).1⟩) (by assumption) (mrg_t (by first | exact .inl (by assumption) | exact .inr (by assumption))) (by assumption))), (by (repeat (first | with_reducible assumption | refine look_new (by with_reducible assumption) (by omega) ?_ | refine look_set (by with_reducible assumption) (by omega) ?_ ))), (by rw [xK_s (by omega)]; (repeat (first | with_reducible assumption ))), hzp, (hRS2.frame (by (intro i hi hmi hlt; (repeat (first | with_reducible rfl | refine look_new (by with_reducible assumption) (by omega) ?_ | refine look_set (by with_reducible assumption) (by omega) ?_ )))))⟩) | (refine hC (k + 1) (s + sz ⟨(es[k]'(by omega)).act, (seesW (w4 w) (es[k]'(by omega))).1⟩) (([] ++ [⟨(es[k]'(by omega)).act, (seesW (w4 w) (es[k]'(by omega))).1⟩])) ((.sl t9 0 1 2 none)) (z) (p) _ _ ?_ (by omega) ?_; clear hC; rotate_left; (exact ⟨(by first | rfl ), (by first | rfl ), (by first | rfl ), (by first | rfl ), (by first | rfl ), (by first | rfl ), (by first | rfl ), trivial⟩); exact ⟨by omega, (by rw [xK_s (by omega)]; exact hVx.tell (by assumption)), (by have := sees_sz4 (w := w4 w) (e := (es[k]'(by omega))) (by assumption); omega), (by (try simp only [List.length_append, List.length_singleton, List.length_nil]); omega), (by rw [xK_s (by omega)]; exact hJ.add hxw rfl (by assumption) (by first | exact skip_0 (x := ⟨0, w4 w, [], false⟩) rfl (by simp) )), (by (repeat (first | with_reducible assumption | refine look_new (by with_reducible assumption) (by omega) ?_ | refine look_set (by with_reducible assumption) (by omega) ?_ ))), (by rw [xK_s (by omega)]; (repeat (first | with_reducible assumption ))), hzp, (RecS.one (by (repeat (first | refine look_new (by with_reducible assumption) (by omega) ?_ | refine look_set (by with_reducible assumption) (by omega) ?_ | assumption))) (by omega) (by omega))⟩) | (refine hC (k + 1) (s + sz ⟨(es[k]'(by omega)).act, (seesW (w4 w) (es[k]'(by omega))).1⟩) ((due ++ [⟨(es[k]'(by omega)).act, (seesW (w4 w) (es[k]'(by omega))).1⟩])) ((.sl id9 0 (due.length + 1) 2 none)) (z) (p) _ _ ?_ (by omega) ?_; clear hC; rotate_left; (exact ⟨(by first | rfl ), (by first | rfl ), (by first | rfl ), (by first | rfl ), (by first | rfl ), (by first | rfl ), (by first | rfl ), trivial⟩); exact ⟨by omega, (by rw [xK_s (by omega)]; exact hVx.tell (by assumption)), (by have := sees_sz4 (w := w4 w) (e := (es[k]'(by omega))) (by assumption); omega), (by (try simp only [List.length_append, List.length_singleton, List.length_nil]); omega), (by rw [xK_s (by omega)]; exact hJ.add hxw rfl (by assumption) (by first | exact skip_0 (x := ⟨0, w4 w, due, false⟩) rfl (by assumption) | exact skip_m (x := ⟨0, w4 w, due, false⟩) rfl (mrg_f (by assumption) (by assumption)) | exact skip_e (x := ⟨0, w4 w, due, false⟩) rfl (by assumption) (by assumption))), (by (repeat (first | with_reducible assumption | refine look_new (by with_reducible assumption) (by omega) ?_ | refine look_set (by with_reducible assumption) (by omega) ?_ | refine look_app (by with_reducible assumption) (by omega) (by omega) ?_ ))), (by rw [xK_s (by omega)]; (repeat (first | with_reducible assumption ))), hzp, (RecS.snoc (by (repeat (first | with_reducible assumption | refine look_new (by with_reducible assumption) (by omega) ?_ | refine look_set (by with_reducible assumption) (by omega) ?_ ))) h92 h94 h95 htA (by omega) (by omega))⟩))
    | (refine ix_map (by omega) ?_; conv => whnf)
    | (refine wrap64 (by omega) ?_; conv => whnf)
    | ((with_reducible refine appD_go ?_); (first | refine app1 (by (repeat (first | with_reducible assumption | refine look_new (by with_reducible assumption) (by omega) ?_ | refine look_set (by with_reducible assumption) (by omega) ?_ ))) hlA rfl rfl (Nat.le_trans (Nat.mul_le_mul (show _ ≤ 1001 by omega) (show _ ≤ 400 by decide)) (by decide)) (fun id9 A9 H h91 h92 h93 h94 h95 h96 hl9 hl9b hf9 => ?_) | refine app1n rfl (by decide) (fun t9 H ht9 hl9 hf9 h91 => ?_)); conv => whnf)
    | ((with_reducible refine newD_go ?_); (first | refine newG (fun n H hn hl hf ho => ?_)); conv => whnf)
    | ((with_reducible refine nthK_go ?_); (first | (refine nthG (x := ?_) ?_ ?_; rotate_left; (focus ((repeat (first | with_reducible assumption | refine look_new (by with_reducible assumption) (by omega) ?_ | refine look_set (by with_reducible assumption) (by omega) ?_ | refine look_app (by with_reducible assumption) (by omega) (by omega) ?_ )); done)); conv => whnf)))
    | ((with_reducible refine setK_go ?_); (first | (refine setG (by first | omega ) (fun H hl hf ho => ?_); (try dsimp only at hl hf); conv => whnf)))
    | (refine ⟨⟨by omega, by omega⟩, ?_⟩; conv => whnf)
    | (refine ⟨Nat.le_refl _, ?_⟩; conv => whnf)
    | (refine ⟨congrArg (Option.map AO.vis) (Eq.symm (by (repeat (first | with_reducible rfl )))), ?_⟩; conv => whnf)
    | ((with_reducible refine nthK_go ?_); obtain ⟨a9, ha9, hv9⟩ := htA (due.length - 1) _ (List.getElem?_eq_getElem (show due.length - 1 < due.length by omega)); rcases hv9 with rfl | rfl <;> (refine nthP ha9 (by omega) ?_; conv => whnf))
    | (refine wrap64 (by have := sees_sz4 (w := w4 w) (e := (es[k]'(by omega))) (by assumption); omega) ?_; conv => whnf)
    | ((with_reducible refine endq_go ?_); first | (exact endq rfl; done) | (refine endq (congrArg (fun b => AV.d (D.bool b)) ?_); simp; done) | (exfalso; revert h; rw [show (seesW (w4 w) (es[k]'(by omega))).2 = true from by assumption]; decide; done) | (exfalso; revert h; rw [show (seesW (w4 w) (es[k]'(by omega))).2 = false from by assumption]; decide; done))
    | (refine ⟨rfl, ?_⟩; conv => whnf)
    | fail
    )

theorem c6a (w : Wt) (es : List Rec) (hl : (20 : Int) < es.length) (H0 : Heap) : ∃ r H, Run Tryz.prog 6 [.d w.enc, .d (.fs (es.map Rec.enc))] H0 r H ∧ r = .d (.bool true) := by
  refine run_walkQ eok Tryz.func6 rfl (by kernel_rfl) ?_
  conv => whnf
  repeat' (first
    | ((with_reducible refine on_dec_t ?_ ?_); (focus ((try simp only [List.length_map, List.length_cons, List.length_nil, List.length_append]); omega)); conv => whnf)
    | ((with_reducible refine call_go ?_); (first | refine call_step (run_view c11 rfl rfl) ?_ ); conv => whnf)
    | (refine newG (fun n H hn hl hf ho => ?_); conv => whnf)
    | ((with_reducible refine endq_go ?_); first | (exact endq rfl; done))
    | fail
    )

theorem c6b (w : Wt) (es : List Rec) (hl : ¬ (20 : Int) < es.length) (hw : ¬ watchErr w.path w.filter w.room = 0) (H0 : Heap) : ∃ r H, Run Tryz.prog 6 [.d w.enc, .d (.fs (es.map Rec.enc))] H0 r H ∧ r = .d (.bool true) := by
  refine run_walkQ eok Tryz.func6 rfl (by kernel_rfl) ?_
  conv => whnf
  repeat' (first
    | ((with_reducible refine on_ndec_f (by assumption) ?_); conv => whnf)
    | ((with_reducible refine on_dec_f ?_ ?_); (focus ((try simp only [List.length_map, List.length_cons, List.length_nil, List.length_append]); omega)); conv => whnf)
    | ((with_reducible refine call_go ?_); (first | refine call_step (run_view c11 rfl rfl) ?_ | refine call_step (run_view (c13 w) rfl rfl) ?_ ); conv => whnf)
    | (refine newG (fun n H hn hl hf ho => ?_); conv => whnf)
    | (refine nthG (x := ?_) ?_ ?_; rotate_left; (focus ((repeat (first | assumption )); done)); conv => whnf)
    | ((with_reducible refine endq_go ?_); first | (exact endq rfl; done))
    | fail
    )

theorem c6 (w : Wt) (es : List Rec) : Fn 6 [w.enc, .fs (es.map Rec.enc)] (.bool true) := by
  have key : ∀ {H0 : Heap}, (∃ r H, Run Tryz.prog 6 [.d w.enc, .d (.fs (es.map Rec.enc))] [] r H ∧ r = .d (.bool true)) → Fn 6 [w.enc, .fs (es.map Rec.enc)] (.bool true) := by
    intro _ h
    obtain ⟨r, H, h1, rfl⟩ := h
    exact run_give h1 rfl
  by_cases hl : (20 : Int) < es.length
  · exact key (H0 := []) (c6a w es hl [])
  · by_cases hw : watchErr w.path w.filter w.room = 0
    · exact key (H0 := []) (c6o w es hl hw [])
    · exact key (H0 := []) (c6b w es hl hw [])

end Go.Proofs.YtbkmjpmgiaiacaaGreatDoor

/-! Lh -/
namespace Go.Proofs.YtbkmjpmgiaiacaaGreatDoor
open Go Dw Go.ChangeShapes Go.WideShapes Go.RowKit

section
attribute [local irreducible] Run
theorem hrun6 : ∀ xs, shps E 6 Tryz.f6.params.toList xs → Run Tryz.prog 6 (xs.map .d) [] (.d (.bool true)) [] := by
  intro xs h
  obtain ⟨x1, r1, rfl, h1, x2, r2, rfl, h2, rfl⟩ := h
  obtain ⟨w, rfl⟩ := shpWt h1
  obtain ⟨es, rfl⟩ := shpEvs h2
  exact c6 w es
end

set_option maxRecDepth 100000 in
theorem lifted6 (os : Os) (started : os.Started) (H : Type) (enc : TypeId × Value → H) :
    ReturnsInHanded {} Tryz.checked os 6 .any (fun w args => (Rows.notifyNoneMissedSpec.pre enc Tryz.prog Tryz.f6 [] false w args ∧ laidMetH Tryz.prog laid28 w) ∧ sizedMet enc Tryz.prog Tryz.f6 (OpenSpec.ofChange Rows.notifyNoneMissedSpec) false w args)
      (Rows.notifyNoneMissedSpec.post enc Tryz.prog Tryz.f6 false true false false) := by
  refine returnsInHanded_of_change_and (C := Tryz.checked) (X := fun w _ => laidMetH Tryz.prog laid28 w) (fun _ _ _ hh h => h.of_heap hh) own28 started (by kernel_rfl) Tryz.func6
    (ChangeSpec.witness_shaped (enc := enc) (C := Tryz.checked) (os := os) (X := fun w _ => laidMetH Tryz.prog laid28 w) false (wit28 os) #[.agg #[.string ⟨#[]⟩, .bool false, .int .i64 0, .int .i64 0], .slice none 0 0] 8 rfl (shaped28 os _) (by kernel_rfl) (by kernel_rfl) (by kernel_rfl) (door_met28 os _)) ?_
  intro W base args ds gs before hval hW _ _ _ _
  refine law_lift (n := 6) (t4 := 4) eok Tryz.func6 (by kernel_rfl) rfl laidOut28 rfl ?_ rfl Tryz.underlying4 (by kernel_rfl) hrun6 W base args ds gs before hval hW
  intro H ds hds
  match ds, hds with
  | [a, b], _ => rfl

theorem over6 : Rows.NotifyNoneMissedSaid :=
  OpenClaim.holds_of_wide 6 Tryz.f6 rfl rfl rfl rfl rfl rfl rfl ⟨rfl, rfl, rfl, rfl, rfl⟩ rfl rfl rfl rfl rfl (by kernel_rfl) Tryz.func6 (by kernel_rfl)
    (of_decide_eq_true (by kernel_rfl)) (by unfold Func.isWrapper; first | (rw [if_pos (by decide +kernel)]; kernel_rfl) | (rw [if_neg (by decide +kernel)]; exact ⟨rfl, rfl⟩))
    (fun os started H enc _ => lifted6 os started H enc)

theorem notifyNoneMissed_proved : Rows.NotifyNoneMissedCardSaid :=
  Claim7.holds_tied_plain_at .later [] [.data, .pinned] true (true, "109c5384165a96825d1f2089578ad2bcbcab01a966bcbf40a0fdea72bc267f3f") false
    over6 (fun _ h => by cases h) (by kernel_rfl) (fun _ h => by cases h) notifyNoneMissed_row_tie rfl ⟨rfl, rfl⟩ (by kernel_rfl) rfl
    (card_hl (f0 := 6) (fn0 := Tryz.f6) (by kernel_rfl) Tryz.func6 (by kernel_rfl) (by kernel_rfl)) (by kernel_rfl)
end Go.Proofs.YtbkmjpmgiaiacaaGreatDoor
