/-
  Chapter 28: NotifyRuns holds at every input: no condition of ours (its card lists two tables of the library, tied to the text).
-/
import Derived.Test.YtbkmjpmgiaiacaaGreatDoorGrpK
set_option linter.unusedVariables false
set_option linter.unusedSimpArgs false

/-! Vf -/
namespace Go.Proofs.YtbkmjpmgiaiacaaGreatDoor
open Go Dw
set_option maxRecDepth 10000
set_option linter.unusedVariables false
set_option linter.unusedSimpArgs false
attribute [local irreducible] Run
set_option maxHeartbeats 4000000

open Paths
attribute [local irreducible] newD Own checkB addErr roomy bsR ixB dropB addB sz roomOf
def rnGo (l : List Rec) (room : Int) : Nat → Nat → Nat
  | 0, k => k
  | f + 1, k => if k < l.length ∧ roomOf (l.take (k + 1)) ≤ room then rnGo l room f (k + 1) else k
/-- How many records fit. -/
def readN (l : List Rec) (room : Int) : Nat := rnGo l room l.length 0
theorem rn_t {l : List Rec} {room : Int} {k : Nat} (h : k < l.length) (h2 : roomOf (l.take (k + 1)) ≤ room) : rnGo l room (l.length - k) k = rnGo l room (l.length - (k + 1)) (k + 1) := by
  rw [show l.length - k = l.length - (k + 1) + 1 by omega]
  simp only [rnGo, if_pos (show k < l.length ∧ roomOf (l.take (k + 1)) ≤ room from ⟨h, h2⟩)]
theorem rn_f {l : List Rec} {room : Int} {f k : Nat} (h : ¬ (k < l.length ∧ roomOf (l.take (k + 1)) ≤ room)) : rnGo l room f k = k := by
  cases f <;> simp [rnGo, h]
theorem rn_e {l : List Rec} {room : Int} {f k : Nat} (h : l.length ≤ k) : rnGo l room f k = k := rn_f (fun e => by omega)
theorem rn_le {l : List Rec} {room : Int} : ∀ (f k : Nat), k ≤ l.length → rnGo l room f k ≤ l.length
  | 0, k, h => h
  | f + 1, k, h => by
    simp only [rnGo]
    split
    · exact rn_le f (k + 1) (by omega)
    · exact h
theorem readN_le (l : List Rec) (room : Int) : readN l room ≤ l.length := rn_le _ _ (Nat.zero_le _)
theorem RecAt.take {H : Heap} {id n : Nat} {l : List Rec} (h : RecAt H id l) : RecAt H id (l.take n) := by
  obtain ⟨A, h1, h2, h3⟩ := h
  refine ⟨A, h1, by rw [List.length_take]; omega, fun j r hr => h3 j r ?_⟩
  rw [List.getElem?_take] at hr
  split at hr
  · exact hr
  · cases hr
theorem view_recT {H : Heap} {id n k s f : Nat} {l : List Rec} {c : Option Nat} (h : RecAt H id l) (hs : s = 0) (hk : k = n) (hn : n ≤ l.length) : view (f + 3) H (.sl id s k 2 c) = some (.fs ((l.take n).map Rec.enc)) := by
  subst hs; subst hk
  have := view_rec (n := f) (c := c) (h.take (n := k))
  rwa [List.length_take, Nat.min_eq_left hn] at this
theorem small_take {l : List Rec} {n : Nat} (h : small l) : small (l.take n) := ⟨by have := h.1; rw [List.length_take]; omega, fun x hx => h.2 x (List.mem_of_mem_take hx)⟩
theorem pre_at {A : List AV} {L n s1 s2 : Nat} {z : List AV} (hE : L ≤ A.length) (hn : n ≤ L) (h1 : s1 = 0) (h2 : s2 = L - n) (hz : z.length = n) : L - n ≤ (over (over A s1 ((A.drop n).take (L - n))) s2 z).length ∧ ∀ j, j < L - n → (over (over A s1 ((A.drop n).take (L - n))) s2 z)[j]? = A[n + j]? := by
  subst h1; subst h2
  have hl : ((A.drop n).take (L - n)).length = L - n := by rw [List.length_take, List.length_drop]; omega
  have h1 : (over A 0 ((A.drop n).take (L - n))).length = A.length := over_length (by omega)
  refine ⟨by rw [over_length (by omega), h1]; omega, fun j hj => ?_⟩
  rw [over_get (by omega), if_pos hj, over_get (by omega), if_neg (by omega), if_pos (by omega), List.getElem?_take_of_lt (by omega), List.getElem?_drop, Nat.sub_zero]
theorem pre_len {A : List AV} {L n s1 : Nat} (hE : L ≤ A.length) (hn : n ≤ L) (h1 : s1 = 0) : (over A s1 ((A.drop n).take (L - n))).length = A.length := by
  subst h1
  exact over_length (by rw [List.length_take, List.length_drop]; omega)
theorem sl_len2 {q a b : Nat} (h : a = b) : AV.sl q 0 a 2 none = AV.sl q 0 b 2 none := by rw [h]

theorem c105z (L id n : Nat) (A : List AV) (H0 : Heap) (hid : H0[id]? = some ⟨A, 2, 0⟩) (hE : L ≤ A.length) (hL : L < 1000000) (hn : n ≤ L) (h0 : n = 0) : ∃ r H, Run Tryz.prog 105 [.sl id 0 L 2 none, .d (i 0), .d (i n)] H0 r H ∧ (r = .sl id 0 L 2 none ∧ H = H0) := by
  have hlid := lt_of_at hid
  refine run_walkQ eok Tryz.func105 rfl (by kernel_rfl) ?_
  conv => whnf
  repeat' (first
    | ((with_reducible refine on_dec_t ?_ ?_); (focus ((try simp only [List.length_map, List.length_cons, List.length_nil, List.length_append]); omega)); conv => whnf)
    | ((with_reducible refine on_dec (fun h => ?_) (fun h => ?_)) <;> (try simp only [List.length_map] at h) <;> conv => whnf)
    | (refine ⟨⟨by omega, by omega⟩, ?_⟩; conv => whnf)
    | ((with_reducible refine endq_go ?_); first | (exact endq ⟨rfl, rfl⟩; done))
    | fail
    )

theorem c105d (L id n : Nat) (A : List AV) (H0 : Heap) (hid : H0[id]? = some ⟨A, 2, 0⟩) (hE : L ≤ A.length) (hL : L < 1000000) (hn : n ≤ L) (h0 : 0 < n) (hk : ∀ j, j < L → ∃ e, A[j]? = some e ∧ e.known = true) : ∃ r H, Run Tryz.prog 105 [.sl id 0 L 2 none, .d (i 0), .d (i n)] H0 r H ∧ (r = .sl id 0 (L - n) 2 none ∧ ∃ F, H[id]? = some ⟨F, 2, 0⟩ ∧ L - n ≤ F.length ∧ (∀ j, j < L - n → F[j]? = A[n + j]?) ∧ H.length = H0.length ∧ ∀ i, i ≠ id → H[i]? = H0[i]?) := by
  have hlid := lt_of_at hid; have hdl : ((A.drop n).take (L - n)).length = L - n := (by rw [List.length_take, List.length_drop]; omega)
  refine run_walkQ eok Tryz.func105 rfl (by kernel_rfl) ?_
  conv => whnf
  repeat' (first
    | ((with_reducible refine on_dec_f ?_ ?_); (focus ((try simp only [List.length_map, List.length_cons, List.length_nil, List.length_append]); omega)); conv => whnf)
    | ((with_reducible refine on_dec_t ?_ ?_); (focus ((try simp only [List.length_map, List.length_cons, List.length_nil, List.length_append]); omega)); conv => whnf)
    | (refine ⟨[], [], (by decide +kernel), ?_⟩; conv => whnf)
    | (refine own_slr (L - n) L _ (by (repeat (first | assumption ))) Nat.two_pos (show ((0 - 0 + ((A.drop n).take (L - n)).length : Nat) : Int) = ((L - n : Nat) : Int) by rw [hdl]; omega) rfl ⟨by omega, (by have h9 := pre_len (s1 := 0 + 0 + (0 - 0)) hE hn (by omega); show 0 + 0 + L ≤ (over A (0 + 0 + (0 - 0)) ((A.drop n).take (L - n))).length; omega)⟩ ?_; conv => whnf)
    | (refine ⟨(by have h9 := pre_len (s1 := 0 + 0 + (0 - 0)) hE hn (by omega); show 0 + 0 + (L - n) + (L - (L - n)) ≤ (over A (0 + 0 + (0 - 0)) ((A.drop n).take (L - n))).length; omega), ?_⟩; conv => whnf)
    | (refine own_sl 0 0 rfl rfl ⟨by omega, by omega⟩ ?_; conv => whnf)
    | (refine own_sl n L rfl rfl ⟨by omega, by omega⟩ ?_; conv => whnf)
    | (refine srcB0 (by dsimp only; omega) (del_known hE hk) ?_; conv => whnf)
    | (refine setG (by first | omega ) (fun H hl hf ho => ?_); (try dsimp only at hl hf); conv => whnf)
    | (refine nthG (x := ?_) ?_ ?_; rotate_left; (focus ((repeat (first | assumption )); done)); conv => whnf)
    | (refine ⟨⟨by omega, by omega⟩, ?_⟩; conv => whnf)
    | ((with_reducible refine endq_go ?_); first | (have h8 := pre_at (s1 := 0 + 0 + (0 - 0)) (s2 := 0 + 0 + (L - n)) (z := List.replicate (L - (L - n)) (E (E 52).elem).zero) hE hn (by omega) (by omega) (by rw [List.length_replicate]; omega); refine endq ⟨sl_len2 (show 0 - 0 + ((A.drop n).take (L - n)).length = L - n by rw [hdl]; omega), _, (by (repeat (first | assumption ))), h8.1, h8.2, by omega, ?_⟩; intro i hi; (repeat (first | rfl | refine look_set (by assumption) (by omega) ?_)); done))
    | fail
    )

theorem rec_known {A : List AV} {l : List Rec} (ht : ∀ (j : Nat) (r : Rec), l[j]? = some r → ∃ a : AV, A[j]? = some a ∧ RecV a r) : ∀ j, j < l.length → ∃ e, A[j]? = some e ∧ e.known = true := by
  intro j hj
  obtain ⟨a, h1, h2⟩ := ht j _ (List.getElem?_eq_getElem hj)
  rcases h2 with rfl | rfl <;> exact ⟨_, h1, rfl⟩
theorem c105 (L id n : Nat) (A : List AV) (H0 : Heap) (hid : H0[id]? = some ⟨A, 2, 0⟩) (hE : L ≤ A.length) (hL : L < 1000000) (hn : n ≤ L) (hk : ∀ j, j < L → ∃ e, A[j]? = some e ∧ e.known = true) : ∃ r H, Run Tryz.prog 105 [.sl id 0 L 2 none, .d (i 0), .d (i n)] H0 r H ∧ (r = .sl id 0 (L - n) 2 none ∧ ∃ F, H[id]? = some ⟨F, 2, 0⟩ ∧ L - n ≤ F.length ∧ (∀ j, j < L - n → F[j]? = A[n + j]?) ∧ H.length = H0.length ∧ ∀ i, i ≠ id → H[i]? = H0[i]?) := by
  by_cases h0 : n = 0
  · obtain ⟨r, H, h1, h2, h3⟩ := c105z L id n A H0 hid hE hL hn h0
    subst h3; subst h2; subst h0
    exact ⟨_, _, h1, rfl, A, hid, hE, fun j _ => by rw [Nat.zero_add], rfl, fun _ _ => rfl⟩
  · exact c105d L id n A H0 hid hE hL hn (by omega) hk
theorem c102v {H : Heap} {id n k s : Nat} {l : List Rec} {K : KV} (hR : RecAt H id l) (hs : s = 0) (hk : k = n) (hn : n ≤ l.length) (hl : l.length < 1000000)
    (kk : ∀ (c : Nat) (H' : Heap), H.length = c → H'.length = c + 1 → (∀ i, i < c → H'[i]? = H[i]?) → H'[c]? = some ⟨((l.take n).map Rec.enc).map .d, 2, 0⟩ → K (.sl c 0 n 2 none) H') : ∃ r h', Run Tryz.prog 102 [.sl id s k 2 none] H r h' ∧ K r h' := by
  have hlen : ((l.take n).map Rec.enc).length = n := by rw [List.length_map, List.length_take]; omega
  have h := run_clone cl102 (view_recT (f := 5) (c := none) hR hs hk hn) (by rw [hlen]; omega) (fun y hy => by obtain ⟨x, _, rfl⟩ := List.mem_map.1 hy; exact ⟨rfl, rfl⟩) (fun y hy => by obtain ⟨x, _, rfl⟩ := List.mem_map.1 hy; rfl)
  rw [hlen] at h
  exact ⟨_, _, h, kk _ _ rfl (by simp) (fun i hi => List.getElem?_append_left hi) (by simp)⟩
theorem c102n {H : Heap} {K : KV} (kk : ∀ (c : Nat) (H' : Heap), H.length = c → H'.length = c + 1 → (∀ i, i < c → H'[i]? = H[i]?) → H'[c]? = some ⟨[], 2, 0⟩ → K (.sl c 0 0 2 none) H') : ∃ r h', Run Tryz.prog 102 [.nilS] H r h' ∧ K r h' := by
  have h := run_clone cl102 (H := H) (a := .nilS) (l := []) rfl (by decide) (fun y hy => by cases hy) (fun y hy => by cases hy)
  exact ⟨_, _, h, kk _ _ rfl (by simp) (fun i hi => List.getElem?_append_left hi) (by simp)⟩

theorem view_pair {H : Heap} {n k f : Nat} {a b : D} {c : Option Nat} (h : H[n]? = some ⟨[.d a, .d b], k, 0⟩) : view (f + 2) H (.sl n 0 2 k c) = some (.fs [a, b]) := by
  show (match H[n]? with
    | some o => if o.st < 2 then (if 0 + 2 ≤ o.elems.length then (vl (Dw.view (f + 1) H) ((o.elems.drop 0).take 2)).map D.fs else none) else none
    | none => none) = _
  simp only [h]
  rfl
theorem f54a (z : Int) : Fn 54 [.fs [i 6, i z]] (i 6) := by
  have h := c54 [6, z] (by simp)
  rwa [firstE_cons, if_neg (by decide)] at h
theorem f54b {most : Int} (hm : within most 0 400 = true) : Fn 54 [.fs [i 0, i (if within most 0 400 = true then 0 else 2)]] (i 0) := by
  have h := c54 [0, if within most 0 400 = true then 0 else 2] (by simp)
  have e : firstE [0, if within most 0 400 = true then 0 else 2] = 0 := by simp [firstE, hm]
  rw [e] at h; exact h
theorem f54c {most : Int} (hm : ¬ within most 0 400 = true) : Fn 54 [.fs [i 0, i (if within most 0 400 = true then 0 else 2)]] (i 2) := by
  have h := c54 [0, if within most 0 400 = true then 0 else 2] (by simp)
  have e : firstE [0, if within most 0 400 = true then 0 else 2] = 2 := by simp [firstE, hm]
  rw [e] at h; exact h

theorem c69f (b : Bd) (t most : Int) (hb : SB b) (hc : asc b.ws) (m p q : Nat) (Es : List AV) (H0 : Heap) (hp : H0[p]? = some ⟨[.agg [.sl q 0 b.ws.length 7 none, .d (i b.next)]], 2, 0⟩) (hq : H0[q]? = some ⟨Es, 7, 0⟩) (hE : b.ws.length ≤ Es.length) (hd : p ≠ q ∧ m ≤ p ∧ m ≤ q) (hO : Own m H0 [p, q] Es b.ws b.ws.length) (x : Int) (hn : Run Tryz.prog 104 [.ptr p 0 0, .d (i t)] H0 (.tup [.d (i x), .d (i 6)]) H0) : ∃ r H, Run Tryz.prog 69 [.ptr p 0 0, .d (i t), .d (i most)] H0 r H ∧ (r = .tup [.nilS, .d (i 6)] ∧ H0.length ≤ H.length ∧ ∀ i, i < H0.length → H[i]? = H0[i]?) := by
  have hlp := lt_of_at hp; have hlq := lt_of_at hq; have hbn := hb.n; 
  refine run_walkQ eok Tryz.func69 rfl (by kernel_rfl) ?_
  conv => whnf
  repeat' (first
    | ((with_reducible refine call_go ?_); (first | refine call_step (hn) ?_ | refine call_step (run_view (c56 _ _ _) rfl rfl) ?_ | refine call_step (run_view (c55 _ _) rfl rfl) ?_ | refine call_step (run_view (f54a _) rfl (vlc (view_pair (by (repeat (first | assumption )))) vln)) ?_ ); conv => whnf)
    | (refine newG (fun n H hn hl hf ho => ?_); conv => whnf)
    | ((with_reducible refine endq_go ?_); first | (exact endq ⟨rfl, by omega, by (intro i hi; (repeat (first | rfl | refine look_new (by assumption) (by omega) ?_ )))⟩; done))
    | fail
    )

theorem c69r (b : Bd) (t most : Int) (hb : SB b) (hc : asc b.ws) (m p q : Nat) (Es : List AV) (H0 : Heap) (hp : H0[p]? = some ⟨[.agg [.sl q 0 b.ws.length 7 none, .d (i b.next)]], 2, 0⟩) (hq : H0[q]? = some ⟨Es, 7, 0⟩) (hE : b.ws.length ≤ Es.length) (hd : p ≠ q ∧ m ≤ p ∧ m ≤ q) (hO : Own m H0 [p, q] Es b.ws b.ws.length) (a : Nat) (ha : ixB t b.ws 0 = a) (hm : ¬ within most 0 400 = true) : ∃ r H, Run Tryz.prog 69 [.ptr p 0 0, .d (i t), .d (i most)] H0 r H ∧ (r = .tup [.nilS, .d (i 2)] ∧ H0.length ≤ H.length ∧ ∀ i, i < H0.length → H[i]? = H0[i]?) := by
  have hlp := lt_of_at hp; have hlq := lt_of_at hq; have hbn := hb.n; 
  refine run_walkQ eok Tryz.func69 rfl (by kernel_rfl) ?_
  conv => whnf
  repeat' (first
    | ((with_reducible refine call_go ?_); (first | refine call_step (c104o b t a hb hc ha m p _ ⟨q, Es, hp, hq, hE, hd, hO⟩) ?_ | refine call_step (run_view (c56 _ _ _) rfl rfl) ?_ | refine call_step (run_view (c55 _ _) rfl rfl) ?_ | refine call_step (run_view (f54c hm) rfl (vlc (view_pair (by (repeat (first | assumption )))) vln)) ?_ ); conv => whnf)
    | (refine newG (fun n H hn hl hf ho => ?_); conv => whnf)
    | ((with_reducible refine endq_go ?_); first | (exact endq ⟨rfl, by omega, by (intro i hi; (repeat (first | rfl | refine look_new (by assumption) (by omega) ?_ )))⟩; done))
    | fail
    )

theorem c69l (b : Bd) (t most : Int) (hb : SB b) (hc : asc b.ws) (m p q : Nat) (Es : List AV) (H0 : Heap) (hp : H0[p]? = some ⟨[.agg [.sl q 0 b.ws.length 7 none, .d (i b.next)]], 2, 0⟩) (hq : H0[q]? = some ⟨Es, 7, 0⟩) (hE : b.ws.length ≤ Es.length) (hd : p ≠ q ∧ m ≤ p ∧ m ≤ q) (hO : Own m H0 [p, q] Es b.ws b.ws.length) (a : Nat) (ha : ixB t b.ws 0 = a) (hm : within most 0 400 = true) (hla : a < b.ws.length) (x : BW) (cr : AV) (hEa : Es[a]? = some (.agg [.d (i x.id), .d (.str x.w.path), .d (.bool x.w.deep), .d (i x.w.filter), .d (i x.w.room), cr, .d (.bool x.lost)])) (hlo : x.lost = true) : ∃ r H, Run Tryz.prog 69 [.ptr p 0 0, .d (i t), .d (i most)] H0 r H ∧ (r = .tup [.nilS, .d (i 16)] ∧ H0.length ≤ H.length ∧ ∃ Fs, H[q]? = some ⟨Fs, 7, 0⟩ ∧ Fs.length = Es.length ∧ (∀ i, i ≠ a → Fs[i]? = Es[i]?) ∧ Fs[a]? = some (.agg [.d (i x.id), .d (.str x.w.path), .d (.bool x.w.deep), .d (i x.w.filter), .d (i x.w.room), cr, .d (.bool false)]) ∧ ∀ i, i ≠ q → i < H0.length → H[i]? = H0[i]?) := by
  have hlp := lt_of_at hp; have hlq := lt_of_at hq; have hbn := hb.n; have hla2 := lt_of_at hEa
  refine run_walkQ eok Tryz.func69 rfl (by kernel_rfl) ?_
  conv => whnf
  repeat' (first
    | ((with_reducible refine onBool_t (by assumption) ?_); conv => whnf)
    | ((with_reducible refine call_go ?_); (first | refine call_step (c104o b t a hb hc ha m p _ ⟨q, Es, hp, hq, hE, hd, hO⟩) ?_ | refine call_step (run_view (c56 _ _ _) rfl rfl) ?_ | refine call_step (run_view (c55 _ _) rfl rfl) ?_ | refine call_step (run_view (f54b hm) rfl (vlc (view_pair (by (repeat (first | assumption )))) vln)) ?_ ); conv => whnf)
    | (refine newG (fun n H hn hl hf ho => ?_); conv => whnf)
    | (refine setGk (by first | omega ) (fun H hl hf ho => ?_); (try dsimp only at hl hf); conv => whnf)
    | (refine setG (by first | omega ) (fun H hl hf ho => ?_); (try dsimp only at hl hf); conv => whnf)
    | (refine nthGk (x := ?_) ?_ ?_; rotate_left; (focus ((repeat (first | assumption )); done)); conv => whnf)
    | (refine nthG (x := ?_) ?_ ?_; rotate_left; (focus ((repeat (first | assumption | refine look_new (by assumption) (by omega) ?_ )); done)); conv => whnf)
    | (refine ⟨⟨by omega, by omega⟩, ?_⟩; conv => whnf)
    | ((with_reducible refine endq_go ?_); first | (refine endq ⟨rfl, by omega, ?_, ?_, ?_, ?_, ?_, ?_⟩; rotate_left; (focus ((repeat (first | assumption )); done)); (focus (dsimp only at *; omega)); (focus (intro i hi; (repeat (first | rfl | refine look_set (by assumption) (by omega) ?_)))); (focus ((repeat (first | assumption )); done)); (focus (intro i hi hlt; (repeat (first | rfl | refine look_new (by assumption) (by omega) ?_ | refine look_set (by assumption) (by omega) ?_)))); done))
    | fail
    )

theorem c105n (H0 : Heap) : ∃ r H, Run Tryz.prog 105 [.nilS, .d (i 0), .d (i 0)] H0 r H ∧ (r = .nilS ∧ H = H0) := by
  refine run_walkQ eok Tryz.func105 rfl (by kernel_rfl) ?_
  conv => whnf
  repeat' (first
    | (refine ⟨⟨by omega, by omega⟩, ?_⟩; conv => whnf)
    | ((with_reducible refine endq_go ?_); first | (exact endq ⟨rfl, rfl⟩; done))
    | fail
    )

theorem c69n (b : Bd) (t most : Int) (hb : SB b) (hc : asc b.ws) (m p q : Nat) (Es : List AV) (H0 : Heap) (hp : H0[p]? = some ⟨[.agg [.sl q 0 b.ws.length 7 none, .d (i b.next)]], 2, 0⟩) (hq : H0[q]? = some ⟨Es, 7, 0⟩) (hE : b.ws.length ≤ Es.length) (hd : p ≠ q ∧ m ≤ p ∧ m ≤ q) (hO : Own m H0 [p, q] Es b.ws b.ws.length) (a : Nat) (ha : ixB t b.ws 0 = a) (hm : within most 0 400 = true) (hla : a < b.ws.length) (x : BW) (hEa : Es[a]? = some (.agg [.d (i x.id), .d (.str x.w.path), .d (.bool x.w.deep), .d (i x.w.filter), .d (i x.w.room), .nilS, .d (.bool x.lost)])) (hlo : x.lost = false) (hx0 : x.recs = []) : ∃ r H, Run Tryz.prog 69 [.ptr p 0 0, .d (i t), .d (i most)] H0 r H ∧ (∃ c, r = .tup [.sl c 0 (readN x.recs most) 2 none, .d (i 0)] ∧ H[c]? = some ⟨((x.recs.take (readN x.recs most)).map Rec.enc).map .d, 2, 0⟩ ∧ H0.length ≤ c ∧ ∃ Fs, H[q]? = some ⟨Fs, 7, 0⟩ ∧ Fs.length = Es.length ∧ (∀ i, i ≠ a → Fs[i]? = Es[i]?) ∧ Fs[a]? = some (.agg [.d (i x.id), .d (.str x.w.path), .d (.bool x.w.deep), .d (i x.w.filter), .d (i x.w.room), .nilS, .d (.bool x.lost)]) ∧ ∀ i, i ≠ q → i < H0.length → H[i]? = H0[i]?) := by
  have hlp := lt_of_at hp; have hlq := lt_of_at hq; have hbn := hb.n; have hla2 := lt_of_at hEa
  refine run_walkQ eok Tryz.func69 rfl (by kernel_rfl) ?_
  conv => whnf
  repeat' (first
    | ((with_reducible refine onBool_f (by assumption) ?_); conv => whnf)
    | (refine call_stepQ (c105n _) (fun r H hQ => ?_); obtain ⟨rfl, rfl⟩ := hQ; conv => whnf)
    | ((with_reducible refine call_go ?_); (first | refine call_step (c104o b t a hb hc ha m p _ ⟨q, Es, hp, hq, hE, hd, hO⟩) ?_ | refine call_step (run_view (c56 _ _ _) rfl rfl) ?_ | refine call_step (run_view (c55 _ _) rfl rfl) ?_ | refine call_step (run_view (f54b hm) rfl (vlc (view_pair (by (repeat (first | assumption )))) vln)) ?_ ); conv => whnf)
    | ((with_reducible refine loop_go ?_); first | (apply loopG1 (fun (k : Nat) (H : Heap) => x.recs.length - k) (fun (k : Nat) (H : Heap) => k ≤ x.recs.length ∧ readN x.recs most = rnGo x.recs most (x.recs.length - k) k ∧ H0.length ≤ H.length ∧ ∀ i, i < H0.length → H[i]? = H0[i]?) (fun (k : Nat) (H : Heap) => [(2, .d (i most)), (10, .ptr q a 0), (11, .d (i k))]) (0); rotate_left; (focus (exact .inl ⟨rfl, ⟨(by first | rfl ), congrArg (fun z => AV.ptr q z 0) (by omega), (by first | rfl ), trivial⟩⟩)); rotate_left; (focus (exact ⟨Nat.zero_le _, rfl, by omega, by (intro i hi; (repeat (first | rfl | refine look_new (by assumption) (by omega) ?_ )))⟩)); intro k H C hI hC; obtain ⟨hk, hkn, hlen, hfr⟩ := hI; have hq1 := (hfr q hlq).trans hq; have hlq1 := lt_of_at hq1; (obtain rfl : k = 0 := (by rw [hx0] at hk; simpa using hk)); all_goals (conv => whnf)))
    | (refine c102n (fun c H hn hl hf ho => ?_); conv => whnf)
    | (refine newG (fun n H hn hl hf ho => ?_); conv => whnf)
    | (refine setG (by first | omega ) (fun H hl hf ho => ?_); (try dsimp only at hl hf); conv => whnf)
    | (refine nthGk (x := ?_) ?_ ?_; rotate_left; (focus ((repeat (first | assumption )); done)); conv => whnf)
    | (refine nthG (x := ?_) ?_ ?_; rotate_left; (focus ((repeat (first | assumption | refine look_new (by assumption) (by omega) ?_ )); done)); conv => whnf)
    | (refine ⟨⟨by omega, by omega⟩, ?_⟩; conv => whnf)
    | ((with_reducible refine endq_go ?_); first | (rw [show readN x.recs most = 0 by rw [hkn, rn_e (by rw [hx0]; exact Nat.le_refl _)]]; refine endq ⟨_, rfl, ?_, by omega, ?_, ?_, ?_, ?_, ?_, ?_⟩; rotate_left; rotate_left; (focus ((repeat (first | assumption )); done)); (focus (dsimp only at *; omega)); (focus (intro i hi; (repeat (first | rfl | refine look_set (by assumption) (by omega) ?_)))); (focus ((repeat (first | assumption )); done)); (focus (intro i hi hlt; (repeat (first | rfl | refine look_new (by assumption) (by omega) ?_ | refine look_set (by assumption) (by omega) ?_)))); (focus (rw [hx0]; (repeat (first | assumption | refine look_set (by assumption) (by omega) ?_)))); done))
    | fail
    )

theorem c69s (b : Bd) (t most : Int) (hb : SB b) (hc : asc b.ws) (m p q : Nat) (Es : List AV) (H0 : Heap) (hp : H0[p]? = some ⟨[.agg [.sl q 0 b.ws.length 7 none, .d (i b.next)]], 2, 0⟩) (hq : H0[q]? = some ⟨Es, 7, 0⟩) (hE : b.ws.length ≤ Es.length) (hd : p ≠ q ∧ m ≤ p ∧ m ≤ q) (hO : Own m H0 [p, q] Es b.ws b.ws.length) (a : Nat) (ha : ixB t b.ws 0 = a) (hm : within most 0 400 = true) (hla : a < b.ws.length) (x : BW) (id : Nat) (A : List AV) (hEa : Es[a]? = some (.agg [.d (i x.id), .d (.str x.w.path), .d (.bool x.w.deep), .d (i x.w.filter), .d (i x.w.room), .sl id 0 x.recs.length 2 none, .d (.bool x.lost)])) (hlo : x.lost = false) (hs : small x.recs) (hid : H0[id]? = some ⟨A, 2, 0⟩) (hlA : x.recs.length ≤ A.length) (htA : ∀ (j : Nat) (r : Rec), x.recs[j]? = some r → ∃ a : AV, A[j]? = some a ∧ RecV a r) (hne : id ≠ q ∧ id ≠ p) : ∃ r H, Run Tryz.prog 69 [.ptr p 0 0, .d (i t), .d (i most)] H0 r H ∧ (∃ c, r = .tup [.sl c 0 (readN x.recs most) 2 none, .d (i 0)] ∧ H[c]? = some ⟨((x.recs.take (readN x.recs most)).map Rec.enc).map .d, 2, 0⟩ ∧ H0.length ≤ c ∧ ∃ Fs, H[q]? = some ⟨Fs, 7, 0⟩ ∧ Fs.length = Es.length ∧ (∀ i, i ≠ a → Fs[i]? = Es[i]?) ∧ Fs[a]? = some (.agg [.d (i x.id), .d (.str x.w.path), .d (.bool x.w.deep), .d (i x.w.filter), .d (i x.w.room), .sl id 0 (x.recs.length - readN x.recs most) 2 none, .d (.bool x.lost)]) ∧ (∀ i, i ≠ q → i ≠ id → i < H0.length → H[i]? = H0[i]?) ∧ ∃ F, H[id]? = some ⟨F, 2, 0⟩ ∧ x.recs.length - readN x.recs most ≤ F.length ∧ ∀ j, j < x.recs.length - readN x.recs most → F[j]? = A[readN x.recs most + j]?) := by
  have hlp := lt_of_at hp; have hlq := lt_of_at hq; have hbn := hb.n; have hla2 := lt_of_at hEa; have hlid := lt_of_at hid; have hs1 := hs.1
  refine run_walkQ eok Tryz.func69 rfl (by kernel_rfl) ?_
  conv => whnf
  repeat' (first
    | ((with_reducible refine onBool_f (by assumption) ?_); conv => whnf)
    | ((with_reducible refine on_dec (fun h => ?_) (fun h => ?_)) <;> (try simp only [List.length_map] at h) <;> conv => whnf)
    | (refine c102v (n := k) hR (by omega) (by omega) hk (by omega) (fun c H hn hl hf ho => ?_); conv => whnf)
    | (refine call_stepQ (c105 x.recs.length id k A _ (by (repeat (first | assumption | refine look_new (by assumption) (by omega) ?_ ))) hlA (by omega) hk (rec_known htA)) (fun r H hQ => ?_); obtain ⟨rfl, F, hF, hFl, hFa, hHl, hHf⟩ := hQ; have hlF := lt_of_at hF; conv => whnf)
    | ((with_reducible refine call_go ?_); (first | refine call_step (c104o b t a hb hc ha m p _ ⟨q, Es, hp, hq, hE, hd, hO⟩) ?_ | refine call_step (run_view (c56 _ _ _) rfl rfl) ?_ | refine call_step (run_view (c55 _ _) rfl rfl) ?_ | refine call_step (run_view (f54b hm) rfl (vlc (view_pair (by (repeat (first | assumption )))) vln)) ?_ | refine call_step (run_view (c77 (x.recs.take (k + 1)) (small_take hs)) rfl (vlc (view_recT hR (by omega) (by omega) (by omega)) vln)) ?_); conv => whnf)
    | ((with_reducible refine loop_go ?_); first | (apply loopG1 (fun (k : Nat) (H : Heap) => x.recs.length - k) (fun (k : Nat) (H : Heap) => k ≤ x.recs.length ∧ readN x.recs most = rnGo x.recs most (x.recs.length - k) k ∧ H0.length ≤ H.length ∧ ∀ i, i < H0.length → H[i]? = H0[i]?) (fun (k : Nat) (H : Heap) => [(2, .d (i most)), (10, .ptr q a 0), (11, .d (i k))]) (0); rotate_left; (focus (exact .inl ⟨rfl, ⟨(by first | rfl ), congrArg (fun z => AV.ptr q z 0) (by omega), (by first | rfl ), trivial⟩⟩)); rotate_left; (focus (exact ⟨Nat.zero_le _, rfl, by omega, by (intro i hi; (repeat (first | rfl | refine look_new (by assumption) (by omega) ?_ )))⟩)); intro k H C hI hC; obtain ⟨hk, hkn, hlen, hfr⟩ := hI; have hq1 := (hfr q hlq).trans hq; have hlq1 := lt_of_at hq1; have hid1 := (hfr id hlid).trans hid; have hlid1 := lt_of_at hid1; have hR : RecAt H id x.recs := ⟨A, hid1, hlA, htA⟩; all_goals (conv => whnf)))
    | ((with_reducible show C _ _); first | (refine hC (k + 1) _ _ ?_ (by omega) ?_; clear hC; rotate_left; (exact ⟨(by first | rfl ), congrArg (fun z => AV.ptr q z 0) (by omega), (by first | rfl ), trivial⟩); exact ⟨by omega, by rw [hkn, rn_t (by omega) (by omega)], by omega, by (intro i hi; (repeat (first | rfl | refine look_new (by assumption) (by omega) ?_ )))⟩))
    | (refine wrap64 (by omega) ?_; conv => whnf)
    | (refine own_sl 0 (k + 1) rfl (by omega) ⟨by omega, by omega⟩ ?_; conv => whnf)
    | (refine own_sl 0 k rfl rfl ⟨by omega, by omega⟩ ?_; conv => whnf)
    | (refine newG (fun n H hn hl hf ho => ?_); conv => whnf)
    | (refine setG (by first | omega ) (fun H hl hf ho => ?_); (try dsimp only at hl hf); conv => whnf)
    | (refine nthGk (x := ?_) ?_ ?_; rotate_left; (focus ((repeat (first | assumption )); done)); conv => whnf)
    | (refine nthG (x := ?_) ?_ ?_; rotate_left; (focus ((repeat (first | assumption | refine look_new (by assumption) (by omega) ?_ | refine look_set (by assumption) (by omega) ?_)); done)); conv => whnf)
    | (refine ⟨⟨by omega, by omega⟩, ?_⟩; conv => whnf)
    | ((with_reducible refine endq_go ?_); first | (rw [show readN x.recs most = k by rw [hkn, rn_f (by omega)]]; refine endq ⟨_, rfl, ?_, by omega, ?_, ?_, ?_, ?_, ?_, ?_, F, ?_, hFl, hFa⟩; rotate_left; rotate_left; (focus ((repeat (first | assumption )); done)); (focus (dsimp only at *; omega)); (focus (intro i hi; (repeat (first | rfl | refine look_set (by assumption) (by omega) ?_)))); (focus ((repeat (first | assumption )); done)); (focus (intro i hi hi2 hlt; (repeat (first | rfl | refine look_new (by assumption) (by omega) ?_ | refine look_set (by assumption) (by omega) ?_)))); (focus ((repeat (first | assumption | refine look_set (by assumption) (by omega) ?_)); done)); (focus ((repeat (first | assumption | refine look_set (by assumption) (by omega) ?_)); done)); done))
    | fail
    )

end Go.Proofs.YtbkmjpmgiaiacaaGreatDoor

/-! Vg -/
namespace Go.Proofs.YtbkmjpmgiaiacaaGreatDoor
open Go Dw
set_option maxRecDepth 10000
set_option linter.unusedVariables false
set_option linter.unusedSimpArgs false
attribute [local irreducible] Run
set_option maxHeartbeats 4000000

open Paths
attribute [local irreducible] newD Own checkB addErr roomy bsR ixB dropB addB sz roomOf
/-- A watch after a reading. -/
def readW (x : BW) (room : Int) : BW := if x.lost = true then ⟨x.id, x.w, x.recs, false⟩ else ⟨x.id, x.w, x.recs.drop (readN x.recs room), x.lost⟩
def readL (x : BW) (room : Int) : List Rec := if x.lost = true then [] else x.recs.take (readN x.recs room)
def readC (x : BW) : Int := if x.lost = true then 16 else 0
def readB (b : Bd) (a : Nat) (room : Int) : Bd := match b.ws[a]? with
  | some x => ⟨b.ws.set a (readW x room), b.next⟩
  | none => b
theorem readB_ws {b : Bd} {a : Nat} {x : BW} {room : Int} (hx : b.ws[a]? = some x) : readB b a room = ⟨b.ws.set a (readW x room), b.next⟩ := by unfold readB; rw [hx]
theorem flat_recs (H : Heap) (n : Nat) : ∀ l : List Rec, ((l.map Rec.enc).map AV.d).flatMap (reach n H) = []
  | [] => rfl
  | x :: l => by
    rw [List.map_cons, List.map_cons, List.flatMap_cons, flat_recs H n l]
    cases n <;> rfl
theorem reach_recs {H : Heap} {n c k : Nat} {l : List Rec} (h : H[c]? = some ⟨(l.map Rec.enc).map .d, 2, 0⟩) : reach (n + 1) H (.sl c 0 k 2 none) = [c] := by
  show c :: (match H[c]? with | some o => o.elems.flatMap (Dw.reach n H) | none => []) = [c]
  rw [h]
  simp only [flat_recs]
end Go.Proofs.YtbkmjpmgiaiacaaGreatDoor

/-! Vh -/
namespace Go.Proofs.YtbkmjpmgiaiacaaGreatDoor
open Go Dw
set_option maxRecDepth 10000
set_option linter.unusedVariables false
set_option linter.unusedSimpArgs false
attribute [local irreducible] Run
set_option maxHeartbeats 4000000

open Paths
attribute [local irreducible] newD Own checkB addErr roomy bsR ixB dropB addB sz roomOf readB readL readC readN
theorem BH.keep {m : Nat} {H H' : Heap} {p : Nat} {b : Bd} (h : BH m H p b) (hf : ∀ i, i < H.length → H'[i]? = H[i]?) : BH m H' p b := by
  obtain ⟨q, Es, hp, hq, hE, hd, hO⟩ := h
  exact ⟨q, Es, by rw [hf p (lt_of_at hp)]; exact hp, by rw [hf q (lt_of_at hq)]; exact hq, hE, hd, hO.frame (fun i hi => .inl hi) fun i _ _ hl => hf i hl⟩
def findE (b : Bd) (t most : Int) : Int := if ixB t b.ws 0 < 0 then 6 else (if within most 0 400 = true then 0 else 2)
def readE (b : Bd) (t most : Int) : Int := if (checkB b).2 = 0 then findE b t most else (checkB b).2
attribute [local irreducible] findE

theorem findE_0 {b : Bd} {t most : Int} (h : findE b t most = 0) : ¬ ixB t b.ws 0 < 0 ∧ within most 0 400 = true := by
  unfold findE at h
  by_cases h1 : ixB t b.ws 0 < 0
  · rw [if_pos h1] at h; cases h
  · rw [if_neg h1] at h
    by_cases h2 : within most 0 400 = true
    · exact ⟨h1, h2⟩
    · rw [if_neg h2] at h; cases h
theorem ix_at {b : Bd} {t : Int} (hc : asc b.ws) (h : ¬ ixB t b.ws 0 < 0) : ∃ (a : Nat) (x : BW), ixB t b.ws 0 = a ∧ b.ws[a]? = some x := by
  obtain ⟨_, f2⟩ := find_ok (t := t) hc
  obtain ⟨_, f3⟩ := f2 (by omega)
  refine ⟨(ixB t b.ws 0).toNat, b.ws[(ixB t b.ws 0).toNat]'(by omega), by omega, List.getElem?_eq_getElem _⟩
theorem readE_n {b : Bd} {t most : Int} (h : ¬ (checkB b).2 = 0) : readE b t most = (checkB b).2 := by unfold readE; rw [if_neg h]
theorem readE_m {b : Bd} {t most : Int} (h : (checkB b).2 = 0) (h2 : ixB t b.ws 0 < 0) : readE b t most = 6 := by unfold readE findE; rw [if_pos h, if_pos h2]
theorem readE_r {b : Bd} {t most : Int} (h : (checkB b).2 = 0) (h2 : ¬ ixB t b.ws 0 < 0) (h3 : within most 0 400 = false) : readE b t most = 2 := by unfold readE findE; rw [if_pos h, if_neg h2, h3]; rfl
theorem readE_o {b : Bd} {t most : Int} (h : (checkB b).2 = 0) (h2 : ¬ ixB t b.ws 0 < 0) (h3 : within most 0 400 = true) : readE b t most = 0 := by unfold readE findE; rw [if_pos h, if_neg h2, if_pos h3]

end Go.Proofs.YtbkmjpmgiaiacaaGreatDoor

/-! Vi -/
namespace Go.Proofs.YtbkmjpmgiaiacaaGreatDoor
open Go Dw
set_option maxRecDepth 10000
set_option linter.unusedVariables false
set_option linter.unusedSimpArgs false
attribute [local irreducible] Run
set_option maxHeartbeats 4000000

open Paths
attribute [local irreducible] Own checkB addErr roomy bsR ixB dropB addB sz roomOf readB readL readC readN findE readE

theorem c27 (b : Bd) (t most : Int) (hb : SB b) : Fn 27 [b.enc, i t, i most] (i (readE b t most)) := by
  refine run_walkF eok Tryz.func27 rfl (by kernel_rfl) ?_
  conv => whnf
  repeat' (first
    | ((with_reducible refine on_dec (fun h => ?_) (fun h => ?_)) <;> (try simp only [List.length_map] at h) <;> conv => whnf)
    | ((with_reducible refine on_ndec (fun h => ?_) (fun h => ?_)) <;> (try simp only [List.length_map] at h) <;> conv => whnf)
    | ((with_reducible refine on_not (fun h => ?_) (fun h => ?_)) <;> conv => whnf)
    | ((with_reducible refine call_go ?_); (first | refine call_step (run_view (c25 b hb) rfl rfl) ?_ | refine call_step (run_view (c70 b t hb.n) rfl rfl) ?_ | refine call_step (run_view (c58 most 0 400) rfl rfl) ?_); conv => whnf)
    | ((with_reducible refine endx_go ?_); first | (refine endx (congrArg i ?_); first | exact (readE_n (by assumption)).symm | exact (readE_m (by assumption) (by assumption)).symm | exact (readE_r (by assumption) (by assumption) (by assumption)).symm | exact (readE_o (by assumption) (by assumption) (by assumption)).symm; done))
    | fail
    )


attribute [local irreducible] newD
/-- A slice of records that does not lie at q. -/
def RecS (m : Nat) (H : Heap) (q : Nat) (cr : AV) (l : List Rec) : Prop := (l = [] ∧ cr = .nilS) ∨ ∃ id A, cr = .sl id 0 l.length 2 none ∧ H[id]? = some ⟨A, 2, 0⟩ ∧ l.length ≤ A.length ∧ (∀ (j : Nat) (r : Rec), l[j]? = some r → ∃ a : AV, A[j]? = some a ∧ RecV a r) ∧ (id ≠ q ∧ m ≤ id)
theorem RecS.frame {m : Nat} {H H' : Heap} {q : Nat} {cr : AV} {l : List Rec} (h : RecS m H q cr l) (hf : ∀ i, i ≠ q → m ≤ i → i < H.length → H'[i]? = H[i]?) : RecS m H' q cr l := by
  rcases h with h | ⟨id, A, h1, h2, h3, h4, h5⟩
  · exact .inl h
  · exact .inr ⟨id, A, h1, by rw [hf id h5.1 h5.2 (lt_of_at h2)]; exact h2, h3, h4, h5⟩
theorem OwnAt.toS {m : Nat} {H : Heap} {q : Nat} {e : Option AV} {x : BW} {o : Option Nat} (h : OwnAt m H [q] e x o) : ∃ cr, e = some (.agg [.d (i x.id), .d (.str x.w.path), .d (.bool x.w.deep), .d (i x.w.filter), .d (i x.w.room), cr, .d (.bool x.lost)]) ∧ RecS m H q cr x.recs := by
  rcases h.split with ⟨_, h1, h2⟩ | ⟨id, A, _, h2, h3, h4, h5, h6, h7⟩
  · exact ⟨.nilS, h2, .inl ⟨h1, rfl⟩⟩
  · exact ⟨_, h2, .inr ⟨id, A, rfl, h3, h4, h5, ⟨fun e => h6 (by simp [e]), h7⟩⟩⟩
theorem RecS.view {m : Nat} {H : Heap} {q n : Nat} {cr : AV} {l : List Rec} (h : RecS m H q cr l) : view (n + 3) H cr = some (.fs (l.map Rec.enc)) := by
  rcases h with ⟨rfl, rfl⟩ | ⟨id, A, rfl, h2, h3, h4, _⟩
  · rfl
  · exact view_rec ⟨A, h2, h3, h4⟩
theorem view_recD {H : Heap} {id n k s f : Nat} {l : List Rec} {c : Option Nat} (h : RecAt H id l) (hs : s = n) (hk : k = l.length - n) (hn : n ≤ l.length) : view (f + 3) H (.sl id s k 2 c) = some (.fs ((l.drop n).map Rec.enc)) := by
  subst hs; subst hk
  obtain ⟨A, h1, h2, h3⟩ := h
  show (match H[id]? with
    | some o => if o.st < 2 then (if s + (l.length - s) ≤ o.elems.length then (vl (Dw.view (f + 2) H) ((o.elems.drop s).take (l.length - s))).map D.fs else none) else none
    | none => none) = _
  simp only [h1]
  rw [if_pos (by decide), if_pos (by omega), vl_of (r := (l.drop s).map Rec.enc) (by rw [List.length_take, List.length_drop, List.length_map, List.length_drop]; omega) (fun j a x ha hx => ?_)]
  · rfl
  · rw [List.getElem?_map] at hx
    obtain ⟨r, hr, rfl⟩ := Option.map_eq_some_iff.1 hx
    have hj := lt_of_at hr
    rw [List.length_drop] at hj
    rw [List.getElem?_drop] at hr
    obtain ⟨b, hb, hv⟩ := h3 _ r hr
    rw [List.getElem?_take_of_lt (by omega), List.getElem?_drop, hb] at ha
    cases ha
    rcases hv with rfl | rfl
    · rfl
    · exact view_agg (vlc rfl (vlc rfl vln))
theorem rec_pre {H : Heap} {t k : Nat} {A : List AV} {l : List Rec} (h : H[t]? = some ⟨(A.drop 0).take k, 2, 0⟩) (hA : l.length ≤ A.length) (ht : ∀ (j : Nat) (r : Rec), l[j]? = some r → ∃ a : AV, A[j]? = some a ∧ RecV a r) (hk : k ≤ l.length) : RecAt H t (l.take k) := by
  refine ⟨_, h, by simp only [List.length_take, List.drop_zero]; omega, fun j r hr => ?_⟩
  have hj := lt_of_at hr
  rw [List.length_take] at hj
  rw [List.getElem?_take_of_lt (by omega)] at hr
  obtain ⟨a, h1, h2⟩ := ht j r hr
  exact ⟨a, by rw [List.drop_zero, List.getElem?_take_of_lt (by omega)]; exact h1, h2⟩
/-- One watch of a row was changed. -/
theorem view_set {m q a n f : Nat} {Hc H : Heap} {Es Fs : List AV} {ws : List BW} {e : AV} {x : BW} (hO : Own m Hc [q] Es ws n) (hn : n = ws.length) (hq : H[q]? = some ⟨Fs, 7, 0⟩) (hF : n ≤ Fs.length) (hne : ∀ i, i ≠ a → Fs[i]? = Es[i]?) (hf : ∀ i, i ≠ q → m ≤ i → i < Hc.length → H[i]? = Hc[i]?)
    (ha : Fs[a]? = some e) (hv : view (f + 4) H e = some x.enc) : view (f + 5) H (.sl q 0 n 7 none) = some (.fs ((ws.set a x).map BW.enc)) := by
  subst hn
  show (match H[q]? with
    | some o => if o.st < 2 then (if 0 + ws.length ≤ o.elems.length then (vl (Dw.view (f + 4) H) ((o.elems.drop 0).take ws.length)).map D.fs else none) else none
    | none => none) = _
  simp only [hq]
  rw [if_pos (by decide), if_pos (by omega), List.drop_zero]
  rw [vl_of (r := (ws.set a x).map BW.enc) (by rw [List.length_take, List.length_map, List.length_set]; omega) (fun j b y hb hy => ?_)]
  · rfl
  · rw [List.getElem?_map] at hy
    obtain ⟨z, hz, rfl⟩ := Option.map_eq_some_iff.1 hy
    have hj := lt_of_at hz
    rw [List.length_set] at hj
    rw [List.getElem?_take_of_lt hj] at hb
    by_cases e1 : j = a
    · subst e1
      rw [List.getElem?_set_self hj] at hz; cases hz
      rw [ha] at hb; cases hb
      exact hv
    · rw [List.getElem?_set_ne (fun e => e1 e.symm)] at hz
      rw [hne j e1] at hb
      unfold Own at hO
      obtain ⟨ids, h1, _⟩ := hO
      have h2 := h1 j z hj hz
      rw [hb] at h2
      exact view_bw (h2.frame (B' := [q]) (H' := H) (fun i hi => .inl hi) fun i hi hm hl => hf i (fun e => hi (by simp [e])) hm hl)
theorem readN_0 (l : List Rec) (room : Int) : readN l room = rnGo l room (l.length - 0) 0 := by unfold readN; rfl
theorem pre_known {A : List AV} {l : List Rec} {k : Nat} (ht : ∀ (j : Nat) (r : Rec), l[j]? = some r → ∃ a : AV, A[j]? = some a ∧ RecV a r) (hA : l.length ≤ A.length) (hk : k ≤ l.length) : ((A.drop 0).take k).all AV.known = true := by
  have := del_known (Es := A) (n := k) (a := 0) (by omega) (fun j hj => rec_known ht j (by omega))
  simpa using this
theorem pre_len2 {A : List AV} {L k : Nat} (hA : L ≤ A.length) (hk : k ≤ L) : ((A.drop 0).take k).length = k := by rw [List.drop_zero, List.length_take]; omega
theorem view_pre {H : Heap} {t k : Nat} {A : List AV} {l : List Rec} (h : H[t]? = some ⟨(A.drop 0).take k, 2, 0⟩) (hA : l.length ≤ A.length) (ht : ∀ (j : Nat) (r : Rec), l[j]? = some r → ∃ a : AV, A[j]? = some a ∧ RecV a r) (hk : k ≤ l.length) (f : Nat) : view (f + 3) H (.sl t 0 ((A.drop 0).take k).length 2 none) = some (.fs ((l.take k).map Rec.enc)) := by
  rw [pre_len2 hA hk]
  have := view_rec (n := f) (c := none) (rec_pre h hA ht hk)
  rwa [List.length_take, Nat.min_eq_left hk] at this
theorem view_empty {H : Heap} {t k : Nat} (h : H[t]? = some ⟨[], k, 0⟩) (f : Nat) : view (f + 3) H (.sl t 0 0 k none) = some (.fs []) := by
  show (match H[t]? with
    | some o => if o.st < 2 then (if 0 + 0 ≤ o.elems.length then (vl (Dw.view (f + 2) H) ((o.elems.drop 0).take 0)).map D.fs else none) else none
    | none => none) = _
  simp only [h]; rfl
theorem row_n1 {H Hc : Heap} {B : List Nat} {cw : AV} {ws : List BW} {k : Nat} (hR : RowK H.length Hc B cw ws k) : ∃ n1, H.length = n1 ∧ RowK n1 Hc B cw ws k := ⟨_, rfl, hR⟩
theorem c70a {b : Bd} {t : Int} {a : Nat} (hb : SB b) (ha : ixB t b.ws 0 = a) : Fn 70 [b.enc, i t] (i (a : Int)) := by
  rw [← ha]; exact c70 b t hb.n
attribute [local irreducible] RecS

theorem c28l (b : Bd) (t most : Int) (hb : SB b) (a : Nat) (ha : ixB t b.ws 0 = a) (x : BW) (hla : a < b.ws.length) (hxa : b.ws[a] = x) (hlo : x.lost = true) (H0 : Heap) : ∃ r H, Run Tryz.prog 28 [.d b.enc, .d (i t), .d (i most)] H0 r H ∧ (∃ (q : Nat) (Hc : Heap) (Es Fs : List AV) (m : Nat) (cr : AV), Own m Hc [q] Es b.ws b.ws.length ∧ b.ws.length ≤ Es.length ∧ H[q]? = some ⟨Fs, 7, 0⟩ ∧ Fs.length = Es.length ∧ (∀ i, i ≠ a → Fs[i]? = Es[i]?) ∧ (∀ i, i ≠ q → m ≤ i → i < Hc.length → H[i]? = Hc[i]?) ∧ RecS m Hc q cr x.recs ∧ Fs[a]? = some (.agg [.d (i x.id), .d (.str x.w.path), .d (.bool x.w.deep), .d (i x.w.filter), .d (i x.w.room), cr, .d (.bool false)]) ∧ r = .tup [.agg [.sl q 0 b.ws.length 7 none, .d (i b.next)], .nilS, .d (.bool true)]) := by
  refine run_walkQ eok Tryz.func28 rfl (by kernel_rfl) ?_
  conv => whnf
  repeat' (first
    | ((with_reducible refine onBool_t (by assumption) ?_); conv => whnf)
    | (refine call_stepQ (c20o b hb _) (fun r Hc hQ => ?_); obtain ⟨cw, rfl, hR, hgl, hf⟩ := hQ; obtain ⟨n1, hn1, hR⟩ := row_n1 hR; rcases hR with ⟨hk0, rfl⟩ | ⟨q, Es, rfl, hqq, hEl, ⟨hqB, hqm⟩, hO⟩; (focus (exact absurd hla (by omega))); have hlq := lt_of_at hqq; obtain ⟨o, hoK, _⟩ := hO.focus (Nat.le_refl _) hla; rw [hxa] at hoK; obtain ⟨cr, hEa, hRS⟩ := hoK.toS; have hla2 := lt_of_at hEa; conv => whnf)
    | ((with_reducible refine call_go ?_); (first | refine call_step (run_view (c70a hb ha) rfl rfl) ?_); conv => whnf)
    | (refine ⟨[], [(1, 4)], (by decide +kernel), ?_⟩; conv => whnf)
    | (refine newG (fun n H hn hl hf ho => ?_); conv => whnf)
    | (refine setGk (by first | omega ) (fun H hl hf ho => ?_); (try dsimp only at hl hf); conv => whnf)
    | (refine setG (by first | omega ) (fun H hl hf ho => ?_); (try dsimp only at hl hf); conv => whnf)
    | (refine nthGk (x := ?_) ?_ ?_; rotate_left; (focus ((repeat (first | assumption )); done)); conv => whnf)
    | (refine nthG (x := ?_) ?_ ?_; rotate_left; (focus ((repeat (first | assumption | refine look_new (by assumption) (by omega) ?_ | refine look_set (by assumption) (by omega) ?_)); done)); conv => whnf)
    | (refine ⟨⟨by omega, by omega⟩, ?_⟩; conv => whnf)
    | (refine ⟨congrArg (Option.map AO.vis) (Eq.symm (by (repeat (first | rfl )))), ?_⟩; conv => whnf)
    | ((with_reducible refine endq_go ?_); first | (refine endq ⟨q, Hc, Es, ?_, _, cr, hO, hEl, ?_, ?_, ?_, ?_, hRS, ?_, rfl⟩; rotate_left; (focus ((repeat (first | assumption | refine look_set (by assumption) (by omega) ?_)); done)); (focus (dsimp only at *; omega)); (focus (intro i hi; (repeat (first | rfl | refine look_set (by assumption) (by omega) ?_)))); (focus (intro i hi hmi hlt; (repeat (first | rfl | refine look_new (by assumption) (by omega) ?_ | refine look_set (by assumption) (by omega) ?_)))); (focus ((repeat (first | assumption )); done)); done))
    | fail
    )

theorem c28n (b : Bd) (t most : Int) (hb : SB b) (a : Nat) (ha : ixB t b.ws 0 = a) (x : BW) (hla : a < b.ws.length) (hxa : b.ws[a] = x) (hlo : x.lost = false) (hs : small x.recs) (H0 : Heap) : ∃ r H, Run Tryz.prog 28 [.d b.enc, .d (i t), .d (i most)] H0 r H ∧ (∃ (q : Nat) (Hc : Heap) (Es Fs : List AV) (m : Nat) (cr : AV), Own m Hc [q] Es b.ws b.ws.length ∧ b.ws.length ≤ Es.length ∧ H[q]? = some ⟨Fs, 7, 0⟩ ∧ Fs.length = Es.length ∧ (∀ i, i ≠ a → Fs[i]? = Es[i]?) ∧ (∀ i, i ≠ q → m ≤ i → i < Hc.length → H[i]? = Hc[i]?) ∧ ∃ cl cr2, (∀ f, view (f + 3) H cl = some (.fs ((x.recs.take (readN x.recs most)).map Rec.enc))) ∧ (∀ f, view (f + 3) H cr2 = some (.fs ((x.recs.drop (readN x.recs most)).map Rec.enc))) ∧ Fs[a]? = some (.agg [.d (i x.id), .d (.str x.w.path), .d (.bool x.w.deep), .d (i x.w.filter), .d (i x.w.room), cr2, .d (.bool x.lost)]) ∧ r = .tup [.agg [.sl q 0 b.ws.length 7 none, .d (i b.next)], cl, .d (.bool false)]) := by
  refine run_walkQ eok Tryz.func28 rfl (by kernel_rfl) ?_
  conv => whnf
  repeat' (first
    | ((with_reducible refine onBool_f (by assumption) ?_); conv => whnf)
    | ((with_reducible refine on_dec (fun h => ?_) (fun h => ?_)) <;> (try simp only [List.length_map] at h) <;> conv => whnf)
    | (refine call_stepQ (c20o b hb _) (fun r Hc hQ => ?_); obtain ⟨cw, rfl, hR, hgl, hf⟩ := hQ; obtain ⟨n1, hn1, hR⟩ := row_n1 hR; rcases hR with ⟨hk0, rfl⟩ | ⟨q, Es, rfl, hqq, hEl, ⟨hqB, hqm⟩, hO⟩; (focus (exact absurd hla (by omega))); have hlq := lt_of_at hqq; obtain ⟨o, hoK, _⟩ := hO.focus (Nat.le_refl _) hla; rw [hxa] at hoK; obtain ⟨cr, hEa, hRS⟩ := hoK.toS; have hla2 := lt_of_at hEa; conv => whnf)
    | ((with_reducible refine call_go ?_); (first | refine call_step (run_view (c70a hb ha) rfl rfl) ?_ | refine call_step (run_view (c68 (x.recs.take (k + 1)) (small_take hs)) rfl (vlc (view_recT hR (by omega) (by omega) (by omega)) vln)) ?_); conv => whnf)
    | (refine ⟨[], [(1, 4)], (by decide +kernel), ?_⟩; conv => whnf)
    | ((with_reducible refine loop_go ?_); first | (apply loopG3 (fun (k : Nat) (z : Nat) (y : Nat) (H : Heap) => x.recs.length - k) (fun (k : Nat) (z : Nat) (y : Nat) (H : Heap) => k ≤ x.recs.length ∧ readN x.recs most = rnGo x.recs most (x.recs.length - k) k ∧ H[z]? = some ⟨[.agg [.sl q 0 b.ws.length 7 none, .d (i b.next)]], 2, 0⟩ ∧ H[y]? = some ⟨[(E 39).zero], (E 39).size, 0⟩ ∧ H[q]? = some ⟨Es, 7, 0⟩ ∧ RecS n1 H q cr x.recs ∧ (z ≠ y ∧ z ≠ q ∧ y ≠ q) ∧ (Hc.length ≤ z ∧ y < n1 ∧ n1 ≤ Hc.length ∧ n1 ≤ q) ∧ Hc.length ≤ H.length ∧ ∀ i, i ≠ q → n1 ≤ i → i < Hc.length → H[i]? = Hc[i]?) (fun (k : Nat) (z : Nat) (y : Nat) (H : Heap) => [(2, .d (i most)), (6, .ptr y 0 0), (9, .ptr z 0 0), (10, .ptr q a 0), (11, .d (i k))]) (0); rotate_left; (focus (exact .inl ⟨rfl, ⟨(by first | rfl ), (by first | rfl ), (by first | rfl ), congrArg (fun z => AV.ptr q z 0) (by omega), (by first | rfl ), trivial⟩⟩)); rotate_left; (focus (exact ⟨Nat.zero_le _, readN_0 _ _, (by (repeat (first | assumption ))), (by (repeat (first | assumption | refine look_new (by assumption) (by omega) ?_ | refine look_set (by assumption) (by omega) ?_))), (by (repeat (first | assumption | refine look_new (by assumption) (by omega) ?_ | refine look_set (by assumption) (by omega) ?_))), hRS.frame (by (intro i hi hmi hlt; (repeat (first | rfl | refine look_new (by assumption) (by omega) ?_ | refine look_set (by assumption) (by omega) ?_)))), by omega, ⟨by omega, by omega, by omega, hqm⟩, by omega, by (intro i hi hmi hlt; (repeat (first | rfl | refine look_new (by assumption) (by omega) ?_ | refine look_set (by assumption) (by omega) ?_)))⟩)); intro k z y H C hI hC; have hs1 := hs.1; obtain ⟨hk, hkn, h0, h1, hq1, hRS1, hdz, hbd, hlen, hfr⟩ := hI; have hRS2 := hRS1; unfold RecS at hRS1; have hl0 := lt_of_at h0; have hl1 := lt_of_at h1; have hlq1 := lt_of_at hq1; rcases hRS1 with ⟨hx0, rfl⟩ | ⟨id, A, rfl, hid, hlA, htA, hidq⟩; (obtain rfl : k = 0 := (by rw [hx0] at hk; simpa using hk)); all_goals skip; all_goals (try (have hlid := lt_of_at hid)); all_goals (try (have hR : RecAt _ id x.recs := ⟨A, hid, hlA, htA⟩)); all_goals (conv => whnf)))
    | ((with_reducible show C _ _); first | (refine hC (k + 1) (z) (y) _ _ ?_ (by omega) ?_; clear hC; rotate_left; (exact ⟨(by first | rfl ), (by first | rfl ), (by first | rfl ), congrArg (fun z => AV.ptr q z 0) (by omega), (by first | rfl ), trivial⟩); exact ⟨by omega, by rw [hkn, rn_t (by omega) (by omega)], h0, h1, hq1, hRS2, hdz, hbd, by omega, hfr⟩))
    | (refine wrap64 (by omega) ?_; conv => whnf)
    | (refine own_sl 0 (k + 1) rfl (by omega) ⟨by omega, by omega⟩ ?_; conv => whnf)
    | (refine own_sl 0 k rfl rfl ⟨by omega, by omega⟩ ?_; conv => whnf)
    | (refine own_sl k x.recs.length rfl rfl ⟨by omega, by omega⟩ ?_; conv => whnf)
    | (refine srcB0 (by dsimp only; omega) (pre_known htA hlA hk) ?_; conv => whnf)
    | (refine ⟨cap_ok (show ((A.drop 0).take (k - 0)).length ≤ 10000000 by rw [Nat.sub_zero, pre_len2 hlA hk]; omega) rfl, ?_⟩; conv => whnf)
    | (refine ⟨cap_ok (by (try dsimp only [List.length]); omega) rfl, ?_⟩; conv => whnf)
    | (refine newG (fun n H hn hl hf ho => ?_); conv => whnf)
    | (refine setG (by first | omega ) (fun H hl hf ho => ?_); (try dsimp only at hl hf); conv => whnf)
    | (refine nthGk (x := ?_) ?_ ?_; rotate_left; (focus ((repeat (first | assumption )); done)); conv => whnf)
    | (refine nthG (x := ?_) ?_ ?_; rotate_left; (focus ((repeat (first | assumption | refine look_new (by assumption) (by omega) ?_ | refine look_set (by assumption) (by omega) ?_)); done)); conv => whnf)
    | (refine ⟨⟨by omega, by omega⟩, ?_⟩; conv => whnf)
    | (refine ⟨congrArg (Option.map AO.vis) (Eq.symm (by (repeat (first | rfl )))), ?_⟩; conv => whnf)
    | ((with_reducible refine endq_go ?_); first | (refine endq ⟨q, Hc, Es, ?_, n1, .nilS, hO, hEl, ?_, ?_, ?_, ?_, _, .nilS, ?_, ?_, ?_, rfl⟩; rotate_left; (focus ((repeat (first | assumption | refine look_set (by assumption) (by omega) ?_)); done)); (focus (dsimp only at *; omega)); (focus (intro i hi; (repeat (first | rfl | refine look_set (by assumption) (by omega) ?_)))); (focus (intro i hi hmi hlt; (repeat (first | exact hfr i hi hmi hlt | refine look_new (by assumption) (by omega) ?_ | refine look_set (by assumption) (by omega) ?_)))); (focus (rw [hx0]; intro f; simp only [List.take_nil, List.map_nil]; exact view_empty (by (repeat (first | assumption | refine look_set (by assumption) (by omega) ?_))) f)); (focus (rw [hx0]; intro f; simp only [List.drop_nil, List.map_nil]; rfl)); (focus ((repeat (first | assumption )); done)); done) | (refine endq ⟨q, Hc, Es, ?_, n1, .nilS, hO, hEl, ?_, ?_, ?_, ?_, _, .sl id (0 + k) (x.recs.length - k) 2 none, ?_, ?_, ?_, rfl⟩; rotate_left; (focus ((repeat (first | assumption | refine look_set (by assumption) (by omega) ?_)); done)); (focus (dsimp only at *; omega)); (focus (intro i hi; (repeat (first | rfl | refine look_set (by assumption) (by omega) ?_)))); (focus (intro i hi hmi hlt; (repeat (first | exact hfr i hi hmi hlt | refine look_new (by assumption) (by omega) ?_ | refine look_set (by assumption) (by omega) ?_)))); (focus (rw [show readN x.recs most = k by rw [hkn, rn_f (by omega)]]; intro f; exact view_pre (by (repeat (first | assumption | refine look_set (by assumption) (by omega) ?_))) hlA htA hk f)); (focus (rw [show readN x.recs most = k by rw [hkn, rn_f (by omega)]]; intro f; exact view_recD ⟨A, (by (repeat (first | assumption | refine look_new (by assumption) (by omega) ?_ | refine look_set (by assumption) (by omega) ?_))), hlA, htA⟩ (by omega) (by omega) hk)); (focus ((repeat (first | assumption )); done)); done))
    | fail
    )

end Go.Proofs.YtbkmjpmgiaiacaaGreatDoor

/-! Vc -/
namespace Go.Proofs.YtbkmjpmgiaiacaaGreatDoor
open Go Dw
set_option maxRecDepth 10000
set_option linter.unusedVariables false
set_option linter.unusedSimpArgs false
attribute [local irreducible] Run
set_option maxHeartbeats 4000000

open Paths
attribute [local irreducible] Own checkB addErr roomy bsR ixB dropB addB sz roomOf putB seesW belowI tellB told isAct fewB fewW addE dropErr tellErr eventErr
theorem SB0 : SB bd0 := ⟨by decide, fun x h => by cases h⟩
theorem c22z : Fn 22 [bd0.enc, bd0.enc] (.bool true) := c22 bd0 SB0
theorem told_len (e : Rec) (ws : List BW) : (told e ws).length ≤ ws.length := by
  unfold told; rw [List.length_map]; exact List.length_filter_le _ _
end Go.Proofs.YtbkmjpmgiaiacaaGreatDoor

/-! Vj -/
namespace Go.Proofs.YtbkmjpmgiaiacaaGreatDoor
open Go Dw
set_option maxRecDepth 10000
set_option linter.unusedVariables false
set_option linter.unusedSimpArgs false
attribute [local irreducible] Run
set_option maxHeartbeats 4000000

open Paths
attribute [local irreducible] Own checkB addErr roomy bsR ixB dropB addB sz roomOf putB seesW belowI tellB told isAct fewB fewW addE dropErr tellErr eventErr readN findE readE
theorem view_wt {H : Heap} {f : Nat} {x : BW} {cr : AV} {l : List Rec} {o : Bool} (h : view (f + 3) H cr = some (.fs (l.map Rec.enc))) : view (f + 4) H (.agg [.d (i x.id), .d (.str x.w.path), .d (.bool x.w.deep), .d (i x.w.filter), .d (i x.w.room), cr, .d (.bool o)]) = some (BW.mk x.id x.w l o).enc :=
  view_agg (vlc rfl (vlc rfl (vlc rfl (vlc rfl (vlc rfl (vlc h (vlc rfl vln)))))))
theorem readB_enc {b : Bd} {a : Nat} {x : BW} {most : Int} (hx : b.ws[a]? = some x) : (readB b a most).enc = .agg [.fs ((b.ws.set a (readW x most)).map BW.enc), i b.next] := by rw [readB_ws hx]; rfl
/-- The document's Read. -/
theorem f28t (b : Bd) (t most : Int) (hb : SB b) (a : Nat) (x : BW) (ha : ixB t b.ws 0 = a) (hx : b.ws[a]? = some x) (hlo : x.lost = true) : Fn 28 [b.enc, i t, i most] (.tup [(readB b a most).enc, .fs ((readL x most).map Rec.enc), .bool true]) := by
  obtain ⟨hla, hxa⟩ := List.getElem?_eq_some_iff.1 hx
  obtain ⟨r, H, h1, q, Hc, Es, Fs, m, cr, hO, hE, hq, hF, hne, hf, hRS, hFa, rfl⟩ := c28l b t most hb a ha x hla hxa hlo []
  rw [readB_enc hx, show readW x most = ⟨x.id, x.w, x.recs, false⟩ by unfold readW; rw [if_pos hlo], show readL x most = [] by unfold readL; rw [if_pos hlo]]
  exact run_give h1 (view_tup (vlc (view_agg (vlc (view_set (f := 1) hO rfl hq (by omega) hne hf hFa (view_wt ((hRS.frame hf).view))) (vlc rfl vln))) (vlc rfl (vlc rfl vln))))
theorem f28f (b : Bd) (t most : Int) (hb : SB b) (a : Nat) (x : BW) (ha : ixB t b.ws 0 = a) (hx : b.ws[a]? = some x) (hlo : x.lost = false) : Fn 28 [b.enc, i t, i most] (.tup [(readB b a most).enc, .fs ((readL x most).map Rec.enc), .bool false]) := by
  obtain ⟨hla, hxa⟩ := List.getElem?_eq_some_iff.1 hx
  have hs : small x.recs := hb.r x (hxa ▸ List.getElem_mem hla)
  obtain ⟨r, H, h1, q, Hc, Es, Fs, m, cr, hO, hE, hq, hF, hne, hf, cl, cr2, hv1, hv2, hFa, rfl⟩ := c28n b t most hb a ha x hla hxa hlo hs []
  have hn : ¬ x.lost = true := by rw [hlo]; decide
  rw [readB_enc hx, show readW x most = ⟨x.id, x.w, x.recs.drop (readN x.recs most), x.lost⟩ by unfold readW; rw [if_neg hn], show readL x most = x.recs.take (readN x.recs most) by unfold readL; rw [if_neg hn]]
  exact run_give h1 (view_tup (vlc (view_agg (vlc (view_set (f := 1) hO rfl hq (by omega) hne hf hFa (view_wt (hv2 _))) (vlc rfl vln))) (vlc (hv1 _) (vlc rfl vln))))
theorem readB_SB {b : Bd} {a : Nat} {x : BW} (most : Int) (hb : SB b) (hx : b.ws[a]? = some x) : SB (readB b a most) ∧ small (readL x most) := by
  obtain ⟨hla, hxa⟩ := List.getElem?_eq_some_iff.1 hx
  have hs : small x.recs := hb.r x (hxa ▸ List.getElem_mem hla)
  rw [readB_ws hx]
  refine ⟨⟨by show (b.ws.set a _).length < _; rw [List.length_set]; exact hb.n, fun y hy => ?_⟩, ?_⟩
  · rcases List.mem_or_eq_of_mem_set hy with h | rfl
    · exact hb.r y h
    · unfold readW; split
      · exact hs
      · exact ⟨by have := hs.1; show (x.recs.drop _).length < _; rw [List.length_drop]; omega, fun r hr => hs.2 r (List.mem_of_mem_drop hr)⟩
  · unfold readL; split
    · exact ⟨by decide, fun r hr => by cases hr⟩
    · exact small_take hs
attribute [local irreducible] readB readL readC readW

end Go.Proofs.YtbkmjpmgiaiacaaGreatDoor

/-! Ya -/
namespace Go.Proofs.YtbkmjpmgiaiacaaGreatDoor
open Go Dw
set_option maxRecDepth 10000
set_option linter.unusedVariables false
set_option linter.unusedSimpArgs false
attribute [local irreducible] Run
set_option maxHeartbeats 4000000

open Paths
attribute [local irreducible] newD Own checkB addErr roomy bsR ixB dropB sz roomOf putB seesW belowI readB readL readC readN findE
/-- A board in memory of its own, none of it at X; what lies at X is there. -/
def BX (H : Heap) (p : Nat) (b : Bd) (X : List Nat) : Prop := BHX 0 H p b X ∧ ∀ i ∈ X, i < H.length
theorem BX.toBH {H : Heap} {p : Nat} {b : Bd} {X : List Nat} (h : BX H p b X) : BH 0 H p b := h.1.frame fun _ _ => rfl
theorem Own.less {m : Nat} {H : Heap} {B B' : List Nat} {E : List AV} {ws : List BW} {k : Nat} (h : Own m H B E ws k) (hB : ∀ i, i ∈ B' → i ∈ B) : Own m H B' E ws k := h.frame (fun i hi => .inl (hB i hi)) fun _ _ _ _ => rfl

theorem y71o (b : Bd) (w : Wt) (hb : SB b) (hn : 1 ≤ b.next ∧ b.next ≤ 2147483647) (h0 : addErr b w = 0) (p : Nat) (X : List Nat) (H0 : Heap) (hB : BX H0 p b X) : ∃ r H, Run Tryz.prog 71 [.ptr p 0 0, .d w.enc] H0 r H ∧ (r = .tup [.d (i b.next), .d (i 0)] ∧ BX H p (addB b w) X ∧ ∀ i ∈ X, H[i]? = H0[i]?) := by
  obtain ⟨⟨q, Es, hp, hq, hE, ⟨hpq, hmp, hmq⟩, ⟨hpX, hqX⟩, hO⟩, hXl⟩ := hB; have hlp := lt_of_at hp; have hlq := lt_of_at hq; have hbn := hb.n; obtain ⟨hw0, h8, hx⟩ := add_ok h0; rw [add_8 h8] at h0
  refine run_walkQ eok Tryz.func71 rfl (by kernel_rfl) ?_
  conv => whnf
  repeat' (first
    | (refine ⟨[154], [(6, 1)], (by decide +kernel), ?_⟩; conv => whnf)
    | ((with_reducible refine on_dec_t (by assumption) ?_); conv => whnf)
    | ((with_reducible refine on_ndec_t (by first | assumption ) ?_); conv => whnf)
    | ((with_reducible refine on_dec (fun h => ?_) (fun h => ?_)) <;> (try simp only [List.length_map] at h) <;> conv => whnf)
    | ((with_reducible refine call_go ?_); (first | refine call_step (run_view (c12 w) rfl rfl) ?_ | refine call_step (run_view (c55 _ _) rfl rfl) ?_ | refine call_step (run_view (c54 [_, _] (by simp)) rfl rfl) ?_ ); conv => whnf)
    | (refine ⟨[], [(5, 9)], (by decide +kernel), ?_⟩; conv => whnf)
    | (refine wrap64 (by omega) ?_; conv => whnf)
    | (refine newG (fun n H hn hl hf ho => ?_); conv => whnf)
    | (refine setG (by first | omega ) (fun H hl hf ho => ?_); (try dsimp only at hl hf); conv => whnf)
    | (refine nthG (x := ?_) ?_ ?_; rotate_left; (focus ((repeat (first | assumption | refine look_new (by assumption) (by omega) ?_ | refine look_set (by assumption) (by omega) ?_)); done)); conv => whnf)
    | (refine ⟨congrArg (Option.map AO.vis) (Eq.symm (by (repeat (first | rfl | refine look_new (by assumption) (by omega) ?_ )))), ?_⟩; conv => whnf)
    | (refine ⟨Nat.le_refl _, ?_⟩; conv => whnf)
    | (refine ⟨⟨(by simp only [List.length_cons, List.length_nil] at h ⊢; omega), cap_ok (by simp only [List.length_cons, List.length_nil]; omega) rfl⟩, ?_⟩; conv => whnf)
    | ((with_reducible refine endq_go ?_); first | (exact endq ⟨rfl, ⟨BHX.of (b := addB b w) (addB_len b w).symm (by (repeat (first | assumption ))) (by (repeat (first | assumption | refine look_set (by assumption) (by omega) ?_))) (over_le (by simp only [List.length_cons, List.length_nil] at h; omega)) (by omega) ⟨hpX, by exact hqX⟩ (Own.snocN hO rfl (fun j hj => over_old (by simp only [List.length_cons, List.length_nil] at h; omega) hj) (over_at (by simp only [List.length_cons, List.length_nil] at h; omega)) (by (intro i hi hmi hlt; have hip : i ≠ p := (fun e => hi (by simp [e])); have hiq : i ≠ q := (fun e => hi (by simp [e])); (repeat (first | rfl | refine look_new (by assumption) (by omega) ?_ | refine look_set (by assumption) (by omega) ?_)))) (by (intro i hi; exact .inl hi))), by (intro i hi; have hil := hXl i hi; omega)⟩, by (intro i hi; have hil := hXl i hi; have hip : i ≠ p := (fun e => hpX (by rw [← e]; exact hi)); have hiq : i ≠ q := (fun e => hqX (by rw [← e]; exact hi)); (repeat (first | rfl | refine look_new (by assumption) (by omega) ?_ | refine look_set (by assumption) (by omega) ?_)))⟩; done) | (exact endq ⟨rfl, ⟨BHX.of (b := addB b w) (addB_len b w).symm (by (repeat (first | assumption ))) (by (repeat (first | assumption | refine look_set (by assumption) (by omega) ?_))) (by simp only [List.length_append, List.length_cons, List.length_nil] at h ⊢; omega) (by omega) ⟨hpX, by (intro h; have := hXl _ h; omega)⟩ (Own.snocN hO rfl (fun j hj => snoc_old (by simp only [List.length_cons, List.length_nil] at h; omega) hj) (snoc_at (by simp only [List.length_cons, List.length_nil] at h; omega)) (by (intro i hi hmi hlt; have hip : i ≠ p := (fun e => hi (by simp [e])); have hiq : i ≠ q := (fun e => hi (by simp [e])); (repeat (first | rfl | refine look_new (by assumption) (by omega) ?_ | refine look_set (by assumption) (by omega) ?_)))) (by (intro i hi; simp only [List.mem_append, List.mem_cons, List.not_mem_nil, or_false] at hi ⊢; rcases hi with (hi | hi) | hi; (focus exact .inl (.inl (.inl hi))); (focus exact .inr (by omega)); exact .inl (.inr hi)))), by (intro i hi; have hil := hXl i hi; omega)⟩, by (intro i hi; have hil := hXl i hi; have hip : i ≠ p := (fun e => hpX (by rw [← e]; exact hi)); have hiq : i ≠ q := (fun e => hqX (by rw [← e]; exact hi)); (repeat (first | rfl | refine look_new (by assumption) (by omega) ?_ | refine look_set (by assumption) (by omega) ?_)))⟩; done))
    | fail
    )

theorem y71e1 (b : Bd) (w : Wt) (hb : SB b) (h8 : (b.ws.length : Int) < 8) (h0 : ¬ addErr b w = 0) (p : Nat) (X : List Nat) (H0 : Heap) (hB : BX H0 p b X) : ∃ r H, Run Tryz.prog 71 [.ptr p 0 0, .d w.enc] H0 r H ∧ (r = .tup [.d (i 0), .d (i (addErr b w))] ∧ BX H p b X ∧ ∀ i ∈ X, H[i]? = H0[i]?) := by
  obtain ⟨⟨q, Es, hp, hq, hE, ⟨hpq, hmp, hmq⟩, ⟨hpX, hqX⟩, hO⟩, hXl⟩ := hB; have hlp := lt_of_at hp; have hlq := lt_of_at hq; have hbn := hb.n; rw [add_8 h8] at h0
  refine run_walkQ eok Tryz.func71 rfl (by kernel_rfl) ?_
  conv => whnf
  repeat' (first
    | (refine ⟨[154], [(6, 1)], (by decide +kernel), ?_⟩; conv => whnf)
    | ((with_reducible refine on_dec_t (by assumption) ?_); conv => whnf)
    | ((with_reducible refine on_ndec_f (by assumption) ?_); conv => whnf)
    | ((with_reducible refine call_go ?_); (first | refine call_step (run_view (c12 w) rfl rfl) ?_ | refine call_step (run_view (c55 _ _) rfl rfl) ?_ | refine call_step (run_view (c54 [_, _] (by simp)) rfl rfl) ?_ ); conv => whnf)
    | (refine newG (fun n H hn hl hf ho => ?_); conv => whnf)
    | (refine nthG (x := ?_) ?_ ?_; rotate_left; (focus ((repeat (first | assumption | refine look_new (by assumption) (by omega) ?_ )); done)); conv => whnf)
    | (refine ⟨congrArg (Option.map AO.vis) (Eq.symm (by (repeat (first | rfl )))), ?_⟩; conv => whnf)
    | ((with_reducible refine endq_go ?_); first | (exact endq ⟨by rw [add_8 h8]; rfl, ⟨⟨_, _, (by (repeat (first | assumption | refine look_new (by assumption) (by omega) ?_ ))), (by (repeat (first | assumption | refine look_new (by assumption) (by omega) ?_ ))), hE, by omega, ⟨hpX, hqX⟩, Own.frame hO (fun _ h => .inl h) (by (intro i hi hmi hlt; have hip : i ≠ p := (fun e => hi (by simp [e])); have hiq : i ≠ q := (fun e => hi (by simp [e])); (repeat (first | rfl | refine look_new (by assumption) (by omega) ?_ ))))⟩, by (intro i hi; have hil := hXl i hi; omega)⟩, by (intro i hi; have hil := hXl i hi; have hip : i ≠ p := (fun e => hpX (by rw [← e]; exact hi)); have hiq : i ≠ q := (fun e => hqX (by rw [← e]; exact hi)); (repeat (first | rfl | refine look_new (by assumption) (by omega) ?_ )))⟩; done))
    | fail
    )

theorem y71e2 (b : Bd) (w : Wt) (hb : SB b) (h8 : ¬ (b.ws.length : Int) < 8) (h0 : ¬ addErr b w = 0) (p : Nat) (X : List Nat) (H0 : Heap) (hB : BX H0 p b X) : ∃ r H, Run Tryz.prog 71 [.ptr p 0 0, .d w.enc] H0 r H ∧ (r = .tup [.d (i 0), .d (i (addErr b w))] ∧ BX H p b X ∧ ∀ i ∈ X, H[i]? = H0[i]?) := by
  obtain ⟨⟨q, Es, hp, hq, hE, ⟨hpq, hmp, hmq⟩, ⟨hpX, hqX⟩, hO⟩, hXl⟩ := hB; have hlp := lt_of_at hp; have hlq := lt_of_at hq; have hbn := hb.n; rw [add_n8 h8] at h0
  refine run_walkQ eok Tryz.func71 rfl (by kernel_rfl) ?_
  conv => whnf
  repeat' (first
    | (refine ⟨[154], [(6, 1)], (by decide +kernel), ?_⟩; conv => whnf)
    | ((with_reducible refine on_dec_f (by assumption) ?_); conv => whnf)
    | ((with_reducible refine on_ndec_f (by assumption) ?_); conv => whnf)
    | ((with_reducible refine call_go ?_); (first | refine call_step (run_view (c12 w) rfl rfl) ?_ | refine call_step (run_view (c55 _ _) rfl rfl) ?_ | refine call_step (run_view (c54 [_, _] (by simp)) rfl rfl) ?_ ); conv => whnf)
    | (refine newG (fun n H hn hl hf ho => ?_); conv => whnf)
    | (refine nthG (x := ?_) ?_ ?_; rotate_left; (focus ((repeat (first | assumption | refine look_new (by assumption) (by omega) ?_ )); done)); conv => whnf)
    | (refine ⟨congrArg (Option.map AO.vis) (Eq.symm (by (repeat (first | rfl )))), ?_⟩; conv => whnf)
    | ((with_reducible refine endq_go ?_); first | (exact endq ⟨by rw [add_n8 h8]; rfl, ⟨⟨_, _, (by (repeat (first | assumption | refine look_new (by assumption) (by omega) ?_ ))), (by (repeat (first | assumption | refine look_new (by assumption) (by omega) ?_ ))), hE, by omega, ⟨hpX, hqX⟩, Own.frame hO (fun _ h => .inl h) (by (intro i hi hmi hlt; have hip : i ≠ p := (fun e => hi (by simp [e])); have hiq : i ≠ q := (fun e => hi (by simp [e])); (repeat (first | rfl | refine look_new (by assumption) (by omega) ?_ ))))⟩, by (intro i hi; have hil := hXl i hi; omega)⟩, by (intro i hi; have hil := hXl i hi; have hip : i ≠ p := (fun e => hpX (by rw [← e]; exact hi)); have hiq : i ≠ q := (fun e => hqX (by rw [← e]; exact hi)); (repeat (first | rfl | refine look_new (by assumption) (by omega) ?_ )))⟩; done))
    | fail
    )

theorem y78o (b : Bd) (t : Int) (a : Nat) (hb : SB b) (hc : asc b.ws) (ha : ixB t b.ws 0 = a) (p : Nat) (X : List Nat) (H0 : Heap) (hB : BX H0 p b X) : ∃ r H, Run Tryz.prog 78 [.ptr p 0 0, .d (i t)] H0 r H ∧ (r = .d (i 0) ∧ BX H p (dropB b t) X ∧ ∀ i ∈ X, H[i]? = H0[i]?) := by
  obtain ⟨⟨q, Es, hp, hq, hE, ⟨hpq, hmp, hmq⟩, ⟨hpX, hqX⟩, hO⟩, hXl⟩ := hB; have hlp := lt_of_at hp; have hlq := lt_of_at hq; have hbn := hb.n; obtain ⟨hlt, hfe⟩ := drop_erase hc ha
  refine run_walkQ eok Tryz.func78 rfl (by kernel_rfl) ?_
  conv => whnf
  repeat' (first
    | (refine call_stepQ (c108 b.ws.length q a Es _ hq hE hlt (by omega) (hO.known (Nat.le_refl _))) (fun r H hQ => ?_); obtain ⟨rfl, Fs, hq2, hF, hFa, hl, hf⟩ := hQ; have hlq2 := lt_of_at hq2; conv => whnf)
    | ((with_reducible refine call_go ?_); (first | refine call_step (c104o b t a hb hc ha 0 p _ (BX.toBH ⟨⟨q, Es, hp, hq, hE, ⟨hpq, hmp, hmq⟩, ⟨hpX, hqX⟩, hO⟩, hXl⟩)) ?_); conv => whnf)
    | (refine wrap64 (by omega) ?_; conv => whnf)
    | (refine setG (by first | omega ) (fun H hl hf ho => ?_); (try dsimp only at hl hf); conv => whnf)
    | (refine nthG (x := ?_) ?_ ?_; rotate_left; (focus ((repeat (first | assumption | refine look_set (by assumption) (by omega) ?_)); done)); conv => whnf)
    | ((with_reducible refine endq_go ?_); first | (exact endq ⟨rfl, ⟨BHX.of (b := dropB b t) (dropB_len hc ha) (by rw [dropB_next]; (repeat (first | assumption ))) (by (repeat (first | assumption | refine look_set (by assumption) (by omega) ?_))) hF (by omega) ⟨hpX, hqX⟩ (by rw [show (dropB b t).ws = b.ws.eraseIdx a by unfold dropB; exact hfe]; exact Own.erase hO hlt hFa (by (intro i hi hmi hlt; have hip : i ≠ p := (fun e => hi (by simp [e])); have hiq : i ≠ q := (fun e => hi (by simp [e])); (repeat (first | rfl | refine look_set (by assumption) (by omega) ?_))))), by (intro i hi; have hil := hXl i hi; omega)⟩, by (intro i hi; have hil := hXl i hi; have hip : i ≠ p := (fun e => hpX (by rw [← e]; exact hi)); have hiq : i ≠ q := (fun e => hqX (by rw [← e]; exact hi)); (repeat (first | rfl | refine look_set (by assumption) (by omega) ?_)))⟩; done))
    | fail
    )

theorem y78n (b : Bd) (t : Int) (hb : SB b) (hc : asc b.ws) (ha : ¬ 0 ≤ ixB t b.ws 0) (p : Nat) (X : List Nat) (H0 : Heap) (hB : BX H0 p b X) : ∃ r H, Run Tryz.prog 78 [.ptr p 0 0, .d (i t)] H0 r H ∧ (r = .d (i 6) ∧ BX H p b X ∧ ∀ i ∈ X, H[i]? = H0[i]?) := by
  obtain ⟨x, hn⟩ := c104n b t hb hc ha 0 p H0 hB.toBH
  refine run_walkQ eok Tryz.func78 rfl (by kernel_rfl) ?_
  conv => whnf
  repeat' (first
    | ((with_reducible refine call_go ?_); (first | refine call_step (hn) ?_); conv => whnf)
    | ((with_reducible refine endq_go ?_); first | (exact endq ⟨rfl, hB, fun _ _ => rfl⟩; done))
    | fail
    )

attribute [local irreducible] told addB
theorem BHX.frame2 {m : Nat} {H H' : Heap} {p : Nat} {b : Bd} {X X0 : List Nat} (h : BHX m H p b (X ++ X0)) (hf : ∀ i, i ∉ X → H'[i]? = H[i]?) : BHX m H' p b X0 := by
  obtain ⟨q, Es, h1, h2, h3, h4, ⟨h5, h5'⟩, h6⟩ := h
  simp only [List.mem_append, not_or] at h5 h5'
  exact ⟨q, Es, by rw [hf p h5.1]; exact h1, by rw [hf q h5'.1]; exact h2, h3, h4, ⟨h5.2, h5'.2⟩, h6.frame (fun i hi => .inl (by simp only [List.mem_append] at hi ⊢; rcases hi with hi | hi; exact .inl hi; exact .inr (.inr hi))) fun i hi _ _ => hf i fun h => hi (by simp [h])⟩

theorem y66o (b : Bd) (e : Rec) (hb : SB b) (hv : ∀ x ∈ b.ws, watchErr x.w.path x.w.filter x.w.room = 0) (he : eventErr e.act e.path = 0) (p : Nat) (X0 : List Nat) (H0 : Heap) (hB : BX H0 p b X0) : ∃ r H, Run Tryz.prog 66 [.ptr p 0 0, .d e.enc] H0 r H ∧ ∃ X cv, r = .tup [cv, .d (i 0)] ∧ Told H H0.length X cv (told e b.ws) ∧ BHX 0 H p (tellB b e) (X ++ X0) ∧ (∀ i, i ∈ X0 → H[i]? = H0[i]?) ∧ H0.length ≤ H.length := by
  obtain ⟨⟨q, Es, hp, hq, hE, ⟨hpq, hmp, hmq⟩, ⟨hpX, hqX⟩, hO⟩, hXl⟩ := hB; have hlp := lt_of_at hp; have hlq := lt_of_at hq; have hbn := hb.n; have hea := (isAct_iff.1 (eventErr_ok he).1); have hea : e.act < 9223372036854775808 := (by omega)
  refine run_walkQ eok Tryz.func66 rfl (by kernel_rfl) ?_
  conv => whnf
  repeat' (first
    | ((with_reducible refine on_ndec_t (by first | assumption ) ?_); conv => whnf)
    | ((with_reducible refine on_dec_f ?_ ?_); (focus ((try simp only [List.length_map, List.length_cons, List.length_nil, List.length_append]); omega)); conv => whnf)
    | ((with_reducible refine on_dec_t ?_ ?_); (focus ((try simp only [List.length_map, List.length_cons, List.length_nil, List.length_append]); omega)); conv => whnf)
    | ((with_reducible refine onBool_split (fun h => ?_) (fun h => ?_)) <;> conv => whnf)
    | (have hoK2 := hoK.frame (H' := H) (B' := ([p, q, z] ++ [n]) ++ X0) (by (intro i hi; simp only [List.mem_append, List.mem_cons, List.not_mem_nil, or_false] at hi ⊢; rcases hi with hi | hi; (focus (refine (Nat.lt_or_ge i _).elim (fun h9 => .inl (.inl ?_)) .inr; omega)); exact .inl (.inr hi))) (by (intro i hi hmi hlt; simp only [List.mem_append, List.mem_cons, List.not_mem_nil, or_false, not_or] at hi; obtain ⟨hi, hix⟩ := hi; (repeat (first | rfl | refine look_new (by assumption) (by omega) ?_ | refine look_set (by assumption) (by omega) ?_)))); have hne := hoK2.ne; refine call_stepQ (c103 x ⟨e.act, (seesW x.w e).1⟩ (hb.r x (List.mem_of_getElem? hx)) (sees_len he) 0 q k (([p, q, z] ++ [n]) ++ X0) Es _ (by (repeat (first | assumption | refine look_new (by assumption) (by omega) ?_ | refine look_set (by assumption) (by omega) ?_))) (by simp) (by intro i hi; simp only [List.mem_append, List.mem_cons, List.not_mem_nil, or_false] at hi; rcases hi with hi | hi; (focus omega); have := hXl i hi; omega) (by omega) o hoK2 _ (by omega)) (fun r H hQ => ?_); obtain ⟨rfl, hgl, Fs, o2, hq2, hFl, hFo, hO2, hn2, hf2⟩ := hQ; conv => whnf)
    | ((with_reducible refine call_go ?_); (first | refine call_step (run_view (c14 e hea) rfl rfl) ?_ | refine call_step (run_view (c61' x.w e (hv x (List.mem_of_getElem? hx)) he) rfl rfl) ?_); conv => whnf)
    | (refine ⟨[], [], (by decide +kernel), ?_⟩; conv => whnf)
    | ((with_reducible refine loop_go ?_); first | (apply loopG4 (fun (k : Nat) (cv : AV) (X : List Nat) (z : Nat) (H : Heap) => b.ws.length - k) (fun (k : Nat) (cv : AV) (X : List Nat) (z : Nat) (H : Heap) => (k ≤ b.ws.length ∧ H[p]? = some ⟨[.agg [.sl q 0 b.ws.length 7 none, .d (i b.next)]], 2, 0⟩ ∧ H[z]? = some ⟨[.d e.enc], 2, 0⟩ ∧ (H0.length ≤ z ∧ z ∉ X) ∧ H0.length ≤ H.length ∧ (∀ i, i ∈ X0 → H[i]? = H0[i]?)) ∧ Told H H0.length X cv (toldK e b.ws k) ∧ ∃ Es, H[q]? = some ⟨Es, 7, 0⟩ ∧ b.ws.length ≤ Es.length ∧ Own 0 H (([p, q, z] ++ X) ++ X0) Es (wsK e b.ws k) b.ws.length) (fun (k : Nat) (cv : AV) (X : List Nat) (z : Nat) (H : Heap) => [(0, .ptr p 0 0), (3, .ptr z 0 0), (7, cv), (22, .d (i b.ws.length)), (23, .d (i k))]) (0) (.nilS) ([]); rotate_left; (focus (exact .inl ⟨rfl, ⟨(by first | rfl ), (by first | rfl ), (by first | rfl ), (by first | rfl ), (by first | rfl ), trivial⟩⟩)); rotate_left; (focus (exact ⟨⟨Nat.zero_le _, (by (repeat (first | assumption | refine look_new (by assumption) (by omega) ?_ ))), (by (repeat (first | assumption ))), ⟨by omega, by simp⟩, by omega, by (intro i hi; have hil := hXl i hi; have hip : i ≠ p := (fun e => hpX (by rw [← e]; exact hi)); have hiq : i ≠ q := (fun e => hqX (by rw [← e]; exact hi)); (repeat (first | rfl | refine look_new (by assumption) (by omega) ?_ )))⟩, .inl ⟨rfl, rfl, rfl⟩, Es, (by (repeat (first | assumption | refine look_new (by assumption) (by omega) ?_ ))), hE, by rw [wsK_0]; exact hO.frame (by (intro i hi; simp only [List.mem_append, List.mem_cons, List.not_mem_nil, or_false] at hi ⊢; rcases hi with (hi | hi | hi) | hi; (focus (exact .inl (.inl (.inl hi)))); (focus (exact .inl (.inl (.inr hi)))); (focus (exact .inr (by omega))); exact .inl (.inr hi))) (by (intro i hi hmi hlt; have hip : i ≠ p := (fun e => hi (by simp [e])); have hiq : i ≠ q := (fun e => hi (by simp [e])); (repeat (first | rfl | refine look_new (by assumption) (by omega) ?_ ))))⟩)); intro k cv X z H C hI hC; have htk := toldK_len (e := e) (ws := b.ws) (k := k); obtain ⟨⟨hk, h0, h1, ⟨hz, hzX⟩, hgl0, hf0⟩, hT, Es, hqq, hEl, hO⟩ := hI; have hl0 := lt_of_at h0; have hl1 := lt_of_at h1; have hl2 := lt_of_at hqq; rcases hO.lookK rfl hk with hge | ⟨hkk, x, o, a, hx, hEk, hoK, hset⟩ <;> rcases hT.lt hzX with ⟨ht0, rfl, rfl⟩ | ⟨t, rfl, htt, rfl, htm, htl, hzt⟩; all_goals (conv => whnf)))
    | ((with_reducible show C _ _); first | (refine hC (k + 1) (.sl n 0 1 1 none) ([n]) (z) _ _ ?_ (by omega) ?_; clear hC; rotate_left; (exact ⟨(by first | rfl ), (by first | rfl ), (by first | rfl ), (by first | rfl ), (by first | rfl ), trivial⟩); (exact ⟨⟨by omega, (hf2 p (by omega) (by omega) (hne.1 p (by simp))).trans (by (repeat (first | assumption | refine look_new (by assumption) (by omega) ?_ ))), (hf2 z (by omega) (by omega) (hne.1 z (by simp))).trans (by (repeat (first | assumption | refine look_new (by assumption) (by omega) ?_ ))), ⟨by omega, by simp <;> omega⟩, by omega, fun i hi => (by have hil := hXl i hi; have hip : i ≠ p := (fun e => hpX (by rw [← e]; exact hi)); have hiq : i ≠ q := (fun e => hqX (by rw [← e]; exact hi));  exact (hf2 i hiq (by omega) (hne.1 i (by simp [hi]))).trans (by (repeat (first | exact hf0 i hi | refine look_new (by assumption) (by omega) ?_ ))))⟩, by rw [told_t hx (by assumption)]; exact Told.one ht0 ((hf2 n (by omega) (by omega) (hne.1 n (by simp))).trans (by (repeat (first | assumption )))) (by omega), Fs, hq2, by omega, by rw [← wsK_put hx (by assumption)]; exact hset _ _ _ _ _ (by (intro i hi; simp only [List.mem_append, List.mem_cons, List.not_mem_nil, or_false] at hi ⊢; rcases hi with hi | hi; (focus (refine (Nat.lt_or_ge i _).elim (fun h9 => .inl (.inl ?_)) .inr; omega)); exact .inl (.inr hi))) hFo hO2 (fun a ha => (hn2 a ha).imp id (by omega)) (fun i hi hmi hlt hoi => (by simp only [List.mem_append, List.mem_cons, List.not_mem_nil, or_false, not_or] at hi; obtain ⟨hi, hix⟩ := hi; exact (hf2 i (by omega) (by omega) hoi).trans (by (repeat (first | rfl | refine look_new (by assumption) (by omega) ?_ )))))⟩)) | (refine hC (k + 1) (.sl n 0 ((toldK e b.ws k).length + 1) 1 none) ([n]) (z) _ _ ?_ (by omega) ?_; clear hC; rotate_left; (exact ⟨(by first | rfl ), (by first | rfl ), (by first | rfl ), (by first | rfl ), (by first | rfl ), trivial⟩); (exact ⟨⟨by omega, (hf2 p (by omega) (by omega) (hne.1 p (by simp))).trans (by (repeat (first | assumption | refine look_new (by assumption) (by omega) ?_ | refine look_set (by assumption) (by omega) ?_))), (hf2 z (by omega) (by omega) (hne.1 z (by simp))).trans (by (repeat (first | assumption | refine look_new (by assumption) (by omega) ?_ | refine look_set (by assumption) (by omega) ?_))), ⟨by omega, by simp <;> omega⟩, by omega, fun i hi => (by have hil := hXl i hi; have hip : i ≠ p := (fun e => hpX (by rw [← e]; exact hi)); have hiq : i ≠ q := (fun e => hqX (by rw [← e]; exact hi));  exact (hf2 i hiq (by omega) (hne.1 i (by simp [hi]))).trans (by (repeat (first | exact hf0 i hi | refine look_new (by assumption) (by omega) ?_ | refine look_set (by assumption) (by omega) ?_))))⟩, by rw [told_t hx (by assumption)]; exact Told.snoc ((hf2 n (by omega) (by omega) (hne.1 n (by simp))).trans (by (repeat (first | assumption )))) (by omega), Fs, hq2, by omega, by rw [← wsK_put hx (by assumption)]; exact hset _ _ _ _ _ (by (intro i hi; simp only [List.mem_append, List.mem_cons, List.not_mem_nil, or_false] at hi ⊢; rcases hi with hi | hi; (focus (refine (Nat.lt_or_ge i _).elim (fun h9 => .inl (.inl ?_)) .inr; omega)); exact .inl (.inr hi))) hFo hO2 (fun a ha => (hn2 a ha).imp id (by omega)) (fun i hi hmi hlt hoi => (by simp only [List.mem_append, List.mem_cons, List.not_mem_nil, or_false, not_or] at hi; obtain ⟨hi, hix⟩ := hi; exact (hf2 i (by omega) (by omega) hoi).trans (by (repeat (first | rfl | refine look_new (by assumption) (by omega) ?_ | refine look_set (by assumption) (by omega) ?_)))))⟩)) | (refine hC (k + 1) (.nilS) ([]) (z) _ _ ?_ (by omega) ?_; clear hC; rotate_left; (exact ⟨(by first | rfl ), (by first | rfl ), (by first | rfl ), (by first | rfl ), (by first | rfl ), trivial⟩); (exact ⟨⟨by omega, (by (repeat (first | assumption ))), (by (repeat (first | assumption ))), ⟨by omega, hzX⟩, by omega, (by (intro i hi; have hil := hXl i hi; have hip : i ≠ p := (fun e => hpX (by rw [← e]; exact hi)); have hiq : i ≠ q := (fun e => hqX (by rw [← e]; exact hi));  (repeat (first | exact hf0 i hi ))))⟩, by rw [told_f hx (by assumption)]; exact .inl ⟨ht0, rfl, rfl⟩, Es, (by (repeat (first | assumption ))), hEl, by rw [wsK_no hx (by assumption)]; exact hO⟩)) | (refine hC (k + 1) (.sl t 0 (toldK e b.ws k).length 1 none) ([t]) (z) _ _ ?_ (by omega) ?_; clear hC; rotate_left; (exact ⟨(by first | rfl ), (by first | rfl ), (by first | rfl ), (by first | rfl ), (by first | rfl ), trivial⟩); (exact ⟨⟨by omega, (by (repeat (first | assumption ))), (by (repeat (first | assumption ))), ⟨by omega, hzX⟩, by omega, (by (intro i hi; have hil := hXl i hi; have hip : i ≠ p := (fun e => hpX (by rw [← e]; exact hi)); have hiq : i ≠ q := (fun e => hqX (by rw [← e]; exact hi));  (repeat (first | exact hf0 i hi ))))⟩, by rw [told_f hx (by assumption)]; exact .inr ⟨t, rfl, by (repeat (first | assumption )), rfl, htm⟩, Es, (by (repeat (first | assumption ))), hEl, by rw [wsK_no hx (by assumption)]; exact hO⟩)))
    | (refine wrap64 (by omega) ?_; conv => whnf)
    | (refine nthGk hEk ?_; conv => whnf)
    | (refine newG (fun n H hn hl hf ho => ?_); conv => whnf)
    | (refine setG (by first | omega ) (fun H hl hf ho => ?_); (try dsimp only at hl hf); conv => whnf)
    | (refine nthG (x := ?_) ?_ ?_; rotate_left; (focus ((repeat (first | assumption | refine look_new (by assumption) (by omega) ?_ | refine look_set (by assumption) (by omega) ?_)); done)); conv => whnf)
    | (refine ⟨⟨by omega, by omega⟩, ?_⟩; conv => whnf)
    | (refine ⟨Nat.le_refl _, ?_⟩; conv => whnf)
    | (refine ⟨⟨(by simp only [List.length_map, Nat.zero_add]), cap_ok (by simp only [List.length_cons, List.length_nil]; omega) rfl⟩, ?_⟩; conv => whnf)
    | (refine ⟨cap_ok (by (try dsimp only [List.length]); omega) rfl, ?_⟩; conv => whnf)
    | ((with_reducible refine endq_go ?_); first | (exact endq ⟨[], _, rfl, by rw [← toldK_end hge]; exact .inl ⟨ht0, rfl, rfl⟩, BHX.of (tellB_len b e) h0 hqq hEl ⟨hpq, hmp, hmq⟩ ⟨by simp only [List.mem_append, List.mem_cons, List.not_mem_nil, or_false, false_or, not_or]; first | exact hpX | exact ⟨by omega, hpX⟩, by simp only [List.mem_append, List.mem_cons, List.not_mem_nil, or_false, false_or, not_or]; first | exact hqX | exact ⟨by omega, hqX⟩⟩ (by rw [show (tellB b e).ws = wsK e b.ws k from (wsK_end hge).symm]; exact hO.frame (by intro i hi; simp only [List.mem_append, List.mem_cons, List.not_mem_nil, or_false, false_or] at hi ⊢; rcases hi with hi | hi; (focus (exact .inl (.inl (by omega)))); first | exact .inl (.inr hi) ) (fun _ _ _ _ => rfl)), hf0, hgl0⟩; done) | (exact endq ⟨[t], _, rfl, by rw [← toldK_end hge]; exact .inr ⟨t, rfl, htt, rfl, htm⟩, BHX.of (tellB_len b e) h0 hqq hEl ⟨hpq, hmp, hmq⟩ ⟨by simp only [List.mem_append, List.mem_cons, List.not_mem_nil, or_false, false_or, not_or]; first | exact hpX | exact ⟨by omega, hpX⟩, by simp only [List.mem_append, List.mem_cons, List.not_mem_nil, or_false, false_or, not_or]; first | exact hqX | exact ⟨by omega, hqX⟩⟩ (by rw [show (tellB b e).ws = wsK e b.ws k from (wsK_end hge).symm]; exact hO.frame (by intro i hi; simp only [List.mem_append, List.mem_cons, List.not_mem_nil, or_false, false_or] at hi ⊢; rcases hi with hi | hi; (focus (exact .inl (.inl (by omega)))); first | (rcases hi with hi | hi; (focus (exact .inl (.inl (by omega)))); exact .inl (.inr hi))) (fun _ _ _ _ => rfl)), hf0, hgl0⟩; done))
    | fail
    )

end Go.Proofs.YtbkmjpmgiaiacaaGreatDoor

/-! Yb -/
namespace Go.Proofs.YtbkmjpmgiaiacaaGreatDoor
open Go Dw Paths
set_option linter.unusedVariables false
attribute [local irreducible] Run
attribute [local irreducible] newD Own checkB addErr roomy bsR ixB dropB addB sz roomOf
theorem give_X {f : Nat} {args : List AV} {b' : Bd} {p : Nat} {H0 H : Heap} {Xc X : List Nat} {cv : AV} {x : D} {e : Int} (h1 : Run Tryz.prog f args H0 (.tup [cv, .d (i e)]) H) (hv : view 7 H cv = some x) (hr : reach 7 H cv = Xc)
    (h3 : BHX 0 H p b' (Xc ++ X)) (hXc : ∀ i ∈ Xc, H0.length ≤ i) (hXl : ∀ i ∈ X, i < H0.length) (hf : ∀ i ∈ X, H[i]? = H0[i]?) : ∃ r H', Run Tryz.prog f args H0 r H' ∧ (r = .d (.tup [x, i e]) ∧ BX H' p b' X ∧ ∀ i ∈ X, H'[i]? = H0[i]?) := by
  have hr2 : reach 8 H (.tup [cv, .d (i e)]) = Xc := by
    show ([cv, AV.d (i e)]).flatMap (reach 7 H) = Xc
    rw [List.flatMap_cons, hr]
    simp [reach]
  have key : ∀ j ∈ X, (Dw.freeze H (reach 8 H (.tup [cv, .d (i e)])))[j]? = H0[j]? := fun j hj => by
    rw [freeze_at (by rw [hr2]; intro h; have := hXc j h; have := hXl j hj; omega)]
    exact hf j hj
  refine ⟨_, _, run_giveH h1 (view_tup (vlc hv (vlc rfl vln))), rfl, ⟨h3.frame2 (fun i hi => freeze_at (by rw [hr2]; exact hi)), fun j hj => ?_⟩, key⟩
  have h5 := key j hj
  rw [List.getElem?_eq_getElem (hXl j hj)] at h5
  exact lt_of_at h5
theorem rd_finX {f : Nat} {args : List AV} {b' : Bd} {p : Nat} {H0 H : Heap} {Xc X : List Nat} {cv : AV} {l : List Rec} {e : Int} (h1 : Run Tryz.prog f args H0 (.tup [cv, .d (i e)]) H) (hv : view 7 H cv = some (.fs (l.map Rec.enc))) (hr : reach 7 H cv = Xc)
    (h3 : BHX 0 H p b' (Xc ++ X)) (hXc : ∀ i ∈ Xc, H0.length ≤ i) (hXl : ∀ i ∈ X, i < H0.length) (hf : ∀ i ∈ X, H[i]? = H0[i]?) : ∃ r H', Run Tryz.prog f args H0 r H' ∧ (r = .d (.tup [.fs (l.map Rec.enc), i e]) ∧ BX H' p b' X ∧ ∀ i ∈ X, H'[i]? = H0[i]?) := give_X h1 hv hr h3 hXc hXl hf
/-- read: what is read is data. -/
theorem y69 (b : Bd) (t most : Int) (hb : SB b) (hc : asc b.ws) (a : Nat) (ha : ixB t b.ws 0 = a) (hm : within most 0 400 = true) (x : BW) (hx : b.ws[a]? = some x) (p : Nat) (X : List Nat) (H0 : Heap) (hB : BX H0 p b X) :
    ∃ r H, Run Tryz.prog 69 [.ptr p 0 0, .d (i t), .d (i most)] H0 r H ∧ (r = .d (.tup [.fs ((readL x most).map Rec.enc), i (readC x)]) ∧ BX H p (readB b a most) X ∧ ∀ i ∈ X, H[i]? = H0[i]?) := by
  obtain ⟨⟨q, Es, hp, hq, hE, hd, ⟨hpX, hqX⟩, hO⟩, hXl⟩ := hB
  have hOp : Own 0 H0 [p, q] Es b.ws b.ws.length := hO.less fun i hi => by simp only [List.mem_append]; exact .inl hi
  have hlp := lt_of_at hp; have hlq := lt_of_at hq
  have hXq : ∀ i ∈ X, i ≠ q := fun i hi e => hqX (e ▸ hi)
  obtain ⟨hla, hxa⟩ := List.getElem?_eq_some_iff.1 hx
  obtain ⟨o, hoK, hset⟩ := hO.focus (Nat.le_refl _) hla
  rw [hxa] at hoK
  have hs : small x.recs := hb.r x (hxa ▸ List.getElem_mem hla)
  have hn := readN_le x.recs most
  have hlen : b.ws.length = (readB b a most).ws.length := by rw [readB_ws hx, List.length_set]
  have hnext : (readB b a most).next = b.next := by rw [readB_ws hx]
  have hws : (readB b a most).ws = b.ws.set a (readW x most) := by rw [readB_ws hx]
  obtain ⟨d1, d2, d3⟩ := hd
  by_cases hlo : x.lost = true
  · have hW : readW x most = ⟨x.id, x.w, x.recs, false⟩ := by unfold readW; rw [if_pos hlo]
    have hL : readL x most = [] := by unfold readL; rw [if_pos hlo]
    have hC : readC x = 16 := by unfold readC; rw [if_pos hlo]
    rw [hL, hC]
    have key : ∀ cr : AV, Es[a]? = some (bwX x cr) → (∀ (H : Heap) (Fs : List AV), (∀ i, i ≠ q → i < H0.length → H[i]? = H0[i]?) → Fs[a]? = some (bwX ⟨x.id, x.w, x.recs, false⟩ cr) → OwnAt 0 H ([p, q] ++ X) Fs[a]? ⟨x.id, x.w, x.recs, false⟩ o) → ∃ r H, Run Tryz.prog 69 [.ptr p 0 0, .d (i t), .d (i most)] H0 r H ∧ (r = .d (.tup [.fs (([] : List Rec).map Rec.enc), i 16]) ∧ BX H p (readB b a most) X ∧ ∀ i ∈ X, H[i]? = H0[i]?) := by
      intro cr hEa hown
      obtain ⟨r, H, h1, rfl, h2, Fs, h3, h4, h5, h6, h7⟩ := c69l b t most hb hc 0 p q Es H0 hp hq hE ⟨d1, d2, d3⟩ hOp a ha hm hla x cr hEa hlo
      refine rd_finX (Xc := []) h1 rfl rfl (BHX.of hlen (by rw [hnext, h7 p d1 hlp]; exact hp) h3 (by omega) ⟨d1, d2, d3⟩ ⟨hpX, hqX⟩ ?_) (fun i h => by cases h) hXl (fun i hi => h7 i (hXq i hi) (hXl i hi))
      rw [hws, hW]
      exact hset H ([p, q] ++ X) Fs ⟨x.id, x.w, x.recs, false⟩ o (fun i hi => .inl hi) h5 (hown H Fs h7 h6) (fun a h => .inl h) (fun i hi _ hlt _ => h7 i (fun e => hi (by simp [e])) hlt)
    rcases hoK.split with ⟨rfl, hr0, hEa⟩ | ⟨id, A, rfl, hEa, hid, hlA, htA, hidB, hidm⟩
    · exact key .nilS hEa fun H Fs _ h => ⟨hr0, h⟩
    · exact key (.sl id 0 x.recs.length 2 none) hEa fun H Fs hf h => ⟨h, RecAt.look ⟨A, hid, hlA, htA⟩ (hf id (fun e => hidB (by simp [e])) (lt_of_at hid)), hidB, hidm⟩
  · have hlo' : x.lost = false := by simpa using hlo
    have hW : readW x most = ⟨x.id, x.w, x.recs.drop (readN x.recs most), x.lost⟩ := by unfold readW; rw [if_neg hlo]
    have hL : readL x most = x.recs.take (readN x.recs most) := by unfold readL; rw [if_neg hlo]
    have hC : readC x = 0 := by unfold readC; rw [if_neg hlo]
    rw [hL, hC]
    have hlt : (x.recs.take (readN x.recs most)).length = readN x.recs most := by rw [List.length_take]; omega
    have fin : ∀ (H : Heap) (c : Nat) (Fs : List AV) (o' : Option Nat), Run Tryz.prog 69 [.ptr p 0 0, .d (i t), .d (i most)] H0 (.tup [.sl c 0 (readN x.recs most) 2 none, .d (i 0)]) H → H[c]? = some ⟨((x.recs.take (readN x.recs most)).map Rec.enc).map .d, 2, 0⟩ → H0.length ≤ c → H[q]? = some ⟨Fs, 7, 0⟩ → Fs.length = Es.length → (∀ i, i ≠ a → Fs[i]? = Es[i]?) → (∀ i, i ≠ q → o ≠ some i → i < H0.length → H[i]? = H0[i]?) → OwnAt 0 H ([p, q] ++ ([c] ++ X)) Fs[a]? (readW x most) o' → (∀ a, o' = some a → o = some a) → ∃ r H, Run Tryz.prog 69 [.ptr p 0 0, .d (i t), .d (i most)] H0 r H ∧ (r = .d (.tup [.fs ((x.recs.take (readN x.recs most)).map Rec.enc), i 0]) ∧ BX H p (readB b a most) X ∧ ∀ i ∈ X, H[i]? = H0[i]?) := by
      intro H c Fs o' h1 hc1 hc2 h3 h4 h5 h6 h7 h8
      have hv : view 7 H (.sl c 0 (readN x.recs most) 2 none) = some (.fs ((x.recs.take (readN x.recs most)).map Rec.enc)) := by
        have := view_rec (n := 4) (c := none) (RecAt.of hc1)
        rwa [hlt] at this
      have hne := hoK.ne
      refine rd_finX (Xc := [c]) h1 hv (reach_recs hc1) (BHX.of hlen (by rw [hnext, h6 p d1 (hne.1 p (by simp)) hlp]; exact hp) h3 (by omega) ⟨d1, d2, d3⟩ ⟨by simp only [List.mem_append, List.mem_singleton, not_or]; exact ⟨by omega, hpX⟩, by simp only [List.mem_append, List.mem_singleton, not_or]; exact ⟨by omega, hqX⟩⟩ ?_) (fun i hi => by rw [List.mem_singleton.1 hi]; omega) hXl (fun i hi => h6 i (hXq i hi) (hne.1 i (by simp [hi])) (hXl i hi))
      rw [hws]
      exact hset H ([p, q] ++ ([c] ++ X)) Fs (readW x most) o' (fun i hi => by
        simp only [List.mem_append, List.mem_cons, List.not_mem_nil, or_false] at hi ⊢
        rcases hi with hi | hi | hi
        · exact .inl (.inl hi)
        · exact .inr (by omega)
        · exact .inl (.inr hi)) h5 h7 (fun a h => .inl (h8 a h)) (fun i hi _ hlt hne => h6 i (fun e => hi (by simp [e])) hne hlt)
    rcases hoK.split with ⟨rfl, hr0, hEa⟩ | ⟨id, A, rfl, hEa, hid, hlA, htA, hidB, hidm⟩
    · obtain ⟨r, H, h1, c, rfl, hc1, hc2, Fs, h3, h4, h5, h6, h7⟩ := c69n b t most hb hc 0 p q Es H0 hp hq hE ⟨d1, d2, d3⟩ hOp a ha hm hla x hEa hlo' hr0
      exact fin H c Fs none h1 hc1 hc2 h3 h4 h5 (fun i hi _ hl => h7 i hi hl) ⟨by rw [hW]; show x.recs.drop _ = []; rw [hr0, List.drop_nil], by rw [hW]; exact h6⟩ (fun a h => by cases h)
    · obtain ⟨r, H, h1, c, rfl, hc1, hc2, Fs, h3, h4, h5, h6, h7, F, hF, hFl, hFa⟩ := c69s b t most hb hc 0 p q Es H0 hp hq hE ⟨d1, d2, d3⟩ hOp a ha hm hla x id A hEa hlo' hs hid hlA htA ⟨fun e => hidB (by simp [e]), fun e => hidB (by simp [e])⟩
      have hlid := lt_of_at hid
      refine fin H c Fs (some id) h1 hc1 hc2 h3 h4 h5 (fun i hi hn hl => h7 i hi (fun e => hn (by rw [e])) hl) ?_ (fun a h => h)
      rw [hW]
      have hdl : (x.recs.drop (readN x.recs most)).length = x.recs.length - readN x.recs most := List.length_drop
      refine ⟨by rw [h6]; unfold bwA; rw [show (BW.mk x.id x.w (x.recs.drop (readN x.recs most)) x.lost).recs.length = x.recs.length - readN x.recs most from hdl]; rfl, ⟨F, hF, by show (x.recs.drop _).length ≤ _; omega, fun j r hr => ?_⟩, fun hb => ?_, hidm⟩
      · have hr : (x.recs.drop (readN x.recs most))[j]? = some r := hr
        have hj := lt_of_at hr
        rw [List.getElem?_drop] at hr
        rw [hFa j (by omega)]
        exact htA _ r hr
      · simp only [List.mem_append, List.mem_cons, List.not_mem_nil, or_false] at hb hidB
        rcases hb with hb | hb | hb
        · exact hidB (.inl hb)
        · omega
        · exact hidB (.inr hb)

theorem BX.keep {H H' : Heap} {p : Nat} {b : Bd} {X : List Nat} (h : BX H p b X) (hf : ∀ i, i < H.length → H'[i]? = H[i]?) : BX H' p b X ∧ ∀ i ∈ X, H'[i]? = H[i]? := by
  obtain ⟨⟨q, Es, hp, hq, hE, hd, hX, hO⟩, hXl⟩ := h
  refine ⟨⟨⟨q, Es, by rw [hf p (lt_of_at hp)]; exact hp, by rw [hf q (lt_of_at hq)]; exact hq, hE, hd, hX, hO.frame (fun i hi => .inl hi) fun i _ _ hl => hf i hl⟩, fun i hi => ?_⟩, fun i hi => hf i (hXl i hi)⟩
  have h5 := hf i (hXl i hi)
  rw [List.getElem?_eq_getElem (hXl i hi)] at h5
  exact lt_of_at h5
theorem y69x (b : Bd) (t most : Int) (hb : SB b) (hc : asc b.ws) (he : ¬ findE b t most = 0) (p : Nat) (X : List Nat) (H0 : Heap) (hB : BX H0 p b X) : ∃ r H, Run Tryz.prog 69 [.ptr p 0 0, .d (i t), .d (i most)] H0 r H ∧ (r = .d (.tup [.fs [], i (findE b t most)]) ∧ BX H p b X ∧ ∀ i ∈ X, H[i]? = H0[i]?) := by
  have fin : ∀ (e : Int) (H : Heap), Run Tryz.prog 69 [.ptr p 0 0, .d (i t), .d (i most)] H0 (.tup [.nilS, .d (i e)]) H → (∀ i, i < H0.length → H[i]? = H0[i]?) → ∃ r H, Run Tryz.prog 69 [.ptr p 0 0, .d (i t), .d (i most)] H0 r H ∧ (r = .d (.tup [.fs [], i e]) ∧ BX H p b X ∧ ∀ i ∈ X, H[i]? = H0[i]?) := by
    intro e H h1 hf
    obtain ⟨h2, h3⟩ := hB.keep hf
    exact give_X (Xc := []) h1 rfl rfl h2.1 (fun i h => by cases h) hB.2 h3
  have hBH := hB.toBH
  by_cases h6 : ixB t b.ws 0 < 0
  · have e6 : findE b t most = 6 := by unfold findE; rw [if_pos h6]
    obtain ⟨x, hn⟩ := c104n b t hb hc (by omega) 0 p H0 hBH
    obtain ⟨q, Es, hp, hq, hE, hd, hO⟩ := hBH
    obtain ⟨r, H, h1, rfl, h2, h3⟩ := c69f b t most hb hc 0 p q Es H0 hp hq hE hd hO x hn
    rw [e6]; exact fin 6 H h1 h3
  · by_cases hw : within most 0 400 = true
    · exfalso; apply he; unfold findE; rw [if_neg h6, if_pos hw]
    · have e2 : findE b t most = 2 := by unfold findE; rw [if_neg h6, if_neg hw]
      obtain ⟨q, Es, hp, hq, hE, hd, hO⟩ := hBH
      obtain ⟨r, H, h1, rfl, h2, h3⟩ := c69r b t most hb hc 0 p q Es H0 hp hq hE hd hO (ixB t b.ws 0).toNat (by omega) hw
      rw [e2]; exact fin 2 H h1 h3
/-- tell: the numbers are data. -/
theorem y66 (b : Bd) (e : Rec) (hb : SB b) (hv : ∀ x ∈ b.ws, watchErr x.w.path x.w.filter x.w.room = 0) (he : eventErr e.act e.path = 0) (p : Nat) (X : List Nat) (H0 : Heap) (hB : BX H0 p b X) : ∃ r H, Run Tryz.prog 66 [.ptr p 0 0, .d e.enc] H0 r H ∧ (r = .d (.tup [.fs ((told e b.ws).map i), i 0]) ∧ BX H p (tellB b e) X ∧ ∀ i ∈ X, H[i]? = H0[i]?) := by
  obtain ⟨r, H, h1, Xc, cv, rfl, h2, h3, h4, h5⟩ := y66o b e hb hv he p X H0 hB
  refine give_X h1 h2.view h2.reach h3 (fun i hi => ?_) hB.2 h4
  rcases h2 with ⟨_, _, rfl⟩ | ⟨t, _, _, rfl, ht⟩
  · cases hi
  · rw [List.mem_singleton.1 hi]; exact ht
theorem y66e (b : Bd) (e : Rec) (hea : e.act < 9223372036854775808) (he : ¬ eventErr e.act e.path = 0) (p : Nat) (X : List Nat) (H0 : Heap) (hB : BX H0 p b X) : ∃ r H, Run Tryz.prog 66 [.ptr p 0 0, .d e.enc] H0 r H ∧ (r = .d (.tup [.fs [], i (eventErr e.act e.path)]) ∧ BX H p b X ∧ ∀ i ∈ X, H[i]? = H0[i]?) := by
  obtain ⟨r, H, h1, rfl, h2, _, h4⟩ := c66e b e hea he 0 p H0 (Nat.zero_le _)
  obtain ⟨h5, h6⟩ := hB.keep h4
  exact give_X (Xc := []) h1 rfl rfl h5.1 (fun i h => by cases h) hB.2 h6
theorem y71e (b : Bd) (w : Wt) (hb : SB b) (h0 : ¬ addErr b w = 0) (p : Nat) (X : List Nat) (H0 : Heap) (hB : BX H0 p b X) : ∃ r H, Run Tryz.prog 71 [.ptr p 0 0, .d w.enc] H0 r H ∧ (r = .tup [.d (i 0), .d (i (addErr b w))] ∧ BX H p b X ∧ ∀ i ∈ X, H[i]? = H0[i]?) := by
  by_cases h8 : (b.ws.length : Int) < 8
  · exact y71e1 b w hb h8 h0 p X H0 hB
  · exact y71e2 b w hb h8 h0 p X H0 hB
end Go.Proofs.YtbkmjpmgiaiacaaGreatDoor

/-! Yc -/
namespace Go.Proofs.YtbkmjpmgiaiacaaGreatDoor
open Go Dw
set_option maxRecDepth 10000
set_option linter.unusedVariables false
set_option linter.unusedSimpArgs false
attribute [local irreducible] Run
set_option maxHeartbeats 4000000

open Paths
structure Act where
  kind : Int
  w : Wt
  id : Int
  room : Int
  ev : Rec
def Act.enc (a : Act) : D := .agg [i a.kind, .str a.w.path, .bool a.w.deep, i a.w.filter, i a.w.room, i a.id, i a.room, i a.ev.act, .str a.ev.path]
structure Ans where
  err : Int
  id : Int
  told : List Int
  recs : List Rec
def Ans.enc (r : Ans) : D := .agg [i r.err, i r.id, .fs (r.told.map i), .fs (r.recs.map Rec.enc)]
theorem BX.more {H H' : Heap} {p n : Nat} {b : Bd} {X : List Nat} (h : BX H p b X) (hf : ∀ i, i < H.length → H'[i]? = H[i]?) (hn : H.length ≤ n) (hl : n < H'.length) : BX H' p b (n :: X) := by
  obtain ⟨h2, _⟩ := h.keep hf
  obtain ⟨⟨q, Es, hp, hq, hE, hd, ⟨hpX, hqX⟩, hO⟩, hXl⟩ := h
  obtain ⟨_, h3⟩ := h2
  refine ⟨⟨q, Es, by rw [hf p (lt_of_at hp)]; exact hp, by rw [hf q (lt_of_at hq)]; exact hq, hE, hd, ⟨?_, ?_⟩, hO.frame (fun i hi => ?_) fun i _ _ hl => hf i hl⟩, ?_⟩
  · have := lt_of_at hp
    simp only [List.mem_cons, not_or]; exact ⟨by omega, hpX⟩
  · have := lt_of_at hq
    simp only [List.mem_cons, not_or]; exact ⟨by omega, hqX⟩
  · simp only [List.mem_append, List.mem_cons, List.not_mem_nil, or_false] at hi ⊢
    rcases hi with hi | hi | hi
    · exact .inl (.inl hi)
    · exact .inr (by omega)
    · exact .inl (.inr hi)
  · intro i hi
    rcases List.mem_cons.1 hi with rfl | hi
    · exact hl
    · exact h3 i hi
theorem BX.sub {H H' : Heap} {p n : Nat} {b : Bd} {X : List Nat} (h : BX H p b (n :: X)) (hf : ∀ i, i ≠ n → H'[i]? = H[i]?) (hl : H'.length = H.length) : BX H' p b X :=
  ⟨BHX.frame2 (X := [n]) h.1 fun i hi => hf i (by simpa using hi), fun i hi => by rw [hl]; exact h.2 i (List.mem_cons_of_mem _ hi)⟩
theorem agg_w {f p : Nat} {w : Wt} {H0 : Heap} {Q : AV → Heap → Prop} (h : ∃ r H, Run Tryz.prog f [.ptr p 0 0, .d w.enc] H0 r H ∧ Q r H) : ∃ r H, Run Tryz.prog f [.ptr p 0 0, .agg [.d (.str w.path), .d (.bool w.deep), .d (i w.filter), .d (i w.room)]] H0 r H ∧ Q r H := by
  obtain ⟨r, H, h1, h2⟩ := h
  exact ⟨r, H, run_agg2 (xs := [.str w.path, .bool w.deep, i w.filter, i w.room]) h1, h2⟩
theorem agg_e {f p : Nat} {e : Rec} {H0 : Heap} {Q : AV → Heap → Prop} (h : ∃ r H, Run Tryz.prog f [.ptr p 0 0, .d e.enc] H0 r H ∧ Q r H) : ∃ r H, Run Tryz.prog f [.ptr p 0 0, .agg [.d (i e.act), .d (.str e.path)]] H0 r H ∧ Q r H := by
  obtain ⟨r, H, h1, h2⟩ := h
  exact ⟨r, H, run_agg2 (xs := [i e.act, .str e.path]) h1, h2⟩
attribute [local irreducible] newD Own checkB addErr roomy bsR ixB dropB addB sz roomOf putB seesW belowI readB readL readC readN findE tellB told eventErr watchErr BX

theorem y83ao (b : Bd) (w : Wt) (id room : Int) (ev : Rec) (p : Nat) (X : List Nat) (H0 : Heap) (hB : BX H0 p b X) (hb : SB b) (hnx : 1 ≤ b.next ∧ b.next ≤ 2147483647) (h0 : addErr b w = 0) : ∃ r H, Run Tryz.prog 83 [.ptr p 0 0, .d (Act.mk 0 w id room ev).enc] H0 r H ∧ (r = .agg [.d (i 0), .d (i b.next), .nilS, .nilS] ∧ BX H p (addB b w) X ∧ ∀ i ∈ X, H[i]? = H0[i]?) := by
  have hXl : ∀ i ∈ X, i < H0.length := (by unfold BX at hB; exact hB.2)
  refine run_walkQ eok Tryz.func83 rfl (by kernel_rfl) ?_
  conv => whnf
  repeat' (first
    | (refine call_stepQ (agg_w (y71o b w hb hnx h0 p (n :: X) _ (hB.more (by intro i hi; (repeat (first | rfl | refine look_new (by assumption) (by omega) ?_ ))) (by omega) (by omega)))) (fun r H hQ => ?_); obtain ⟨rfl, hB2, hf2⟩ := hQ; have hz := (hf2 n (by simp)).trans (by assumption); have hlz := lt_of_at hz; conv => whnf)
    | (refine newG (fun n H hn hl hf ho => ?_); conv => whnf)
    | (refine setG (by first | omega | exact lt_of_at (by (repeat (first | assumption )))) (fun H hl hf ho => ?_); (try dsimp only at hl hf); conv => whnf)
    | (refine nthG (x := ?_) ?_ ?_; rotate_left; (focus ((repeat (first | assumption | refine look_new (by assumption) (by omega) ?_ )); done)); conv => whnf)
    | ((with_reducible refine endq_go ?_); first | (exact endq ⟨rfl, hB2.sub (by intro i hi; (repeat (first | rfl | refine look_set (by assumption) (by omega) ?_))) (by omega), by (intro i hi; have hil := hXl i hi; have hin : i ≠ n := (by omega); (repeat (first | rfl | (refine Eq.trans (hf2 i (by simp [hi])) ?_) | refine look_new (by assumption) (by omega) ?_ | refine look_set (by assumption) (by omega) ?_)))⟩; done))
    | fail
    )

theorem y83ae (b : Bd) (w : Wt) (id room : Int) (ev : Rec) (p : Nat) (X : List Nat) (H0 : Heap) (hB : BX H0 p b X) (hb : SB b) (h0 : ¬ addErr b w = 0) : ∃ r H, Run Tryz.prog 83 [.ptr p 0 0, .d (Act.mk 0 w id room ev).enc] H0 r H ∧ (r = .agg [.d (i (addErr b w)), .d (i 0), .nilS, .nilS] ∧ BX H p b X ∧ ∀ i ∈ X, H[i]? = H0[i]?) := by
  have hXl : ∀ i ∈ X, i < H0.length := (by unfold BX at hB; exact hB.2)
  refine run_walkQ eok Tryz.func83 rfl (by kernel_rfl) ?_
  conv => whnf
  repeat' (first
    | (refine call_stepQ (agg_w (y71e b w hb h0 p (n :: X) _ (hB.more (by intro i hi; (repeat (first | rfl | refine look_new (by assumption) (by omega) ?_ ))) (by omega) (by omega)))) (fun r H hQ => ?_); obtain ⟨rfl, hB2, hf2⟩ := hQ; have hz := (hf2 n (by simp)).trans (by assumption); have hlz := lt_of_at hz; conv => whnf)
    | (refine newG (fun n H hn hl hf ho => ?_); conv => whnf)
    | (refine setG (by first | omega | exact lt_of_at (by (repeat (first | assumption )))) (fun H hl hf ho => ?_); (try dsimp only at hl hf); conv => whnf)
    | (refine nthG (x := ?_) ?_ ?_; rotate_left; (focus ((repeat (first | assumption | refine look_new (by assumption) (by omega) ?_ )); done)); conv => whnf)
    | ((with_reducible refine endq_go ?_); first | (exact endq ⟨rfl, hB2.sub (by intro i hi; (repeat (first | rfl | refine look_set (by assumption) (by omega) ?_))) (by omega), by (intro i hi; have hil := hXl i hi; have hin : i ≠ n := (by omega); (repeat (first | rfl | (refine Eq.trans (hf2 i (by simp [hi])) ?_) | refine look_new (by assumption) (by omega) ?_ | refine look_set (by assumption) (by omega) ?_)))⟩; done))
    | fail
    )

theorem y83do (b : Bd) (w : Wt) (id room : Int) (ev : Rec) (p : Nat) (X : List Nat) (H0 : Heap) (hB : BX H0 p b X) (hb : SB b) (hc : asc b.ws) (a : Nat) (ha : ixB id b.ws 0 = a) : ∃ r H, Run Tryz.prog 83 [.ptr p 0 0, .d (Act.mk 1 w id room ev).enc] H0 r H ∧ (r = .agg [.d (i 0), .d (i 0), .nilS, .nilS] ∧ BX H p (dropB b id) X ∧ ∀ i ∈ X, H[i]? = H0[i]?) := by
  have hXl : ∀ i ∈ X, i < H0.length := (by unfold BX at hB; exact hB.2)
  refine run_walkQ eok Tryz.func83 rfl (by kernel_rfl) ?_
  conv => whnf
  repeat' (first
    | (refine call_stepQ ((y78o b id a hb hc ha p (n :: X) _ (hB.more (by intro i hi; (repeat (first | rfl | refine look_new (by assumption) (by omega) ?_ ))) (by omega) (by omega)))) (fun r H hQ => ?_); obtain ⟨rfl, hB2, hf2⟩ := hQ; have hz := (hf2 n (by simp)).trans (by assumption); have hlz := lt_of_at hz; conv => whnf)
    | (refine newG (fun n H hn hl hf ho => ?_); conv => whnf)
    | (refine setG (by first | omega | exact lt_of_at (by (repeat (first | assumption )))) (fun H hl hf ho => ?_); (try dsimp only at hl hf); conv => whnf)
    | (refine nthG (x := ?_) ?_ ?_; rotate_left; (focus ((repeat (first | assumption | refine look_new (by assumption) (by omega) ?_ )); done)); conv => whnf)
    | ((with_reducible refine endq_go ?_); first | (exact endq ⟨rfl, hB2.sub (by intro i hi; (repeat (first | rfl | refine look_set (by assumption) (by omega) ?_))) (by omega), by (intro i hi; have hil := hXl i hi; have hin : i ≠ n := (by omega); (repeat (first | rfl | (refine Eq.trans (hf2 i (by simp [hi])) ?_) | refine look_new (by assumption) (by omega) ?_ | refine look_set (by assumption) (by omega) ?_)))⟩; done))
    | fail
    )

theorem y83de (b : Bd) (w : Wt) (id room : Int) (ev : Rec) (p : Nat) (X : List Nat) (H0 : Heap) (hB : BX H0 p b X) (hb : SB b) (hc : asc b.ws) (ha : ¬ 0 ≤ ixB id b.ws 0) : ∃ r H, Run Tryz.prog 83 [.ptr p 0 0, .d (Act.mk 1 w id room ev).enc] H0 r H ∧ (r = .agg [.d (i 6), .d (i 0), .nilS, .nilS] ∧ BX H p b X ∧ ∀ i ∈ X, H[i]? = H0[i]?) := by
  have hXl : ∀ i ∈ X, i < H0.length := (by unfold BX at hB; exact hB.2)
  refine run_walkQ eok Tryz.func83 rfl (by kernel_rfl) ?_
  conv => whnf
  repeat' (first
    | (refine call_stepQ ((y78n b id hb hc ha p (n :: X) _ (hB.more (by intro i hi; (repeat (first | rfl | refine look_new (by assumption) (by omega) ?_ ))) (by omega) (by omega)))) (fun r H hQ => ?_); obtain ⟨rfl, hB2, hf2⟩ := hQ; have hz := (hf2 n (by simp)).trans (by assumption); have hlz := lt_of_at hz; conv => whnf)
    | (refine newG (fun n H hn hl hf ho => ?_); conv => whnf)
    | (refine setG (by first | omega | exact lt_of_at (by (repeat (first | assumption )))) (fun H hl hf ho => ?_); (try dsimp only at hl hf); conv => whnf)
    | (refine nthG (x := ?_) ?_ ?_; rotate_left; (focus ((repeat (first | assumption | refine look_new (by assumption) (by omega) ?_ )); done)); conv => whnf)
    | ((with_reducible refine endq_go ?_); first | (exact endq ⟨rfl, hB2.sub (by intro i hi; (repeat (first | rfl | refine look_set (by assumption) (by omega) ?_))) (by omega), by (intro i hi; have hil := hXl i hi; have hin : i ≠ n := (by omega); (repeat (first | rfl | (refine Eq.trans (hf2 i (by simp [hi])) ?_) | refine look_new (by assumption) (by omega) ?_ | refine look_set (by assumption) (by omega) ?_)))⟩; done))
    | fail
    )

theorem y83to (b : Bd) (w : Wt) (id room : Int) (ev : Rec) (p : Nat) (X : List Nat) (H0 : Heap) (hB : BX H0 p b X) (hb : SB b) (hv : ∀ x ∈ b.ws, watchErr x.w.path x.w.filter x.w.room = 0) (he : eventErr ev.act ev.path = 0) : ∃ r H, Run Tryz.prog 83 [.ptr p 0 0, .d (Act.mk 2 w id room ev).enc] H0 r H ∧ (r = .agg [.d (i 0), .d (i 0), .d (.fs ((told ev b.ws).map i)), .nilS] ∧ BX H p (tellB b ev) X ∧ ∀ i ∈ X, H[i]? = H0[i]?) := by
  have hXl : ∀ i ∈ X, i < H0.length := (by unfold BX at hB; exact hB.2)
  refine run_walkQ eok Tryz.func83 rfl (by kernel_rfl) ?_
  conv => whnf
  repeat' (first
    | (refine call_stepQ (agg_e (y66 b ev hb hv he p (n :: X) _ (hB.more (by intro i hi; (repeat (first | rfl | refine look_new (by assumption) (by omega) ?_ ))) (by omega) (by omega)))) (fun r H hQ => ?_); obtain ⟨rfl, hB2, hf2⟩ := hQ; have hz := (hf2 n (by simp)).trans (by assumption); have hlz := lt_of_at hz; conv => whnf)
    | (refine newG (fun n H hn hl hf ho => ?_); conv => whnf)
    | (refine setG (by first | omega | exact lt_of_at (by (repeat (first | assumption )))) (fun H hl hf ho => ?_); (try dsimp only at hl hf); conv => whnf)
    | (refine nthG (x := ?_) ?_ ?_; rotate_left; (focus ((repeat (first | assumption | refine look_new (by assumption) (by omega) ?_ )); done)); conv => whnf)
    | ((with_reducible refine endq_go ?_); first | (exact endq ⟨rfl, hB2.sub (by intro i hi; (repeat (first | rfl | refine look_set (by assumption) (by omega) ?_))) (by omega), by (intro i hi; have hil := hXl i hi; have hin : i ≠ n := (by omega); (repeat (first | rfl | (refine Eq.trans (hf2 i (by simp [hi])) ?_) | refine look_new (by assumption) (by omega) ?_ | refine look_set (by assumption) (by omega) ?_)))⟩; done))
    | fail
    )

theorem y83te (b : Bd) (w : Wt) (id room : Int) (ev : Rec) (p : Nat) (X : List Nat) (H0 : Heap) (hB : BX H0 p b X) (hea : ev.act < 9223372036854775808) (he : ¬ eventErr ev.act ev.path = 0) : ∃ r H, Run Tryz.prog 83 [.ptr p 0 0, .d (Act.mk 2 w id room ev).enc] H0 r H ∧ (r = .agg [.d (i (eventErr ev.act ev.path)), .d (i 0), .d (.fs []), .nilS] ∧ BX H p b X ∧ ∀ i ∈ X, H[i]? = H0[i]?) := by
  have hXl : ∀ i ∈ X, i < H0.length := (by unfold BX at hB; exact hB.2)
  refine run_walkQ eok Tryz.func83 rfl (by kernel_rfl) ?_
  conv => whnf
  repeat' (first
    | (refine call_stepQ (agg_e (y66e b ev hea he p (n :: X) _ (hB.more (by intro i hi; (repeat (first | rfl | refine look_new (by assumption) (by omega) ?_ ))) (by omega) (by omega)))) (fun r H hQ => ?_); obtain ⟨rfl, hB2, hf2⟩ := hQ; have hz := (hf2 n (by simp)).trans (by assumption); have hlz := lt_of_at hz; conv => whnf)
    | (refine newG (fun n H hn hl hf ho => ?_); conv => whnf)
    | (refine setG (by first | omega | exact lt_of_at (by (repeat (first | assumption )))) (fun H hl hf ho => ?_); (try dsimp only at hl hf); conv => whnf)
    | (refine nthG (x := ?_) ?_ ?_; rotate_left; (focus ((repeat (first | assumption | refine look_new (by assumption) (by omega) ?_ )); done)); conv => whnf)
    | ((with_reducible refine endq_go ?_); first | (exact endq ⟨rfl, hB2.sub (by intro i hi; (repeat (first | rfl | refine look_set (by assumption) (by omega) ?_))) (by omega), by (intro i hi; have hil := hXl i hi; have hin : i ≠ n := (by omega); (repeat (first | rfl | (refine Eq.trans (hf2 i (by simp [hi])) ?_) | refine look_new (by assumption) (by omega) ?_ | refine look_set (by assumption) (by omega) ?_)))⟩; done))
    | fail
    )

theorem y83ro (b : Bd) (w : Wt) (id room : Int) (ev : Rec) (p : Nat) (X : List Nat) (H0 : Heap) (hB : BX H0 p b X) (hb : SB b) (hc : asc b.ws) (a : Nat) (ha : ixB id b.ws 0 = a) (hm : within room 0 400 = true) (x : BW) (hx : b.ws[a]? = some x) : ∃ r H, Run Tryz.prog 83 [.ptr p 0 0, .d (Act.mk 3 w id room ev).enc] H0 r H ∧ (r = .agg [.d (i (readC x)), .d (i 0), .nilS, .d (.fs ((readL x room).map Rec.enc))] ∧ BX H p (readB b a room) X ∧ ∀ i ∈ X, H[i]? = H0[i]?) := by
  have hXl : ∀ i ∈ X, i < H0.length := (by unfold BX at hB; exact hB.2)
  refine run_walkQ eok Tryz.func83 rfl (by kernel_rfl) ?_
  conv => whnf
  repeat' (first
    | (refine call_stepQ ((y69 b id room hb hc a ha hm x hx p (n :: X) _ (hB.more (by intro i hi; (repeat (first | rfl | refine look_new (by assumption) (by omega) ?_ ))) (by omega) (by omega)))) (fun r H hQ => ?_); obtain ⟨rfl, hB2, hf2⟩ := hQ; have hz := (hf2 n (by simp)).trans (by assumption); have hlz := lt_of_at hz; conv => whnf)
    | (refine newG (fun n H hn hl hf ho => ?_); conv => whnf)
    | (refine setG (by first | omega | exact lt_of_at (by (repeat (first | assumption )))) (fun H hl hf ho => ?_); (try dsimp only at hl hf); conv => whnf)
    | (refine nthG (x := ?_) ?_ ?_; rotate_left; (focus ((repeat (first | assumption | refine look_new (by assumption) (by omega) ?_ )); done)); conv => whnf)
    | ((with_reducible refine endq_go ?_); first | (exact endq ⟨rfl, hB2.sub (by intro i hi; (repeat (first | rfl | refine look_set (by assumption) (by omega) ?_))) (by omega), by (intro i hi; have hil := hXl i hi; have hin : i ≠ n := (by omega); (repeat (first | rfl | (refine Eq.trans (hf2 i (by simp [hi])) ?_) | refine look_new (by assumption) (by omega) ?_ | refine look_set (by assumption) (by omega) ?_)))⟩; done))
    | fail
    )

theorem y83re (b : Bd) (w : Wt) (id room : Int) (ev : Rec) (p : Nat) (X : List Nat) (H0 : Heap) (hB : BX H0 p b X) (hb : SB b) (hc : asc b.ws) (he : ¬ findE b id room = 0) : ∃ r H, Run Tryz.prog 83 [.ptr p 0 0, .d (Act.mk 3 w id room ev).enc] H0 r H ∧ (r = .agg [.d (i (findE b id room)), .d (i 0), .nilS, .d (.fs [])] ∧ BX H p b X ∧ ∀ i ∈ X, H[i]? = H0[i]?) := by
  have hXl : ∀ i ∈ X, i < H0.length := (by unfold BX at hB; exact hB.2)
  refine run_walkQ eok Tryz.func83 rfl (by kernel_rfl) ?_
  conv => whnf
  repeat' (first
    | (refine call_stepQ ((y69x b id room hb hc he p (n :: X) _ (hB.more (by intro i hi; (repeat (first | rfl | refine look_new (by assumption) (by omega) ?_ ))) (by omega) (by omega)))) (fun r H hQ => ?_); obtain ⟨rfl, hB2, hf2⟩ := hQ; have hz := (hf2 n (by simp)).trans (by assumption); have hlz := lt_of_at hz; conv => whnf)
    | (refine newG (fun n H hn hl hf ho => ?_); conv => whnf)
    | (refine setG (by first | omega | exact lt_of_at (by (repeat (first | assumption )))) (fun H hl hf ho => ?_); (try dsimp only at hl hf); conv => whnf)
    | (refine nthG (x := ?_) ?_ ?_; rotate_left; (focus ((repeat (first | assumption | refine look_new (by assumption) (by omega) ?_ )); done)); conv => whnf)
    | ((with_reducible refine endq_go ?_); first | (exact endq ⟨rfl, hB2.sub (by intro i hi; (repeat (first | rfl | refine look_set (by assumption) (by omega) ?_))) (by omega), by (intro i hi; have hil := hXl i hi; have hin : i ≠ n := (by omega); (repeat (first | rfl | (refine Eq.trans (hf2 i (by simp [hi])) ?_) | refine look_new (by assumption) (by omega) ?_ | refine look_set (by assumption) (by omega) ?_)))⟩; done))
    | fail
    )

end Go.Proofs.YtbkmjpmgiaiacaaGreatDoor

/-! Pw -/
namespace Go.Proofs.YtbkmjpmgiaiacaaGreatDoor
open Go Dw Paths
attribute [local irreducible] Run
theorem VW.mono {n n' : Int} {x : BW} (h : VW n x) (hn : n ≤ n') : VW n' x := ⟨⟨h.id.1, by have := h.id.2; omega⟩, h.w, h.lost, h.recs, h.room⟩
theorem room_ge : ∀ l : List Rec, 0 ≤ roomOf l
  | [] => by rw [room0]; omega
  | r :: l => by
    have := room_ge l
    have h1 : 0 ≤ sz r := by unfold sz; omega
    show 0 ≤ sz r + roomOf l
    omega
theorem room_td : ∀ (l : List Rec) (k : Nat), roomOf l = roomOf (l.take k) + roomOf (l.drop k)
  | [], k => by simp [room0]
  | r :: l, 0 => by rw [List.take_zero, room0, List.drop_zero]; omega
  | r :: l, k + 1 => by
    have := room_td l k
    show sz r + roomOf l = (sz r + roomOf (l.take k)) + roomOf (l.drop k)
    omega
theorem dbl_drop {l : List Rec} {k j : Nat} (hj : j < (l.drop k).length) (h : dblB l (k + j) = false) : dblB (l.drop k) j = false := by
  rw [List.length_drop] at hj
  unfold dblB at h ⊢
  by_cases h0 : 0 < j
  · rw [List.getElem?_drop, List.getElem?_drop, show k + (j - 1) = k + j - 1 by omega]
    rw [decide_eq_true (show 0 < k + j by omega)] at h
    rw [decide_eq_true h0]; exact h
  · rw [decide_eq_false h0]; rfl
theorem recI_iff {w : Wt} {r : Rec} {d : Bool} : recI w r d = 0 ↔ recE w r = 0 ∧ d = false := by
  unfold recI
  by_cases h : recE w r = 0
  · rw [if_pos h]; cases d <;> simp [h]
  · rw [if_neg h]; simp [h]
theorem VW.read {n : Int} {x : BW} (h : VW n x) (most : Int) : VW n (readW x most) := by
  unfold readW
  by_cases hl : x.lost = true
  · rw [if_pos hl]
    exact ⟨h.id, h.w, (fun e => by cases e), h.recs, h.room⟩
  · rw [if_neg hl]
    refine ⟨h.id, h.w, fun e => absurd e hl, fun j hj => ?_, ?_⟩
    · show recI x.w ((x.recs.drop (readN x.recs most))[j]'hj) (dblB (x.recs.drop (readN x.recs most)) j) = 0
      have hj2 : j < (x.recs.drop (readN x.recs most)).length := hj
      have hj3 := hj2
      rw [List.length_drop] at hj3
      have h1 := recI_iff.1 (h.recs (readN x.recs most + j) (by omega))
      rw [List.getElem_drop]
      exact recI_iff.2 ⟨h1.1, dbl_drop hj2 h1.2⟩
    · show roomOf (x.recs.drop _) ≤ x.w.room
      have h1 := room_td x.recs (readN x.recs most)
      have h2 := room_ge (x.recs.take (readN x.recs most))
      have := h.room; omega
theorem readW_id (x : BW) (m : Int) : (readW x m).id = x.id ∧ (readW x m).w = x.w := by unfold readW; split <;> exact ⟨rfl, rfl⟩
def x0 (w : Wt) (n : Int) : BW := ⟨n, w, [], false⟩
end Go.Proofs.YtbkmjpmgiaiacaaGreatDoor

/-! Pz -/
namespace Go.Proofs.YtbkmjpmgiaiacaaGreatDoor
open Go Dw Paths
set_option linter.unusedVariables false
attribute [local irreducible] Run
theorem asc_pw {ws : List BW} : asc ws ↔ ws.Pairwise (fun x y => x.id < y.id) := by
  rw [List.pairwise_iff_getElem]
  exact ⟨fun h i j hi hj hij => h i j hij hj, fun h i j hij hj => h i j (by omega) hj hij⟩
theorem VB.add {b : Bd} {w : Wt} (h : VB b) (h0 : addErr b w = 0) : VB (addB b w) := by
  obtain ⟨hw, h8, hx⟩ := add_ok h0
  have hn := h.next
  refine ⟨by rw [addB_len]; omega, show 1 ≤ b.next + 1 ∧ b.next + 1 ≤ 2147483647 by omega, ?_, fun x hx => ?_⟩
  · rw [asc_pw]
    show (b.ws ++ [BW.mk b.next w [] false]).Pairwise _
    rw [List.pairwise_append]
    refine ⟨asc_pw.1 h.asc, List.pairwise_singleton _ _, fun x hx y hy => ?_⟩
    rw [List.mem_singleton.1 hy]
    have := (h.all x hx).id.2
    show x.id < b.next; omega
  · have hx : x ∈ b.ws ++ [BW.mk b.next w [] false] := hx
    rcases List.mem_append.1 hx with hx | hx
    · exact (h.all x hx).mono (show b.next ≤ b.next + 1 by omega)
    · rw [List.mem_singleton.1 hx]
      exact ⟨⟨hn.1, show b.next ≤ b.next + 1 - 1 by omega⟩, hw, fun _ => rfl, fun j hj => by simp at hj, by have := watchErr_ok hw; show roomOf [] ≤ w.room; rw [room0]; omega⟩
theorem VB.drop {b : Bd} (h : VB b) (t : Int) : VB (dropB b t) := by
  unfold dropB
  refine ⟨Nat.le_trans (List.length_filter_le _ _) h.len, h.next, asc_pw.2 ((asc_pw.1 h.asc).filter _), fun x hx => h.all x (List.mem_filter.1 hx).1⟩
theorem VB.read {b : Bd} (h : VB b) {a : Nat} {x : BW} (hx : b.ws[a]? = some x) (most : Int) : VB (readB b a most) := by
  rw [readB_ws hx]
  obtain ⟨hla, hxa⟩ := List.getElem?_eq_some_iff.1 hx
  have hid : ∀ k (hk : k < b.ws.length), ((b.ws.set a (readW x most))[k]'(by rw [List.length_set]; exact hk)).id = b.ws[k].id := by
    intro k hk
    rw [List.getElem_set]
    split
    · rename_i e; subst e; rw [(readW_id x most).1, hxa]
    · rfl
  refine ⟨by show (b.ws.set a _).length ≤ 8; rw [List.length_set]; exact h.len, h.next, fun i j hij hj => ?_, fun y hy => ?_⟩
  · have hj2 : j < b.ws.length := by
      have : j < (b.ws.set a (readW x most)).length := hj
      rwa [List.length_set] at this
    show ((b.ws.set a (readW x most))[i]'(by rw [List.length_set]; omega)).id < ((b.ws.set a (readW x most))[j]'hj).id
    rw [hid i (by omega), hid j hj2]
    exact h.asc i j hij hj2
  · rcases List.mem_or_eq_of_mem_set hy with hy | rfl
    · exact h.all y hy
    · exact (h.all x (hxa ▸ List.getElem_mem hla)).read most
def zBW : BW := ⟨0, ⟨[], false, 0, 0⟩, [], false⟩
/-- The watch that is read. -/
def atB (b : Bd) (t : Int) : BW := (b.ws[(ixB t b.ws 0).toNat]?).getD zBW
/-- The board after an act, and its answer. -/
def stepB (b : Bd) (a : Act) : Bd × Ans :=
  if a.kind = 0 then (if addErr b a.w = 0 then (addB b a.w, ⟨0, b.next, [], []⟩) else (b, ⟨addErr b a.w, 0, [], []⟩))
  else if a.kind = 1 then (if ixB a.id b.ws 0 < 0 then (b, ⟨6, 0, [], []⟩) else (dropB b a.id, ⟨0, 0, [], []⟩))
  else if a.kind = 2 then (if eventErr a.ev.act a.ev.path = 0 then (tellB b a.ev, ⟨0, 0, told a.ev b.ws, []⟩) else (b, ⟨eventErr a.ev.act a.ev.path, 0, [], []⟩))
  else (if findE b a.id a.room = 0 then (readB b (ixB a.id b.ws 0).toNat a.room, ⟨readC (atB b a.id), 0, [], readL (atB b a.id) a.room⟩) else (b, ⟨findE b a.id a.room, 0, [], []⟩))
theorem find_at {b : Bd} {t most : Int} (h : VB b) (h0 : findE b t most = 0) : ∃ a : Nat, ixB t b.ws 0 = a ∧ b.ws[a]? = some (atB b t) ∧ (ixB t b.ws 0).toNat = a := by
  obtain ⟨a, x, h1, h2⟩ := Go.Proofs.YtbkmjpmgiaiacaaGreatDoor.ix_at h.asc (findE_0 h0).1
  have h3 : (ixB t b.ws 0).toNat = a := by omega
  refine ⟨a, h1, ?_, h3⟩
  unfold atB; rw [h3, h2]; rfl
theorem VB.step {b : Bd} (h : VB b) (a : Act) : VB (stepB b a).1 := by
  unfold stepB
  split
  · split
    · rename_i h0; exact h.add h0
    · exact h
  · split
    · split
      · exact h
      · exact h.drop _
    · split
      · split
        · rename_i h0; exact h.tell h0
        · exact h
      · split
        · rename_i h0
          obtain ⟨a, h1, h2, h3⟩ := find_at h h0
          rw [h3]; exact h.read h2 _
        · exact h
theorem give_A {f : Nat} {args : List AV} {H0 H : Heap} {l : List AV} {x : D} (h1 : Run Tryz.prog f args H0 (.agg l) H) (hv : view 8 H (.agg l) = some x) (hr : reach 8 H (.agg l) = []) : Run Tryz.prog f args H0 (.d x) H := by
  have := run_giveH h1 hv
  rw [hr] at this; exact this
theorem BX.act {b : Bd} {a : Act} (hV : VB b) (hk : 0 ≤ a.kind ∧ a.kind ≤ 3) (hea : a.ev.act < 9223372036854775808) (p : Nat) (X : List Nat) (H0 : Heap) (hB : BX H0 p b X) : ∃ r H, Run Tryz.prog 83 [.ptr p 0 0, .d a.enc] H0 r H ∧ (r = .d (stepB b a).2.enc ∧ BX H p (stepB b a).1 X ∧ ∀ i ∈ X, H[i]? = H0[i]?) := by
  obtain ⟨kind, w, id, room, ev⟩ := a
  have hs := hV.small
  have hvr : ∀ (H : Heap) (e n : Int) (tl : List Int) (rl : List Rec), view 8 H (.agg [.d (i e), .d (i n), .d (.fs (tl.map i)), .d (.fs (rl.map Rec.enc))]) = some (Ans.mk e n tl rl).enc := fun H e n tl rl => view_agg (vlc rfl (vlc rfl (vlc rfl (vlc rfl vln))))
  have h4 : kind = 0 ∨ kind = 1 ∨ kind = 2 ∨ kind = 3 := by have := hk; simp only at this; omega
  rcases h4 with rfl | rfl | rfl | rfl
  · unfold stepB; rw [if_pos rfl]
    by_cases h0 : addErr b w = 0
    · rw [if_pos h0]
      obtain ⟨r, H, h1, rfl, h2⟩ := y83ao b w id room ev p X H0 hB hs hV.next h0
      exact ⟨_, _, give_A h1 (view_agg (vlc rfl (vlc rfl (vlc rfl (vlc rfl vln))))) rfl, rfl, h2⟩
    · rw [if_neg h0]
      obtain ⟨r, H, h1, rfl, h2⟩ := y83ae b w id room ev p X H0 hB hs h0
      exact ⟨_, _, give_A h1 (view_agg (vlc rfl (vlc rfl (vlc rfl (vlc rfl vln))))) rfl, rfl, h2⟩
  · unfold stepB; rw [if_neg (show ¬ (1 : Int) = 0 by decide), if_pos rfl]
    by_cases h0 : ixB id b.ws 0 < 0
    · rw [if_pos h0]
      obtain ⟨r, H, h1, rfl, h2⟩ := y83de b w id room ev p X H0 hB hs hV.asc (by omega)
      exact ⟨_, _, give_A h1 (view_agg (vlc rfl (vlc rfl (vlc rfl (vlc rfl vln))))) rfl, rfl, h2⟩
    · rw [if_neg h0]
      obtain ⟨r, H, h1, rfl, h2⟩ := y83do b w id room ev p X H0 hB hs hV.asc (ixB id b.ws 0).toNat (by omega)
      exact ⟨_, _, give_A h1 (view_agg (vlc rfl (vlc rfl (vlc rfl (vlc rfl vln))))) rfl, rfl, h2⟩
  · unfold stepB; rw [if_neg (show ¬ (2 : Int) = 0 by decide), if_neg (show ¬ (2 : Int) = 1 by decide), if_pos rfl]
    by_cases h0 : eventErr ev.act ev.path = 0
    · rw [if_pos h0]
      obtain ⟨r, H, h1, rfl, h2⟩ := y83to b w id room ev p X H0 hB hs (fun x hx => (hV.all x hx).w) h0
      exact ⟨_, _, give_A h1 (view_agg (vlc rfl (vlc rfl (vlc rfl (vlc rfl vln))))) rfl, rfl, h2⟩
    · rw [if_neg h0]
      obtain ⟨r, H, h1, rfl, h2⟩ := y83te b w id room ev p X H0 hB hea h0
      exact ⟨_, _, give_A h1 (view_agg (vlc rfl (vlc rfl (vlc rfl (vlc rfl vln))))) rfl, rfl, h2⟩
  · unfold stepB; rw [if_neg (show ¬ (3 : Int) = 0 by decide), if_neg (show ¬ (3 : Int) = 1 by decide), if_neg (show ¬ (3 : Int) = 2 by decide)]
    by_cases h0 : findE b id room = 0
    · rw [if_pos h0]
      obtain ⟨a, h5, h6, h7⟩ := find_at hV h0
      obtain ⟨r, H, h1, rfl, h2⟩ := y83ro b w id room ev p X H0 hB hs hV.asc a h5 (findE_0 h0).2 _ h6
      rw [h7]
      exact ⟨_, _, give_A h1 (view_agg (vlc rfl (vlc rfl (vlc rfl (vlc rfl vln))))) rfl, rfl, h2⟩
    · rw [if_neg h0]
      obtain ⟨r, H, h1, rfl, h2⟩ := y83re b w id room ev p X H0 hB hs hV.asc h0
      exact ⟨_, _, give_A h1 (view_agg (vlc rfl (vlc rfl (vlc rfl (vlc rfl vln))))) rfl, rfl, h2⟩
def stepS (s : Bd × List Ans) (a : Act) : Bd × List Ans := ((stepB s.1 a).1, s.2 ++ [(stepB s.1 a).2])
/-- The board after k acts, and their answers. -/
def runK (b : Bd) (l : List Act) (k : Nat) : Bd × List Ans := (l.take k).foldl stepS (b, [])
theorem runK_0 (b : Bd) (l : List Act) : runK b l 0 = (b, []) := rfl
theorem runK_s {b : Bd} {l : List Act} {k : Nat} (h : k < l.length) : runK b l (k + 1) = ((stepB (runK b l k).1 l[k]).1, (runK b l k).2 ++ [(stepB (runK b l k).1 l[k]).2]) := by
  unfold runK; rw [List.take_succ_eq_append_getElem h, List.foldl_append]; rfl
theorem runK_len (b : Bd) (l : List Act) : ∀ k, k ≤ l.length → (runK b l k).2.length = k
  | 0, _ => rfl
  | k + 1, h => by rw [runK_s (by omega), List.length_append, runK_len b l k (by omega)]; rfl
theorem runK_V {b : Bd} (h : VB b) (l : List Act) : ∀ k, k ≤ l.length → VB (runK b l k).1
  | 0, _ => h
  | k + 1, hk => by rw [runK_s (by omega)]; exact (runK_V h l k (by omega)).step _
end Go.Proofs.YtbkmjpmgiaiacaaGreatDoor

/-! Yd -/
namespace Go.Proofs.YtbkmjpmgiaiacaaGreatDoor
open Go Dw
set_option maxRecDepth 10000
set_option linter.unusedVariables false
set_option linter.unusedSimpArgs false
attribute [local irreducible] Run
set_option maxHeartbeats 4000000

open Paths
def zW (w : Wt) : Bool := cellsEq [D.str w.path, D.bool w.deep, i w.filter, i w.room] [D.str [], D.bool false, i 0, i 0]
def zE (e : Rec) : Bool := cellsEq [i e.act, D.str e.path] [i 0, D.str []]
def actOk (a : Act) : Bool :=
  if a.kind = 0 then decide (a.id = 0) && (decide (a.room = 0) && zE a.ev)
  else if a.kind = 1 then zW a.w && (decide (a.room = 0) && zE a.ev)
  else if a.kind = 2 then zW a.w && (decide (a.id = 0) && decide (a.room = 0))
  else zW a.w && zE a.ev
def actE (a : Act) : Int := if within a.kind 0 3 = true then (if actOk a = true then 0 else 3) else 15
def shortA (a : Act) : Bool := decide (a.w.path.length ≤ 300) && decide (a.ev.path.length ≤ 300)
def shortL (l : List Act) : Bool := (decide (l.length ≤ 30) || decide (80 < l.length)) && (decide (l.length ≤ 82) && l.all shortA)
/-- The first wrong act. -/
def actsE : List Act → Nat → Int × Int
  | [], _ => (0, 0)
  | x :: r, k => if actE x = 0 then actsE r (k + 1) else ((k : Int), actE x)
theorem actsE_drop {l : List Act} {k : Nat} (h : k < l.length) : actsE (l.drop k) k = if actE l[k] = 0 then actsE (l.drop (k + 1)) (k + 1) else ((k : Int), actE l[k]) := by
  rw [List.drop_eq_getElem_cons h]; rfl
theorem actsE_end {l : List Act} {k : Nat} (h : ¬ (k : Int) < l.length) : actsE (l.drop k) k = (0, 0) := by
  rw [List.drop_eq_nil_of_le (by omega)]; rfl

theorem c82_0 (w : Wt) (id room : Int) (ev : Rec) : Fn 82 [(Act.mk 0 w id room ev).enc] (i (actE ⟨0, w, id, room, ev⟩)) := by
  refine run_walkF eok Tryz.func82 rfl (by kernel_rfl) ?_
  conv => whnf
  repeat' (first
    | ((with_reducible refine call_go ?_); (first | refine call_step (run_view (c56 _ _ _) rfl rfl) ?_ | refine call_step (run_view (c55 _ _) rfl rfl) ?_); conv => whnf)
    | (refine ⟨(show (0 : Int) ≤ 0 ∧ (0 : Int) < 4 by decide), ?_⟩; conv => whnf)
    | ((with_reducible refine endx_go ?_); first | (refine endx (congrArg i ?_); unfold actE; rw [if_pos (show within 0 0 3 = true by decide)]; congr 1; simp [actOk, zW, zE, cellsEq, cellEq, i, Bool.and_assoc, Bool.and_comm, Bool.and_left_comm]; done))
    | fail
    )

theorem c82_1 (w : Wt) (id room : Int) (ev : Rec) : Fn 82 [(Act.mk 1 w id room ev).enc] (i (actE ⟨1, w, id, room, ev⟩)) := by
  refine run_walkF eok Tryz.func82 rfl (by kernel_rfl) ?_
  conv => whnf
  repeat' (first
    | ((with_reducible refine call_go ?_); (first | refine call_step (run_view (c56 _ _ _) rfl rfl) ?_ | refine call_step (run_view (c55 _ _) rfl rfl) ?_); conv => whnf)
    | (refine ⟨(show (0 : Int) ≤ 1 ∧ (1 : Int) < 4 by decide), ?_⟩; conv => whnf)
    | ((with_reducible refine endx_go ?_); first | (refine endx (congrArg i ?_); unfold actE; rw [if_pos (show within 1 0 3 = true by decide)]; congr 1; simp [actOk, zW, zE, cellsEq, cellEq, i, Bool.and_assoc, Bool.and_comm, Bool.and_left_comm]; done))
    | fail
    )

theorem c82_2 (w : Wt) (id room : Int) (ev : Rec) : Fn 82 [(Act.mk 2 w id room ev).enc] (i (actE ⟨2, w, id, room, ev⟩)) := by
  refine run_walkF eok Tryz.func82 rfl (by kernel_rfl) ?_
  conv => whnf
  repeat' (first
    | ((with_reducible refine call_go ?_); (first | refine call_step (run_view (c56 _ _ _) rfl rfl) ?_ | refine call_step (run_view (c55 _ _) rfl rfl) ?_); conv => whnf)
    | (refine ⟨(show (0 : Int) ≤ 2 ∧ (2 : Int) < 4 by decide), ?_⟩; conv => whnf)
    | ((with_reducible refine endx_go ?_); first | (refine endx (congrArg i ?_); unfold actE; rw [if_pos (show within 2 0 3 = true by decide)]; congr 1; simp [actOk, zW, zE, cellsEq, cellEq, i, Bool.and_assoc, Bool.and_comm, Bool.and_left_comm]; done))
    | fail
    )

theorem c82_3 (w : Wt) (id room : Int) (ev : Rec) : Fn 82 [(Act.mk 3 w id room ev).enc] (i (actE ⟨3, w, id, room, ev⟩)) := by
  refine run_walkF eok Tryz.func82 rfl (by kernel_rfl) ?_
  conv => whnf
  repeat' (first
    | ((with_reducible refine call_go ?_); (first | refine call_step (run_view (c56 _ _ _) rfl rfl) ?_ | refine call_step (run_view (c55 _ _) rfl rfl) ?_); conv => whnf)
    | (refine ⟨(show (0 : Int) ≤ 3 ∧ (3 : Int) < 4 by decide), ?_⟩; conv => whnf)
    | ((with_reducible refine endx_go ?_); first | (refine endx (congrArg i ?_); unfold actE; rw [if_pos (show within 3 0 3 = true by decide)]; congr 1; simp [actOk, zW, zE, cellsEq, cellEq, i, Bool.and_assoc, Bool.and_comm, Bool.and_left_comm]; done))
    | fail
    )

theorem c82_x (a : Act) (h0 : ¬ within a.kind 0 3 = true) : Fn 82 [a.enc] (i (actE a)) := by
  have h0f : within a.kind 0 3 = false := (by simpa using h0)
  refine run_walkF eok Tryz.func82 rfl (by kernel_rfl) ?_
  conv => whnf
  repeat' (first
    | ((with_reducible refine on_nf (by assumption) ?_); conv => whnf)
    | ((with_reducible refine call_go ?_); (first | refine call_step (run_view (c56 _ _ _) rfl rfl) ?_ ); conv => whnf)
    | ((with_reducible refine endx_go ?_); first | (refine endx (congrArg i ?_); unfold actE; rw [if_neg h0]; done))
    | fail
    )

theorem c82 (a : Act) : Fn 82 [a.enc] (i (actE a)) := by
  by_cases h : within a.kind 0 3 = true
  · obtain ⟨kind, w, id, room, ev⟩ := a
    have h2 := h
    unfold within at h2
    simp only [Bool.and_eq_true, decide_eq_true_eq] at h2
    have h4 : kind = 0 ∨ kind = 1 ∨ kind = 2 ∨ kind = 3 := by omega
    rcases h4 with rfl | rfl | rfl | rfl
    · exact c82_0 w id room ev
    · exact c82_1 w id room ev
    · exact c82_2 w id room ev
    · exact c82_3 w id room ev
  · exact c82_x a h
attribute [local irreducible] actE

theorem c81 (k : Int) (a : Act) : Fn 81 [i k, a.enc] (i (actE a)) := by
  refine run_walkF eok Tryz.func81 rfl (by kernel_rfl) ?_
  conv => whnf
  repeat' (first
    | ((with_reducible refine call_go ?_); (first | refine call_step (run_view (c82 a) rfl rfl) ?_); conv => whnf)
    | ((with_reducible refine endx_go ?_); first | (exact endx rfl; done))
    | fail
    )

theorem c80 (l : List Act) (hl : l.length < 1000) : Fn 80 [.fs (l.map Act.enc), .fn 81 [] []] (.tup [i (actsE l 0).1, i (actsE l 0).2]) := by
  refine run_walkF eok Tryz.func80 rfl (by kernel_rfl) ?_
  conv => whnf
  repeat' (first
    | ((with_reducible refine on_dec (fun h => ?_) (fun h => ?_)) <;> (try simp only [List.length_map] at h) <;> conv => whnf)
    | ((with_reducible refine on_ndec (fun h => ?_) (fun h => ?_)) <;> (try simp only [List.length_map] at h) <;> conv => whnf)
    | ((with_reducible refine call_go ?_); (first | refine call_step (run_view (c81 k (l[k]'(by omega))) rfl rfl) ?_); conv => whnf)
    | ((with_reducible refine loop_go ?_); first | (refine loop1 (fun (k : Nat) => l.length - k) (fun (k : Nat) => k ≤ l.length ∧ actsE l 0 = actsE (l.drop k) k) (fun (k : Nat) => [(1, .d (.fn 81 [] [])), (9, .d (.fs (l.map Act.enc))), (10, .d (i l.length)), (11, .d (i k))]) (fun (k : Nat) => []) (0) (by first | (simp; done) ) ?_ (fun k C hI hC => ?_); (exact ⟨[], rfl, rfl, ⟨(by first | (show (_ : D) = _; with_reducible rfl) ), (by first | (show (_ : D) = _; with_reducible rfl) ), (by first | exact congrArg (D.int .i64) (by simp only [List.length_map]) ), (by first | exact congrArg (D.int .i64) (by omega) ), trivial⟩, trivial⟩); all_goals (conv => whnf)))
    | ((with_reducible show C _ _); first | (refine hC (k + 1) _ _ ?_ (by omega) ?_; clear hC; rotate_left; (exact ⟨[], rfl, rfl, ⟨(by first | (show (_ : D) = _; with_reducible rfl) ), (by first | (show (_ : D) = _; with_reducible rfl) ), (by first | (show (_ : D) = _; with_reducible rfl) ), (by first | exact congrArg (D.int .i64) (by omega) ), trivial⟩, trivial⟩); (exact ⟨by omega, by rw [hI.2, actsE_drop (by omega), if_pos h]⟩)))
    | (refine ix_map (by omega) ?_; conv => whnf)
    | (refine wrap64 (by omega) ?_; conv => whnf)
    | ((with_reducible refine endx_go ?_); first | (refine endx2 ?_; (rw [hI.2, actsE_drop (by omega), if_neg h]) <;> rfl; done) | (refine endx2 ?_; (rw [hI.2, actsE_end (by omega)]) <;> rfl; done))
    | fail
    )

theorem short_1 {l : List Act} (h : (30 : Int) < l.length) (h2 : (l.length : Int) ≤ 80) : shortL l = false := by
  unfold shortL; rw [decide_eq_false (show ¬ l.length ≤ 30 by omega), decide_eq_false (show ¬ 80 < l.length by omega)]; rfl
theorem short_2 {l : List Act} (h : (82 : Int) < l.length) : shortL l = false := by
  unfold shortL; rw [decide_eq_false (show ¬ l.length ≤ 82 by omega)]; simp
theorem short_3 {l : List Act} {k : Nat} (hk : k < l.length) (h : (300 : Int) < l[k].w.path.length ∨ (300 : Int) < l[k].ev.path.length) : shortL l = false := by
  unfold shortL
  have : shortA l[k] = false := by
    unfold shortA
    rcases h with h | h
    · rw [decide_eq_false (by omega)]; rfl
    · rw [decide_eq_false (show ¬ l[k].ev.path.length ≤ 300 by omega)]; simp
  rw [all_not hk this]; simp
theorem short_ok {l : List Act} (h : ¬ ((30 : Int) < l.length ∧ (l.length : Int) ≤ 80)) (h2 : ¬ (82 : Int) < l.length) {k : Nat} (hk : ¬ (k : Int) < l.length) (h3 : (l.take k).all shortA = true) : shortL l = true := by
  rw [List.take_of_length_le (by omega)] at h3
  unfold shortL; rw [h3, decide_eq_true (show l.length ≤ 82 by omega)]
  by_cases h4 : l.length ≤ 30
  · rw [decide_eq_true h4]; rfl
  · rw [decide_eq_true (show 80 < l.length by omega)]; simp
theorem shortA_ok {a : Act} (h : ¬ (300 : Int) < a.w.path.length) (h2 : ¬ (300 : Int) < a.ev.path.length) : shortA a = true := by
  unfold shortA; rw [decide_eq_true (by omega), decide_eq_true (by omega)]; rfl

theorem c40 (l : List Act) : Fn 40 [.fs (l.map Act.enc)] (.bool (shortL l)) := by
  refine run_walkF eok Tryz.func40 rfl (by kernel_rfl) ?_
  conv => whnf
  repeat' (first
    | ((with_reducible refine on_dec_f ?_ ?_); (focus ((try simp only [List.length_map, List.length_cons, List.length_nil, List.length_append]); omega)); conv => whnf)
    | ((with_reducible refine on_dec (fun h => ?_) (fun h => ?_)) <;> (try simp only [List.length_map] at h) <;> conv => whnf)
    | ((with_reducible refine loop_go ?_); first | (refine loop1 (fun (k : Nat) => l.length - k) (fun (k : Nat) => k ≤ l.length ∧ (l.take k).all shortA = true) (fun (k : Nat) => [(0, .d (.fs (l.map Act.enc))), (3, .d (i k))]) (fun (k : Nat) => []) (0) (by exact ⟨Nat.zero_le _, rfl⟩) ?_ (fun k C hI hC => ?_); (exact ⟨[], rfl, rfl, ⟨(by first | (show (_ : D) = _; with_reducible rfl) ), (by first | exact congrArg (D.int .i64) (by omega) ), trivial⟩, trivial⟩); all_goals (conv => whnf)))
    | ((with_reducible show C _ _); first | (refine hC (k + 1) _ _ ?_ (by omega) ?_; clear hC; rotate_left; (exact ⟨[], rfl, rfl, ⟨(by first | (show (_ : D) = _; with_reducible rfl) ), (by first | exact congrArg (D.int .i64) (by omega) ), trivial⟩, trivial⟩); (exact ⟨by omega, all_takeF (by omega) hI.2 (shortA_ok (by assumption) (by assumption))⟩)))
    | (refine ix_map (by omega) ?_; conv => whnf)
    | (refine wrap64 (by omega) ?_; conv => whnf)
    | ((with_reducible refine endx_go ?_); first | (refine endx (congrArg D.bool ?_); first | exact (short_1 (by assumption) (by assumption)).symm | exact (short_2 (by assumption)).symm | exact (short_3 (k := k) (by omega) (.inl (by assumption))).symm | exact (short_3 (k := k) (by omega) (.inr (by assumption))).symm | exact (short_ok (by omega) (by omega) (by assumption) hI.2).symm; done))
    | fail
    )

end Go.Proofs.YtbkmjpmgiaiacaaGreatDoor

/-! Ye -/
namespace Go.Proofs.YtbkmjpmgiaiacaaGreatDoor
open Go Dw
set_option maxRecDepth 10000
set_option linter.unusedVariables false
set_option linter.unusedSimpArgs false
attribute [local irreducible] Run
set_option maxHeartbeats 4000000

open Paths
/-- The error of a run. -/
def runE (b : Bd) (l : List Act) : Int × Int := if (checkB b).2 = 0 then (if (80 : Int) < l.length then (0, 8) else actsE l 0) else (0, (checkB b).2)
theorem runE_b {b : Bd} {l : List Act} (h : ¬ (checkB b).2 = 0) : runE b l = (0, (checkB b).2) := by unfold runE; rw [if_neg h]
theorem runE_l {b : Bd} {l : List Act} (h : (checkB b).2 = 0) (h2 : (80 : Int) < l.length) : runE b l = (0, 8) := by unfold runE; rw [if_pos h, if_pos h2]
theorem runE_o {b : Bd} {l : List Act} (h : (checkB b).2 = 0) (h2 : ¬ (80 : Int) < l.length) : runE b l = actsE l 0 := by unfold runE; rw [if_pos h, if_neg h2]
theorem kinds (a : Act) : within a.kind 0 3 = false ∨ a.kind = 0 ∨ a.kind = 1 ∨ a.kind = 2 ∨ a.kind = 3 := by
  cases h : within a.kind 0 3
  · exact .inl rfl
  · unfold within at h
    simp only [Bool.and_eq_true, decide_eq_true_eq] at h
    omega
theorem win {a : Act} {n : Int} (h : a.kind = n) (h2 : within n 0 3 = true) : within a.kind 0 3 = true := by rw [h]; exact h2
theorem actE_15 {a : Act} (h : within a.kind 0 3 = false) : actE a = 15 := by unfold actE; rw [h]; rfl
theorem actE_3 {a : Act} (h : within a.kind 0 3 = true) (h2 : actOk a = false) : actE a = 3 := by unfold actE; rw [if_pos h, h2]; rfl
theorem actE_0 {a : Act} (h : within a.kind 0 3 = true) (h2 : actOk a = true) : actE a = 0 := by unfold actE; rw [if_pos h, if_pos h2]
theorem ok_0 {a : Act} (h : a.kind = 0) : actOk a = (decide (a.id = 0) && (decide (a.room = 0) && zE a.ev)) := by unfold actOk; rw [if_pos h]
theorem ok_1 {a : Act} (h : a.kind = 1) : actOk a = (zW a.w && (decide (a.room = 0) && zE a.ev)) := by unfold actOk; rw [if_neg (by omega), if_pos h]
theorem ok_2 {a : Act} (h : a.kind = 2) : actOk a = (zW a.w && (decide (a.id = 0) && decide (a.room = 0))) := by unfold actOk; rw [if_neg (by omega), if_neg (by omega), if_pos h]
theorem ok_3 {a : Act} (h : a.kind = 3) : actOk a = (zW a.w && zE a.ev) := by unfold actOk; rw [if_neg (by omega), if_neg (by omega), if_neg (by omega)]
theorem zWt {w : Wt} (h : cellsEq [D.str w.path, D.bool w.deep, i w.filter, i w.room] [D.str [], D.bool false, i 0, i 0] = true) : zW w = true := h
theorem zWf {w : Wt} (h : cellsEq [D.str w.path, D.bool w.deep, i w.filter, i w.room] [D.str [], D.bool false, i 0, i 0] = false) : zW w = false := h
theorem zEt {e : Rec} (h : cellsEq [i e.act, D.str e.path] [i 0, D.str []] = true) : zE e = true := h
theorem zEf {e : Rec} (h : cellsEq [i e.act, D.str e.path] [i 0, D.str []] = false) : zE e = false := h
theorem end3 {k : Nat} {a : Act} {r : Int × Int} {H : Heap} (h : actE a = 3) : EndQ (fun r' _ => r' = .tup [.d (i (if actE a = 0 then r else ((k : Int), actE a)).1), .d (i (if actE a = 0 then r else ((k : Int), actE a)).2)]) (tupD [.d (i k), .d (i 3)]) H := by
  rw [h]; exact endq rfl
attribute [local irreducible] newD checkB actE actOk zW zE

theorem c42o (b : Bd) (l : List Act) (hb : SB b) (hl : l.length < 1000) (H0 : Heap) : ∃ r H, Run Tryz.prog 42 [.d b.enc, .d (.fs (l.map Act.enc))] H0 r H ∧ r = .tup [.d (i (runE b l).1), .d (i (runE b l).2)] := by
  refine run_walkQ eok Tryz.func42 rfl (by kernel_rfl) ?_
  conv => whnf
  repeat' (first
    | ((with_reducible refine on_dec_t (by assumption) ?_); conv => whnf)
    | ((with_reducible refine on_nf (by assumption) ?_); conv => whnf)
    | ((with_reducible refine on_ndec_t (by first | assumption ) ?_); conv => whnf)
    | ((with_reducible refine on_dec_f (by omega) ?_); conv => whnf)
    | ((with_reducible refine on_ndec_f (by omega) ?_); conv => whnf)
    | ((with_reducible refine on_dec_f ?_ ?_); (focus ((try simp only [List.length_map, List.length_cons, List.length_nil, List.length_append]); omega)); conv => whnf)
    | ((with_reducible refine on_dec_t ?_ ?_); (focus ((try simp only [List.length_map, List.length_cons, List.length_nil, List.length_append]); omega)); conv => whnf)
    | ((with_reducible refine on_dec (fun h => ?_) (fun h => ?_)) <;> (try simp only [List.length_map] at h) <;> conv => whnf)
    | ((with_reducible refine on_ndec (fun h => ?_) (fun h => ?_)) <;> (try simp only [List.length_map] at h) <;> conv => whnf)
    | ((with_reducible refine on_not (fun h => ?_) (fun h => ?_)) <;> conv => whnf)
    | ((with_reducible refine call_go ?_); (first | refine call_step (run_view (c25 b hb) rfl rfl) ?_ | refine call_step (run_view (c58 (l[k]'(by omega)).kind 0 3) rfl rfl) ?_); conv => whnf)
    | ((with_reducible refine loop_go ?_); first | (apply loopG1 (fun (k : Nat) (H : Heap) => l.length - k) (fun (k : Nat) (H : Heap) => k ≤ l.length ∧ actsE l 0 = actsE (l.drop k) k) (fun (k : Nat) (H : Heap) => [(1, .d (.fs (l.map Act.enc))), (7, .d (i k))]) (0); rotate_left; (focus (exact .inl ⟨rfl, ⟨(by first | rfl ), (by first | rfl ), trivial⟩⟩)); rotate_left; (focus (exact ⟨Nat.zero_le _, rfl⟩)); intro k H C hI hC; rcases Nat.lt_or_ge k l.length with hkl | hkl; (rcases kinds (l[k]'hkl) with hk | hk | hk | hk | hk); all_goals (conv => whnf)))
    | ((with_reducible show C _ _); first | (refine hC (k + 1) _ _ ?_ (by omega) ?_; clear hC; rotate_left; (exact ⟨(by first | rfl ), (by first | rfl ), trivial⟩); refine ⟨by omega, ?_⟩; rw [hI.2, actsE_drop (by omega)]; refine if_pos ?_; (first | (refine actE_0 (win hk (by decide)) ?_; rw [ok_0 hk]; (repeat (first | rw [zEt (by assumption)] | rw [decide_eq_true (show (l[k]'(by omega)).id = 0 by assumption)] | rw [decide_eq_true (show (l[k]'(by omega)).room = 0 by assumption)] )); first | rfl ) | (refine actE_0 (win hk (by decide)) ?_; rw [ok_1 hk]; (repeat (first | rw [zWt (by assumption)] | rw [zEt (by assumption)] | rw [decide_eq_true (show (l[k]'(by omega)).room = 0 by assumption)] )); first | rfl ) | (refine actE_0 (win hk (by decide)) ?_; rw [ok_2 hk]; (repeat (first | rw [zWt (by assumption)] | rw [decide_eq_true (show (l[k]'(by omega)).id = 0 by assumption)] | rw [decide_eq_true (show (l[k]'(by omega)).room = 0 by assumption)] )); first | rfl ) | (refine actE_0 (win hk (by decide)) ?_; rw [ok_3 hk]; (repeat (first | rw [zWt (by assumption)] | rw [zEt (by assumption)] )); first | rfl ))))
    | (refine ix_map (by omega) ?_; conv => whnf)
    | (refine wrap64 (by omega) ?_; conv => whnf)
    | (refine newG (fun n H hn hl hf ho => ?_); conv => whnf)
    | (refine setG (by first | omega | exact lt_of_at (by (repeat (first | assumption )))) (fun H hl hf ho => ?_); (try dsimp only at hl hf); conv => whnf)
    | (refine nthG (x := ?_) ?_ ?_; rotate_left; (focus ((repeat (first | assumption )); done)); conv => whnf)
    | ((with_reducible refine endq_go ?_); first | (rw [runE_b (by assumption)]; exact endq rfl; done) | (rw [runE_l (by assumption) (by assumption)]; exact endq rfl; done) | (rw [runE_o (by assumption) (by assumption), hI.2, actsE_end (by omega)]; exact endq rfl; done) | (rw [runE_o (by assumption) (by assumption), hI.2, actsE_drop (by omega), if_neg (by rw [actE_15 hk]; decide), actE_15 hk]; exact endq rfl; done) | (rw [runE_o (by assumption) (by assumption), hI.2, actsE_drop (by omega)]; refine end3 ?_; (first | (refine actE_3 (win hk (by decide)) ?_; rw [ok_0 hk]; (repeat (first | rw [zEf (by assumption)] | rw [decide_eq_true (show (l[k]'(by omega)).id = 0 by assumption)] | rw [decide_eq_false (show ¬ (l[k]'(by omega)).id = 0 by assumption)] | rw [decide_eq_true (show (l[k]'(by omega)).room = 0 by assumption)] | rw [decide_eq_false (show ¬ (l[k]'(by omega)).room = 0 by assumption)])); first | rfl ) | (refine actE_3 (win hk (by decide)) ?_; rw [ok_1 hk]; (repeat (first | rw [zWt (by assumption)] | rw [zWf (by assumption)] | rw [zEf (by assumption)] | rw [decide_eq_true (show (l[k]'(by omega)).room = 0 by assumption)] | rw [decide_eq_false (show ¬ (l[k]'(by omega)).room = 0 by assumption)])); first | rfl ) | (refine actE_3 (win hk (by decide)) ?_; rw [ok_2 hk]; (repeat (first | rw [zWt (by assumption)] | rw [zWf (by assumption)] | rw [decide_eq_true (show (l[k]'(by omega)).id = 0 by assumption)] | rw [decide_eq_false (show ¬ (l[k]'(by omega)).id = 0 by assumption)] | rw [decide_eq_false (show ¬ (l[k]'(by omega)).room = 0 by assumption)])); first | rfl ) | (refine actE_3 (win hk (by decide)) ?_; rw [ok_3 hk]; (repeat (first | rw [zWt (by assumption)] | rw [zWf (by assumption)] | rw [zEf (by assumption)] )); first | rfl )); done) | (exact absurd (win hk (by decide)) (by rw [h]; decide); done))
    | fail
    )

theorem c42 (b : Bd) (l : List Act) (hb : SB b) (hl : l.length < 1000) : Fn 42 [b.enc, .fs (l.map Act.enc)] (.tup [i (runE b l).1, i (runE b l).2]) := by
  obtain ⟨r, H, h1, rfl⟩ := c42o b l hb hl []
  exact run_give h1 (view_tup (vlc rfl (vlc rfl vln)))

end Go.Proofs.YtbkmjpmgiaiacaaGreatDoor

/-! Vd -/
namespace Go.Proofs.YtbkmjpmgiaiacaaGreatDoor
open Go Dw
set_option maxRecDepth 10000
set_option linter.unusedVariables false
set_option linter.unusedSimpArgs false
attribute [local irreducible] Run
set_option maxHeartbeats 4000000

open Paths
attribute [local irreducible] newD Own checkB addErr roomy bsR ixB sz roomOf putB seesW belowI tellB told appD
theorem Own.lookP {m : Nat} {H : Heap} {B : List Nat} {E : List AV} {ws : List BW} {n k : Nat} (h : Own m H B E ws n) (hn : n = ws.length) : n ≤ k ∨ (k < n ∧ ∃ (x : BW), ws[k]? = some x ∧
    ((x.recs = [] ∧ E[k]? = some (.agg [.d (i x.id), .d (.str x.w.path), .d (.bool x.w.deep), .d (i x.w.filter), .d (i x.w.room), .nilS, .d (.bool x.lost)]) ∧ OwnAt m H B E[k]? x none) ∨
    ∃ (id : Nat), E[k]? = some (.agg [.d (i x.id), .d (.str x.w.path), .d (.bool x.w.deep), .d (i x.w.filter), .d (i x.w.room), .sl id 0 x.recs.length 2 none, .d (.bool x.lost)]) ∧ OwnAt m H B E[k]? x (some id))) := by
  subst hn
  by_cases hk : k < ws.length
  · obtain ⟨o, h1, _⟩ := h.focus (Nat.le_refl _) hk
    refine .inr ⟨hk, ws[k], List.getElem?_eq_getElem hk, ?_⟩
    rcases h1.split with ⟨rfl, k1, k2⟩ | ⟨id, A, rfl, k1, _⟩
    · exact .inl ⟨k1, k2, h1⟩
    · exact .inr ⟨id, k1, h1⟩
  · exact .inl (by omega)
/-- A row that is only looked at. -/
def Vis (H : Heap) (B X : List Nat) (cv : AV) (l : List BW) : Prop := (l = [] ∧ cv = .nilS ∧ X = []) ∨ ∃ (t : Nat) (Fs : List AV), cv = .sl t 0 l.length 7 none ∧ H[t]? = some ⟨Fs, 7, 0⟩ ∧ Fs.length = l.length ∧ X = [t] ∧ ∀ (j : Nat) (y : BW), l[j]? = some y → ∃ o, OwnAt 0 H (t :: B) Fs[j]? y o
theorem Vis.cv {H : Heap} {B X : List Nat} {cv : AV} {l : List BW} (h : Vis H B X cv l) : cv = .nilS ∨ ∃ t, cv = .sl t 0 l.length 7 none := by
  rcases h with ⟨_, h, _⟩ | ⟨t, Fs, h, _⟩
  · exact .inl h
  · exact .inr ⟨t, h⟩
theorem Vis.bd {H : Heap} {B X : List Nat} {cv : AV} {l : List BW} (h : Vis H B X cv l) : ∀ i ∈ X, i < H.length := by
  rcases h with ⟨_, _, rfl⟩ | ⟨t, Fs, _, h2, _, rfl, _⟩
  · exact fun i h => by cases h
  · exact fun i hi => by rw [List.mem_singleton.1 hi]; exact lt_of_at h2
theorem Vis.frame {H H' : Heap} {B X : List Nat} {cv : AV} {l : List BW} (h : Vis H B X cv l) (hf : ∀ i, i ∉ B → i < H.length → H'[i]? = H[i]?) (hX : ∀ i ∈ X, i ∉ B) : Vis H' B X cv l := by
  rcases h with h | ⟨t, Fs, h1, h2, h3, h4, h5⟩
  · exact .inl h
  · subst h4
    refine .inr ⟨t, Fs, h1, by rw [hf t (hX t (by simp)) (lt_of_at h2)]; exact h2, h3, rfl, fun j y hy => ?_⟩
    obtain ⟨o, ho⟩ := h5 j y hy
    exact ⟨o, ho.frame (fun i hi => .inl hi) fun i hi _ hlt => hf i (fun hb => hi (List.mem_cons_of_mem _ hb)) hlt⟩
theorem Vis.view {H : Heap} {B X : List Nat} {cv : AV} {l : List BW} {n : Nat} (h : Vis H B X cv l) : view (n + 5) H cv = some (.fs (l.map BW.enc)) := by
  rcases h with ⟨rfl, rfl, _⟩ | ⟨t, Fs, rfl, h2, h3, _, h5⟩
  · rfl
  · show (match H[t]? with
      | some o => if o.st < 2 then (if 0 + l.length ≤ o.elems.length then (vl (Dw.view (n + 4) H) ((o.elems.drop 0).take l.length)).map D.fs else none) else none
      | none => none) = _
    simp only [h2]
    rw [if_pos (by decide), if_pos (by omega), List.drop_zero, List.take_of_length_le (by omega)]
    rw [vl_of (r := l.map BW.enc) (by rw [List.length_map]; exact h3) (fun j a x ha hx => ?_)]
    · rfl
    · rw [List.getElem?_map] at hx
      obtain ⟨y, hy, rfl⟩ := Option.map_eq_some_iff.1 hx
      obtain ⟨o, ho⟩ := h5 j y hy
      rw [ha] at ho
      exact view_bw ho
theorem appV {ti : TI} {H : Heap} {B X : List Nat} {cv : AV} {l : List BW} {y : BW} {e : AV} {o : Option Nat} {K : KV} (hT : Vis H B X cv l) (he : OwnAt 0 H (X ++ B) (some e) y o) (hl : l.length < 100000) (h1 : (ti.kind != 0 && Nat.blt 0 ti.bytes) = true) (h2 : 7 = ti.size) (h3 : ti.bytes ≤ 400)
    (k : ∀ (t : Nat) (H' : Heap), t = H.length → H.length < H'.length → (∀ i, i ∉ X → i < H.length → H'[i]? = H[i]?) → Vis H' B [t] (.sl t 0 (l.length + 1) 7 none) (l ++ [y]) → K (.sl t 0 (l.length + 1) 7 none) H') (hB : ∀ i ∈ B, i < H.length) : appD ti cv [e] H K := by
  rcases hT with ⟨rfl, rfl, rfl⟩ | ⟨t, Fs, rfl, ht, hlen, rfl, hv⟩
  · refine app1n h1 (by omega) fun t H' h4 h5 h6 h7 => ?_
    rw [← h2] at h7 ⊢
    refine k t H' h4.symm (by omega) (fun i _ hi => h6 i (by omega)) (.inr ⟨t, [e], rfl, h7, rfl, rfl, fun j y' hy => ?_⟩)
    cases j with
    | zero =>
      cases hy
      exact ⟨o, he.frame (fun i hi => by rcases List.mem_cons.1 hi with rfl | hi; exact .inr (by omega); exact .inl (by simpa using hi)) fun i hi _ hlt => h6 i (by omega)⟩
    | succ j => cases hy
  · refine app1 ht (by omega) h2 h1 (by have := Nat.mul_le_mul (show l.length + 1 ≤ 100000 by omega) h3; omega) fun id' A' H' g1 g2 g3 g4 g5 g6 g7 g8 g9 => ?_
    obtain ⟨e1, e2⟩ := g3 (by omega)
    refine k id' H' e2 (by omega) (fun i hi hl => g9 i (by simpa using hi) hl) (.inr ⟨id', A', by rw [List.length_append, List.length_singleton], g1, by rw [e1, List.length_append, List.length_append, hlen]; rfl, rfl, fun j y' hy => ?_⟩)
    have fr : ∀ {ee : Option AV} {yy : BW} {oo : Option Nat}, OwnAt 0 H ([t] ++ B) ee yy oo → OwnAt 0 H' (id' :: B) ee yy oo := fun h => h.frame (fun i hi => by
      rcases List.mem_cons.1 hi with rfl | hi
      · exact .inr (by omega)
      · exact .inl (List.mem_append_right _ hi)) fun i hi _ hlt => g9 i (fun e => hi (by rw [e]; simp)) hlt
    rw [List.getElem?_append] at hy
    split at hy
    · rename_i hj
      obtain ⟨oo, ho⟩ := hv j y' hy
      rw [g4 j hj]
      exact ⟨oo, fr ho⟩
    · have hj2 : j - l.length = 0 := by
        have := (List.getElem?_eq_some_iff.1 hy).1
        simp only [List.length_singleton] at this; omega
      have hj3 : j = l.length := by omega
      rw [hj2] at hy; cases hy
      rw [hj3, g5]
      exact ⟨o, fr he⟩
def keepP (t : Int) (x : BW) : Bool := !decide (x.id = t)
def selK (t : Int) (ws : List BW) (k : Nat) : List BW := (ws.take k).filter (keepP t)
theorem selK_t {t : Int} {ws : List BW} {k : Nat} {x : BW} (h : ws[k]? = some x) (h2 : ¬ x.id = t) : selK t ws (k + 1) = selK t ws k ++ [x] := by
  obtain ⟨hk, rfl⟩ := at_of h
  unfold selK; rw [List.take_succ_eq_append_getElem hk, List.filter_append]
  simp [keepP, h2]
theorem selK_f {t : Int} {ws : List BW} {k : Nat} {x : BW} (h : ws[k]? = some x) (h2 : x.id = t) : selK t ws (k + 1) = selK t ws k := by
  obtain ⟨hk, rfl⟩ := at_of h
  unfold selK; rw [List.take_succ_eq_append_getElem hk, List.filter_append]
  simp [keepP, h2]
theorem selK_len {t : Int} {ws : List BW} {k : Nat} : (selK t ws k).length ≤ ws.length := by
  unfold selK
  have := List.length_filter_le (keepP t) (ws.take k)
  rw [List.length_take] at this; omega
theorem selK_end {t : Int} {b : Bd} {k : Nat} (h : b.ws.length ≤ k) : selK t b.ws k = (dropB b t).ws := by
  unfold selK dropB; rw [List.take_of_length_le h]; rfl
theorem OwnAt.weak {m : Nat} {H : Heap} {B : List Nat} {e : Option AV} {x : BW} {o : Option Nat} (h : OwnAt m H B e x o) : OwnAt 0 H B e x o := by
  cases o with
  | none => exact h
  | some id => obtain ⟨a1, a2, a3⟩ := h; exact ⟨a1, a2, a3.1, Nat.zero_le _⟩
theorem dropB_enc (b : Bd) (t : Int) : (dropB b t).enc = .agg [.fs ((dropB b t).ws.map BW.enc), i b.next] := by unfold dropB; rfl
theorem selK_0 (t : Int) (ws : List BW) : selK t ws 0 = [] := rfl
theorem Vis.zero {H : Heap} {B : List Nat} : Vis H B [] .nilS [] := .inl ⟨rfl, rfl, rfl⟩
theorem Own.weak {m : Nat} {H : Heap} {B : List Nat} {E : List AV} {ws : List BW} {k : Nat} (h : Own m H B E ws k) : Own 0 H B E ws k := by
  unfold Own at h ⊢
  obtain ⟨ids, h1, h2⟩ := h
  exact ⟨ids, fun j x hj hx => (h1 j x hj hx).weak, h2⟩
theorem OwnAt.away {m : Nat} {H : Heap} {B B' : List Nat} {e : Option AV} {x : BW} {o : Option Nat} (h : OwnAt m H B e x o) (hB : ∀ i, i ∈ B' → i ∈ B ∨ i < m) : OwnAt m H B' e x o := by
  cases o with
  | none => exact h
  | some id =>
    obtain ⟨a1, a2, a3⟩ := h
    refine ⟨a1, a2, fun hb => ?_, a3.2⟩
    rcases hB _ hb with h | h
    · exact a3.1 h
    · omega
theorem Own.away {m : Nat} {H : Heap} {B B' : List Nat} {E : List AV} {ws : List BW} {k : Nat} (h : Own m H B E ws k) (hB : ∀ i, i ∈ B' → i ∈ B ∨ i < m) : Own m H B' E ws k := by
  unfold Own at h ⊢
  obtain ⟨ids, h1, h2⟩ := h
  exact ⟨ids, fun j x hj hx => (h1 j x hj hx).away hB, h2⟩
theorem RowK.away {m : Nat} {H : Heap} {B' : List Nat} {cw : AV} {ws : List BW} {k : Nat} (h : RowK m H [] cw ws k) (hB : ∀ i, i ∈ B' → i < m) : RowK m H B' cw ws k := by
  rcases h with h | ⟨q, Es, h1, h2, h3, ⟨h4, h4'⟩, h5⟩
  · exact .inl h
  · exact .inr ⟨q, Es, h1, h2, h3, ⟨fun hb => by have := hB _ hb; omega, h4'⟩, h5.away fun i hi => by
      rcases List.mem_cons.1 hi with rfl | hi
      · exact .inl (by simp)
      · exact .inr (hB _ hi)⟩
theorem RowK.weak {m : Nat} {H : Heap} {B : List Nat} {cw : AV} {ws : List BW} {k : Nat} (h : RowK m H B cw ws k) : RowK 0 H B cw ws k := by
  rcases h with h | ⟨q, Es, h1, h2, h3, ⟨h4, _⟩, h5⟩
  · exact .inl h
  · exact .inr ⟨q, Es, h1, h2, h3, ⟨h4, Nat.zero_le _⟩, h5.weak⟩
attribute [local irreducible] Vis selK

theorem c37o (b : Bd) (w : Wt) (hb : SB b) (hn : 1 ≤ b.next ∧ b.next < 2147483647) (H0 : Heap) : ∃ r H, Run Tryz.prog 37 [.d b.enc, .d w.enc] H0 r H ∧ view 8 H r = some (.tup [(addB b w).enc, i b.next]) := by
  have hbn := hb.n
  refine run_walkQ eok Tryz.func37 rfl (by kernel_rfl) ?_
  conv => whnf
  repeat' (first
    | (refine call_stepQ (c20o b hb _) (fun r H hQ => ?_); obtain ⟨cw, rfl, hR, hgl, hf⟩ := hQ; rcases hR with ⟨hk0, rfl⟩ | ⟨q, Es, rfl, hqq, hEl, ⟨hqB, hqm⟩, hO⟩; all_goals (try (have hlq := lt_of_at hqq)); all_goals (conv => whnf))
    | (refine ⟨[], [(2, 3)], (by decide +kernel), ?_⟩; conv => whnf)
    | (refine wrap64 (by omega) ?_; conv => whnf)
    | ((with_reducible refine appD_go ?_); (first | refine app1 (by (repeat (first | with_reducible assumption | refine look_new (by with_reducible assumption) (by omega) ?_ | refine look_set (by with_reducible assumption) (by omega) ?_ ))) hEl rfl rfl (Nat.le_trans (Nat.mul_le_mul (show _ ≤ 1001 by omega) (show _ ≤ 400 by decide)) (by decide)) (fun id9 A9 H h91 h92 h93 h94 h95 h96 hl9 hl9b hf9 => ?_) | refine app1n rfl (by decide) (fun id9 H ht9 hl9 hf9 h91 => ?_)); conv => whnf)
    | ((with_reducible refine newD_go ?_); (first | refine newG (fun n H hn hl hf ho => ?_)); conv => whnf)
    | ((with_reducible refine nthK_go ?_); (first | (refine nthG (x := ?_) ?_ ?_; rotate_left; (focus ((repeat (first | with_reducible assumption | refine look_new (by with_reducible assumption) (by omega) ?_ | refine look_set (by with_reducible assumption) (by omega) ?_ | refine look_app (by with_reducible assumption) (by omega) (by omega) ?_ )); done)); conv => whnf)))
    | ((with_reducible refine setK_go ?_); (first | (refine setG (by first | omega ) (fun H hl hf ho => ?_); (try dsimp only at hl hf); conv => whnf)))
    | (refine ⟨Nat.le_refl _, ?_⟩; conv => whnf)
    | (refine ⟨congrArg (Option.map AO.vis) (Eq.symm (by (repeat (first | with_reducible rfl | refine look_set (by with_reducible assumption) (by omega) ?_ )))), ?_⟩; conv => whnf)
    | ((with_reducible refine endq_go ?_); first | (refine endq ?_; exact view_tup (vlc (view_agg (vlc (view_own_k (by (repeat (first | with_reducible assumption | refine look_set (by with_reducible assumption) (by omega) ?_ ))) h92 (addB_len b w).symm (Own.snocN (x := ⟨b.next, w, [], false⟩) (B' := []) hO rfl h94 h95 (by (intro i hi hmi hlt; have hiq : i ≠ q := (fun e => hi (by rw [e]; simp)); (repeat (first | with_reducible rfl | refine look_new (by with_reducible assumption) (by omega) ?_ | refine look_set (by with_reducible assumption) (by omega) ?_ | refine look_app (by with_reducible assumption) (by omega) (by omega) ?_ )))) (fun _ h => by cases h))) (vlc rfl vln))) (vlc rfl vln)); done) | (refine endq ?_; have hw0 : b.ws = [] := List.eq_nil_of_length_eq_zero hk0; exact view_tup (vlc (view_agg (vlc (view_own_k (E := [bwX ⟨b.next, w, [], false⟩ .nilS]) (ws := b.ws ++ [⟨b.next, w, [], false⟩]) (m := 0) (B := []) (by (repeat (first | refine look_set (by with_reducible assumption) (by omega) ?_ | assumption))) (Nat.le_refl _) (by rw [hw0]; rfl) (by rw [hw0]; exact Own.snocN (ws := []) (B := []) (H := H) (E := []) (Own.zero (m := 0)) rfl (fun j hj => absurd hj (by simp)) rfl (fun _ _ _ _ => rfl) (fun _ h => .inl h))) (vlc rfl vln))) (vlc rfl vln)); done))
    | fail
    )

theorem c39o (b : Bd) (t : Int) (hb : SB b) (H0 : Heap) : ∃ r H, Run Tryz.prog 39 [.d b.enc, .d (i t)] H0 r H ∧ view 8 H r = some (dropB b t).enc := by
  refine run_walkQ eok Tryz.func39 rfl (by kernel_rfl) ?_
  conv => whnf
  repeat' (first
    | ((with_reducible refine on_dec_f ?_ ?_); (focus ((try simp only [List.length_map, List.length_cons, List.length_nil, List.length_append]); omega)); conv => whnf)
    | ((with_reducible refine on_dec_t ?_ ?_); (focus ((try simp only [List.length_map, List.length_cons, List.length_nil, List.length_append]); omega)); conv => whnf)
    | ((with_reducible refine on_ndec (fun h => ?_) (fun h => ?_)) <;> (try simp only [List.length_map] at h) <;> conv => whnf)
    | (refine call_stepQ (c20o b hb _) (fun r H hQ => ?_); obtain ⟨cw, rfl, hR, hgl, hf⟩ := hQ; conv => whnf)
    | (refine ⟨[], [(1, 6)], (by decide +kernel), ?_⟩; conv => whnf)
    | ((with_reducible refine loop_go ?_); first | (apply loopG4 (fun (k : Nat) (y : Nat) (p : Nat) (cw : AV) (H : Heap) => b.ws.length - k) (fun (k : Nat) (y : Nat) (p : Nat) (cw : AV) (H : Heap) => (k ≤ b.ws.length ∧ H[y]? = some ⟨[(E 39).zero], (E 39).size, 0⟩ ∧ y ≠ p) ∧ ∃ (cv : AV) (X : List Nat), H[p]? = some ⟨[.agg [cv, .d (i b.next)]], 2, 0⟩ ∧ (y ∉ X ∧ p ∉ X) ∧ Vis H [y, p] X cv (selK t b.ws k) ∧ RowK 0 H (y :: p :: X) cw b.ws b.ws.length) (fun (k : Nat) (y : Nat) (p : Nat) (cw : AV) (H : Heap) => [(1, .d (i t)), (4, .ptr y 0 0), (5, .ptr p 0 0), (6, cw), (7, .d (i k))]) (0); rotate_left; (focus (exact .inl ⟨rfl, ⟨(by first | rfl ), (by first | rfl ), (by first | rfl ), (by first | rfl ), (by first | rfl ), trivial⟩⟩)); rotate_left; (focus (exact ⟨⟨Nat.zero_le _, (by (repeat (first | with_reducible assumption | refine look_new (by with_reducible assumption) (by omega) ?_ | refine look_set (by with_reducible assumption) (by omega) ?_ ))), by omega⟩, .nilS, [], (by (repeat (first | refine look_new (by with_reducible assumption) (by omega) ?_ | assumption))), ⟨by simp, by simp⟩, (by rw [selK_0]; exact Vis.zero), (hR.away (fun i hi => by simp only [List.mem_cons, List.not_mem_nil, or_false] at hi; omega)).weak⟩)); intro k y p cw H C hI hC; have hbn := hb.n; obtain ⟨⟨hk, h0, hd⟩, cv, X, h1, ⟨hXy, hXp⟩, hV, hR⟩ := hI; have hl0 := lt_of_at h0; have hl1 := lt_of_at h1; rcases hR with ⟨hk0, rfl⟩ | ⟨q, Es, rfl, hq, hE, ⟨hqB, hqm⟩, hO⟩; rotate_left; have hlq := lt_of_at hq; have hqX := hqB; simp only [List.mem_cons, not_or] at hqX; obtain ⟨hqy, hqp, hqX⟩ := hqX; (rcases hO.lookP rfl (k := k) with hkk | ⟨hkk, x, hx, ⟨hx0, hEk, hOk⟩ | ⟨id, hEk, hOk⟩⟩); all_goals (try (rw [hEk] at hOk)); all_goals (rcases hV.cv with rfl | ⟨t8, rfl⟩); all_goals (conv => whnf)))
    | ((with_reducible show C _ _); first | (refine hC (k + 1) (y) (p) ((.sl q 0 b.ws.length 7 none)) _ _ ?_ (by omega) ?_; clear hC; rotate_left; (exact ⟨(by first | rfl ), (by first | rfl ), (by first | rfl ), (by first | rfl ), (by first | rfl ), trivial⟩); exact ⟨⟨by omega, (by (repeat (first | with_reducible assumption ))), by omega⟩, _, X, h1, ⟨hXy, hXp⟩, (by rw [selK_f hx (by first | assumption )]; exact hV), .inr ⟨q, Es, rfl, hq, hE, ⟨hqB, hqm⟩, hO⟩⟩) | (refine hC (k + 1) (y) (p) ((.sl q 0 b.ws.length 7 none)) _ _ ?_ (by omega) ?_; clear hC; rotate_left; (exact ⟨(by first | rfl ), (by first | rfl ), (by first | rfl ), (by first | rfl ), (by first | rfl ), trivial⟩); exact ⟨⟨by omega, (by (repeat (first | with_reducible assumption | refine look_new (by with_reducible assumption) (by omega) ?_ | refine look_set (by with_reducible assumption) (by omega) ?_ | refine look_appX (by with_reducible assumption) (by with_reducible assumption) (by omega) ?_ ))), by omega⟩, _, [t9], (by (repeat (first | with_reducible assumption ))), ⟨by (simp only [List.mem_cons, List.not_mem_nil, or_false, not_or]; omega), by (simp only [List.mem_cons, List.not_mem_nil, or_false, not_or]; omega)⟩, (by rw [selK_t hx (by first | assumption )]; exact Vis.frame hV9 (by (intro i hi hlt; simp only [List.mem_cons, List.not_mem_nil, or_false, not_or] at hi; (repeat (first | with_reducible rfl | refine look_set (by with_reducible assumption) (by omega) ?_ )))) (by intro i hi; simp only [List.mem_cons, List.not_mem_nil, or_false, not_or] at hi ⊢; omega)), RowK.frame (B := y :: p :: X) (.inr ⟨q, Es, rfl, hq, hE, ⟨hqB, hqm⟩, hO⟩) (by intro i hi; simp only [List.mem_cons, List.not_mem_nil, or_false] at hi ⊢; omega) (by (intro i hi hmi hlt; simp only [List.mem_cons, List.not_mem_nil, or_false, not_or] at hi; obtain ⟨hi1, hi2, hi3⟩ := hi; (repeat (first | with_reducible rfl | refine look_new (by with_reducible assumption) (by omega) ?_ | refine look_set (by with_reducible assumption) (by omega) ?_ | refine look_appX (by with_reducible assumption) (by with_reducible assumption) (by omega) ?_ ))))⟩))
    | (refine wrap64 (by omega) ?_; conv => whnf)
    | ((with_reducible refine appD_go ?_); (first | refine appV (B := [y, p]) (Vis.frame hV (by (intro i hi hlt; simp only [List.mem_cons, List.not_mem_nil, or_false, not_or] at hi; (repeat (first | with_reducible rfl | refine look_new (by with_reducible assumption) (by omega) ?_ )))) (by intro i hi; simp only [List.mem_cons, List.not_mem_nil, or_false, not_or]; exact ⟨fun e => hXy (by rw [← e]; exact hi), fun e => hXp (by rw [← e]; exact hi)⟩)) (OwnAt.frame hOk.weak (by intro i hi; simp only [List.mem_append, List.mem_cons, List.not_mem_nil, or_false] at hi ⊢; first | (exact .inl (by rcases hi with hi | hi | hi <;> simp [hi]))) (by (intro i hi hmi hlt; simp only [List.mem_cons, List.not_mem_nil, or_false, not_or] at hi; (repeat (first | with_reducible rfl | refine look_new (by with_reducible assumption) (by omega) ?_ ))))) (by have := selK_len (t := t) (ws := b.ws) (k := k); omega) rfl rfl (by decide) (fun t9 H ht9 hl9 hf9 hV9 => ?_) (by intro i hi; simp only [List.mem_cons, List.not_mem_nil, or_false] at hi; omega)); conv => whnf)
    | ((with_reducible refine newD_go ?_); (first | refine newG (fun n H hn hl hf ho => ?_)); conv => whnf)
    | ((with_reducible refine nthK_go ?_); (first | (refine nthGk (x := ?_) ?_ ?_; rotate_left; (focus ((repeat (first | with_reducible assumption )); done)); conv => whnf) | (refine nthG (x := ?_) ?_ ?_; rotate_left; (focus ((repeat (first | with_reducible assumption | refine look_new (by with_reducible assumption) (by omega) ?_ | refine look_set (by with_reducible assumption) (by omega) ?_ | refine look_appX (by with_reducible assumption) (by with_reducible assumption) (by omega) ?_ )); done)); conv => whnf)))
    | ((with_reducible refine setK_go ?_); (first | (refine setG (by first | omega ) (fun H hl hf ho => ?_); (try dsimp only at hl hf); conv => whnf)))
    | (refine ⟨⟨by omega, by omega⟩, ?_⟩; conv => whnf)
    | (refine ⟨Nat.le_refl _, ?_⟩; conv => whnf)
    | (refine ⟨congrArg (Option.map AO.vis) (Eq.symm (by (repeat (first | with_reducible rfl | refine look_new (by with_reducible assumption) (by omega) ?_ )))), ?_⟩; conv => whnf)
    | ((with_reducible refine endq_go ?_); first | (rw [dropB_enc]; refine endq ?_; rw [← selK_end (b := b) (t := t) (k := k) (by omega)]; exact view_agg (vlc (Vis.view (Vis.frame hV (by (intro i hi hlt; simp only [List.mem_cons, List.not_mem_nil, or_false, not_or] at hi; (repeat (first | with_reducible rfl | refine look_set (by with_reducible assumption) (by omega) ?_ )))) (by intro i hi; simp only [List.mem_cons, List.not_mem_nil, or_false, not_or]; exact ⟨fun e => hXy (by rw [← e]; exact hi), fun e => hXp (by rw [← e]; exact hi)⟩))) (vlc rfl vln)); done))
    | fail
    )

end Go.Proofs.YtbkmjpmgiaiacaaGreatDoor

/-! Yf -/
namespace Go.Proofs.YtbkmjpmgiaiacaaGreatDoor
open Go Dw
set_option maxRecDepth 10000
set_option linter.unusedVariables false
set_option linter.unusedSimpArgs false
attribute [local irreducible] Run
set_option maxHeartbeats 4000000

open Paths
theorem BX.lt {H : Heap} {p : Nat} {b : Bd} {X : List Nat} (h : BX H p b X) : ∀ i ∈ X, i < H.length := h.2
theorem BX.move {H H' : Heap} {p : Nat} {b : Bd} {X X' : List Nat} (h : BX H p b X) (hf : ∀ i, i ∉ X → i < H.length → H'[i]? = H[i]?) (hX : ∀ i ∈ X', i ∈ X ∨ H.length ≤ i) (hl : ∀ i ∈ X', i < H'.length) : BX H' p b X' := by
  obtain ⟨⟨q, Es, hp, hq, hE, hd, ⟨hpX, hqX⟩, hO⟩, hXl⟩ := h
  have hlp := lt_of_at hp; have hlq := lt_of_at hq
  refine ⟨⟨q, Es, by rw [hf p hpX hlp]; exact hp, by rw [hf q hqX hlq]; exact hq, hE, hd, ⟨fun h => ?_, fun h => ?_⟩, hO.frame (fun i hi => ?_) fun i hi _ hlt => hf i (fun h => hi (List.mem_append_right _ h)) hlt⟩, hl⟩
  · rcases hX p h with h | h
    · exact hpX h
    · omega
  · rcases hX q h with h | h
    · exact hqX h
    · omega
  · rcases List.mem_append.1 hi with hi | hi
    · exact .inl (List.mem_append_left _ hi)
    · rcases hX i hi with h | h
      · exact .inl (List.mem_append_right _ h)
      · exact .inr h
theorem BH.toX {m : Nat} {H : Heap} {p : Nat} {b : Bd} {X : List Nat} (h : BH m H p b) (hX : ∀ i ∈ X, i < m) : BX H p b X := by
  have hm := h.le
  obtain ⟨q, Es, hp, hq, hE, ⟨d1, d2, d3⟩, hO⟩ := h
  refine ⟨⟨q, Es, hp, hq, hE, ⟨d1, Nat.zero_le _, Nat.zero_le _⟩, ⟨fun h => by have := hX p h; omega, fun h => by have := hX q h; omega⟩, (hO.away fun i hi => ?_).weak⟩, fun i hi => by have := hX i hi; omega⟩
  rcases List.mem_append.1 hi with hi | hi
  · exact .inl hi
  · exact .inr (hX i hi)
def AnsV (a : AV) (r : Ans) : Prop := a = .d r.enc ∨ ∃ tv rv, a = .agg [.d (i r.err), .d (i r.id), tv, rv] ∧ ((tv = .nilS ∧ r.told = []) ∨ tv = .d (.fs (r.told.map i))) ∧ ((rv = .nilS ∧ r.recs = []) ∨ rv = .d (.fs (r.recs.map Rec.enc)))
/-- A row of answers. -/
def RowV (H : Heap) (cd : AV) (outs : List Ans) (X : List Nat) : Prop := (outs = [] ∧ cd = .nilS ∧ X = []) ∨ ∃ t A, cd = .sl t 0 outs.length 4 none ∧ H[t]? = some ⟨A, 4, 0⟩ ∧ A.length = outs.length ∧ X = [t] ∧ ∀ (j : Nat) (r : Ans), outs[j]? = some r → ∃ a, A[j]? = some a ∧ AnsV a r
theorem RowV.zero {H : Heap} : RowV H .nilS [] [] := .inl ⟨rfl, rfl, rfl⟩
theorem RowV.frame {H H' : Heap} {cd : AV} {outs : List Ans} {X : List Nat} (h : RowV H cd outs X) (hf : ∀ i ∈ X, H'[i]? = H[i]?) : RowV H' cd outs X := by
  rcases h with h | ⟨t, A, h1, h2, h3, h4, h5⟩
  · exact .inl h
  · exact .inr ⟨t, A, h1, by rw [hf t (by rw [h4]; simp)]; exact h2, h3, h4, h5⟩
theorem RowV.cv {H : Heap} {cd : AV} {outs : List Ans} {X : List Nat} (h : RowV H cd outs X) : cd = .nilS ∨ ∃ t, cd = .sl t 0 outs.length 4 none := by
  rcases h with ⟨_, h, _⟩ | ⟨t, A, h1, _⟩
  · exact .inl h
  · exact .inr ⟨t, h1⟩
theorem view_ans {H : Heap} {f : Nat} {a : AV} {r : Ans} (h : AnsV a r) : view (f + 2) H a = some r.enc := by
  rcases h with rfl | ⟨tv, rv, rfl, h1, h2⟩
  · rfl
  · have e1 : view (f + 1) H tv = some (.fs (r.told.map i)) := by
      rcases h1 with ⟨rfl, h⟩ | rfl
      · rw [h]; rfl
      · rfl
    have e2 : view (f + 1) H rv = some (.fs (r.recs.map Rec.enc)) := by
      rcases h2 with ⟨rfl, h⟩ | rfl
      · rw [h]; rfl
      · rfl
    exact view_agg (vlc rfl (vlc rfl (vlc e1 (vlc e2 vln))))
theorem RowV.view {H : Heap} {f : Nat} {cd : AV} {outs : List Ans} {X : List Nat} (h : RowV H cd outs X) : view (f + 3) H cd = some (.fs (outs.map Ans.enc)) := by
  rcases h with ⟨rfl, rfl, _⟩ | ⟨t, A, rfl, h2, h3, _, h5⟩
  · rfl
  · show (match H[t]? with
      | some o => if o.st < 2 then (if 0 + outs.length ≤ o.elems.length then (vl (Dw.view (f + 2) H) ((o.elems.drop 0).take outs.length)).map D.fs else none) else none
      | none => none) = _
    simp only [h2]
    rw [if_pos (by decide), if_pos (by omega), List.drop_zero, List.take_of_length_le (by omega)]
    rw [vl_of (r := outs.map Ans.enc) (by rw [List.length_map]; exact h3) (fun j a x ha hx => ?_)]
    · rfl
    · rw [List.getElem?_map] at hx
      obtain ⟨y, hy, rfl⟩ := Option.map_eq_some_iff.1 hx
      obtain ⟨a', h6, h7⟩ := h5 j y hy
      rw [ha] at h6; cases h6
      exact view_ans h7
theorem appAns {ti : TI} {H : Heap} {X : List Nat} {cd : AV} {outs : List Ans} {r : Ans} {e : AV} {K : KV} (hT : RowV H cd outs X) (he : AnsV e r) (hl : outs.length < 100000) (h1 : (ti.kind != 0 && Nat.blt 0 ti.bytes) = true) (h2 : 4 = ti.size) (h3 : ti.bytes ≤ 400)
    (k : ∀ (t : Nat) (H' : Heap), t = H.length → H.length < H'.length → (∀ i, i ∉ X → i < H.length → H'[i]? = H[i]?) → RowV H' (.sl t 0 (outs.length + 1) 4 none) (outs ++ [r]) [t] → K (.sl t 0 (outs.length + 1) 4 none) H') : appD ti cd [e] H K := by
  rcases hT with ⟨rfl, rfl, rfl⟩ | ⟨t, A, rfl, ht, hlen, rfl, hv⟩
  · refine app1n h1 (by omega) fun t H' h4 h5 h6 h7 => ?_
    rw [← h2] at h7 ⊢
    refine k t H' h4.symm (by omega) (fun i _ hi => h6 i (by omega)) (.inr ⟨t, [e], rfl, h7, rfl, rfl, fun j y' hy => ?_⟩)
    cases j with
    | zero => cases hy; exact ⟨e, rfl, he⟩
    | succ j => cases hy
  · refine app1 ht (by omega) h2 h1 (by have := Nat.mul_le_mul (show outs.length + 1 ≤ 100000 by omega) h3; omega) fun id' A' H' g1 g2 g3 g4 g5 g6 g7 g8 g9 => ?_
    obtain ⟨e1, e2⟩ := g3 (by omega)
    refine k id' H' e2 (by omega) (fun i hi hl => g9 i (by simpa using hi) hl) (.inr ⟨id', A', by rw [List.length_append, List.length_singleton], g1, by rw [e1, List.length_append, List.length_append, hlen]; rfl, rfl, fun j y' hy => ?_⟩)
    rw [List.getElem?_append] at hy
    split at hy
    · rename_i hj
      rw [g4 j hj]; exact hv j y' hy
    · have hj2 : j - outs.length = 0 := by
        have := (List.getElem?_eq_some_iff.1 hy).1
        simp only [List.length_singleton] at this; omega
      have hj3 : j = outs.length := by omega
      rw [hj2] at hy; cases hy
      rw [hj3, g5]
      exact ⟨e, rfl, he⟩
theorem f54d {l : List Act} (h : (l.length : Int) ≤ 80) : Fn 54 [.fs [i 0, i (if decide (((l.map Act.enc).length : Int) ≤ 80) = true then 0 else 8)]] (i 0) := by
  have h2 := c54 [0, if decide (((l.map Act.enc).length : Int) ≤ 80) = true then 0 else 8] (by simp)
  have e : firstE [0, if decide (((l.map Act.enc).length : Int) ≤ 80) = true then 0 else 8] = 0 := by simp [firstE, h]
  rw [e] at h2; exact h2
theorem f54l {l : List Act} (h : ¬ (l.length : Int) ≤ 80) : Fn 54 [.fs [i 0, i (if decide (((l.map Act.enc).length : Int) ≤ 80) = true then 0 else 8)]] (i 8) := by
  have h2 := c54 [0, if decide (((l.map Act.enc).length : Int) ≤ 80) = true then 0 else 8] (by simp)
  have e : firstE [0, if decide (((l.map Act.enc).length : Int) ≤ 80) = true then 0 else 8] = 8 := by simp [firstE, h]
  rw [e] at h2; exact h2
theorem f54b2 {e z : Int} (h : ¬ e = 0) : Fn 54 [.fs [i e, i z]] (i e) := by
  have h2 := c54 [e, z] (by simp)
  rwa [firstE_cons, if_neg h] at h2
theorem c80r {l : List Act} {x e : Int} (hl : l.length < 1000) (h : actsE l 0 = (x, e)) : Fn 80 [.fs (l.map Act.enc), .fn 81 [] []] (.tup [i x, i e]) := by
  have := c80 l hl; rwa [h] at this
attribute [local irreducible] newD Own checkB addErr roomy bsR ixB dropB addB sz roomOf putB seesW belowI readB readL readC readN findE tellB told eventErr watchErr BX RowV stepB runK actsE appD

theorem c41b (b : Bd) (l : List Act) (hb : SB b) (hl : l.length < 1000) (hc : ¬ (checkB b).2 = 0) (H0 : Heap) : ∃ r H, Run Tryz.prog 41 [.d b.enc, .d (.fs (l.map Act.enc))] H0 r H ∧ view 8 H r = some (.tup [bd0.enc, .fs [], i 0, i (checkB b).2]) := by
  refine run_walkQ eok Tryz.func41 rfl (by kernel_rfl) ?_
  conv => whnf
  repeat' (first
    | ((with_reducible refine on_ndec_f (by assumption) ?_); conv => whnf)
    | (refine call_stepQ (c65e b hb hc _) (fun r H hQ => ?_); obtain ⟨p, rfl, hf⟩ := hQ; have hy9 := (hf n (by omega)).trans (by assumption); have hly9 := lt_of_at hy9; conv => whnf)
    | ((with_reducible refine call_go ?_); (first | refine call_step (run_view (c55 _ _) rfl rfl) ?_ | refine call_step (run_view (f54b2 hc) rfl (vlc (view_pair (by (repeat (first | assumption )))) vln)) ?_ ); conv => whnf)
    | (refine newG (fun n H hn hl hf ho => ?_); conv => whnf)
    | (refine setG (by first | omega | exact lt_of_at (by (repeat (first | assumption )))) (fun H hl hf ho => ?_); (try dsimp only at hl hf); conv => whnf)
    | (refine nthG (x := ?_) ?_ ?_; rotate_left; (focus ((repeat (first | assumption | refine look_new (by assumption) (by omega) ?_ )); done)); conv => whnf)
    | ((with_reducible refine endq_go ?_); first | (exact endq (view_tup (vlc (view_agg (vlc rfl (vlc rfl vln))) (vlc rfl (vlc rfl (vlc rfl vln))))); done))
    | fail
    )

theorem c41l (b : Bd) (l : List Act) (hb : SB b) (hl : l.length < 1000) (hc : (checkB b).2 = 0) (hn8 : ¬ (l.length : Int) ≤ 80) (H0 : Heap) : ∃ r H, Run Tryz.prog 41 [.d b.enc, .d (.fs (l.map Act.enc))] H0 r H ∧ view 8 H r = some (.tup [bd0.enc, .fs [], i 0, i 8]) := by
  refine run_walkQ eok Tryz.func41 rfl (by kernel_rfl) ?_
  conv => whnf
  repeat' (first
    | (refine call_stepQ (c65o b hb hc _) (fun r H hQ => ?_); obtain ⟨p, rfl, hB, hf⟩ := hQ; have hBX := fun X hX => BH.toX (X := X) hB hX; have hBl := hB.le; conv => whnf)
    | ((with_reducible refine call_go ?_); (first | refine call_step (run_view (c55 _ _) rfl rfl) ?_ | refine call_step (run_view (f54l hn8) rfl (vlc (view_pair (by (repeat (first | assumption )))) vln)) ?_ ); conv => whnf)
    | (refine newG (fun n H hn hl hf ho => ?_); conv => whnf)
    | (refine setG (by first | omega | exact lt_of_at (by (repeat (first | assumption )))) (fun H hl hf ho => ?_); (try dsimp only at hl hf); conv => whnf)
    | (refine nthG (x := ?_) ?_ ?_; rotate_left; (focus ((repeat (first | assumption | refine look_new (by assumption) (by omega) ?_ )); done)); conv => whnf)
    | ((with_reducible refine endq_go ?_); first | (exact endq (view_tup (vlc (view_agg (vlc rfl (vlc rfl vln))) (vlc rfl (vlc rfl (vlc rfl vln))))); done))
    | fail
    )

theorem c41a (b : Bd) (l : List Act) (hb : SB b) (hc : (checkB b).2 = 0) (hn8 : (l.length : Int) ≤ 80) (x e : Int) (h0 : actsE l 0 = (x, e)) (he : ¬ e = 0) (H0 : Heap) : ∃ r H, Run Tryz.prog 41 [.d b.enc, .d (.fs (l.map Act.enc))] H0 r H ∧ view 8 H r = some (.tup [bd0.enc, .fs [], i x, i e]) := by
  refine run_walkQ eok Tryz.func41 rfl (by kernel_rfl) ?_
  conv => whnf
  repeat' (first
    | ((with_reducible refine on_ndec_f (by assumption) ?_); conv => whnf)
    | (refine call_stepQ (c65o b hb hc _) (fun r H hQ => ?_); obtain ⟨p, rfl, hB, hf⟩ := hQ; have hBX := fun X hX => BH.toX (X := X) hB hX; have hBl := hB.le; conv => whnf)
    | ((with_reducible refine call_go ?_); (first | refine call_step (run_view (c55 _ _) rfl rfl) ?_ | refine call_step (run_view (f54d hn8) rfl (vlc (view_pair (by (repeat (first | assumption )))) vln)) ?_ | refine call_step (run_view (c80r (by omega) h0) rfl rfl) ?_ ); conv => whnf)
    | (refine newG (fun n H hn hl hf ho => ?_); conv => whnf)
    | (refine setG (by first | omega | exact lt_of_at (by (repeat (first | assumption )))) (fun H hl hf ho => ?_); (try dsimp only at hl hf); conv => whnf)
    | (refine nthG (x := ?_) ?_ ?_; rotate_left; (focus ((repeat (first | assumption | refine look_new (by assumption) (by omega) ?_ )); done)); conv => whnf)
    | ((with_reducible refine endq_go ?_); first | (exact endq (view_tup (vlc (view_agg (vlc rfl (vlc rfl vln))) (vlc rfl (vlc rfl (vlc rfl vln))))); done))
    | fail
    )

theorem c41o (b : Bd) (l : List Act) (hb : SB b) (hV : VB b) (hc : (checkB b).2 = 0) (hn8 : (l.length : Int) ≤ 80) (h0 : actsE l 0 = (0, 0)) (hk : ∀ a ∈ l, 0 ≤ a.kind ∧ a.kind ≤ 3) (hea : ∀ a ∈ l, a.ev.act < 9223372036854775808) (H0 : Heap) : ∃ r H, Run Tryz.prog 41 [.d b.enc, .d (.fs (l.map Act.enc))] H0 r H ∧ view 8 H r = some (.tup [(runK b l l.length).1.enc, .fs ((runK b l l.length).2.map Ans.enc), i l.length, i 0]) := by
  refine run_walkQ eok Tryz.func41 rfl (by kernel_rfl) ?_
  conv => whnf
  repeat' (first
    | ((with_reducible refine on_dec (fun h => ?_) (fun h => ?_)) <;> (try simp only [List.length_map] at h) <;> conv => whnf)
    | (refine call_stepQ (c65o b hb hc _) (fun r H hQ => ?_); obtain ⟨p, rfl, hB, hf⟩ := hQ; have hBX := fun X hX => BH.toX (X := X) hB hX; have hBl := hB.le; conv => whnf)
    | (refine call_stepQ (BX.act (runK_V hV l k (by omega)) (hk _ (List.getElem_mem (l := l) (n := k) (by omega))) (hea _ (List.getElem_mem (l := l) (n := k) (by omega))) p (y :: Xo) _ (hB.keep (by (intro i hi; (repeat (first | with_reducible rfl | refine look_new (by with_reducible assumption) (by omega) ?_ | refine look_set (by with_reducible assumption) (by omega) ?_ ))))).1) (fun r H hQ => ?_); obtain ⟨rfl, hB2, hf2⟩ := hQ; have hy2 : H[y]? = some ⟨[(E 39).zero], (E 39).size, 0⟩ := (hf2 y (by simp)).trans (by (repeat (first | assumption | refine look_new (by assumption) (by omega) ?_ | refine look_set (by assumption) (by omega) ?_))); have hly2 := lt_of_at hy2; have hR2 := hR.frame (H' := H) (fun i hi => (hf2 i (by simp [hi])).trans (by have hil := hXl i (by simp [hi]); (repeat (first | with_reducible rfl | refine look_new (by with_reducible assumption) (by omega) ?_ | refine look_set (by with_reducible assumption) (by omega) ?_ )))); have hl83 := hB2.lt; conv => whnf)
    | ((with_reducible refine call_go ?_); (first | refine call_step (run_view (c55 _ _) rfl rfl) ?_ | refine call_step (run_view (f54d hn8) rfl (vlc (view_pair (by (repeat (first | assumption )))) vln)) ?_ | refine call_step (run_view (c80r (by omega) h0) rfl rfl) ?_); conv => whnf)
    | ((with_reducible refine loop_go ?_); first | (apply loopG4 (fun (k : Nat) (cd : AV) (Xo : List Nat) (y : Nat) (H : Heap) => l.length - k) (fun (k : Nat) (cd : AV) (Xo : List Nat) (y : Nat) (H : Heap) => k ≤ l.length ∧ BX H p (runK b l k).1 (y :: Xo) ∧ RowV H cd (runK b l k).2 Xo ∧ H[y]? = some ⟨[(E 39).zero], (E 39).size, 0⟩ ∧ y ∉ Xo) (fun (k : Nat) (cd : AV) (Xo : List Nat) (y : Nat) (H : Heap) => [(1, .d (.fs (l.map Act.enc))), (4, .ptr y 0 0), (8, .ptr p 0 0), (12, cd), (41, .d (.fs (l.map Act.enc))), (42, .d (i l.length)), (43, .d (i k))]) (0) (.nilS) ([]); rotate_left; (focus (exact .inl ⟨rfl, ⟨(by first | rfl ), (by first | rfl ), (by first | rfl ), (by first | rfl ), (by first | rfl ), (by first | exact congrArg (fun z => AV.d (D.int .i64 z)) (by rw [List.length_map])), (by first | rfl ), trivial⟩⟩)); rotate_left; (focus (exact ⟨Nat.zero_le _, (by rw [runK_0]; exact (hBX _ (by intro i hi; rw [List.mem_singleton.1 hi]; omega)).keep (by (intro i hi; (repeat (first | with_reducible rfl | refine look_new (by with_reducible assumption) (by omega) ?_ )))) |>.1), (by rw [runK_0]; exact RowV.zero), (by (repeat (first | with_reducible assumption | refine look_new (by with_reducible assumption) (by omega) ?_ ))), by simp⟩)); intro k cd Xo y H C hI hC; obtain ⟨hkl, hB, hR, h0y, hyX⟩ := hI; have hl0 := lt_of_at h0y; have hB3 := hB; unfold BX BHX at hB3; obtain ⟨⟨q, Es, hp, hq, hE, hd, hpX, hO⟩, hXl⟩ := hB3; have hlp := lt_of_at hp; have hlq := lt_of_at hq; simp only [List.mem_cons, not_or] at hpX; rcases hR.cv with rfl | ⟨t8, rfl⟩; all_goals (conv => whnf)))
    | ((with_reducible show C _ _); first | (refine hC (k + 1) ((.sl t9 0 ((runK b l k).2.length + 1) 4 none)) ([t9]) (y) _ _ ?_ (by omega) ?_; clear hC; rotate_left; (exact ⟨(by first | rfl ), (by first | rfl ), (by first | rfl ), (by first | rfl ), (by first | rfl ), (by first | rfl ), (by first | rfl ), trivial⟩); exact ⟨by omega, (by rw [runK_s (by omega)]; exact hB2.move (by intro i hi hlt; simp only [List.mem_cons, not_or] at hi; obtain ⟨hi1, hi2⟩ := hi; (repeat (first | with_reducible rfl | refine look_new (by with_reducible assumption) (by omega) ?_ | refine look_appX (by with_reducible assumption) (by with_reducible assumption) (by omega) ?_ ))) (by intro i hi; simp only [List.mem_cons, List.not_mem_nil, or_false] at hi ⊢; rcases hi with rfl | rfl; exact .inl (.inl rfl); exact .inr (by omega)) (by intro i hi; simp only [List.mem_cons, List.not_mem_nil, or_false] at hi; omega)), (by rw [runK_s (by omega)]; exact hR9), (by (repeat (first | with_reducible assumption | refine look_new (by with_reducible assumption) (by omega) ?_ | refine look_appX (by with_reducible assumption) (by with_reducible assumption) (by omega) ?_ ))), (by simp only [List.mem_singleton]; omega)⟩))
    | (refine ix_map (by omega) ?_; conv => whnf)
    | (refine wrap64 (by omega) ?_; conv => whnf)
    | ((with_reducible refine appD_go ?_); (first | refine appAns (hR2.frame (by intro i hi; have hil := hl83 i (by simp [hi]); (repeat (first | with_reducible rfl | refine look_new (by with_reducible assumption) (by omega) ?_ )))) (.inl rfl) (by rw [runK_len b l k (by omega)]; omega) rfl rfl (by decide) (fun t9 H ht9 hl9 hf9 hR9 => ?_)); conv => whnf)
    | ((with_reducible refine newD_go ?_); (first | refine newG (fun n H hn hl hf ho => ?_)); conv => whnf)
    | ((with_reducible refine nthK_go ?_); (first | (refine nthG (x := ?_) ?_ ?_; rotate_left; (focus ((repeat (first | with_reducible assumption | refine look_new (by with_reducible assumption) (by omega) ?_ )); done)); conv => whnf)))
    | ((with_reducible refine setK_go ?_); (first | (refine setG (by first | omega ) (fun H hl hf ho => ?_); (try dsimp only at hl hf); conv => whnf)))
    | (refine ⟨Nat.le_refl _, ?_⟩; conv => whnf)
    | ((with_reducible refine endq_go ?_); first | (obtain rfl : k = l.length := (by omega); exact endq (view_tup (vlc (view_agg (vlc (view_own_k (by (repeat (first | with_reducible assumption | refine look_set (by with_reducible assumption) (by omega) ?_ ))) hE rfl (hO.frame (fun _ h => .inl h) (by intro i hi hmi hlt; have hiy : i ≠ y := (fun e => hi (by simp [e])); (repeat (first | with_reducible rfl | refine look_set (by with_reducible assumption) (by omega) ?_ ))))) (vlc rfl vln))) (vlc (RowV.view (hR.frame (by intro i hi; have hiy : i ≠ y := (fun e => hyX (by rw [← e]; exact hi)); have hil := hXl i (by simp [hi]); (repeat (first | with_reducible rfl | refine look_set (by with_reducible assumption) (by omega) ?_ ))))) (vlc (show view 7 H (.d (i (l.map Act.enc).length)) = some (i l.length) by rw [List.length_map]; rfl) (vlc rfl vln))))); done))
    | fail
    )

end Go.Proofs.YtbkmjpmgiaiacaaGreatDoor

/-! Ve -/
namespace Go.Proofs.YtbkmjpmgiaiacaaGreatDoor
open Go Dw
set_option maxRecDepth 10000
set_option linter.unusedVariables false
set_option linter.unusedSimpArgs false
attribute [local irreducible] Run
set_option maxHeartbeats 4000000

open Paths
attribute [local irreducible] Own checkB addErr roomy bsR ixB dropB addB sz roomOf putB seesW belowI tellB told isAct fewB fewW addE dropErr tellErr eventErr
/-- The document's Add. -/
theorem f37 (b : Bd) (w : Wt) (hb : SB b) (hn : 1 ≤ b.next ∧ b.next < 2147483647) : Fn 37 [b.enc, w.enc] (.tup [(addB b w).enc, i b.next]) := by
  obtain ⟨r, H, h1, h2⟩ := c37o b w hb hn []
  exact run_give h1 h2
/-- The document's Drop. -/
theorem f39 (b : Bd) (t : Int) (hb : SB b) : Fn 39 [b.enc, i t] (dropB b t).enc := by
  obtain ⟨r, H, h1, h2⟩ := c39o b t hb []
  exact run_give h1 h2
end Go.Proofs.YtbkmjpmgiaiacaaGreatDoor

/-! Yg -/
namespace Go.Proofs.YtbkmjpmgiaiacaaGreatDoor
open Go Dw
set_option maxRecDepth 10000
set_option linter.unusedVariables false
set_option linter.unusedSimpArgs false
attribute [local irreducible] Run
set_option maxHeartbeats 4000000

open Paths
theorem step_cases {b : Bd} {a : Act} (hV : VB b) (hk : 0 ≤ a.kind ∧ a.kind ≤ 3) :
    (a.kind = 0 ∧ addE b a.w = 0 ∧ (1 ≤ b.next ∧ b.next < 2147483647) ∧ stepB b a = (addB b a.w, ⟨0, b.next, [], []⟩)) ∨
    (a.kind = 0 ∧ ¬ addE b a.w = 0 ∧ stepB b a = (b, ⟨addE b a.w, 0, [], []⟩)) ∨
    (a.kind = 1 ∧ dropErr b a.id = 0 ∧ stepB b a = (dropB b a.id, ⟨0, 0, [], []⟩)) ∨
    (a.kind = 1 ∧ ¬ dropErr b a.id = 0 ∧ stepB b a = (b, ⟨dropErr b a.id, 0, [], []⟩)) ∨
    (a.kind = 2 ∧ tellErr b a.ev = 0 ∧ eventErr a.ev.act a.ev.path = 0 ∧ stepB b a = (tellB b a.ev, ⟨0, 0, told a.ev b.ws, []⟩)) ∨
    (a.kind = 2 ∧ ¬ tellErr b a.ev = 0 ∧ stepB b a = (b, ⟨tellErr b a.ev, 0, [], []⟩)) ∨
    (a.kind = 3 ∧ readE b a.id a.room = 0 ∧ ∃ n x, ixB a.id b.ws 0 = ((n : Nat) : Int) ∧ b.ws[n]? = some x ∧ x.lost = true ∧ stepB b a = (readB b n a.room, ⟨16, 0, [], readL x a.room⟩)) ∨
    (a.kind = 3 ∧ readE b a.id a.room = 0 ∧ ∃ n x, ixB a.id b.ws 0 = ((n : Nat) : Int) ∧ b.ws[n]? = some x ∧ x.lost = false ∧ stepB b a = (readB b n a.room, ⟨0, 0, [], readL x a.room⟩)) ∨
    (a.kind = 3 ∧ ¬ readE b a.id a.room = 0 ∧ stepB b a = (b, ⟨readE b a.id a.room, 0, [], []⟩)) := by
  have hc := checkB_iff.2 hV
  have h4 : a.kind = 0 ∨ a.kind = 1 ∨ a.kind = 2 ∨ a.kind = 3 := by omega
  rw [addE_c hc, tellE_c hc, show dropErr b a.id = if ixB a.id b.ws 0 < 0 then 6 else 0 by unfold dropErr; rw [if_pos hc], show readE b a.id a.room = findE b a.id a.room by unfold readE; rw [if_pos hc]]
  unfold stepB
  rcases h4 with h | h | h | h
  · rw [if_pos h]
    by_cases h0 : addErr b a.w = 0
    · exact .inl ⟨h, h0, ⟨hV.next.1, (add_ok h0).2.2⟩, by rw [if_pos h0]⟩
    · exact .inr (.inl ⟨h, h0, by rw [if_neg h0]⟩)
  · rw [if_neg (by omega), if_pos h]
    by_cases h0 : ixB a.id b.ws 0 < 0
    · exact .inr (.inr (.inr (.inl ⟨h, by rw [if_pos h0]; decide, by rw [if_pos h0, if_pos h0]⟩)))
    · exact .inr (.inr (.inl ⟨h, by rw [if_neg h0], by rw [if_neg h0]⟩))
  · rw [if_neg (by omega), if_neg (by omega), if_pos h]
    by_cases h0 : eventErr a.ev.act a.ev.path = 0
    · exact .inr (.inr (.inr (.inr (.inl ⟨h, h0, h0, by rw [if_pos h0]⟩))))
    · exact .inr (.inr (.inr (.inr (.inr (.inl ⟨h, h0, by rw [if_neg h0]⟩)))))
  · rw [if_neg (by omega), if_neg (by omega), if_neg (by omega)]
    by_cases h0 : findE b a.id a.room = 0
    · obtain ⟨n, h1, h2, h3⟩ := find_at hV h0
      cases hl : (atB b a.id).lost
      · exact .inr (.inr (.inr (.inr (.inr (.inr (.inr (.inl ⟨h, h0, n, _, h1, h2, hl, by rw [if_pos h0, h3, show readC (atB b a.id) = 0 by unfold readC; rw [if_neg (by rw [hl]; decide)]]⟩)))))))
      · exact .inr (.inr (.inr (.inr (.inr (.inr (.inl ⟨h, h0, n, _, h1, h2, hl, by rw [if_pos h0, h3, show readC (atB b a.id) = 16 by unfold readC; rw [if_pos hl]]⟩))))))
    · exact .inr (.inr (.inr (.inr (.inr (.inr (.inr (.inr ⟨h, h0, by rw [if_neg h0]⟩)))))))
theorem run_dataW {f : Nat} {xs : List D} {r : D} {args : List AV} {H : Heap} (hf : Run Tryz.prog f (xs.map .d) [] (.d r) []) (hv : vl (view 8 H) args = some xs) (hre : args.flatMap (reach 8 H) = []) : Run Tryz.prog f args H (.d r) H := by
  have := run_viewF hf hv
  rw [hre] at this; exact this
attribute [local irreducible] newD Own checkB addErr roomy bsR ixB dropB addB sz roomOf putB seesW belowI readB readL readC readN findE tellB told eventErr watchErr BX RowV stepB runK actsE appD addE dropErr tellErr readE

theorem c43o (b : Bd) (l : List Act) (hV : VB b) (hn8 : (l.length : Int) ≤ 80) (hk : ∀ a ∈ l, 0 ≤ a.kind ∧ a.kind ≤ 3) (H0 : Heap) : ∃ r H, Run Tryz.prog 43 [.d b.enc, .d (.fs (l.map Act.enc))] H0 r H ∧ view 8 H r = some (.tup [(runK b l l.length).1.enc, .fs ((runK b l l.length).2.map Ans.enc)]) := by
  refine run_walkQ eok Tryz.func43 rfl (by kernel_rfl) ?_
  conv => whnf
  repeat' (first
    | ((with_reducible refine on_dec_t (by assumption) ?_); conv => whnf)
    | ((with_reducible refine on_ndec_t (by first | assumption ) ?_); conv => whnf)
    | ((with_reducible refine on_ndec_f (by assumption) ?_); conv => whnf)
    | ((with_reducible refine on_dec_f (by omega) ?_); conv => whnf)
    | ((with_reducible refine on_dec_f ?_ ?_); (focus ((try simp only [List.length_map, List.length_cons, List.length_nil, List.length_append]); omega)); conv => whnf)
    | ((with_reducible refine on_dec_t ?_ ?_); (focus ((try simp only [List.length_map, List.length_cons, List.length_nil, List.length_append]); omega)); conv => whnf)
    | ((with_reducible refine call_go ?_); (first | refine call_step (run_data (c20 b hV.small) _) ?_ | refine call_step (run_view (c36 (runK b l k).1 (l[k]'(by omega)).w hs) rfl (vlc rfl (vlc (view_agg (vlc rfl (vlc rfl (vlc rfl (vlc rfl vln))))) vln))) ?_ | refine call_step (run_dataW (f37 (runK b l k).1 (l[k]'(by omega)).w hs hnx) (vlc rfl (vlc (view_agg (vlc rfl (vlc rfl (vlc rfl (vlc rfl vln))))) vln)) rfl) ?_ | refine call_step (run_view (c38 (runK b l k).1 (l[k]'(by omega)).id hs) rfl rfl) ?_ | refine call_step (run_data (f39 (runK b l k).1 (l[k]'(by omega)).id hs) _) ?_ | refine call_step (run_view (c21 (runK b l k).1 (l[k]'(by omega)).ev hs) rfl (vlc rfl (vlc (view_agg (vlc rfl (vlc rfl vln))) vln))) ?_ | refine call_step (run_dataW (f23 (runK b l k).1 (l[k]'(by omega)).ev hs (fun x hx => (hVk.all x hx).w) hev) (vlc rfl (vlc (view_agg (vlc rfl (vlc rfl vln))) vln)) rfl) ?_ | refine call_step (run_view (c27 (runK b l k).1 (l[k]'(by omega)).id (l[k]'(by omega)).room hs) rfl rfl) ?_ | refine call_step (run_data (f28t (runK b l k).1 (l[k]'(by omega)).id (l[k]'(by omega)).room hs n0 x0 hix hx0 hlo) _) ?_ | refine call_step (run_data (f28f (runK b l k).1 (l[k]'(by omega)).id (l[k]'(by omega)).room hs n0 x0 hix hx0 hlo) _) ?_); conv => whnf)
    | ((with_reducible refine loop_go ?_); first | (apply loopG5 (fun (k : Nat) (cd : AV) (Xo : List Nat) (y : Nat) (m : Nat) (H : Heap) => l.length - k) (fun (k : Nat) (cd : AV) (Xo : List Nat) (y : Nat) (m : Nat) (H : Heap) => k ≤ l.length ∧ H[m]? = some ⟨[.d (runK b l k).1.enc], (E 39).size, 0⟩ ∧ RowV H cd (runK b l k).2 Xo ∧ H[y]? = some ⟨[(E 39).zero], (E 39).size, 0⟩ ∧ y ≠ m ∧ (y ∉ Xo ∧ m ∉ Xo) ∧ ∀ i ∈ Xo, i < H.length) (fun (k : Nat) (cd : AV) (Xo : List Nat) (y : Nat) (m : Nat) (H : Heap) => [(1, .d (.fs (l.map Act.enc))), (4, .ptr y 0 0), (6, .ptr m 0 0), (7, cd), (8, .d (i k))]) (0) (.nilS) ([]); rotate_left; (focus (exact .inl ⟨rfl, ⟨(by first | rfl ), (by first | rfl ), (by first | rfl ), (by first | rfl ), (by first | rfl ), trivial⟩⟩)); rotate_left; (focus (exact ⟨Nat.zero_le _, (by rw [runK_0]; (repeat (first | with_reducible assumption ))), (by rw [runK_0]; exact RowV.zero), (by (repeat (first | with_reducible assumption | refine look_new (by with_reducible assumption) (by omega) ?_ | refine look_set (by with_reducible assumption) (by omega) ?_ ))), by omega, ⟨by simp, by simp⟩, fun i h => by cases h⟩)); intro k cd Xo y m H C hI hC; obtain ⟨hkl, h0m, hR, h0y, hym, ⟨hyX, hmX⟩, hXl⟩ := hI; have hl0 := lt_of_at h0y; have hl1 := lt_of_at h0m; have hVk := runK_V hV l k hkl; have hs := hVk.small; rcases Nat.lt_or_ge k l.length with hkk | hkk; (rcases step_cases (a := l[k]) hVk (hk _ (List.getElem_mem hkk)) with ⟨hki, he, hnx, hst⟩ | ⟨hki, he, hst⟩ | ⟨hki, he, hst⟩ | ⟨hki, he, hst⟩ | ⟨hki, he, hev, hst⟩ | ⟨hki, he, hst⟩ | ⟨hki, he, n0, x0, hix, hx0, hlo, hst⟩ | ⟨hki, he, n0, x0, hix, hx0, hlo, hst⟩ | ⟨hki, he, hst⟩); all_goals (conv => whnf)))
    | ((with_reducible show C _ _); first | (refine hC (k + 1) ((.sl t9 0 ((runK b l k).2.length + 1) 4 none)) ([t9]) (y) (m) _ _ ?_ (by omega) ?_; clear hC; rotate_left; (exact ⟨(by first | rfl ), (by first | rfl ), (by first | rfl ), (by first | rfl ), (by first | rfl ), trivial⟩); exact ⟨by omega, (by rw [runK_s (by omega), hst]; (repeat (first | with_reducible assumption | refine look_new (by with_reducible assumption) (by omega) ?_ | refine look_set (by with_reducible assumption) (by omega) ?_ | refine look_appX (by with_reducible assumption) (by with_reducible assumption) (by omega) ?_ ))), (by rw [runK_s (by omega)]; exact hR9), (by (repeat (first | with_reducible assumption | refine look_new (by with_reducible assumption) (by omega) ?_ | refine look_set (by with_reducible assumption) (by omega) ?_ | refine look_appX (by with_reducible assumption) (by with_reducible assumption) (by omega) ?_ ))), by omega, ⟨by simp only [List.mem_singleton]; omega, by simp only [List.mem_singleton]; omega⟩, by intro i hi; rw [List.mem_singleton.1 hi]; omega⟩))
    | (refine ix_map (by omega) ?_; conv => whnf)
    | (refine wrap64 (by omega) ?_; conv => whnf)
    | ((with_reducible refine appD_go ?_); (first | refine appAns (r := (stepB (runK b l k).1 (l[k]'(by omega))).2) (hR.frame (by intro i hi; have hil := hXl i hi; have him : i ≠ m := (fun e => hmX (by rw [← e]; exact hi)); (repeat (first | with_reducible rfl | refine look_new (by with_reducible assumption) (by omega) ?_ | refine look_set (by with_reducible assumption) (by omega) ?_ )))) (by rw [hst]; exact .inr ⟨_, _, rfl, (by first | exact .inr rfl | exact .inl ⟨rfl, rfl⟩), (by first | exact .inr rfl | exact .inl ⟨rfl, rfl⟩)⟩) (by rw [runK_len b l k (by omega)]; omega) rfl rfl (by decide) (fun t9 H ht9 hl9 hf9 hR9 => ?_)); conv => whnf)
    | ((with_reducible refine newD_go ?_); (first | refine newG (fun n H hn hl hf ho => ?_)); conv => whnf)
    | ((with_reducible refine nthK_go ?_); (first | (refine nthG (x := ?_) ?_ ?_; rotate_left; (focus ((repeat (first | with_reducible assumption | refine look_new (by with_reducible assumption) (by omega) ?_ | refine look_set (by with_reducible assumption) (by omega) ?_ )); done)); conv => whnf)))
    | ((with_reducible refine setK_go ?_); (first | (refine setG (by first | omega ) (fun H hl hf ho => ?_); (try dsimp only at hl hf); conv => whnf)))
    | (refine ⟨Nat.le_refl _, ?_⟩; conv => whnf)
    | ((with_reducible refine endq_go ?_); first | (obtain rfl : k = l.length := (by omega); exact endq (view_tup (vlc rfl (vlc (RowV.view (hR.frame (by intro i hi; have hiy : i ≠ y := (fun e => hyX (by rw [← e]; exact hi)); have hil := hXl i hi; (repeat (first | with_reducible rfl | refine look_set (by with_reducible assumption) (by omega) ?_ ))))) vln))); done))
    | fail
    )

end Go.Proofs.YtbkmjpmgiaiacaaGreatDoor

/-! Yh -/
namespace Go.Proofs.YtbkmjpmgiaiacaaGreatDoor
open Go Dw
set_option maxRecDepth 10000
set_option linter.unusedVariables false
set_option linter.unusedSimpArgs false
attribute [local irreducible] Run
set_option maxHeartbeats 4000000

open Paths
def smallA (r : Ans) : Prop := r.told.length < 1000 ∧ r.recs.length < 1000
theorem step_small {b : Bd} {a : Act} (h : VB b) : smallA (stepB b a).2 := by
  have h0 : ∀ e n : Int, smallA ⟨e, n, [], []⟩ := fun e n => ⟨show (0 : Nat) < 1000 by decide, show (0 : Nat) < 1000 by decide⟩
  unfold stepB
  split
  · split
    · exact h0 _ _
    · exact h0 _ _
  · split
    · split
      · exact h0 _ _
      · exact h0 _ _
    · split
      · split
        · have h1 := told_len a.ev b.ws
          have h2 := h.len
          exact ⟨show (told a.ev b.ws).length < 1000 by omega, show (0 : Nat) < 1000 by decide⟩
        · exact h0 _ _
      · split
        · rename_i hf
          obtain ⟨n, _, h2, _⟩ := find_at h hf
          have h3 := (readB_SB a.room h.small h2).2.1
          exact ⟨show (0 : Nat) < 1000 by decide, h3⟩
        · exact h0 _ _
theorem runK_small {b : Bd} (h : VB b) (l : List Act) : ∀ k, k ≤ l.length → ∀ r ∈ (runK b l k).2, smallA r
  | 0, _, r, hr => by cases hr
  | k + 1, hk, r, hr => by
    rw [runK_s (by omega)] at hr
    rcases List.mem_append.1 hr with hr | hr
    · exact runK_small h l k (by omega) r hr
    · rw [List.mem_singleton.1 hr]; exact step_small (runK_V h l k (by omega))
theorem shpAct {n : Nat} {x : D} (h : shp E (n + 4) 136 x) : ∃ a : Act, x = a.enc ∧ a.ev.act < 9223372036854775808 := by
  obtain ⟨cs, rfl, y1, r1, ⟨k1, rfl, _⟩, rfl, y2, r2, h2, rfl, y3, r3, ⟨k3, rfl, _⟩, rfl, y4, r4, ⟨k4, rfl, _⟩, rfl, y5, r5, h5, rfl, rfl⟩ := h
  obtain ⟨w, rfl⟩ := shpWt h2
  obtain ⟨e, rfl, he⟩ := shpEv h5
  exact ⟨⟨k1, w, k3, k4, e⟩, rfl, he⟩
theorem acts_of : ∀ (l : List D), (∀ y ∈ l, ∃ a : Act, y = a.enc ∧ a.ev.act < 9223372036854775808) → ∃ r : List Act, l = r.map Act.enc ∧ ∀ x ∈ r, x.ev.act < 9223372036854775808
  | [], _ => ⟨[], rfl, fun _ h => by cases h⟩
  | x :: l, h => by
    obtain ⟨a, rfl, ha⟩ := h x (by simp)
    obtain ⟨r, rfl, hr⟩ := acts_of l fun y hy => h y (by simp [hy])
    exact ⟨a :: r, rfl, fun y hy => by
      rcases List.mem_cons.1 hy with rfl | hy
      · exact ha
      · exact hr y hy⟩
theorem shpActs {n : Nat} {x : D} (h : shp E (n + 5) 80 x) : ∃ r : List Act, x = .fs (r.map Act.enc) ∧ ∀ y ∈ r, y.ev.act < 9223372036854775808 := by
  obtain ⟨l, rfl, _, h3⟩ := h
  obtain ⟨r, rfl, hr⟩ := acts_of l fun y hy => shpAct (h3 y hy)
  exact ⟨r, rfl, hr⟩
theorem actE_k {a : Act} (h : actE a = 0) : 0 ≤ a.kind ∧ a.kind ≤ 3 := by
  unfold actE at h
  by_cases h2 : within a.kind 0 3 = true
  · unfold within at h2
    simpa using h2
  · rw [if_neg h2] at h; cases h
theorem actsE_k : ∀ (l : List Act) (k : Nat), (actsE l k).2 = 0 → actsE l k = (0, 0) ∧ ∀ a ∈ l, 0 ≤ a.kind ∧ a.kind ≤ 3
  | [], _, _ => ⟨rfl, fun a h => by cases h⟩
  | x :: l, k, h => by
    unfold actsE at h ⊢
    by_cases h0 : actE x = 0
    · rw [if_pos h0] at h ⊢
      obtain ⟨h1, h2⟩ := actsE_k l (k + 1) h
      exact ⟨h1, fun a ha => by
        rcases List.mem_cons.1 ha with rfl | ha
        · exact actE_k h0
        · exact h2 a ha⟩
    · rw [if_neg h0] at h; exact absurd h h0
/-- RunOf, its board and its answers as data. -/
def runOf (b : Bd) (l : List Act) : D := if (runE b l).2 = 0 then .tup [(runK b l l.length).1.enc, .fs ((runK b l l.length).2.map Ans.enc), i l.length, i 0] else .tup [bd0.enc, .fs [], i (runE b l).1, i (runE b l).2]
theorem runE_0 {b : Bd} {l : List Act} (h : (runE b l).2 = 0) : (checkB b).2 = 0 ∧ (l.length : Int) ≤ 80 ∧ actsE l 0 = (0, 0) ∧ ∀ a ∈ l, 0 ≤ a.kind ∧ a.kind ≤ 3 := by
  unfold runE at h
  by_cases hc : (checkB b).2 = 0
  · rw [if_pos hc] at h
    by_cases h8 : (80 : Int) < l.length
    · rw [if_pos h8] at h; cases h
    · rw [if_neg h8] at h
      obtain ⟨h1, h2⟩ := actsE_k l 0 h
      exact ⟨hc, by omega, h1, h2⟩
  · rw [if_neg hc] at h; exact absurd h hc
theorem f41 (b : Bd) (l : List Act) (hb : SB b) (hl : l.length < 1000) (hea : ∀ a ∈ l, a.ev.act < 9223372036854775808) : Fn 41 [b.enc, .fs (l.map Act.enc)] (runOf b l) := by
  unfold runOf
  by_cases h : (runE b l).2 = 0
  · rw [if_pos h]
    obtain ⟨hc, h8, h0, hk⟩ := runE_0 h
    obtain ⟨r, H, h1, h2⟩ := c41o b l hb (checkB_iff.1 hc) hc h8 h0 hk hea []
    exact run_give h1 h2
  · rw [if_neg h]
    by_cases hc : (checkB b).2 = 0
    · by_cases h8 : (80 : Int) < l.length
      · rw [runE_l hc h8]
        obtain ⟨r, H, h1, h2⟩ := c41l b l hb hl hc (by omega) []
        exact run_give h1 h2
      · rw [runE_o hc h8] at h ⊢
        obtain ⟨r, H, h1, h2⟩ := c41a b l hb hc (by omega) (actsE l 0).1 (actsE l 0).2 rfl h []
        exact run_give h1 h2
    · rw [runE_b hc]
      obtain ⟨r, H, h1, h2⟩ := c41b b l hb hl hc []
      exact run_give h1 h2
theorem f41o (b : Bd) (l : List Act) (hb : SB b) (hl : l.length < 1000) (hea : ∀ a ∈ l, a.ev.act < 9223372036854775808) (h : (runE b l).2 = 0) : Fn 41 [b.enc, .fs (l.map Act.enc)] (.tup [(runK b l l.length).1.enc, .fs ((runK b l l.length).2.map Ans.enc), i l.length, i 0]) := by
  have := f41 b l hb hl hea; unfold runOf at this; rwa [if_pos h] at this
theorem f41n (b : Bd) (l : List Act) (hb : SB b) (hl : l.length < 1000) (hea : ∀ a ∈ l, a.ev.act < 9223372036854775808) (h : ¬ (runE b l).2 = 0) : Fn 41 [b.enc, .fs (l.map Act.enc)] (.tup [bd0.enc, .fs [], i (runE b l).1, i (runE b l).2]) := by
  have := f41 b l hb hl hea; unfold runOf at this; rwa [if_neg h] at this
theorem f43 (b : Bd) (l : List Act) (h : (runE b l).2 = 0) : Fn 43 [b.enc, .fs (l.map Act.enc)] (.tup [(runK b l l.length).1.enc, .fs ((runK b l l.length).2.map Ans.enc)]) := by
  obtain ⟨hc, h8, h0, hk⟩ := runE_0 h
  obtain ⟨r, H, h1, h2⟩ := c43o b l (checkB_iff.1 hc) h8 hk []
  exact run_give h1 h2
theorem reach_D (H : Heap) (n : Nat) : ∀ l : List D, (l.map AV.d).flatMap (reach n H) = []
  | [] => rfl
  | x :: l => by
    rw [List.map_cons, List.flatMap_cons, reach_D H n l]
    cases n <;> rfl
/-- A call on one board and an own row of acts. -/
theorem call_row {f : Nat} {x r : D} {l : List D} {H : Heap} {n k m : Nat} {c : Option Nat} (hf : Fn f [x, .fs l] r) (h : H[n]? = some ⟨l.map .d, k, 0⟩) (hm : m = l.length) : ∃ r' H', Run Tryz.prog f [.d x, .sl n 0 m k c] H r' H' ∧ (r' = .d r ∧ H.length ≤ H'.length ∧ ∀ i, i ≠ n → H'[i]? = H[i]?) := by
  subst hm
  have hv : view 8 H (.sl n 0 l.length k c) = some (.fs l) := by
    have := view_map (f := fun x : D => x) (k' := k) (n := 6) (l := l) (cap := c) (show H[n]? = some ⟨(l.map fun x => x).map .d, k, 0⟩ by rw [List.map_id']; exact h) Nat.two_pos
    rwa [List.map_id'] at this
  have hr : ([AV.d x, .sl n 0 l.length k c]).flatMap (reach 8 H) = [n] := by
    show ([AV.sl n 0 l.length k c]).flatMap (reach 8 H) = [n]
    show (n :: (match H[n]? with | some o => o.elems.flatMap (reach 7 H) | none => [])) ++ [] = [n]
    rw [h]
    simp only [reach_D, List.append_nil]
  have h1 := run_viewF (H := H) (args := [.d x, .sl n 0 l.length k c]) hf (vlc rfl (vlc hv vln))
  rw [hr] at h1
  refine ⟨_, _, h1, rfl, ?_, fun j hj => freeze_at (by simpa using hj)⟩
  apply Nat.le_of_not_lt
  intro hlt
  have h2 := freeze_get [n] H (Dw.freeze H [n]).length
  rw [List.getElem?_eq_none (Nat.le_refl _), List.getElem?_eq_getElem hlt] at h2
  cases h2

theorem c44 (l : List Ans) (hl : l.length < 1000) (hs : ∀ r ∈ l, smallA r) : Fn 44 [.fs (l.map Ans.enc), .fs (l.map Ans.enc)] (.bool true) := by
  refine run_walkF eok Tryz.func44 rfl (by kernel_rfl) ?_
  conv => whnf
  repeat' (first
    | (refine onBool_f (by first | (rw [decide_eq_true rfl]; rfl) | rfl) ?_; conv => whnf)
    | ((with_reducible refine on_dec (fun h => ?_) (fun h => ?_)) <;> (try simp only [List.length_map] at h) <;> conv => whnf)
    | ((with_reducible refine call_go ?_); (first | refine call_step (run_view (c24 (l[k]'(by omega)).told (by have := (hs _ (List.getElem_mem (l := l) (n := k) (by omega))).1; omega)) rfl rfl) ?_ | refine call_step (run_view (c29 (l[k]'(by omega)).recs (l[k]'(by omega)).recs (by have := (hs _ (List.getElem_mem (l := l) (n := k) (by omega))).2; omega) (by have := (hs _ (List.getElem_mem (l := l) (n := k) (by omega))).2; omega)) rfl rfl) ?_); conv => whnf)
    | (refine ⟨[], [], (by decide +kernel), ?_⟩; conv => whnf)
    | ((with_reducible refine loop_go ?_); first | (refine loop1 (fun (k : Nat) => l.length - k) (fun (k : Nat) => k ≤ l.length) (fun (k : Nat) => [(0, .d (.fs (l.map Ans.enc))), (1, .d (.fs (l.map Ans.enc))), (5, .d (i k))]) (fun (k : Nat) => []) (0) (by exact Nat.zero_le _) ?_ (fun k C hI hC => ?_); (exact ⟨[], rfl, rfl, ⟨(by first | (show (_ : D) = _; with_reducible rfl) ), (by first | (show (_ : D) = _; with_reducible rfl) ), (by first | exact congrArg (D.int .i64) (by omega) ), trivial⟩, trivial⟩); all_goals (conv => whnf)))
    | ((with_reducible show C _ _); first | (refine hC (k + 1) _ _ ?_ (by omega) ?_; clear hC; rotate_left; (exact ⟨[], rfl, rfl, ⟨(by first | (show (_ : D) = _; with_reducible rfl) ), (by first | (show (_ : D) = _; with_reducible rfl) ), (by first | exact congrArg (D.int .i64) (by omega) ), trivial⟩, trivial⟩); (exact (by omega : k + 1 ≤ l.length))))
    | (refine ix_map (by omega) ?_; conv => whnf)
    | (refine wrap64 (by omega) ?_; conv => whnf)
    | ((with_reducible refine endx_go ?_); first | (exact endx rfl; done) )
    | fail
    )

end Go.Proofs.YtbkmjpmgiaiacaaGreatDoor

/-! Yi -/
namespace Go.Proofs.YtbkmjpmgiaiacaaGreatDoor
open Go Dw
set_option maxRecDepth 10000
set_option linter.unusedVariables false
set_option linter.unusedSimpArgs false
attribute [local irreducible] Run
set_option maxHeartbeats 4000000

open Paths
theorem short_82 {l : List Act} (h : shortL l = true) : l.length ≤ 82 := by
  unfold shortL at h
  simp only [Bool.and_eq_true, decide_eq_true_eq] at h
  exact h.2.1
attribute [local irreducible] newD Own checkB addErr roomy bsR ixB dropB addB sz roomOf putB seesW belowI tellB told isAct fewB fewW addE dropErr tellErr eventErr readN findE readE readB readL readC readW stepB runK actsE runE shortL

theorem c9o (b : Bd) (l : List Act) (hea : ∀ a ∈ l, a.ev.act < 9223372036854775808) (hb : SB b) (hfw : fewB b = true) (hsh : shortL l = true) (h0 : (runE b l).2 = 0) (hV : VB b) (H0 : Heap) : ∃ r H, Run Tryz.prog 9 [.d b.enc, .d (.fs (l.map Act.enc))] H0 r H ∧ r = .d (.bool true) := by
  have h82 := short_82 hsh
  refine run_walkQ eok Tryz.func9 rfl (by kernel_rfl) ?_
  conv => whnf
  repeat' (first
    | ((with_reducible refine on_nt (by assumption) ?_); conv => whnf)
    | ((with_reducible refine on_ndec_t (by first | assumption ) ?_); conv => whnf)
    | ((with_reducible refine on_dec (fun h => ?_) (fun h => ?_)) <;> (try simp only [List.length_map] at h) <;> conv => whnf)
    | (refine call_stepQ (call_row (l := l.map Act.enc) (f41o b l hb (by omega) hea h0) (by (repeat (first | assumption ))) (by simp only [List.length_map, List.length_nil] <;> omega)) (fun r H hQ => ?_); obtain ⟨rfl, hgl, hf9⟩ := hQ; conv => whnf)
    | ((with_reducible refine call_go ?_); (first | refine call_step (run_view c11 rfl rfl) ?_ | refine call_step (run_view (c18 b) rfl rfl) ?_ | refine call_step (run_view (c40 l) rfl rfl) ?_ | refine call_step (run_data (c20 b hb) _) ?_ | refine call_step (run_data (c42 b l hb (by omega)) _) ?_ | refine call_step (run_view (c22 (runK b l l.length).1 (runK_V hV l l.length (Nat.le_refl _)).small) rfl rfl) ?_ | refine call_step (run_data (f43 b l h0) _) ?_ | refine call_step (run_view (c44 (runK b l l.length).2 (by rw [runK_len b l _ (Nat.le_refl _)]; omega) (runK_small hV l l.length (Nat.le_refl _))) rfl rfl) ?_); conv => whnf)
    | (refine ⟨(by intro y hy; obtain ⟨x, _, rfl⟩ := List.mem_map.1 hy; first | exact ⟨rfl, rfl⟩), ?_⟩; conv => whnf)
    | (refine ⟨cap_ok (by first | (simp only [List.length_map]; omega)) rfl, ?_⟩; conv => whnf)
    | (refine newG (fun n H hn hl hf ho => ?_); conv => whnf)
    | (refine setG (by first | omega | exact lt_of_at (by (repeat (first | assumption )))) (fun H hl hf ho => ?_); (try dsimp only at hl hf); conv => whnf)
    | (refine nthG (x := ?_) ?_ ?_; rotate_left; (focus ((repeat (first | assumption | refine look_new (by assumption) (by omega) ?_ | refine look_set (by assumption) (by omega) ?_)); done)); conv => whnf)
    | ((with_reducible refine endq_go ?_); first | (exact endq rfl; done) | (exact absurd trivial h; done))
    | fail
    )

theorem c9e (b : Bd) (l : List Act) (hea : ∀ a ∈ l, a.ev.act < 9223372036854775808) (hb : SB b) (hfw : fewB b = true) (hsh : shortL l = true) (h0 : ¬ (runE b l).2 = 0) (H0 : Heap) : ∃ r H, Run Tryz.prog 9 [.d b.enc, .d (.fs (l.map Act.enc))] H0 r H ∧ r = .d (.bool true) := by
  have h82 := short_82 hsh
  refine run_walkQ eok Tryz.func9 rfl (by kernel_rfl) ?_
  conv => whnf
  repeat' (first
    | ((with_reducible refine on_nt (by assumption) ?_); conv => whnf)
    | ((with_reducible refine on_ndec_f (by assumption) ?_); conv => whnf)
    | ((with_reducible refine on_dec_t rfl ?_); conv => whnf)
    | (refine call_stepQ (call_row (l := l.map Act.enc) (f41n b l hb (by omega) hea h0) (by (repeat (first | assumption ))) (by simp only [List.length_map, List.length_nil] <;> omega)) (fun r H hQ => ?_); obtain ⟨rfl, hgl, hf9⟩ := hQ; conv => whnf)
    | ((with_reducible refine call_go ?_); (first | refine call_step (run_view c11 rfl rfl) ?_ | refine call_step (run_view (c18 b) rfl rfl) ?_ | refine call_step (run_view (c40 l) rfl rfl) ?_ | refine call_step (run_data (c20 b hb) _) ?_ | refine call_step (run_data (c42 b l hb (by omega)) _) ?_ | refine call_step (run_view c22z rfl rfl) ?_ ); conv => whnf)
    | (refine ⟨(by intro y hy; obtain ⟨x, _, rfl⟩ := List.mem_map.1 hy; first | exact ⟨rfl, rfl⟩), ?_⟩; conv => whnf)
    | (refine ⟨cap_ok (by first | (simp only [List.length_map]; omega)) rfl, ?_⟩; conv => whnf)
    | (refine newG (fun n H hn hl hf ho => ?_); conv => whnf)
    | (refine setG (by first | omega | exact lt_of_at (by (repeat (first | assumption )))) (fun H hl hf ho => ?_); (try dsimp only at hl hf); conv => whnf)
    | (refine nthG (x := ?_) ?_ ?_; rotate_left; (focus ((repeat (first | assumption | refine look_new (by assumption) (by omega) ?_ | refine look_set (by assumption) (by omega) ?_)); done)); conv => whnf)
    | ((with_reducible refine endq_go ?_); first | (exact endq rfl; done))
    | fail
    )

theorem c9s (b : Bd) (l : List Act) (hea : ∀ a ∈ l, a.ev.act < 9223372036854775808) (hfw : fewB b = true) (hsh : shortL l = false) (H0 : Heap) : ∃ r H, Run Tryz.prog 9 [.d b.enc, .d (.fs (l.map Act.enc))] H0 r H ∧ r = .d (.bool true) := by
  refine run_walkQ eok Tryz.func9 rfl (by kernel_rfl) ?_
  conv => whnf
  repeat' (first
    | ((with_reducible refine on_nt (by assumption) ?_); conv => whnf)
    | ((with_reducible refine on_nf (by assumption) ?_); conv => whnf)
    | ((with_reducible refine call_go ?_); (first | refine call_step (run_view c11 rfl rfl) ?_ | refine call_step (run_view (c18 b) rfl rfl) ?_ | refine call_step (run_view (c40 l) rfl rfl) ?_ ); conv => whnf)
    | (refine newG (fun n H hn hl hf ho => ?_); conv => whnf)
    | (refine nthG (x := ?_) ?_ ?_; rotate_left; (focus ((repeat (first | assumption )); done)); conv => whnf)
    | ((with_reducible refine endq_go ?_); first | (exact endq rfl; done))
    | fail
    )

theorem c9f (b : Bd) (l : List Act) (hea : ∀ a ∈ l, a.ev.act < 9223372036854775808) (hfw : fewB b = false) (H0 : Heap) : ∃ r H, Run Tryz.prog 9 [.d b.enc, .d (.fs (l.map Act.enc))] H0 r H ∧ r = .d (.bool true) := by
  refine run_walkQ eok Tryz.func9 rfl (by kernel_rfl) ?_
  conv => whnf
  repeat' (first
    | ((with_reducible refine on_nf (by assumption) ?_); conv => whnf)
    | ((with_reducible refine call_go ?_); (first | refine call_step (run_view c11 rfl rfl) ?_ | refine call_step (run_view (c18 b) rfl rfl) ?_ ); conv => whnf)
    | (refine newG (fun n H hn hl hf ho => ?_); conv => whnf)
    | (refine nthG (x := ?_) ?_ ?_; rotate_left; (focus ((repeat (first | assumption )); done)); conv => whnf)
    | ((with_reducible refine endq_go ?_); first | (exact endq rfl; done))
    | fail
    )

theorem c9 (b : Bd) (l : List Act) (ha : actsOk b) (hea : ∀ a ∈ l, a.ev.act < 9223372036854775808) : Fn 9 [b.enc, .fs (l.map Act.enc)] (.bool true) := by
  have key : ∀ {H0 : Heap}, (∃ r H, Run Tryz.prog 9 [.d b.enc, .d (.fs (l.map Act.enc))] [] r H ∧ r = .d (.bool true)) → Fn 9 [b.enc, .fs (l.map Act.enc)] (.bool true) := by
    intro _ h
    obtain ⟨r, H, h1, rfl⟩ := h
    exact run_give h1 rfl
  by_cases hf : fewB b = true
  · have hb := few_SB hf ha
    by_cases hsh : shortL l = true
    · by_cases h0 : (runE b l).2 = 0
      · exact key (H0 := []) (c9o b l hea hb hf hsh h0 (checkB_iff.1 (runE_0 h0).1) [])
      · exact key (H0 := []) (c9e b l hea hb hf hsh h0 [])
    · exact key (H0 := []) (c9s b l hea hf (by simpa using hsh) [])
  · exact key (H0 := []) (c9f b l hea (by simpa using hf) [])

end Go.Proofs.YtbkmjpmgiaiacaaGreatDoor

/-! Lk -/
namespace Go.Proofs.YtbkmjpmgiaiacaaGreatDoor
open Go Dw Go.ChangeShapes Go.WideShapes Go.RowKit

section
attribute [local irreducible] Run
theorem hrun9 : ∀ xs, shps E 6 Tryz.f9.params.toList xs → Run Tryz.prog 9 (xs.map .d) [] (.d (.bool true)) [] := by
  intro xs h
  obtain ⟨x1, r1, rfl, h1, x2, r2, rfl, h2, rfl⟩ := h
  obtain ⟨b, rfl, ha⟩ := shpBd h1
  obtain ⟨l, rfl, hea⟩ := shpActs h2
  exact c9 b l ha hea
end

set_option maxRecDepth 100000 in
theorem lifted9 (os : Os) (started : os.Started) (H : Type) (enc : TypeId × Value → H) :
    ReturnsInHanded {} Tryz.checked os 9 .any (fun w args => (Rows.notifyRunsSpec.pre enc Tryz.prog Tryz.f9 [] false w args ∧ laidMetH Tryz.prog laid28 w) ∧ sizedMet enc Tryz.prog Tryz.f9 (OpenSpec.ofChange Rows.notifyRunsSpec) false w args)
      (Rows.notifyRunsSpec.post enc Tryz.prog Tryz.f9 false true false false) := by
  refine returnsInHanded_of_change_and (C := Tryz.checked) (X := fun w _ => laidMetH Tryz.prog laid28 w) (fun _ _ _ hh h => h.of_heap hh) own28 started (by kernel_rfl) Tryz.func9
    (ChangeSpec.witness_shaped (enc := enc) (C := Tryz.checked) (os := os) (X := fun w _ => laidMetH Tryz.prog laid28 w) false (wit28 os) #[.agg #[.slice none 0 0, .int .i64 0], .slice none 0 0] 8 rfl (shaped28 os _) (by kernel_rfl) (by kernel_rfl) (by kernel_rfl) (door_met28 os _)) ?_
  intro W base args ds gs before hval hW _ _ _ _
  refine law_lift (n := 6) (t4 := 4) eok Tryz.func9 (by kernel_rfl) rfl laidOut28 rfl ?_ rfl Tryz.underlying4 (by kernel_rfl) hrun9 W base args ds gs before hval hW
  intro H ds hds
  match ds, hds with
  | [a, b], _ => rfl

theorem over9 : Rows.NotifyRunsSaid :=
  OpenClaim.holds_of_wide 9 Tryz.f9 rfl rfl rfl rfl rfl rfl rfl ⟨rfl, rfl, rfl, rfl, rfl⟩ rfl rfl rfl rfl rfl (by kernel_rfl) Tryz.func9 (by kernel_rfl)
    (of_decide_eq_true (by kernel_rfl)) (by unfold Func.isWrapper; first | (rw [if_pos (by decide +kernel)]; kernel_rfl) | (rw [if_neg (by decide +kernel)]; exact ⟨rfl, rfl⟩))
    (fun os started H enc _ => lifted9 os started H enc)

theorem notifyRuns_proved : Rows.NotifyRunsCardSaid :=
  Claim7.holds_tied_plain_at .later [] [.data, .pinned] true (true, "109c5384165a96825d1f2089578ad2bcbcab01a966bcbf40a0fdea72bc267f3f") false
    over9 (fun _ h => by cases h) (by kernel_rfl) (fun _ h => by cases h) notifyRuns_row_tie rfl ⟨rfl, rfl⟩ (by kernel_rfl) rfl
    (card_hl (f0 := 9) (fn0 := Tryz.f9) (by kernel_rfl) Tryz.func9 (by kernel_rfl) (by kernel_rfl)) (by kernel_rfl)
end Go.Proofs.YtbkmjpmgiaiacaaGreatDoor
