/-
  Own lemmas, no conditions: We, Wf, Wg, Pc, Wh, Wj.
-/
import Derived.Test.YtolfkcmdfgakkaaGrpD
set_option linter.unusedVariables false
set_option linter.unusedSimpArgs false

/-! We -/
namespace Go.Proofs.Ytolfkcmdfgakkaa
open Go Dw
set_option maxRecDepth 10000
set_option linter.unusedVariables false
set_option linter.unusedSimpArgs false
attribute [local irreducible] Run
set_option maxHeartbeats 4000000

theorem cut_ (e : Prop) {G : Prop} (h : e) (k : e → G) : G := k h
theorem qview {H : Heap} {a b n : Nat} {x : Quo} (h1 : H[a]? = some (qO x.enf n b)) (h2 : H[b]? = some (rO x.os)) (hn : n = x.os.length) {args : List AV} {xs : List D} (hv : vl (view 8 H) args = some xs) : vl (view 8 H) (.ptr a 0 0 :: args) = some (.fp x.enc 0 :: xs) :=
  vlc (view_q h1 h2 hn) hv
/-- A function that changes a quota. -/
def Mv (f : Nat) (xs : List D) (x x' : Quo) (r : AV) : Prop := Run Try.prog f (.ptr 0 0 0 :: xs.map .d) [qO x.enf x.os.length 1, rO x.os] r [qO x'.enf x'.os.length 2, deadO, rO x'.os]
theorem Mv.at {f n : Nat} {xs : List D} {r : AV} {x x' : Quo} (hf : Mv f xs x x' r) (hr : r.flat = true) (hrr : ∀ τ, ren τ r = r)
    {H : Heap} {a b : Nat} (h1 : H[a]? = some (qO x.enf n b)) (h2 : H[b]? = some (rO x.os)) (hn : n = x.os.length) (hab : a ≠ b) {args : List AV} (hv : vl (view 8 H) args = some xs) (hd : ∀ j ∈ args.flatMap (reach 8 H), j ≠ a ∧ j ≠ b) :
    Run Try.prog f (.ptr a 0 0 :: args) H r (((H.set a (qO x'.enf x'.os.length H.length)).set b deadO) ++ [rO x'.os]) := run_mv hf hr hrr h1 h2 hn hab hv hd
theorem c102 (x : Quo) (o : Own) (hx : x.os.length < 1000000) (hs : SRT x.os) : Mv 102 [o.enc] x (put1 x o) (.tup []) := by
  cases h : isR x.os o.who with
  | true => exact c102t x o hx hs h
  | false => exact c102f x o hx hs h
attribute [local irreducible] oE checkQ cnt isR ownR withR bsR fullQ put1 chg rls mov limErr limF actE doA resQ aftQ whoE limE numE goMin
theorem full_eq (x : Quo) (w : Int) : (!isR x.os w && decide (x.os.length = 30)) = fullQ x w := by unfold fullQ; rfl

theorem c89 (x : Quo) (hv : VQ x) (w b : Int) (hb : 0 ≤ b ∧ b ≤ 2147483647) : Mv 89 [i w, i b] x (chg x w b).1 (.d (i (chg x w b).2)) := by
  have hx : x.os.length < 1000000 := (by have := hv.len; omega); have hs := hv.srt; obtain ⟨hn1, hn2, hn3⟩ := hv.nums w
  refine run_walkV eok Try.func89 rfl (by kernel_rfl) [0, 1] (by rfl) [] ?_
  conv => whnf
  repeat' (first
    | ((with_reducible refine on_dec_f ?_ ?_); (focus ((try simp only [List.length_map, List.length_cons, List.length_nil, List.length_append]); omega)); conv => whnf)
    | ((with_reducible refine on_dec_t ?_ ?_); (focus ((try simp only [List.length_map, List.length_cons, List.length_nil, List.length_append]); omega)); conv => whnf)
    | ((with_reducible refine on_dec (fun h => ?_) (fun h => ?_)) <;> (try simp only [List.length_map] at h) <;> conv => whnf)
    | ((with_reducible refine on_ndec (fun h => ?_) (fun h => ?_)) <;> (try simp only [List.length_map] at h) <;> conv => whnf)
    | ((with_reducible refine on_not (fun h => ?_) (fun h => ?_)) <;> conv => whnf)
    | ((with_reducible refine onBool_split (fun h => ?_) (fun h => ?_)) <;> conv => whnf)
    | ((with_reducible refine call_go ?_); (first | refine call_step (run_view (by have := c101 x hx hs w; rw [full_eq] at this; exact this) rfl (qview rfl rfl rfl (vlc rfl vln))) ?_ | refine call_step (run_view (c65 x hx hs w) rfl (qview rfl rfl rfl (vlc rfl vln))) ?_ | refine call_step (Mv.at (c102 x { ownR x.os w with used := (ownR x.os w).used + b } hx hs) rfl (fun _ => rfl) rfl rfl rfl (Nat.ne_of_beq_eq_false rfl) (vlc (view_agg (vlc rfl (vlc rfl (vlc rfl (vlc rfl (vlc rfl vln)))))) vln) (fun j hj => absurd hj (List.not_mem_nil))) ?_ | refine call_step (Mv.at (c102 x { ownR x.os w with ref := goMin ((ownR x.os w).ref + 1) 65535 } hx hs) rfl (fun _ => rfl) rfl rfl rfl (Nat.ne_of_beq_eq_false rfl) (vlc (view_agg (vlc rfl (vlc rfl (vlc rfl (vlc rfl (vlc rfl vln)))))) vln) (fun j hj => absurd hj (List.not_mem_nil))) ?_); conv => whnf)
    | (refine ⟨⟨(by first | rfl | (simp; done)), cap_ok (by simp only [List.length_map, List.length_cons, List.length_nil, List.length_append]; omega) rfl⟩, ?_⟩; conv => whnf)
    | (refine ⟨mem_one ⟨rfl, rfl⟩, ?_⟩; conv => whnf)
    | (refine ⟨(by intro y hy; obtain ⟨x, _, rfl⟩ := List.mem_map.1 hy; first | rfl | exact ⟨rfl, rfl⟩), ?_⟩; conv => whnf)
    | (refine ⟨cap_ok (by first | omega | (simp only [List.length_map]; omega)) rfl, ?_⟩; conv => whnf)
    | (refine ix_map (by omega) ?_; conv => whnf)
    | (refine ix_str (by omega) ?_; conv => whnf)
    | (refine wrap64 (by omega) ?_; conv => whnf)
    | (refine wrap64 (by omega) ?_; conv => whnf)
    | (exfalso; simp only [List.length_map, List.length_cons, List.length_nil, List.length_append] at h; omega)
    | ((with_reducible refine endx_go ?_); first | (refine cut_ (chg x w b = (x, 0)) ?_ (fun hE => ?_); (focus (unfold chg; (first | (simp_all; done) | (simp_all; omega) | grind))); rw [hE]; refine endX_of (.inl ⟨[.old 0, .dead, .old 1], rfl, rfl, ⟨rfl, trivial⟩, ⟨⟨rfl, rfl, .inr ⟨⟨⟨rfl, rfl, rfl, rfl, rfl⟩, rfl, trivial⟩, trivial⟩⟩, rfl, ⟨rfl, rfl, .inl ⟨_, rfl, rfl⟩⟩, trivial⟩⟩); done) | (refine cut_ (chg x w b = (x, 16)) ?_ (fun hE => ?_); (focus (unfold chg; (first | (simp_all; done) | (simp_all; omega) | grind))); rw [hE]; refine endX_of (.inl ⟨[.old 0, .dead, .old 1], rfl, rfl, ⟨rfl, trivial⟩, ⟨⟨rfl, rfl, .inr ⟨⟨⟨rfl, rfl, rfl, rfl, rfl⟩, rfl, trivial⟩, trivial⟩⟩, rfl, ⟨rfl, rfl, .inl ⟨_, rfl, rfl⟩⟩, trivial⟩⟩); done) | (refine cut_ (chg x w b = (x, 8)) ?_ (fun hE => ?_); (focus (unfold chg; (first | (simp_all; done) | (simp_all; omega) | grind))); rw [hE]; refine endX_of (.inl ⟨[.old 0, .dead, .old 1], rfl, rfl, ⟨rfl, trivial⟩, ⟨⟨rfl, rfl, .inr ⟨⟨⟨rfl, rfl, rfl, rfl, rfl⟩, rfl, trivial⟩, trivial⟩⟩, rfl, ⟨rfl, rfl, .inl ⟨_, rfl, rfl⟩⟩, trivial⟩⟩); done) | (refine cut_ (chg x w b = (put1 x { ownR x.os w with ref := goMin ((ownR x.os w).ref + 1) 65535 }, 33)) ?_ (fun hE => ?_); (focus (unfold chg; (first | (simp_all; done) | (simp_all; omega) | grind))); rw [hE]; refine endX_of (.inl ⟨[.old 0, .dead, .old 3], rfl, rfl, ⟨rfl, trivial⟩, ⟨⟨rfl, rfl, .inr ⟨⟨⟨rfl, rfl, rfl, rfl, rfl⟩, rfl, trivial⟩, trivial⟩⟩, rfl, ⟨rfl, rfl, .inl ⟨_, rfl, rfl⟩⟩, trivial⟩⟩); done) | (refine cut_ (chg x w b = (put1 x { ownR x.os w with used := (ownR x.os w).used + b }, 0)) ?_ (fun hE => ?_); (focus (unfold chg; (first | (simp_all; done) | (simp_all; omega) | grind))); rw [hE]; refine endX_of (.inl ⟨[.old 0, .dead, .old 3], rfl, rfl, ⟨rfl, trivial⟩, ⟨⟨rfl, rfl, .inr ⟨⟨⟨rfl, rfl, rfl, rfl, rfl⟩, rfl, trivial⟩, trivial⟩⟩, rfl, ⟨rfl, rfl, .inl ⟨_, rfl, rfl⟩⟩, trivial⟩⟩); done))
    | (refine ⟨rfl, ?_⟩; conv => whnf)
    | fail
    )

theorem c90 (x : Quo) (hv : VQ x) (w b : Int) (hb : 0 ≤ b ∧ b ≤ 2147483647) : Mv 90 [i w, i b] x (rls x w b).1 (.d (i (rls x w b).2)) := by
  have hx : x.os.length < 1000000 := (by have := hv.len; omega); have hs := hv.srt; obtain ⟨hn1, hn2, hn3⟩ := hv.nums w
  refine run_walkV eok Try.func90 rfl (by kernel_rfl) [0, 1] (by rfl) [] ?_
  conv => whnf
  repeat' (first
    | ((with_reducible refine on_dec_f ?_ ?_); (focus ((try simp only [List.length_map, List.length_cons, List.length_nil, List.length_append]); omega)); conv => whnf)
    | ((with_reducible refine on_dec_t ?_ ?_); (focus ((try simp only [List.length_map, List.length_cons, List.length_nil, List.length_append]); omega)); conv => whnf)
    | ((with_reducible refine on_dec (fun h => ?_) (fun h => ?_)) <;> (try simp only [List.length_map] at h) <;> conv => whnf)
    | ((with_reducible refine on_ndec (fun h => ?_) (fun h => ?_)) <;> (try simp only [List.length_map] at h) <;> conv => whnf)
    | ((with_reducible refine on_not (fun h => ?_) (fun h => ?_)) <;> conv => whnf)
    | ((with_reducible refine onBool_split (fun h => ?_) (fun h => ?_)) <;> conv => whnf)
    | ((with_reducible refine call_go ?_); (first | refine call_step (run_view (c65 x hx hs w) rfl (qview rfl rfl rfl (vlc rfl vln))) ?_ | refine call_step (Mv.at (c102 x { ownR x.os w with used := (ownR x.os w).used - b } hx hs) rfl (fun _ => rfl) rfl rfl rfl (Nat.ne_of_beq_eq_false rfl) (vlc (view_agg (vlc rfl (vlc rfl (vlc rfl (vlc rfl (vlc rfl vln)))))) vln) (fun j hj => absurd hj (List.not_mem_nil))) ?_); conv => whnf)
    | (refine ⟨⟨(by first | rfl | (simp; done)), cap_ok (by simp only [List.length_map, List.length_cons, List.length_nil, List.length_append]; omega) rfl⟩, ?_⟩; conv => whnf)
    | (refine ⟨mem_one ⟨rfl, rfl⟩, ?_⟩; conv => whnf)
    | (refine ⟨(by intro y hy; obtain ⟨x, _, rfl⟩ := List.mem_map.1 hy; first | rfl | exact ⟨rfl, rfl⟩), ?_⟩; conv => whnf)
    | (refine ⟨cap_ok (by first | omega | (simp only [List.length_map]; omega)) rfl, ?_⟩; conv => whnf)
    | (refine ix_map (by omega) ?_; conv => whnf)
    | (refine ix_str (by omega) ?_; conv => whnf)
    | (refine wrap64 (by omega) ?_; conv => whnf)
    | (refine wrap64 (by omega) ?_; conv => whnf)
    | (exfalso; simp only [List.length_map, List.length_cons, List.length_nil, List.length_append] at h; omega)
    | ((with_reducible refine endx_go ?_); first | (refine cut_ (rls x w b = (x, 2)) ?_ (fun hE => ?_); (focus (unfold rls; (first | (simp_all; done) | (simp_all; omega) | grind))); rw [hE]; refine endX_of (.inl ⟨[.old 0, .dead, .old 1], rfl, rfl, ⟨rfl, trivial⟩, ⟨⟨rfl, rfl, .inr ⟨⟨⟨rfl, rfl, rfl, rfl, rfl⟩, rfl, trivial⟩, trivial⟩⟩, rfl, ⟨rfl, rfl, .inl ⟨_, rfl, rfl⟩⟩, trivial⟩⟩); done) | (refine cut_ (rls x w b = (x, 0)) ?_ (fun hE => ?_); (focus (unfold rls; (first | (simp_all; done) | (simp_all; omega) | grind))); rw [hE]; refine endX_of (.inl ⟨[.old 0, .dead, .old 1], rfl, rfl, ⟨rfl, trivial⟩, ⟨⟨rfl, rfl, .inr ⟨⟨⟨rfl, rfl, rfl, rfl, rfl⟩, rfl, trivial⟩, trivial⟩⟩, rfl, ⟨rfl, rfl, .inl ⟨_, rfl, rfl⟩⟩, trivial⟩⟩); done) | (refine cut_ (rls x w b = (put1 x { ownR x.os w with used := (ownR x.os w).used - b }, 0)) ?_ (fun hE => ?_); (focus (unfold rls; (first | (simp_all; done) | (simp_all; omega) | grind))); rw [hE]; refine endX_of (.inl ⟨[.old 0, .dead, .old 3], rfl, rfl, ⟨rfl, trivial⟩, ⟨⟨rfl, rfl, .inr ⟨⟨⟨rfl, rfl, rfl, rfl, rfl⟩, rfl, trivial⟩, trivial⟩⟩, rfl, ⟨rfl, rfl, .inl ⟨_, rfl, rfl⟩⟩, trivial⟩⟩); done))
    | (refine ⟨rfl, ?_⟩; conv => whnf)
    | fail
    )

theorem c91 (x : Quo) (hv : VQ x) (w t b : Int) (ht : whoE t = 0) (hb : 0 ≤ b ∧ b ≤ 2147483647) : Mv 91 [i w, i t, i b] x (mov x w t b).1 (.d (i (mov x w t b).2)) := by
  have hx : x.os.length < 1000000 := (by have := hv.len; omega); have hs := hv.srt; obtain ⟨hn1, hn2, hn3⟩ := hv.nums w
  refine run_walkV eok Try.func91 rfl (by kernel_rfl) [0, 1] (by rfl) [] ?_
  conv => whnf
  repeat' (first
    | ((with_reducible refine on_dec_f ?_ ?_); (focus ((try simp only [List.length_map, List.length_cons, List.length_nil, List.length_append]); omega)); conv => whnf)
    | ((with_reducible refine on_dec_t ?_ ?_); (focus ((try simp only [List.length_map, List.length_cons, List.length_nil, List.length_append]); omega)); conv => whnf)
    | ((with_reducible refine on_dec (fun h => ?_) (fun h => ?_)) <;> (try simp only [List.length_map] at h) <;> conv => whnf)
    | ((with_reducible refine on_ndec (fun h => ?_) (fun h => ?_)) <;> (try simp only [List.length_map] at h) <;> conv => whnf)
    | ((with_reducible refine on_not (fun h => ?_) (fun h => ?_)) <;> conv => whnf)
    | ((with_reducible refine onBool_split (fun h => ?_) (fun h => ?_)) <;> conv => whnf)
    | ((with_reducible refine call_go ?_); (first | refine call_step (run_view (c65 x hx hs w) rfl (qview rfl rfl rfl (vlc rfl vln))) ?_ | refine call_step (Mv.at (c89 x hv t b hb) rfl (fun _ => rfl) rfl rfl rfl (Nat.ne_of_beq_eq_false rfl) (vlc rfl (vlc rfl vln)) (fun j hj => absurd hj (List.not_mem_nil))) ?_ | refine call_step (Mv.at (c90 (chg x t b).1 (chg_ok hv ht hb.1) w b hb) rfl (fun _ => rfl) rfl rfl rfl (Nat.ne_of_beq_eq_false rfl) (vlc rfl (vlc rfl vln)) (fun j hj => absurd hj (List.not_mem_nil))) ?_); conv => whnf)
    | (refine ⟨⟨(by first | rfl | (simp; done)), cap_ok (by simp only [List.length_map, List.length_cons, List.length_nil, List.length_append]; omega) rfl⟩, ?_⟩; conv => whnf)
    | (refine ⟨mem_one ⟨rfl, rfl⟩, ?_⟩; conv => whnf)
    | (refine ⟨(by intro y hy; obtain ⟨x, _, rfl⟩ := List.mem_map.1 hy; first | rfl | exact ⟨rfl, rfl⟩), ?_⟩; conv => whnf)
    | (refine ⟨cap_ok (by first | omega | (simp only [List.length_map]; omega)) rfl, ?_⟩; conv => whnf)
    | (refine ix_map (by omega) ?_; conv => whnf)
    | (refine ix_str (by omega) ?_; conv => whnf)
    | (refine wrap64 (by omega) ?_; conv => whnf)
    | (refine wrap64 (by omega) ?_; conv => whnf)
    | (exfalso; simp only [List.length_map, List.length_cons, List.length_nil, List.length_append] at h; omega)
    | ((with_reducible refine endx_go ?_); first | (refine cut_ (mov x w t b = (x, 2)) ?_ (fun hE => ?_); (focus (unfold mov; (first | (simp_all; done) | (simp_all; omega) | grind))); rw [hE]; refine endX_of (.inl ⟨[.old 0, .dead, .old 1], rfl, rfl, ⟨rfl, trivial⟩, ⟨⟨rfl, rfl, .inr ⟨⟨⟨rfl, rfl, rfl, rfl, rfl⟩, rfl, trivial⟩, trivial⟩⟩, rfl, ⟨rfl, rfl, .inl ⟨_, rfl, rfl⟩⟩, trivial⟩⟩); done) | (refine cut_ (mov x w t b = (x, 0)) ?_ (fun hE => ?_); (focus (unfold mov; (first | (simp_all; done) | (simp_all; omega) | grind))); rw [hE]; refine endX_of (.inl ⟨[.old 0, .dead, .old 1], rfl, rfl, ⟨rfl, trivial⟩, ⟨⟨rfl, rfl, .inr ⟨⟨⟨rfl, rfl, rfl, rfl, rfl⟩, rfl, trivial⟩, trivial⟩⟩, rfl, ⟨rfl, rfl, .inl ⟨_, rfl, rfl⟩⟩, trivial⟩⟩); done) | (refine cut_ (mov x w t b = chg x t b) ?_ (fun hE => ?_); (focus (unfold mov; (first | (simp_all; done) | (simp_all; omega) | grind))); rw [hE]; refine endX_of (.inl ⟨[.old 0, .dead, .old 2], rfl, rfl, ⟨rfl, trivial⟩, ⟨⟨rfl, rfl, .inr ⟨⟨⟨rfl, rfl, rfl, rfl, rfl⟩, rfl, trivial⟩, trivial⟩⟩, rfl, ⟨rfl, rfl, .inl ⟨_, rfl, rfl⟩⟩, trivial⟩⟩); done) | (refine cut_ (mov x w t b = rls (chg x t b).1 w b) ?_ (fun hE => ?_); (focus (unfold mov; (first | (simp_all; done) | (simp_all; omega) | grind))); rw [hE]; refine endX_of (.inl ⟨[.old 0, .dead, .old 3], rfl, rfl, ⟨rfl, trivial⟩, ⟨⟨rfl, rfl, .inr ⟨⟨⟨rfl, rfl, rfl, rfl, rfl⟩, rfl, trivial⟩, trivial⟩⟩, rfl, ⟨rfl, rfl, .inl ⟨_, rfl, rfl⟩⟩, trivial⟩⟩); done))
    | (refine ⟨rfl, ?_⟩; conv => whnf)
    | fail
    )

theorem c88a (x : Quo) (hv : VQ x) (l : Lim) (hA : l.warn = -1) : Mv 88 [l.enc] x (limF x l).1 (.d (i (limF x l).2)) := by
  have hx : x.os.length < 1000000 := (by have := hv.len; omega); have hs := hv.srt; have hP : limErr x l = firstE [whoE l.who, limE l.warn, limE l.lim, if true = true then 0 else 9, if (!fullQ x l.who) = true then 0 else 16] := (by unfold limErr; simp [hA])
  refine run_walkV eok Try.func88 rfl (by kernel_rfl) [0, 1] (by rfl) [] ?_
  conv => whnf
  repeat' (first
    | ((with_reducible refine on_dec_t (by assumption) ?_); conv => whnf)
    | ((with_reducible refine on_dec_f (by assumption) ?_); conv => whnf)
    | ((with_reducible refine onBool_t (by assumption) ?_); conv => whnf)
    | ((with_reducible refine onBool_f (by assumption) ?_); conv => whnf)
    | ((with_reducible refine on_nt (by assumption) ?_); conv => whnf)
    | ((with_reducible refine on_nf (by assumption) ?_); conv => whnf)
    | ((with_reducible refine on_ndec_t (by first | assumption | rfl) ?_); conv => whnf)
    | ((with_reducible refine on_ndec_f (by assumption) ?_); conv => whnf)
    | ((with_reducible refine on_dec_t rfl ?_); conv => whnf)
    | ((with_reducible refine on_ndec (fun h => ?_) (fun h => ?_)) <;> conv => whnf)
    | ((with_reducible refine on_dec_f ?_ ?_); (focus ((try simp only [List.length_map, List.length_cons, List.length_nil, List.length_append]); omega)); conv => whnf)
    | ((with_reducible refine on_dec_t ?_ ?_); (focus ((try simp only [List.length_map, List.length_cons, List.length_nil, List.length_append]); omega)); conv => whnf)
    | ((with_reducible refine on_dec (fun h => ?_) (fun h => ?_)) <;> (try simp only [List.length_map] at h) <;> conv => whnf)
    | ((with_reducible refine on_ndec (fun h => ?_) (fun h => ?_)) <;> (try simp only [List.length_map] at h) <;> conv => whnf)
    | ((with_reducible refine on_not (fun h => ?_) (fun h => ?_)) <;> conv => whnf)
    | ((with_reducible refine onBool_split (fun h => ?_) (fun h => ?_)) <;> conv => whnf)
    | ((with_reducible refine call_go ?_); (first | refine call_step (run_view (c51 _) rfl rfl) ?_ | refine call_step (run_view (c54 _) rfl rfl) ?_ | refine call_step (run_view (c52 _ _) rfl rfl) ?_ | refine call_step (run_view (by have := c101 x hx hs l.who; rw [full_eq] at this; exact this) rfl (qview rfl rfl rfl (vlc rfl vln))) ?_ | refine call_step (run_view (c50 [_, _] (by simp)) rfl rfl) ?_ | refine call_step (run_view (c50 [_, _, _, _, _] (by simp)) rfl rfl) ?_ | refine call_step (run_view (c50 [_, _, _, _, _, _] (by simp)) rfl rfl) ?_ | refine call_step (run_view (c65 x hx hs l.who) rfl (qview rfl rfl rfl (vlc rfl vln))) ?_ | refine call_step (Mv.at (c102 x { ownR x.os l.who with warn := l.warn, lim := l.lim } hx hs) rfl (fun _ => rfl) rfl rfl rfl (Nat.ne_of_beq_eq_false rfl) (vlc (view_agg (vlc rfl (vlc rfl (vlc rfl (vlc rfl (vlc rfl vln)))))) vln) (fun j hj => absurd hj (List.not_mem_nil))) ?_); conv => whnf)
    | (refine ⟨[], [(4, 2), (7, 2), (21, 2), (7, 5), (21, 5), (21, 8), (21, 18)], (by decide +kernel), ?_⟩; conv => whnf)
    | (refine ⟨[], [(3, 5)], (by decide +kernel), ?_⟩; conv => whnf)
    | (refine ⟨⟨(by first | rfl | (simp; done)), cap_ok (by simp only [List.length_map, List.length_cons, List.length_nil, List.length_append]; omega) rfl⟩, ?_⟩; conv => whnf)
    | (refine ⟨mem_one ⟨rfl, rfl⟩, ?_⟩; conv => whnf)
    | (refine ⟨(by intro y hy; obtain ⟨x, _, rfl⟩ := List.mem_map.1 hy; first | rfl | exact ⟨rfl, rfl⟩), ?_⟩; conv => whnf)
    | (refine ⟨cap_ok (by first | omega | (simp only [List.length_map]; omega)) rfl, ?_⟩; conv => whnf)
    | (refine ix_map (by omega) ?_; conv => whnf)
    | (refine ix_str (by omega) ?_; conv => whnf)
    | (refine wrap64 (by omega) ?_; conv => whnf)
    | (refine wrap64 (by omega) ?_; conv => whnf)
    | (exfalso; simp_all; done)
    | (exfalso; simp only [List.length_map, List.length_cons, List.length_nil, List.length_append] at h; omega)
    | ((with_reducible refine endx_go ?_); first | (refine cut_ (limF x l = (x, firstE [whoE l.who, limE l.warn, limE l.lim, if true = true then 0 else 9, if (!fullQ x l.who) = true then 0 else 16])) ?_ (fun hE => ?_); (focus (unfold limF; rw [hP, if_neg (by assumption)])); rw [hE]; refine endX_of (.inl ⟨[.old 0, .dead, .old 1], rfl, rfl, ⟨rfl, trivial⟩, ⟨⟨rfl, rfl, .inr ⟨⟨⟨rfl, rfl, rfl, rfl, rfl⟩, rfl, trivial⟩, trivial⟩⟩, rfl, ⟨rfl, rfl, .inl ⟨_, rfl, rfl⟩⟩, trivial⟩⟩); done) | (refine cut_ (limF x l = (put1 x { ownR x.os l.who with warn := l.warn, lim := l.lim }, 0)) ?_ (fun hE => ?_); (focus (unfold limF; rw [hP, if_pos (by assumption)])); rw [hE]; refine endX_of (.inl ⟨[.old 0, .dead, .old 5], rfl, rfl, ⟨rfl, trivial⟩, ⟨⟨rfl, rfl, .inr ⟨⟨⟨rfl, rfl, rfl, rfl, rfl⟩, rfl, trivial⟩, trivial⟩⟩, rfl, ⟨rfl, rfl, .inl ⟨_, rfl, rfl⟩⟩, trivial⟩⟩); done))
    | (refine ⟨rfl, ?_⟩; conv => whnf)
    | fail
    )

theorem c88b (x : Quo) (hv : VQ x) (l : Lim) (hA : ¬ l.warn = -1) (hB : l.lim = -1) : Mv 88 [l.enc] x (limF x l).1 (.d (i (limF x l).2)) := by
  have hx : x.os.length < 1000000 := (by have := hv.len; omega); have hs := hv.srt; have hP : limErr x l = firstE [whoE l.who, limE l.warn, limE l.lim, if true = true then 0 else 9, if (!fullQ x l.who) = true then 0 else 16] := (by unfold limErr; simp [hA, hB])
  refine run_walkV eok Try.func88 rfl (by kernel_rfl) [0, 1] (by rfl) [] ?_
  conv => whnf
  repeat' (first
    | ((with_reducible refine on_dec_t (by assumption) ?_); conv => whnf)
    | ((with_reducible refine on_dec_f (by assumption) ?_); conv => whnf)
    | ((with_reducible refine onBool_t (by assumption) ?_); conv => whnf)
    | ((with_reducible refine onBool_f (by assumption) ?_); conv => whnf)
    | ((with_reducible refine on_nt (by assumption) ?_); conv => whnf)
    | ((with_reducible refine on_nf (by assumption) ?_); conv => whnf)
    | ((with_reducible refine on_ndec_t (by first | assumption | rfl) ?_); conv => whnf)
    | ((with_reducible refine on_ndec_f (by assumption) ?_); conv => whnf)
    | ((with_reducible refine on_dec_t rfl ?_); conv => whnf)
    | ((with_reducible refine on_ndec (fun h => ?_) (fun h => ?_)) <;> conv => whnf)
    | ((with_reducible refine on_dec_f ?_ ?_); (focus ((try simp only [List.length_map, List.length_cons, List.length_nil, List.length_append]); omega)); conv => whnf)
    | ((with_reducible refine on_dec_t ?_ ?_); (focus ((try simp only [List.length_map, List.length_cons, List.length_nil, List.length_append]); omega)); conv => whnf)
    | ((with_reducible refine on_dec (fun h => ?_) (fun h => ?_)) <;> (try simp only [List.length_map] at h) <;> conv => whnf)
    | ((with_reducible refine on_ndec (fun h => ?_) (fun h => ?_)) <;> (try simp only [List.length_map] at h) <;> conv => whnf)
    | ((with_reducible refine on_not (fun h => ?_) (fun h => ?_)) <;> conv => whnf)
    | ((with_reducible refine onBool_split (fun h => ?_) (fun h => ?_)) <;> conv => whnf)
    | ((with_reducible refine call_go ?_); (first | refine call_step (run_view (c51 _) rfl rfl) ?_ | refine call_step (run_view (c54 _) rfl rfl) ?_ | refine call_step (run_view (c52 _ _) rfl rfl) ?_ | refine call_step (run_view (by have := c101 x hx hs l.who; rw [full_eq] at this; exact this) rfl (qview rfl rfl rfl (vlc rfl vln))) ?_ | refine call_step (run_view (c50 [_, _] (by simp)) rfl rfl) ?_ | refine call_step (run_view (c50 [_, _, _, _, _] (by simp)) rfl rfl) ?_ | refine call_step (run_view (c50 [_, _, _, _, _, _] (by simp)) rfl rfl) ?_ | refine call_step (run_view (c65 x hx hs l.who) rfl (qview rfl rfl rfl (vlc rfl vln))) ?_ | refine call_step (Mv.at (c102 x { ownR x.os l.who with warn := l.warn, lim := l.lim } hx hs) rfl (fun _ => rfl) rfl rfl rfl (Nat.ne_of_beq_eq_false rfl) (vlc (view_agg (vlc rfl (vlc rfl (vlc rfl (vlc rfl (vlc rfl vln)))))) vln) (fun j hj => absurd hj (List.not_mem_nil))) ?_); conv => whnf)
    | (refine ⟨[], [(4, 2), (7, 2), (21, 2), (7, 5), (21, 5), (21, 8), (21, 18)], (by decide +kernel), ?_⟩; conv => whnf)
    | (refine ⟨[], [(3, 5)], (by decide +kernel), ?_⟩; conv => whnf)
    | (refine ⟨⟨(by first | rfl | (simp; done)), cap_ok (by simp only [List.length_map, List.length_cons, List.length_nil, List.length_append]; omega) rfl⟩, ?_⟩; conv => whnf)
    | (refine ⟨mem_one ⟨rfl, rfl⟩, ?_⟩; conv => whnf)
    | (refine ⟨(by intro y hy; obtain ⟨x, _, rfl⟩ := List.mem_map.1 hy; first | rfl | exact ⟨rfl, rfl⟩), ?_⟩; conv => whnf)
    | (refine ⟨cap_ok (by first | omega | (simp only [List.length_map]; omega)) rfl, ?_⟩; conv => whnf)
    | (refine ix_map (by omega) ?_; conv => whnf)
    | (refine ix_str (by omega) ?_; conv => whnf)
    | (refine wrap64 (by omega) ?_; conv => whnf)
    | (refine wrap64 (by omega) ?_; conv => whnf)
    | (exfalso; simp_all; done)
    | (exfalso; simp only [List.length_map, List.length_cons, List.length_nil, List.length_append] at h; omega)
    | ((with_reducible refine endx_go ?_); first | (refine cut_ (limF x l = (x, firstE [whoE l.who, limE l.warn, limE l.lim, if true = true then 0 else 9, if (!fullQ x l.who) = true then 0 else 16])) ?_ (fun hE => ?_); (focus (unfold limF; rw [hP, if_neg (by assumption)])); rw [hE]; refine endX_of (.inl ⟨[.old 0, .dead, .old 1], rfl, rfl, ⟨rfl, trivial⟩, ⟨⟨rfl, rfl, .inr ⟨⟨⟨rfl, rfl, rfl, rfl, rfl⟩, rfl, trivial⟩, trivial⟩⟩, rfl, ⟨rfl, rfl, .inl ⟨_, rfl, rfl⟩⟩, trivial⟩⟩); done) | (refine cut_ (limF x l = (put1 x { ownR x.os l.who with warn := l.warn, lim := l.lim }, 0)) ?_ (fun hE => ?_); (focus (unfold limF; rw [hP, if_pos (by assumption)])); rw [hE]; refine endX_of (.inl ⟨[.old 0, .dead, .old 5], rfl, rfl, ⟨rfl, trivial⟩, ⟨⟨rfl, rfl, .inr ⟨⟨⟨rfl, rfl, rfl, rfl, rfl⟩, rfl, trivial⟩, trivial⟩⟩, rfl, ⟨rfl, rfl, .inl ⟨_, rfl, rfl⟩⟩, trivial⟩⟩); done))
    | (refine ⟨rfl, ?_⟩; conv => whnf)
    | fail
    )

theorem c88c (x : Quo) (hv : VQ x) (l : Lim) (hA : ¬ l.warn = -1) (hB : ¬ l.lim = -1) : Mv 88 [l.enc] x (limF x l).1 (.d (i (limF x l).2)) := by
  have hx : x.os.length < 1000000 := (by have := hv.len; omega); have hs := hv.srt; have hP : limErr x l = firstE [whoE l.who, limE l.warn, limE l.lim, if decide (l.warn ≤ l.lim) = true then 0 else 9, if (!fullQ x l.who) = true then 0 else 16] := (by unfold limErr; simp [hA, hB])
  refine run_walkV eok Try.func88 rfl (by kernel_rfl) [0, 1] (by rfl) [] ?_
  conv => whnf
  repeat' (first
    | ((with_reducible refine on_dec_t (by assumption) ?_); conv => whnf)
    | ((with_reducible refine on_dec_f (by assumption) ?_); conv => whnf)
    | ((with_reducible refine onBool_t (by assumption) ?_); conv => whnf)
    | ((with_reducible refine onBool_f (by assumption) ?_); conv => whnf)
    | ((with_reducible refine on_nt (by assumption) ?_); conv => whnf)
    | ((with_reducible refine on_nf (by assumption) ?_); conv => whnf)
    | ((with_reducible refine on_ndec_t (by first | assumption | rfl) ?_); conv => whnf)
    | ((with_reducible refine on_ndec_f (by assumption) ?_); conv => whnf)
    | ((with_reducible refine on_dec_t rfl ?_); conv => whnf)
    | ((with_reducible refine on_ndec (fun h => ?_) (fun h => ?_)) <;> conv => whnf)
    | ((with_reducible refine on_dec_f ?_ ?_); (focus ((try simp only [List.length_map, List.length_cons, List.length_nil, List.length_append]); omega)); conv => whnf)
    | ((with_reducible refine on_dec_t ?_ ?_); (focus ((try simp only [List.length_map, List.length_cons, List.length_nil, List.length_append]); omega)); conv => whnf)
    | ((with_reducible refine on_dec (fun h => ?_) (fun h => ?_)) <;> (try simp only [List.length_map] at h) <;> conv => whnf)
    | ((with_reducible refine on_ndec (fun h => ?_) (fun h => ?_)) <;> (try simp only [List.length_map] at h) <;> conv => whnf)
    | ((with_reducible refine on_not (fun h => ?_) (fun h => ?_)) <;> conv => whnf)
    | ((with_reducible refine onBool_split (fun h => ?_) (fun h => ?_)) <;> conv => whnf)
    | ((with_reducible refine call_go ?_); (first | refine call_step (run_view (c51 _) rfl rfl) ?_ | refine call_step (run_view (c54 _) rfl rfl) ?_ | refine call_step (run_view (c52 _ _) rfl rfl) ?_ | refine call_step (run_view (by have := c101 x hx hs l.who; rw [full_eq] at this; exact this) rfl (qview rfl rfl rfl (vlc rfl vln))) ?_ | refine call_step (run_view (c50 [_, _] (by simp)) rfl rfl) ?_ | refine call_step (run_view (c50 [_, _, _, _, _] (by simp)) rfl rfl) ?_ | refine call_step (run_view (c50 [_, _, _, _, _, _] (by simp)) rfl rfl) ?_ | refine call_step (run_view (c65 x hx hs l.who) rfl (qview rfl rfl rfl (vlc rfl vln))) ?_ | refine call_step (Mv.at (c102 x { ownR x.os l.who with warn := l.warn, lim := l.lim } hx hs) rfl (fun _ => rfl) rfl rfl rfl (Nat.ne_of_beq_eq_false rfl) (vlc (view_agg (vlc rfl (vlc rfl (vlc rfl (vlc rfl (vlc rfl vln)))))) vln) (fun j hj => absurd hj (List.not_mem_nil))) ?_); conv => whnf)
    | (refine ⟨[], [(4, 2), (7, 2), (21, 2), (7, 5), (21, 5), (21, 8), (21, 18)], (by decide +kernel), ?_⟩; conv => whnf)
    | (refine ⟨[], [(3, 5)], (by decide +kernel), ?_⟩; conv => whnf)
    | (refine ⟨⟨(by first | rfl | (simp; done)), cap_ok (by simp only [List.length_map, List.length_cons, List.length_nil, List.length_append]; omega) rfl⟩, ?_⟩; conv => whnf)
    | (refine ⟨mem_one ⟨rfl, rfl⟩, ?_⟩; conv => whnf)
    | (refine ⟨(by intro y hy; obtain ⟨x, _, rfl⟩ := List.mem_map.1 hy; first | rfl | exact ⟨rfl, rfl⟩), ?_⟩; conv => whnf)
    | (refine ⟨cap_ok (by first | omega | (simp only [List.length_map]; omega)) rfl, ?_⟩; conv => whnf)
    | (refine ix_map (by omega) ?_; conv => whnf)
    | (refine ix_str (by omega) ?_; conv => whnf)
    | (refine wrap64 (by omega) ?_; conv => whnf)
    | (refine wrap64 (by omega) ?_; conv => whnf)
    | (exfalso; simp_all; done)
    | (exfalso; simp only [List.length_map, List.length_cons, List.length_nil, List.length_append] at h; omega)
    | ((with_reducible refine endx_go ?_); first | (refine cut_ (limF x l = (x, firstE [whoE l.who, limE l.warn, limE l.lim, if decide (l.warn ≤ l.lim) = true then 0 else 9, if (!fullQ x l.who) = true then 0 else 16])) ?_ (fun hE => ?_); (focus (unfold limF; rw [hP, if_neg (by assumption)])); rw [hE]; refine endX_of (.inl ⟨[.old 0, .dead, .old 1], rfl, rfl, ⟨rfl, trivial⟩, ⟨⟨rfl, rfl, .inr ⟨⟨⟨rfl, rfl, rfl, rfl, rfl⟩, rfl, trivial⟩, trivial⟩⟩, rfl, ⟨rfl, rfl, .inl ⟨_, rfl, rfl⟩⟩, trivial⟩⟩); done) | (refine cut_ (limF x l = (put1 x { ownR x.os l.who with warn := l.warn, lim := l.lim }, 0)) ?_ (fun hE => ?_); (focus (unfold limF; rw [hP, if_pos (by assumption)])); rw [hE]; refine endX_of (.inl ⟨[.old 0, .dead, .old 5], rfl, rfl, ⟨rfl, trivial⟩, ⟨⟨rfl, rfl, .inr ⟨⟨⟨rfl, rfl, rfl, rfl, rfl⟩, rfl, trivial⟩, trivial⟩⟩, rfl, ⟨rfl, rfl, .inl ⟨_, rfl, rfl⟩⟩, trivial⟩⟩); done))
    | (refine ⟨rfl, ?_⟩; conv => whnf)
    | fail
    )

theorem c88 (x : Quo) (hv : VQ x) (l : Lim) : Mv 88 [l.enc] x (limF x l).1 (.d (i (limF x l).2)) := by
  by_cases hA : l.warn = -1
  · exact c88a x hv l hA
  · by_cases hB : l.lim = -1
    · exact c88b x hv l hA hB
    · exact c88c x hv l hA hB

theorem c69_3 (x : Quo) (hv : VQ x) (a : Act) (hk : a.kind = 3) : Mv 69 [a.enc] x (doA x a).1 (.d (i (doA x a).2)) := by
  refine run_walkV eok Try.func69 rfl (by kernel_rfl) [0, 1] (by rfl) [] ?_
  conv => whnf
  repeat' (first
    | ((with_reducible refine on_dec_t (by assumption) ?_); conv => whnf)
    | ((with_reducible refine on_dec_f (by assumption) ?_); conv => whnf)
    | ((with_reducible refine onBool_t (by assumption) ?_); conv => whnf)
    | ((with_reducible refine onBool_f (by assumption) ?_); conv => whnf)
    | ((with_reducible refine on_nt (by assumption) ?_); conv => whnf)
    | ((with_reducible refine on_nf (by assumption) ?_); conv => whnf)
    | ((with_reducible refine on_ndec_t (by first | assumption | rfl) ?_); conv => whnf)
    | ((with_reducible refine on_ndec_f (by assumption) ?_); conv => whnf)
    | ((with_reducible refine on_dec_t rfl ?_); conv => whnf)
    | ((with_reducible refine on_ndec (fun h => ?_) (fun h => ?_)) <;> conv => whnf)
    | ((with_reducible refine on_dec_f ?_ ?_); (focus ((try simp only [List.length_map, List.length_cons, List.length_nil, List.length_append]); omega)); conv => whnf)
    | ((with_reducible refine on_dec_t ?_ ?_); (focus ((try simp only [List.length_map, List.length_cons, List.length_nil, List.length_append]); omega)); conv => whnf)
    | ((with_reducible refine on_dec (fun h => ?_) (fun h => ?_)) <;> (try simp only [List.length_map] at h) <;> conv => whnf)
    | ((with_reducible refine on_ndec (fun h => ?_) (fun h => ?_)) <;> (try simp only [List.length_map] at h) <;> conv => whnf)
    | ((with_reducible refine on_not (fun h => ?_) (fun h => ?_)) <;> conv => whnf)
    | ((with_reducible refine onBool_split (fun h => ?_) (fun h => ?_)) <;> conv => whnf)
    | ((with_reducible refine call_go ?_); (first | refine call_step (Mv.at (c88 x hv a.lim) rfl (fun _ => rfl) rfl rfl rfl (Nat.ne_of_beq_eq_false rfl) (vlc (view_agg (vlc rfl (vlc rfl (vlc rfl vln)))) vln) (fun j hj => absurd hj (List.not_mem_nil))) ?_ | refine call_step (run_view (c51 _) rfl rfl) ?_ | refine call_step (run_view (c50 [_, _] (by simp)) rfl rfl) ?_ | refine call_step (run_view (c50 [_, _, _, _, _] (by simp)) rfl rfl) ?_ | refine call_step (run_view (c50 [_, _, _, _, _, _] (by simp)) rfl rfl) ?_ | refine call_step (run_view (c53 _) rfl rfl) ?_ | refine call_step (Mv.at (c89 x hv t b hb) rfl (fun _ => rfl) rfl rfl rfl (Nat.ne_of_beq_eq_false rfl) (vlc rfl (vlc rfl vln)) (fun j hj => absurd hj (List.not_mem_nil))) ?_ | refine call_step (Mv.at (c90 (chg x t b).1 (chg_ok hv ht hb.1) w b hb) rfl (fun _ => rfl) rfl rfl rfl (Nat.ne_of_beq_eq_false rfl) (vlc rfl (vlc rfl vln)) (fun j hj => absurd hj (List.not_mem_nil))) ?_); conv => whnf)
    | (refine ⟨⟨(by first | rfl | (simp; done)), cap_ok (by simp only [List.length_map, List.length_cons, List.length_nil, List.length_append]; omega) rfl⟩, ?_⟩; conv => whnf)
    | (refine ⟨mem_one ⟨rfl, rfl⟩, ?_⟩; conv => whnf)
    | (refine ⟨(by intro y hy; obtain ⟨x, _, rfl⟩ := List.mem_map.1 hy; first | rfl | exact ⟨rfl, rfl⟩), ?_⟩; conv => whnf)
    | (refine ⟨cap_ok (by first | omega | (simp only [List.length_map]; omega)) rfl, ?_⟩; conv => whnf)
    | (refine ix_map (by omega) ?_; conv => whnf)
    | (refine ix_str (by omega) ?_; conv => whnf)
    | (refine wrap64 (by omega) ?_; conv => whnf)
    | (exfalso; simp only [List.length_map, List.length_cons, List.length_nil, List.length_append] at h; omega)
    | ((with_reducible refine endx_go ?_); first | (refine cut_ (doA x a = limF x a.lim) ?_ (fun hE => ?_); (focus (unfold doA; simp [*]; done)); rw [hE]; refine endX_of (.inl ⟨[.old 0, .dead, .old 3], rfl, rfl, ⟨rfl, trivial⟩, ⟨⟨rfl, rfl, .inr ⟨⟨⟨rfl, rfl, rfl, rfl, rfl⟩, rfl, trivial⟩, trivial⟩⟩, rfl, ⟨rfl, rfl, .inl ⟨_, rfl, rfl⟩⟩, trivial⟩⟩); done))
    | (refine ⟨rfl, ?_⟩; conv => whnf)
    | fail
    )

theorem c69_0 (x : Quo) (hv : VQ x) (a : Act) (hk : a.kind = 0) (h0 : actE a = 0) : Mv 69 [a.enc] x (doA x a).1 (.d (i (doA x a).2)) := by
  have hP : actE a = firstE [whoE a.who, numE a.bytes] := (by unfold actE; simp [hk]); obtain ⟨hw, ht, hb⟩ := actE_0 h0; have h0q := hP.symm.trans h0
  refine run_walkV eok Try.func69 rfl (by kernel_rfl) [0, 1] (by rfl) [] ?_
  conv => whnf
  repeat' (first
    | ((with_reducible refine on_dec_t (by assumption) ?_); conv => whnf)
    | ((with_reducible refine on_dec_f (by assumption) ?_); conv => whnf)
    | ((with_reducible refine onBool_t (by assumption) ?_); conv => whnf)
    | ((with_reducible refine onBool_f (by assumption) ?_); conv => whnf)
    | ((with_reducible refine on_nt (by assumption) ?_); conv => whnf)
    | ((with_reducible refine on_nf (by assumption) ?_); conv => whnf)
    | ((with_reducible refine on_ndec_t (by first | assumption | rfl) ?_); conv => whnf)
    | ((with_reducible refine on_ndec_f (by assumption) ?_); conv => whnf)
    | ((with_reducible refine on_dec_t rfl ?_); conv => whnf)
    | ((with_reducible refine on_ndec (fun h => ?_) (fun h => ?_)) <;> conv => whnf)
    | ((with_reducible refine on_dec_f ?_ ?_); (focus ((try simp only [List.length_map, List.length_cons, List.length_nil, List.length_append]); omega)); conv => whnf)
    | ((with_reducible refine on_dec_t ?_ ?_); (focus ((try simp only [List.length_map, List.length_cons, List.length_nil, List.length_append]); omega)); conv => whnf)
    | ((with_reducible refine on_dec (fun h => ?_) (fun h => ?_)) <;> (try simp only [List.length_map] at h) <;> conv => whnf)
    | ((with_reducible refine on_ndec (fun h => ?_) (fun h => ?_)) <;> (try simp only [List.length_map] at h) <;> conv => whnf)
    | ((with_reducible refine on_not (fun h => ?_) (fun h => ?_)) <;> conv => whnf)
    | ((with_reducible refine onBool_split (fun h => ?_) (fun h => ?_)) <;> conv => whnf)
    | ((with_reducible refine call_go ?_); (first | refine call_step (Mv.at (c88 x hv a.lim) rfl (fun _ => rfl) rfl rfl rfl (Nat.ne_of_beq_eq_false rfl) (vlc (view_agg (vlc rfl (vlc rfl (vlc rfl vln)))) vln) (fun j hj => absurd hj (List.not_mem_nil))) ?_ | refine call_step (run_view (c51 _) rfl rfl) ?_ | refine call_step (run_view (c50 [_, _] (by simp)) rfl rfl) ?_ | refine call_step (run_view (c50 [_, _, _, _, _] (by simp)) rfl rfl) ?_ | refine call_step (run_view (c50 [_, _, _, _, _, _] (by simp)) rfl rfl) ?_ | refine call_step (run_view (c53 _) rfl rfl) ?_ | refine call_step (Mv.at (c89 x hv a.who a.bytes hb) rfl (fun _ => rfl) rfl rfl rfl (Nat.ne_of_beq_eq_false rfl) (vlc rfl (vlc rfl vln)) (fun j hj => absurd hj (List.not_mem_nil))) ?_ | refine call_step (Mv.at (c90 x hv a.who a.bytes hb) rfl (fun _ => rfl) rfl rfl rfl (Nat.ne_of_beq_eq_false rfl) (vlc rfl (vlc rfl vln)) (fun j hj => absurd hj (List.not_mem_nil))) ?_ | refine call_step (Mv.at (c91 x hv a.who a.to a.bytes ht hb) rfl (fun _ => rfl) rfl rfl rfl (Nat.ne_of_beq_eq_false rfl) (vlc rfl (vlc rfl (vlc rfl vln))) (fun j hj => absurd hj (List.not_mem_nil))) ?_); conv => whnf)
    | (refine ⟨⟨(by first | rfl | (simp; done)), cap_ok (by simp only [List.length_map, List.length_cons, List.length_nil, List.length_append]; omega) rfl⟩, ?_⟩; conv => whnf)
    | (refine ⟨mem_one ⟨rfl, rfl⟩, ?_⟩; conv => whnf)
    | (refine ⟨(by intro y hy; obtain ⟨x, _, rfl⟩ := List.mem_map.1 hy; first | rfl | exact ⟨rfl, rfl⟩), ?_⟩; conv => whnf)
    | (refine ⟨cap_ok (by first | omega | (simp only [List.length_map]; omega)) rfl, ?_⟩; conv => whnf)
    | (refine ix_map (by omega) ?_; conv => whnf)
    | (refine ix_str (by omega) ?_; conv => whnf)
    | (refine wrap64 (by omega) ?_; conv => whnf)
    | (refine wrap64 (by omega) ?_; conv => whnf)
    | (exfalso; simp only [List.length_map, List.length_cons, List.length_nil, List.length_append] at h; omega)
    | ((with_reducible refine endx_go ?_); first | (refine cut_ (doA x a = chg x a.who a.bytes) ?_ (fun hE => ?_); (focus (unfold doA; simp [hk, h0]; done)); rw [hE]; refine endX_of (.inl ⟨[.old 0, .dead, .old 4], rfl, rfl, ⟨rfl, trivial⟩, ⟨⟨rfl, rfl, .inr ⟨⟨⟨rfl, rfl, rfl, rfl, rfl⟩, rfl, trivial⟩, trivial⟩⟩, rfl, ⟨rfl, rfl, .inl ⟨_, rfl, rfl⟩⟩, trivial⟩⟩); done))
    | (refine ⟨rfl, ?_⟩; conv => whnf)
    | fail
    )

theorem c69_0e (x : Quo) (hv : VQ x) (a : Act) (hk : a.kind = 0) (h0 : ¬ actE a = 0) : Mv 69 [a.enc] x (doA x a).1 (.d (i (doA x a).2)) := by
  have hP : actE a = firstE [whoE a.who, numE a.bytes] := (by unfold actE; simp [hk]); rw [hP] at h0
  refine run_walkV eok Try.func69 rfl (by kernel_rfl) [0, 1] (by rfl) [] ?_
  conv => whnf
  repeat' (first
    | ((with_reducible refine on_dec_t (by assumption) ?_); conv => whnf)
    | ((with_reducible refine on_dec_f (by assumption) ?_); conv => whnf)
    | ((with_reducible refine onBool_t (by assumption) ?_); conv => whnf)
    | ((with_reducible refine onBool_f (by assumption) ?_); conv => whnf)
    | ((with_reducible refine on_nt (by assumption) ?_); conv => whnf)
    | ((with_reducible refine on_nf (by assumption) ?_); conv => whnf)
    | ((with_reducible refine on_ndec_t (by first | assumption | rfl) ?_); conv => whnf)
    | ((with_reducible refine on_ndec_f (by assumption) ?_); conv => whnf)
    | ((with_reducible refine on_dec_t rfl ?_); conv => whnf)
    | ((with_reducible refine on_ndec (fun h => ?_) (fun h => ?_)) <;> conv => whnf)
    | ((with_reducible refine on_dec_f ?_ ?_); (focus ((try simp only [List.length_map, List.length_cons, List.length_nil, List.length_append]); omega)); conv => whnf)
    | ((with_reducible refine on_dec_t ?_ ?_); (focus ((try simp only [List.length_map, List.length_cons, List.length_nil, List.length_append]); omega)); conv => whnf)
    | ((with_reducible refine on_dec (fun h => ?_) (fun h => ?_)) <;> (try simp only [List.length_map] at h) <;> conv => whnf)
    | ((with_reducible refine on_ndec (fun h => ?_) (fun h => ?_)) <;> (try simp only [List.length_map] at h) <;> conv => whnf)
    | ((with_reducible refine on_not (fun h => ?_) (fun h => ?_)) <;> conv => whnf)
    | ((with_reducible refine onBool_split (fun h => ?_) (fun h => ?_)) <;> conv => whnf)
    | ((with_reducible refine call_go ?_); (first | refine call_step (Mv.at (c88 x hv a.lim) rfl (fun _ => rfl) rfl rfl rfl (Nat.ne_of_beq_eq_false rfl) (vlc (view_agg (vlc rfl (vlc rfl (vlc rfl vln)))) vln) (fun j hj => absurd hj (List.not_mem_nil))) ?_ | refine call_step (run_view (c51 _) rfl rfl) ?_ | refine call_step (run_view (c50 [_, _] (by simp)) rfl rfl) ?_ | refine call_step (run_view (c50 [_, _, _, _, _] (by simp)) rfl rfl) ?_ | refine call_step (run_view (c50 [_, _, _, _, _, _] (by simp)) rfl rfl) ?_ | refine call_step (run_view (c53 _) rfl rfl) ?_ | refine call_step (Mv.at (c89 x hv a.who a.bytes hb) rfl (fun _ => rfl) rfl rfl rfl (Nat.ne_of_beq_eq_false rfl) (vlc rfl (vlc rfl vln)) (fun j hj => absurd hj (List.not_mem_nil))) ?_ | refine call_step (Mv.at (c90 x hv a.who a.bytes hb) rfl (fun _ => rfl) rfl rfl rfl (Nat.ne_of_beq_eq_false rfl) (vlc rfl (vlc rfl vln)) (fun j hj => absurd hj (List.not_mem_nil))) ?_ | refine call_step (Mv.at (c91 x hv a.who a.to a.bytes ht hb) rfl (fun _ => rfl) rfl rfl rfl (Nat.ne_of_beq_eq_false rfl) (vlc rfl (vlc rfl (vlc rfl vln))) (fun j hj => absurd hj (List.not_mem_nil))) ?_); conv => whnf)
    | (refine ⟨⟨(by first | rfl | (simp; done)), cap_ok (by simp only [List.length_map, List.length_cons, List.length_nil, List.length_append]; omega) rfl⟩, ?_⟩; conv => whnf)
    | (refine ⟨mem_one ⟨rfl, rfl⟩, ?_⟩; conv => whnf)
    | (refine ⟨(by intro y hy; obtain ⟨x, _, rfl⟩ := List.mem_map.1 hy; first | rfl | exact ⟨rfl, rfl⟩), ?_⟩; conv => whnf)
    | (refine ⟨cap_ok (by first | omega | (simp only [List.length_map]; omega)) rfl, ?_⟩; conv => whnf)
    | (refine ix_map (by omega) ?_; conv => whnf)
    | (refine ix_str (by omega) ?_; conv => whnf)
    | (refine wrap64 (by omega) ?_; conv => whnf)
    | (refine wrap64 (by omega) ?_; conv => whnf)
    | (exfalso; simp only [List.length_map, List.length_cons, List.length_nil, List.length_append] at h; omega)
    | ((with_reducible refine endx_go ?_); first | (refine cut_ (doA x a = (x, firstE [whoE a.who, numE a.bytes])) ?_ (fun hE => ?_); (focus (unfold doA; rw [hP, if_neg (by omega), if_neg h0])); rw [hE]; refine endX_of (.inl ⟨[.old 0, .dead, .old 1], rfl, rfl, ⟨rfl, trivial⟩, ⟨⟨rfl, rfl, .inr ⟨⟨⟨rfl, rfl, rfl, rfl, rfl⟩, rfl, trivial⟩, trivial⟩⟩, rfl, ⟨rfl, rfl, .inl ⟨_, rfl, rfl⟩⟩, trivial⟩⟩); done))
    | (refine ⟨rfl, ?_⟩; conv => whnf)
    | fail
    )

theorem c69_1 (x : Quo) (hv : VQ x) (a : Act) (hk : a.kind = 1) (h0 : actE a = 0) : Mv 69 [a.enc] x (doA x a).1 (.d (i (doA x a).2)) := by
  have hP : actE a = firstE [whoE a.who, numE a.bytes] := (by unfold actE; simp [hk]); obtain ⟨hw, ht, hb⟩ := actE_0 h0; have h0q := hP.symm.trans h0
  refine run_walkV eok Try.func69 rfl (by kernel_rfl) [0, 1] (by rfl) [] ?_
  conv => whnf
  repeat' (first
    | ((with_reducible refine on_dec_t (by assumption) ?_); conv => whnf)
    | ((with_reducible refine on_dec_f (by assumption) ?_); conv => whnf)
    | ((with_reducible refine onBool_t (by assumption) ?_); conv => whnf)
    | ((with_reducible refine onBool_f (by assumption) ?_); conv => whnf)
    | ((with_reducible refine on_nt (by assumption) ?_); conv => whnf)
    | ((with_reducible refine on_nf (by assumption) ?_); conv => whnf)
    | ((with_reducible refine on_ndec_t (by first | assumption | rfl) ?_); conv => whnf)
    | ((with_reducible refine on_ndec_f (by assumption) ?_); conv => whnf)
    | ((with_reducible refine on_dec_t rfl ?_); conv => whnf)
    | ((with_reducible refine on_ndec (fun h => ?_) (fun h => ?_)) <;> conv => whnf)
    | ((with_reducible refine on_dec_f ?_ ?_); (focus ((try simp only [List.length_map, List.length_cons, List.length_nil, List.length_append]); omega)); conv => whnf)
    | ((with_reducible refine on_dec_t ?_ ?_); (focus ((try simp only [List.length_map, List.length_cons, List.length_nil, List.length_append]); omega)); conv => whnf)
    | ((with_reducible refine on_dec (fun h => ?_) (fun h => ?_)) <;> (try simp only [List.length_map] at h) <;> conv => whnf)
    | ((with_reducible refine on_ndec (fun h => ?_) (fun h => ?_)) <;> (try simp only [List.length_map] at h) <;> conv => whnf)
    | ((with_reducible refine on_not (fun h => ?_) (fun h => ?_)) <;> conv => whnf)
    | ((with_reducible refine onBool_split (fun h => ?_) (fun h => ?_)) <;> conv => whnf)
    | ((with_reducible refine call_go ?_); (first | refine call_step (Mv.at (c88 x hv a.lim) rfl (fun _ => rfl) rfl rfl rfl (Nat.ne_of_beq_eq_false rfl) (vlc (view_agg (vlc rfl (vlc rfl (vlc rfl vln)))) vln) (fun j hj => absurd hj (List.not_mem_nil))) ?_ | refine call_step (run_view (c51 _) rfl rfl) ?_ | refine call_step (run_view (c50 [_, _] (by simp)) rfl rfl) ?_ | refine call_step (run_view (c50 [_, _, _, _, _] (by simp)) rfl rfl) ?_ | refine call_step (run_view (c50 [_, _, _, _, _, _] (by simp)) rfl rfl) ?_ | refine call_step (run_view (c53 _) rfl rfl) ?_ | refine call_step (Mv.at (c89 x hv a.who a.bytes hb) rfl (fun _ => rfl) rfl rfl rfl (Nat.ne_of_beq_eq_false rfl) (vlc rfl (vlc rfl vln)) (fun j hj => absurd hj (List.not_mem_nil))) ?_ | refine call_step (Mv.at (c90 x hv a.who a.bytes hb) rfl (fun _ => rfl) rfl rfl rfl (Nat.ne_of_beq_eq_false rfl) (vlc rfl (vlc rfl vln)) (fun j hj => absurd hj (List.not_mem_nil))) ?_ | refine call_step (Mv.at (c91 x hv a.who a.to a.bytes ht hb) rfl (fun _ => rfl) rfl rfl rfl (Nat.ne_of_beq_eq_false rfl) (vlc rfl (vlc rfl (vlc rfl vln))) (fun j hj => absurd hj (List.not_mem_nil))) ?_); conv => whnf)
    | (refine ⟨⟨(by first | rfl | (simp; done)), cap_ok (by simp only [List.length_map, List.length_cons, List.length_nil, List.length_append]; omega) rfl⟩, ?_⟩; conv => whnf)
    | (refine ⟨mem_one ⟨rfl, rfl⟩, ?_⟩; conv => whnf)
    | (refine ⟨(by intro y hy; obtain ⟨x, _, rfl⟩ := List.mem_map.1 hy; first | rfl | exact ⟨rfl, rfl⟩), ?_⟩; conv => whnf)
    | (refine ⟨cap_ok (by first | omega | (simp only [List.length_map]; omega)) rfl, ?_⟩; conv => whnf)
    | (refine ix_map (by omega) ?_; conv => whnf)
    | (refine ix_str (by omega) ?_; conv => whnf)
    | (refine wrap64 (by omega) ?_; conv => whnf)
    | (refine wrap64 (by omega) ?_; conv => whnf)
    | (exfalso; simp only [List.length_map, List.length_cons, List.length_nil, List.length_append] at h; omega)
    | ((with_reducible refine endx_go ?_); first | (refine cut_ (doA x a = rls x a.who a.bytes) ?_ (fun hE => ?_); (focus (unfold doA; simp [hk, h0]; done)); rw [hE]; refine endX_of (.inl ⟨[.old 0, .dead, .old 4], rfl, rfl, ⟨rfl, trivial⟩, ⟨⟨rfl, rfl, .inr ⟨⟨⟨rfl, rfl, rfl, rfl, rfl⟩, rfl, trivial⟩, trivial⟩⟩, rfl, ⟨rfl, rfl, .inl ⟨_, rfl, rfl⟩⟩, trivial⟩⟩); done))
    | (refine ⟨rfl, ?_⟩; conv => whnf)
    | fail
    )

theorem c69_1e (x : Quo) (hv : VQ x) (a : Act) (hk : a.kind = 1) (h0 : ¬ actE a = 0) : Mv 69 [a.enc] x (doA x a).1 (.d (i (doA x a).2)) := by
  have hP : actE a = firstE [whoE a.who, numE a.bytes] := (by unfold actE; simp [hk]); rw [hP] at h0
  refine run_walkV eok Try.func69 rfl (by kernel_rfl) [0, 1] (by rfl) [] ?_
  conv => whnf
  repeat' (first
    | ((with_reducible refine on_dec_t (by assumption) ?_); conv => whnf)
    | ((with_reducible refine on_dec_f (by assumption) ?_); conv => whnf)
    | ((with_reducible refine onBool_t (by assumption) ?_); conv => whnf)
    | ((with_reducible refine onBool_f (by assumption) ?_); conv => whnf)
    | ((with_reducible refine on_nt (by assumption) ?_); conv => whnf)
    | ((with_reducible refine on_nf (by assumption) ?_); conv => whnf)
    | ((with_reducible refine on_ndec_t (by first | assumption | rfl) ?_); conv => whnf)
    | ((with_reducible refine on_ndec_f (by assumption) ?_); conv => whnf)
    | ((with_reducible refine on_dec_t rfl ?_); conv => whnf)
    | ((with_reducible refine on_ndec (fun h => ?_) (fun h => ?_)) <;> conv => whnf)
    | ((with_reducible refine on_dec_f ?_ ?_); (focus ((try simp only [List.length_map, List.length_cons, List.length_nil, List.length_append]); omega)); conv => whnf)
    | ((with_reducible refine on_dec_t ?_ ?_); (focus ((try simp only [List.length_map, List.length_cons, List.length_nil, List.length_append]); omega)); conv => whnf)
    | ((with_reducible refine on_dec (fun h => ?_) (fun h => ?_)) <;> (try simp only [List.length_map] at h) <;> conv => whnf)
    | ((with_reducible refine on_ndec (fun h => ?_) (fun h => ?_)) <;> (try simp only [List.length_map] at h) <;> conv => whnf)
    | ((with_reducible refine on_not (fun h => ?_) (fun h => ?_)) <;> conv => whnf)
    | ((with_reducible refine onBool_split (fun h => ?_) (fun h => ?_)) <;> conv => whnf)
    | ((with_reducible refine call_go ?_); (first | refine call_step (Mv.at (c88 x hv a.lim) rfl (fun _ => rfl) rfl rfl rfl (Nat.ne_of_beq_eq_false rfl) (vlc (view_agg (vlc rfl (vlc rfl (vlc rfl vln)))) vln) (fun j hj => absurd hj (List.not_mem_nil))) ?_ | refine call_step (run_view (c51 _) rfl rfl) ?_ | refine call_step (run_view (c50 [_, _] (by simp)) rfl rfl) ?_ | refine call_step (run_view (c50 [_, _, _, _, _] (by simp)) rfl rfl) ?_ | refine call_step (run_view (c50 [_, _, _, _, _, _] (by simp)) rfl rfl) ?_ | refine call_step (run_view (c53 _) rfl rfl) ?_ | refine call_step (Mv.at (c89 x hv a.who a.bytes hb) rfl (fun _ => rfl) rfl rfl rfl (Nat.ne_of_beq_eq_false rfl) (vlc rfl (vlc rfl vln)) (fun j hj => absurd hj (List.not_mem_nil))) ?_ | refine call_step (Mv.at (c90 x hv a.who a.bytes hb) rfl (fun _ => rfl) rfl rfl rfl (Nat.ne_of_beq_eq_false rfl) (vlc rfl (vlc rfl vln)) (fun j hj => absurd hj (List.not_mem_nil))) ?_ | refine call_step (Mv.at (c91 x hv a.who a.to a.bytes ht hb) rfl (fun _ => rfl) rfl rfl rfl (Nat.ne_of_beq_eq_false rfl) (vlc rfl (vlc rfl (vlc rfl vln))) (fun j hj => absurd hj (List.not_mem_nil))) ?_); conv => whnf)
    | (refine ⟨⟨(by first | rfl | (simp; done)), cap_ok (by simp only [List.length_map, List.length_cons, List.length_nil, List.length_append]; omega) rfl⟩, ?_⟩; conv => whnf)
    | (refine ⟨mem_one ⟨rfl, rfl⟩, ?_⟩; conv => whnf)
    | (refine ⟨(by intro y hy; obtain ⟨x, _, rfl⟩ := List.mem_map.1 hy; first | rfl | exact ⟨rfl, rfl⟩), ?_⟩; conv => whnf)
    | (refine ⟨cap_ok (by first | omega | (simp only [List.length_map]; omega)) rfl, ?_⟩; conv => whnf)
    | (refine ix_map (by omega) ?_; conv => whnf)
    | (refine ix_str (by omega) ?_; conv => whnf)
    | (refine wrap64 (by omega) ?_; conv => whnf)
    | (refine wrap64 (by omega) ?_; conv => whnf)
    | (exfalso; simp only [List.length_map, List.length_cons, List.length_nil, List.length_append] at h; omega)
    | ((with_reducible refine endx_go ?_); first | (refine cut_ (doA x a = (x, firstE [whoE a.who, numE a.bytes])) ?_ (fun hE => ?_); (focus (unfold doA; rw [hP, if_neg (by omega), if_neg h0])); rw [hE]; refine endX_of (.inl ⟨[.old 0, .dead, .old 1], rfl, rfl, ⟨rfl, trivial⟩, ⟨⟨rfl, rfl, .inr ⟨⟨⟨rfl, rfl, rfl, rfl, rfl⟩, rfl, trivial⟩, trivial⟩⟩, rfl, ⟨rfl, rfl, .inl ⟨_, rfl, rfl⟩⟩, trivial⟩⟩); done))
    | (refine ⟨rfl, ?_⟩; conv => whnf)
    | fail
    )

theorem c69_2 (x : Quo) (hv : VQ x) (a : Act) (hk : a.kind = 2) (h0 : actE a = 0) : Mv 69 [a.enc] x (doA x a).1 (.d (i (doA x a).2)) := by
  have hP : actE a = firstE [firstE [whoE a.who, whoE a.to], numE a.bytes] := (by unfold actE; simp [hk]); obtain ⟨hw, ht, hb⟩ := actE_0 h0; have h0q := hP.symm.trans h0; have ht := ht hk
  refine run_walkV eok Try.func69 rfl (by kernel_rfl) [0, 1] (by rfl) [] ?_
  conv => whnf
  repeat' (first
    | ((with_reducible refine on_dec_t (by assumption) ?_); conv => whnf)
    | ((with_reducible refine on_dec_f (by assumption) ?_); conv => whnf)
    | ((with_reducible refine onBool_t (by assumption) ?_); conv => whnf)
    | ((with_reducible refine onBool_f (by assumption) ?_); conv => whnf)
    | ((with_reducible refine on_nt (by assumption) ?_); conv => whnf)
    | ((with_reducible refine on_nf (by assumption) ?_); conv => whnf)
    | ((with_reducible refine on_ndec_t (by first | assumption | rfl) ?_); conv => whnf)
    | ((with_reducible refine on_ndec_f (by assumption) ?_); conv => whnf)
    | ((with_reducible refine on_dec_t rfl ?_); conv => whnf)
    | ((with_reducible refine on_ndec (fun h => ?_) (fun h => ?_)) <;> conv => whnf)
    | ((with_reducible refine on_dec_f ?_ ?_); (focus ((try simp only [List.length_map, List.length_cons, List.length_nil, List.length_append]); omega)); conv => whnf)
    | ((with_reducible refine on_dec_t ?_ ?_); (focus ((try simp only [List.length_map, List.length_cons, List.length_nil, List.length_append]); omega)); conv => whnf)
    | ((with_reducible refine on_dec (fun h => ?_) (fun h => ?_)) <;> (try simp only [List.length_map] at h) <;> conv => whnf)
    | ((with_reducible refine on_ndec (fun h => ?_) (fun h => ?_)) <;> (try simp only [List.length_map] at h) <;> conv => whnf)
    | ((with_reducible refine on_not (fun h => ?_) (fun h => ?_)) <;> conv => whnf)
    | ((with_reducible refine onBool_split (fun h => ?_) (fun h => ?_)) <;> conv => whnf)
    | ((with_reducible refine call_go ?_); (first | refine call_step (Mv.at (c88 x hv a.lim) rfl (fun _ => rfl) rfl rfl rfl (Nat.ne_of_beq_eq_false rfl) (vlc (view_agg (vlc rfl (vlc rfl (vlc rfl vln)))) vln) (fun j hj => absurd hj (List.not_mem_nil))) ?_ | refine call_step (run_view (c51 _) rfl rfl) ?_ | refine call_step (run_view (c50 [_, _] (by simp)) rfl rfl) ?_ | refine call_step (run_view (c50 [_, _, _, _, _] (by simp)) rfl rfl) ?_ | refine call_step (run_view (c50 [_, _, _, _, _, _] (by simp)) rfl rfl) ?_ | refine call_step (run_view (c53 _) rfl rfl) ?_ | refine call_step (Mv.at (c89 x hv a.who a.bytes hb) rfl (fun _ => rfl) rfl rfl rfl (Nat.ne_of_beq_eq_false rfl) (vlc rfl (vlc rfl vln)) (fun j hj => absurd hj (List.not_mem_nil))) ?_ | refine call_step (Mv.at (c90 x hv a.who a.bytes hb) rfl (fun _ => rfl) rfl rfl rfl (Nat.ne_of_beq_eq_false rfl) (vlc rfl (vlc rfl vln)) (fun j hj => absurd hj (List.not_mem_nil))) ?_ | refine call_step (Mv.at (c91 x hv a.who a.to a.bytes ht hb) rfl (fun _ => rfl) rfl rfl rfl (Nat.ne_of_beq_eq_false rfl) (vlc rfl (vlc rfl (vlc rfl vln))) (fun j hj => absurd hj (List.not_mem_nil))) ?_); conv => whnf)
    | (refine ⟨⟨(by first | rfl | (simp; done)), cap_ok (by simp only [List.length_map, List.length_cons, List.length_nil, List.length_append]; omega) rfl⟩, ?_⟩; conv => whnf)
    | (refine ⟨mem_one ⟨rfl, rfl⟩, ?_⟩; conv => whnf)
    | (refine ⟨(by intro y hy; obtain ⟨x, _, rfl⟩ := List.mem_map.1 hy; first | rfl | exact ⟨rfl, rfl⟩), ?_⟩; conv => whnf)
    | (refine ⟨cap_ok (by first | omega | (simp only [List.length_map]; omega)) rfl, ?_⟩; conv => whnf)
    | (refine ix_map (by omega) ?_; conv => whnf)
    | (refine ix_str (by omega) ?_; conv => whnf)
    | (refine wrap64 (by omega) ?_; conv => whnf)
    | (refine wrap64 (by omega) ?_; conv => whnf)
    | (exfalso; simp only [List.length_map, List.length_cons, List.length_nil, List.length_append] at h; omega)
    | ((with_reducible refine endx_go ?_); first | (refine cut_ (doA x a = mov x a.who a.to a.bytes) ?_ (fun hE => ?_); (focus (unfold doA; simp [hk, h0]; done)); rw [hE]; refine endX_of (.inl ⟨[.old 0, .dead, .old 5], rfl, rfl, ⟨rfl, trivial⟩, ⟨⟨rfl, rfl, .inr ⟨⟨⟨rfl, rfl, rfl, rfl, rfl⟩, rfl, trivial⟩, trivial⟩⟩, rfl, ⟨rfl, rfl, .inl ⟨_, rfl, rfl⟩⟩, trivial⟩⟩); done))
    | (refine ⟨rfl, ?_⟩; conv => whnf)
    | fail
    )

theorem c69_2e (x : Quo) (hv : VQ x) (a : Act) (hk : a.kind = 2) (h0 : ¬ actE a = 0) : Mv 69 [a.enc] x (doA x a).1 (.d (i (doA x a).2)) := by
  have hP : actE a = firstE [firstE [whoE a.who, whoE a.to], numE a.bytes] := (by unfold actE; simp [hk]); rw [hP] at h0
  refine run_walkV eok Try.func69 rfl (by kernel_rfl) [0, 1] (by rfl) [] ?_
  conv => whnf
  repeat' (first
    | ((with_reducible refine on_dec_t (by assumption) ?_); conv => whnf)
    | ((with_reducible refine on_dec_f (by assumption) ?_); conv => whnf)
    | ((with_reducible refine onBool_t (by assumption) ?_); conv => whnf)
    | ((with_reducible refine onBool_f (by assumption) ?_); conv => whnf)
    | ((with_reducible refine on_nt (by assumption) ?_); conv => whnf)
    | ((with_reducible refine on_nf (by assumption) ?_); conv => whnf)
    | ((with_reducible refine on_ndec_t (by first | assumption | rfl) ?_); conv => whnf)
    | ((with_reducible refine on_ndec_f (by assumption) ?_); conv => whnf)
    | ((with_reducible refine on_dec_t rfl ?_); conv => whnf)
    | ((with_reducible refine on_ndec (fun h => ?_) (fun h => ?_)) <;> conv => whnf)
    | ((with_reducible refine on_dec_f ?_ ?_); (focus ((try simp only [List.length_map, List.length_cons, List.length_nil, List.length_append]); omega)); conv => whnf)
    | ((with_reducible refine on_dec_t ?_ ?_); (focus ((try simp only [List.length_map, List.length_cons, List.length_nil, List.length_append]); omega)); conv => whnf)
    | ((with_reducible refine on_dec (fun h => ?_) (fun h => ?_)) <;> (try simp only [List.length_map] at h) <;> conv => whnf)
    | ((with_reducible refine on_ndec (fun h => ?_) (fun h => ?_)) <;> (try simp only [List.length_map] at h) <;> conv => whnf)
    | ((with_reducible refine on_not (fun h => ?_) (fun h => ?_)) <;> conv => whnf)
    | ((with_reducible refine onBool_split (fun h => ?_) (fun h => ?_)) <;> conv => whnf)
    | ((with_reducible refine call_go ?_); (first | refine call_step (Mv.at (c88 x hv a.lim) rfl (fun _ => rfl) rfl rfl rfl (Nat.ne_of_beq_eq_false rfl) (vlc (view_agg (vlc rfl (vlc rfl (vlc rfl vln)))) vln) (fun j hj => absurd hj (List.not_mem_nil))) ?_ | refine call_step (run_view (c51 _) rfl rfl) ?_ | refine call_step (run_view (c50 [_, _] (by simp)) rfl rfl) ?_ | refine call_step (run_view (c50 [_, _, _, _, _] (by simp)) rfl rfl) ?_ | refine call_step (run_view (c50 [_, _, _, _, _, _] (by simp)) rfl rfl) ?_ | refine call_step (run_view (c53 _) rfl rfl) ?_ | refine call_step (Mv.at (c89 x hv a.who a.bytes hb) rfl (fun _ => rfl) rfl rfl rfl (Nat.ne_of_beq_eq_false rfl) (vlc rfl (vlc rfl vln)) (fun j hj => absurd hj (List.not_mem_nil))) ?_ | refine call_step (Mv.at (c90 x hv a.who a.bytes hb) rfl (fun _ => rfl) rfl rfl rfl (Nat.ne_of_beq_eq_false rfl) (vlc rfl (vlc rfl vln)) (fun j hj => absurd hj (List.not_mem_nil))) ?_ | refine call_step (Mv.at (c91 x hv a.who a.to a.bytes ht hb) rfl (fun _ => rfl) rfl rfl rfl (Nat.ne_of_beq_eq_false rfl) (vlc rfl (vlc rfl (vlc rfl vln))) (fun j hj => absurd hj (List.not_mem_nil))) ?_); conv => whnf)
    | (refine ⟨⟨(by first | rfl | (simp; done)), cap_ok (by simp only [List.length_map, List.length_cons, List.length_nil, List.length_append]; omega) rfl⟩, ?_⟩; conv => whnf)
    | (refine ⟨mem_one ⟨rfl, rfl⟩, ?_⟩; conv => whnf)
    | (refine ⟨(by intro y hy; obtain ⟨x, _, rfl⟩ := List.mem_map.1 hy; first | rfl | exact ⟨rfl, rfl⟩), ?_⟩; conv => whnf)
    | (refine ⟨cap_ok (by first | omega | (simp only [List.length_map]; omega)) rfl, ?_⟩; conv => whnf)
    | (refine ix_map (by omega) ?_; conv => whnf)
    | (refine ix_str (by omega) ?_; conv => whnf)
    | (refine wrap64 (by omega) ?_; conv => whnf)
    | (refine wrap64 (by omega) ?_; conv => whnf)
    | (exfalso; simp only [List.length_map, List.length_cons, List.length_nil, List.length_append] at h; omega)
    | ((with_reducible refine endx_go ?_); first | (refine cut_ (doA x a = (x, firstE [firstE [whoE a.who, whoE a.to], numE a.bytes])) ?_ (fun hE => ?_); (focus (unfold doA; rw [hP, if_neg (by omega), if_neg h0])); rw [hE]; refine endX_of (.inl ⟨[.old 0, .dead, .old 1], rfl, rfl, ⟨rfl, trivial⟩, ⟨⟨rfl, rfl, .inr ⟨⟨⟨rfl, rfl, rfl, rfl, rfl⟩, rfl, trivial⟩, trivial⟩⟩, rfl, ⟨rfl, rfl, .inl ⟨_, rfl, rfl⟩⟩, trivial⟩⟩); done))
    | (refine ⟨rfl, ?_⟩; conv => whnf)
    | fail
    )

theorem c69 (x : Quo) (hv : VQ x) (a : Act) (hk : kindOk a) : Mv 69 [a.enc] x (doA x a).1 (.d (i (doA x a).2)) := by
  by_cases h0 : actE a = 0
  · rcases hk with hk | hk | hk | hk
    · exact c69_0 x hv a hk h0
    · exact c69_1 x hv a hk h0
    · exact c69_2 x hv a hk h0
    · exact c69_3 x hv a hk
  · rcases hk with hk | hk | hk | hk
    · exact c69_0e x hv a hk h0
    · exact c69_1e x hv a hk h0
    · exact c69_2e x hv a hk h0
    · exact c69_3 x hv a hk

end Go.Proofs.Ytolfkcmdfgakkaa

/-! Wf -/
namespace Go.Proofs.Ytolfkcmdfgakkaa
open Go Dw
set_option maxRecDepth 10000
set_option linter.unusedVariables false
set_option linter.unusedSimpArgs false
attribute [local irreducible] Run
set_option maxHeartbeats 4000000

attribute [local irreducible] oE checkQ cnt isR ownR withR bsR fullQ put1 chg rls mov limErr limF actE doA resQ aftQ whoE limE numE goMin
theorem run_dataV {f : Nat} {xs : List D} {r : D} {args : List AV} {H : Heap} (hf : Run Try.prog f (xs.map .d) [] (.d r) []) (hv : vl (view 8 H) args = some xs) (hre : args.flatMap (reach 8 H) = []) : Run Try.prog f args H (.d r) H := by
  have := run_viewF hf hv
  rw [hre] at this
  exact this
theorem cl86r (l : List Own) (hl : l.length < 1000000) (H : Heap) : Run Try.prog 86 [.d (.fs (l.map Own.enc))] H (.sl H.length 0 (l.map Own.enc).length 5 none) (H ++ [rO l]) :=
  run_clone cl86 rfl (by rw [List.length_map]; exact hl) (own_ok l).1 (own_ok l).2

theorem c64o (x : Quo) (hx : x.os.length < 1000) (hq : (checkQ x).2 = 0) : Run Try.prog 64 [.d x.enc] [] (.tup [.ptr 0 0 0, .d (i 0)]) [qO x.enf x.os.length 1, rO x.os] := by
  refine run_walkV eok Try.func64 rfl (by kernel_rfl) [] (by rfl) [] ?_
  conv => whnf
  repeat' (first
    | ((with_reducible refine on_dec_t (by assumption) ?_); conv => whnf)
    | ((with_reducible refine on_dec_f (by assumption) ?_); conv => whnf)
    | ((with_reducible refine onBool_t (by assumption) ?_); conv => whnf)
    | ((with_reducible refine onBool_f (by assumption) ?_); conv => whnf)
    | ((with_reducible refine on_nt (by assumption) ?_); conv => whnf)
    | ((with_reducible refine on_nf (by assumption) ?_); conv => whnf)
    | ((with_reducible refine on_ndec_t (by first | assumption | rfl) ?_); conv => whnf)
    | ((with_reducible refine on_ndec_f (by assumption) ?_); conv => whnf)
    | ((with_reducible refine on_dec_t rfl ?_); conv => whnf)
    | ((with_reducible refine on_ndec (fun h => ?_) (fun h => ?_)) <;> conv => whnf)
    | ((with_reducible refine on_dec_f ?_ ?_); (focus ((try simp only [List.length_map, List.length_cons, List.length_nil, List.length_append]); omega)); conv => whnf)
    | ((with_reducible refine on_dec_t ?_ ?_); (focus ((try simp only [List.length_map, List.length_cons, List.length_nil, List.length_append]); omega)); conv => whnf)
    | ((with_reducible refine on_dec (fun h => ?_) (fun h => ?_)) <;> (try simp only [List.length_map] at h) <;> conv => whnf)
    | ((with_reducible refine on_ndec (fun h => ?_) (fun h => ?_)) <;> (try simp only [List.length_map] at h) <;> conv => whnf)
    | ((with_reducible refine on_not (fun h => ?_) (fun h => ?_)) <;> conv => whnf)
    | ((with_reducible refine onBool_split (fun h => ?_) (fun h => ?_)) <;> conv => whnf)
    | ((with_reducible refine call_go ?_); (first | refine call_step (run_data (c14 x hx) _) ?_ | refine call_step (cl86r x.os (by omega) _) ?_); conv => whnf)
    | (refine ⟨⟨(by first | rfl | (simp; done)), cap_ok (by simp only [List.length_map, List.length_cons, List.length_nil, List.length_append]; omega) rfl⟩, ?_⟩; conv => whnf)
    | (refine ⟨mem_one ⟨rfl, rfl⟩, ?_⟩; conv => whnf)
    | (refine ⟨(by intro y hy; obtain ⟨x, _, rfl⟩ := List.mem_map.1 hy; first | rfl | exact ⟨rfl, rfl⟩), ?_⟩; conv => whnf)
    | (refine ⟨cap_ok (by first | omega | (simp only [List.length_map]; omega)) rfl, ?_⟩; conv => whnf)
    | (refine ix_map (by omega) ?_; conv => whnf)
    | (refine ix_str (by omega) ?_; conv => whnf)
    | (refine wrap64 (by omega) ?_; conv => whnf)
    | (exfalso; simp only [List.length_map, List.length_cons, List.length_nil, List.length_append] at h; omega)
    | ((with_reducible refine endx_go ?_); first | (refine endX_of (.inl ⟨[.old 2, .old 1], rfl, rfl, ⟨⟨⟨rfl, rfl, rfl⟩, rfl, trivial⟩, trivial⟩, ⟨⟨rfl, rfl, .inr ⟨⟨⟨rfl, rfl, (by rw [List.length_map]), rfl, rfl⟩, rfl, trivial⟩, trivial⟩⟩, ⟨rfl, rfl, .inl ⟨_, rfl, rfl⟩⟩, trivial⟩⟩); done))
    | (refine ⟨rfl, ?_⟩; conv => whnf)
    | fail
    )

theorem c64e (x : Quo) (hx : x.os.length < 1000) (hq : ¬ (checkQ x).2 = 0) : Run Try.prog 64 [.d x.enc] [] (.tup [.raw (.pointer none), .d (i (checkQ x).2)]) [] := by
  refine run_walkV eok Try.func64 rfl (by kernel_rfl) [] (by rfl) [] ?_
  conv => whnf
  repeat' (first
    | ((with_reducible refine on_dec_t (by assumption) ?_); conv => whnf)
    | ((with_reducible refine on_dec_f (by assumption) ?_); conv => whnf)
    | ((with_reducible refine onBool_t (by assumption) ?_); conv => whnf)
    | ((with_reducible refine onBool_f (by assumption) ?_); conv => whnf)
    | ((with_reducible refine on_nt (by assumption) ?_); conv => whnf)
    | ((with_reducible refine on_nf (by assumption) ?_); conv => whnf)
    | ((with_reducible refine on_ndec_t (by first | assumption | rfl) ?_); conv => whnf)
    | ((with_reducible refine on_ndec_f (by assumption) ?_); conv => whnf)
    | ((with_reducible refine on_dec_t rfl ?_); conv => whnf)
    | ((with_reducible refine on_ndec (fun h => ?_) (fun h => ?_)) <;> conv => whnf)
    | ((with_reducible refine on_dec_f ?_ ?_); (focus ((try simp only [List.length_map, List.length_cons, List.length_nil, List.length_append]); omega)); conv => whnf)
    | ((with_reducible refine on_dec_t ?_ ?_); (focus ((try simp only [List.length_map, List.length_cons, List.length_nil, List.length_append]); omega)); conv => whnf)
    | ((with_reducible refine on_dec (fun h => ?_) (fun h => ?_)) <;> (try simp only [List.length_map] at h) <;> conv => whnf)
    | ((with_reducible refine on_ndec (fun h => ?_) (fun h => ?_)) <;> (try simp only [List.length_map] at h) <;> conv => whnf)
    | ((with_reducible refine on_not (fun h => ?_) (fun h => ?_)) <;> conv => whnf)
    | ((with_reducible refine onBool_split (fun h => ?_) (fun h => ?_)) <;> conv => whnf)
    | ((with_reducible refine call_go ?_); (first | refine call_step (run_data (c14 x hx) _) ?_ | refine call_step (cl86r x.os (by omega) _) ?_); conv => whnf)
    | (refine ⟨⟨(by first | rfl | (simp; done)), cap_ok (by simp only [List.length_map, List.length_cons, List.length_nil, List.length_append]; omega) rfl⟩, ?_⟩; conv => whnf)
    | (refine ⟨mem_one ⟨rfl, rfl⟩, ?_⟩; conv => whnf)
    | (refine ⟨(by intro y hy; obtain ⟨x, _, rfl⟩ := List.mem_map.1 hy; first | rfl | exact ⟨rfl, rfl⟩), ?_⟩; conv => whnf)
    | (refine ⟨cap_ok (by first | omega | (simp only [List.length_map]; omega)) rfl, ?_⟩; conv => whnf)
    | (refine ix_map (by omega) ?_; conv => whnf)
    | (refine ix_str (by omega) ?_; conv => whnf)
    | (refine wrap64 (by omega) ?_; conv => whnf)
    | (exfalso; simp only [List.length_map, List.length_cons, List.length_nil, List.length_append] at h; omega)
    | ((with_reducible refine endx_go ?_); first | (refine endX_of (.inl ⟨[], rfl, rfl, ⟨⟨rfl, rfl, trivial⟩, trivial⟩, trivial⟩); done))
    | (refine ⟨rfl, ?_⟩; conv => whnf)
    | fail
    )

theorem c64r (x : Quo) (hx : x.os.length < 1000) (hq : (checkQ x).2 = 0) (H : Heap) : Run Try.prog 64 [.d x.enc] H (.tup [.ptr H.length 0 0, .d (i 0)]) (H ++ [qO x.enf x.os.length (H.length + 1), rO x.os]) := by
  refine run_at (σ := []) (F := []) (fl := true) (c64o x hx hq) List.nodup_nil (fun _ _ h => by cases h) ⟨⟨rfl, fun id hid => by simp [reach] at hid⟩, trivial⟩ (by simp [embH]) (fun _ => ⟨rfl, fun o ho => ?_⟩) ?_ ?_
  · simp only [List.mem_cons, List.not_mem_nil, or_false] at ho
    rcases ho with rfl | rfl
    · exact ⟨rfl, Nat.zero_ne_one⟩
    · exact ⟨flats_map _ (own_ok x.os).2, Nat.zero_ne_one⟩
  · simp [ren, rens, tau]
  · simp only [outH, setAll, List.length_nil, List.drop_zero, List.map_cons, List.map_nil, if_true]
    have e2 : renO (tau [] H.length) (rO x.os) = rO x.os := by unfold renO rO; rw [rens_D]
    rw [e2]; rfl
theorem c64n (x : Quo) (hx : x.os.length < 1000) (hq : ¬ (checkQ x).2 = 0) (H : Heap) : Run Try.prog 64 [.d x.enc] H (.tup [.raw (.pointer none), .d (i (checkQ x).2)]) H := by
  refine run_at (σ := []) (F := []) (fl := true) (c64e x hx hq) List.nodup_nil (fun _ _ h => by cases h) ⟨⟨rfl, fun id hid => by simp [reach] at hid⟩, trivial⟩ (by simp [embH]) (fun _ => ⟨rfl, fun o ho => by cases ho⟩) rfl (by simp [outH, setAll])
theorem aft_e {x : Quo} {a : Act} (hq : ¬ (checkQ x).2 = 0) : aftQ x a = (emp, (checkQ x).2) := by unfold aftQ; rw [if_neg hq]
theorem aft_0 {x : Quo} {a : Act} (hq : (checkQ x).2 = 0) (h : (doA x a).2 = 0 ∨ (doA x a).2 = 33) : aftQ x a = doA x a := by unfold aftQ resQ; rw [if_pos hq, if_pos h]
theorem aft_n {x : Quo} {a : Act} (hq : (checkQ x).2 = 0) (h : ¬ (doA x a).2 = 0) (h2 : ¬ (doA x a).2 = 33) : aftQ x a = (emp, (doA x a).2) := by unfold aftQ resQ; rw [if_pos hq, if_neg (by omega)]

theorem c56e (x : Quo) (hx : x.os.length < 1000) (a : Act) (hk : kindOk a) (hq : ¬ (checkQ x).2 = 0) : Fn 56 [x.enc, a.enc] (.tup [(aftQ x a).1.enc, i (aftQ x a).2]) := by
  refine run_walkF eok Try.func56 rfl (by kernel_rfl) ?_
  conv => whnf
  repeat' (first
    | ((with_reducible refine on_dec_t (by assumption) ?_); conv => whnf)
    | ((with_reducible refine on_dec_f (by assumption) ?_); conv => whnf)
    | ((with_reducible refine onBool_t (by assumption) ?_); conv => whnf)
    | ((with_reducible refine onBool_f (by assumption) ?_); conv => whnf)
    | ((with_reducible refine on_nt (by assumption) ?_); conv => whnf)
    | ((with_reducible refine on_nf (by assumption) ?_); conv => whnf)
    | ((with_reducible refine on_ndec_t (by first | assumption | rfl) ?_); conv => whnf)
    | ((with_reducible refine on_ndec_f (by assumption) ?_); conv => whnf)
    | ((with_reducible refine on_dec_t rfl ?_); conv => whnf)
    | ((with_reducible refine on_ndec (fun h => ?_) (fun h => ?_)) <;> conv => whnf)
    | ((with_reducible refine on_dec_f ?_ ?_); (focus ((try simp only [List.length_map, List.length_cons, List.length_nil, List.length_append]); omega)); conv => whnf)
    | ((with_reducible refine on_dec_t ?_ ?_); (focus ((try simp only [List.length_map, List.length_cons, List.length_nil, List.length_append]); omega)); conv => whnf)
    | ((with_reducible refine on_dec (fun h => ?_) (fun h => ?_)) <;> (try simp only [List.length_map] at h) <;> conv => whnf)
    | ((with_reducible refine on_ndec (fun h => ?_) (fun h => ?_)) <;> (try simp only [List.length_map] at h) <;> conv => whnf)
    | ((with_reducible refine on_not (fun h => ?_) (fun h => ?_)) <;> conv => whnf)
    | ((with_reducible refine onBool_split (fun h => ?_) (fun h => ?_)) <;> conv => whnf)
    | ((with_reducible refine call_go ?_); (first | refine call_step (c64r x hx hq _) ?_ | refine call_step (c64n x hx hq _) ?_ | refine call_step (Mv.at (c69 x ((checkQ_iff x).1 hq) a hk) rfl (fun _ => rfl) rfl rfl rfl (Nat.ne_of_beq_eq_false rfl) (vlc rfl vln) (fun j hj => absurd hj (List.not_mem_nil))) ?_); conv => whnf)
    | (refine ⟨⟨(by first | rfl | (simp; done)), cap_ok (by simp only [List.length_map, List.length_cons, List.length_nil, List.length_append]; omega) rfl⟩, ?_⟩; conv => whnf)
    | (refine ⟨mem_one ⟨rfl, rfl⟩, ?_⟩; conv => whnf)
    | (refine ⟨(by intro y hy; obtain ⟨x, _, rfl⟩ := List.mem_map.1 hy; first | rfl | exact ⟨rfl, rfl⟩), ?_⟩; conv => whnf)
    | (refine ⟨cap_ok (by first | omega | (simp only [List.length_map]; omega)) rfl, ?_⟩; conv => whnf)
    | (refine ix_map (by omega) ?_; conv => whnf)
    | (refine ix_str (by omega) ?_; conv => whnf)
    | (refine wrap64 (by omega) ?_; conv => whnf)
    | (exfalso; simp only [List.length_map, List.length_cons, List.length_nil, List.length_append] at h; omega)
    | ((with_reducible refine endx_go ?_); first | (refine endxv (view_tup (vlc (view_agg (vlc rfl (vlc rfl vln))) (vlc rfl vln))) ?_; (rw [aft_e hq]) <;> rfl; done))
    | (refine ⟨rfl, ?_⟩; conv => whnf)
    | fail
    )

theorem c56a (x : Quo) (hx : x.os.length < 1000) (a : Act) (hk : kindOk a) (hq : (checkQ x).2 = 0) (h : (doA x a).2 = 0) : Fn 56 [x.enc, a.enc] (.tup [(aftQ x a).1.enc, i (aftQ x a).2]) := by
  refine run_walkF eok Try.func56 rfl (by kernel_rfl) ?_
  conv => whnf
  repeat' (first
    | ((with_reducible refine on_dec_t (by assumption) ?_); conv => whnf)
    | ((with_reducible refine on_dec_f (by assumption) ?_); conv => whnf)
    | ((with_reducible refine onBool_t (by assumption) ?_); conv => whnf)
    | ((with_reducible refine onBool_f (by assumption) ?_); conv => whnf)
    | ((with_reducible refine on_nt (by assumption) ?_); conv => whnf)
    | ((with_reducible refine on_nf (by assumption) ?_); conv => whnf)
    | ((with_reducible refine on_ndec_t (by first | assumption | rfl) ?_); conv => whnf)
    | ((with_reducible refine on_ndec_f (by assumption) ?_); conv => whnf)
    | ((with_reducible refine on_dec_t rfl ?_); conv => whnf)
    | ((with_reducible refine on_ndec (fun h => ?_) (fun h => ?_)) <;> conv => whnf)
    | ((with_reducible refine on_dec_f ?_ ?_); (focus ((try simp only [List.length_map, List.length_cons, List.length_nil, List.length_append]); omega)); conv => whnf)
    | ((with_reducible refine on_dec_t ?_ ?_); (focus ((try simp only [List.length_map, List.length_cons, List.length_nil, List.length_append]); omega)); conv => whnf)
    | ((with_reducible refine on_dec (fun h => ?_) (fun h => ?_)) <;> (try simp only [List.length_map] at h) <;> conv => whnf)
    | ((with_reducible refine on_ndec (fun h => ?_) (fun h => ?_)) <;> (try simp only [List.length_map] at h) <;> conv => whnf)
    | ((with_reducible refine on_not (fun h => ?_) (fun h => ?_)) <;> conv => whnf)
    | ((with_reducible refine onBool_split (fun h => ?_) (fun h => ?_)) <;> conv => whnf)
    | ((with_reducible refine call_go ?_); (first | refine call_step (c64r x hx hq _) ?_ | refine call_step (c64n x hx hq _) ?_ | refine call_step (Mv.at (c69 x ((checkQ_iff x).1 hq) a hk) rfl (fun _ => rfl) rfl rfl rfl (Nat.ne_of_beq_eq_false rfl) (vlc rfl vln) (fun j hj => absurd hj (List.not_mem_nil))) ?_); conv => whnf)
    | (refine ⟨⟨(by first | rfl | (simp; done)), cap_ok (by simp only [List.length_map, List.length_cons, List.length_nil, List.length_append]; omega) rfl⟩, ?_⟩; conv => whnf)
    | (refine ⟨mem_one ⟨rfl, rfl⟩, ?_⟩; conv => whnf)
    | (refine ⟨(by intro y hy; obtain ⟨x, _, rfl⟩ := List.mem_map.1 hy; first | rfl | exact ⟨rfl, rfl⟩), ?_⟩; conv => whnf)
    | (refine ⟨cap_ok (by first | omega | (simp only [List.length_map]; omega)) rfl, ?_⟩; conv => whnf)
    | (refine ix_map (by omega) ?_; conv => whnf)
    | (refine ix_str (by omega) ?_; conv => whnf)
    | (refine wrap64 (by omega) ?_; conv => whnf)
    | (exfalso; simp only [List.length_map, List.length_cons, List.length_nil, List.length_append] at h; omega)
    | ((with_reducible refine endx_go ?_); first | (refine endxv (view_tup (vlc (view_agg (vlc (view_map rfl Nat.two_pos) (vlc rfl vln))) (vlc rfl vln))) ?_; (rw [aft_0 hq (.inl h)]) <;> rfl; done))
    | (refine ⟨rfl, ?_⟩; conv => whnf)
    | fail
    )

theorem c56b (x : Quo) (hx : x.os.length < 1000) (a : Act) (hk : kindOk a) (hq : (checkQ x).2 = 0) (h : ¬ (doA x a).2 = 0) (h2 : (doA x a).2 = 33) : Fn 56 [x.enc, a.enc] (.tup [(aftQ x a).1.enc, i (aftQ x a).2]) := by
  refine run_walkF eok Try.func56 rfl (by kernel_rfl) ?_
  conv => whnf
  repeat' (first
    | ((with_reducible refine on_dec_t (by assumption) ?_); conv => whnf)
    | ((with_reducible refine on_dec_f (by assumption) ?_); conv => whnf)
    | ((with_reducible refine onBool_t (by assumption) ?_); conv => whnf)
    | ((with_reducible refine onBool_f (by assumption) ?_); conv => whnf)
    | ((with_reducible refine on_nt (by assumption) ?_); conv => whnf)
    | ((with_reducible refine on_nf (by assumption) ?_); conv => whnf)
    | ((with_reducible refine on_ndec_t (by first | assumption | rfl) ?_); conv => whnf)
    | ((with_reducible refine on_ndec_f (by assumption) ?_); conv => whnf)
    | ((with_reducible refine on_dec_t rfl ?_); conv => whnf)
    | ((with_reducible refine on_ndec (fun h => ?_) (fun h => ?_)) <;> conv => whnf)
    | ((with_reducible refine on_dec_f ?_ ?_); (focus ((try simp only [List.length_map, List.length_cons, List.length_nil, List.length_append]); omega)); conv => whnf)
    | ((with_reducible refine on_dec_t ?_ ?_); (focus ((try simp only [List.length_map, List.length_cons, List.length_nil, List.length_append]); omega)); conv => whnf)
    | ((with_reducible refine on_dec (fun h => ?_) (fun h => ?_)) <;> (try simp only [List.length_map] at h) <;> conv => whnf)
    | ((with_reducible refine on_ndec (fun h => ?_) (fun h => ?_)) <;> (try simp only [List.length_map] at h) <;> conv => whnf)
    | ((with_reducible refine on_not (fun h => ?_) (fun h => ?_)) <;> conv => whnf)
    | ((with_reducible refine onBool_split (fun h => ?_) (fun h => ?_)) <;> conv => whnf)
    | ((with_reducible refine call_go ?_); (first | refine call_step (c64r x hx hq _) ?_ | refine call_step (c64n x hx hq _) ?_ | refine call_step (Mv.at (c69 x ((checkQ_iff x).1 hq) a hk) rfl (fun _ => rfl) rfl rfl rfl (Nat.ne_of_beq_eq_false rfl) (vlc rfl vln) (fun j hj => absurd hj (List.not_mem_nil))) ?_); conv => whnf)
    | (refine ⟨⟨(by first | rfl | (simp; done)), cap_ok (by simp only [List.length_map, List.length_cons, List.length_nil, List.length_append]; omega) rfl⟩, ?_⟩; conv => whnf)
    | (refine ⟨mem_one ⟨rfl, rfl⟩, ?_⟩; conv => whnf)
    | (refine ⟨(by intro y hy; obtain ⟨x, _, rfl⟩ := List.mem_map.1 hy; first | rfl | exact ⟨rfl, rfl⟩), ?_⟩; conv => whnf)
    | (refine ⟨cap_ok (by first | omega | (simp only [List.length_map]; omega)) rfl, ?_⟩; conv => whnf)
    | (refine ix_map (by omega) ?_; conv => whnf)
    | (refine ix_str (by omega) ?_; conv => whnf)
    | (refine wrap64 (by omega) ?_; conv => whnf)
    | (exfalso; simp only [List.length_map, List.length_cons, List.length_nil, List.length_append] at h; omega)
    | ((with_reducible refine endx_go ?_); first | (refine endxv (view_tup (vlc (view_agg (vlc (view_map rfl Nat.two_pos) (vlc rfl vln))) (vlc rfl vln))) ?_; (rw [aft_0 hq (.inr h2)]) <;> rfl; done))
    | (refine ⟨rfl, ?_⟩; conv => whnf)
    | fail
    )

theorem c56c (x : Quo) (hx : x.os.length < 1000) (a : Act) (hk : kindOk a) (hq : (checkQ x).2 = 0) (h : ¬ (doA x a).2 = 0) (h2 : ¬ (doA x a).2 = 33) : Fn 56 [x.enc, a.enc] (.tup [(aftQ x a).1.enc, i (aftQ x a).2]) := by
  refine run_walkF eok Try.func56 rfl (by kernel_rfl) ?_
  conv => whnf
  repeat' (first
    | ((with_reducible refine on_dec_t (by assumption) ?_); conv => whnf)
    | ((with_reducible refine on_dec_f (by assumption) ?_); conv => whnf)
    | ((with_reducible refine onBool_t (by assumption) ?_); conv => whnf)
    | ((with_reducible refine onBool_f (by assumption) ?_); conv => whnf)
    | ((with_reducible refine on_nt (by assumption) ?_); conv => whnf)
    | ((with_reducible refine on_nf (by assumption) ?_); conv => whnf)
    | ((with_reducible refine on_ndec_t (by first | assumption | rfl) ?_); conv => whnf)
    | ((with_reducible refine on_ndec_f (by assumption) ?_); conv => whnf)
    | ((with_reducible refine on_dec_t rfl ?_); conv => whnf)
    | ((with_reducible refine on_ndec (fun h => ?_) (fun h => ?_)) <;> conv => whnf)
    | ((with_reducible refine on_dec_f ?_ ?_); (focus ((try simp only [List.length_map, List.length_cons, List.length_nil, List.length_append]); omega)); conv => whnf)
    | ((with_reducible refine on_dec_t ?_ ?_); (focus ((try simp only [List.length_map, List.length_cons, List.length_nil, List.length_append]); omega)); conv => whnf)
    | ((with_reducible refine on_dec (fun h => ?_) (fun h => ?_)) <;> (try simp only [List.length_map] at h) <;> conv => whnf)
    | ((with_reducible refine on_ndec (fun h => ?_) (fun h => ?_)) <;> (try simp only [List.length_map] at h) <;> conv => whnf)
    | ((with_reducible refine on_not (fun h => ?_) (fun h => ?_)) <;> conv => whnf)
    | ((with_reducible refine onBool_split (fun h => ?_) (fun h => ?_)) <;> conv => whnf)
    | ((with_reducible refine call_go ?_); (first | refine call_step (c64r x hx hq _) ?_ | refine call_step (c64n x hx hq _) ?_ | refine call_step (Mv.at (c69 x ((checkQ_iff x).1 hq) a hk) rfl (fun _ => rfl) rfl rfl rfl (Nat.ne_of_beq_eq_false rfl) (vlc rfl vln) (fun j hj => absurd hj (List.not_mem_nil))) ?_); conv => whnf)
    | (refine ⟨⟨(by first | rfl | (simp; done)), cap_ok (by simp only [List.length_map, List.length_cons, List.length_nil, List.length_append]; omega) rfl⟩, ?_⟩; conv => whnf)
    | (refine ⟨mem_one ⟨rfl, rfl⟩, ?_⟩; conv => whnf)
    | (refine ⟨(by intro y hy; obtain ⟨x, _, rfl⟩ := List.mem_map.1 hy; first | rfl | exact ⟨rfl, rfl⟩), ?_⟩; conv => whnf)
    | (refine ⟨cap_ok (by first | omega | (simp only [List.length_map]; omega)) rfl, ?_⟩; conv => whnf)
    | (refine ix_map (by omega) ?_; conv => whnf)
    | (refine ix_str (by omega) ?_; conv => whnf)
    | (refine wrap64 (by omega) ?_; conv => whnf)
    | (exfalso; simp only [List.length_map, List.length_cons, List.length_nil, List.length_append] at h; omega)
    | ((with_reducible refine endx_go ?_); first | (refine endxv (view_tup (vlc (view_agg (vlc rfl (vlc rfl vln))) (vlc rfl vln))) ?_; (rw [aft_n hq h h2]) <;> rfl; done))
    | (refine ⟨rfl, ?_⟩; conv => whnf)
    | fail
    )

theorem c56 (x : Quo) (hx : x.os.length < 1000) (a : Act) (hk : kindOk a) : Fn 56 [x.enc, a.enc] (.tup [(aftQ x a).1.enc, i (aftQ x a).2]) := by
  by_cases hq : (checkQ x).2 = 0
  · by_cases h : (doA x a).2 = 0
    · exact c56a x hx a hk hq h
    · by_cases h2 : (doA x a).2 = 33
      · exact c56b x hx a hk hq h h2
      · exact c56c x hx a hk hq h h2
  · exact c56e x hx a hk hq
def lim0 : Lim := ⟨0, 0, 0⟩
def actC (w b : Int) : Act := ⟨0, w, 0, b, lim0⟩
def actM (f t b : Int) : Act := ⟨2, f, t, b, lim0⟩
theorem c16 (x : Quo) (hx : x.os.length < 1000) (w b : Int) : Fn 16 [x.enc, i w, i b] (.tup [(aftQ x (actC w b)).1.enc, i (aftQ x (actC w b)).2]) := by
  refine run_walkF eok Try.func16 rfl (by kernel_rfl) ?_
  conv => whnf
  repeat' (first
    | ((with_reducible refine on_dec_f ?_ ?_); (focus ((try simp only [List.length_map, List.length_cons, List.length_nil, List.length_append]); omega)); conv => whnf)
    | ((with_reducible refine on_dec_t ?_ ?_); (focus ((try simp only [List.length_map, List.length_cons, List.length_nil, List.length_append]); omega)); conv => whnf)
    | ((with_reducible refine on_dec (fun h => ?_) (fun h => ?_)) <;> (try simp only [List.length_map] at h) <;> conv => whnf)
    | ((with_reducible refine on_ndec (fun h => ?_) (fun h => ?_)) <;> (try simp only [List.length_map] at h) <;> conv => whnf)
    | ((with_reducible refine on_not (fun h => ?_) (fun h => ?_)) <;> conv => whnf)
    | ((with_reducible refine onBool_split (fun h => ?_) (fun h => ?_)) <;> conv => whnf)
    | ((with_reducible refine call_go ?_); (first | refine call_step (run_dataV (c56 x hx (actC w b) (by unfold kindOk; first | exact .inl rfl | exact .inr (.inl rfl) | exact .inr (.inr (.inl rfl)) | exact .inr (.inr (.inr rfl)))) (vlc rfl (vlc (view_agg (vlc rfl (vlc rfl (vlc rfl (vlc rfl (vlc rfl (vlc rfl (vlc rfl vln)))))))) vln)) rfl) ?_); conv => whnf)
    | (refine ⟨⟨(by first | rfl | (simp; done)), cap_ok (by simp only [List.length_map, List.length_cons, List.length_nil, List.length_append]; omega) rfl⟩, ?_⟩; conv => whnf)
    | (refine ⟨mem_one ⟨rfl, rfl⟩, ?_⟩; conv => whnf)
    | (refine ⟨(by intro y hy; obtain ⟨x, _, rfl⟩ := List.mem_map.1 hy; first | rfl | exact ⟨rfl, rfl⟩), ?_⟩; conv => whnf)
    | (refine ⟨cap_ok (by first | omega | (simp only [List.length_map]; omega)) rfl, ?_⟩; conv => whnf)
    | (refine ix_map (by omega) ?_; conv => whnf)
    | (refine ix_str (by omega) ?_; conv => whnf)
    | (refine wrap64 (by omega) ?_; conv => whnf)
    | (exfalso; simp only [List.length_map, List.length_cons, List.length_nil, List.length_append] at h; omega)
    | ((with_reducible refine endx_go ?_); first | (exact endx rfl; done) | (exact endxv (view_tup (vlc rfl (vlc rfl vln))) rfl; done))
    | (refine ⟨rfl, ?_⟩; conv => whnf)
    | fail
    )

theorem c25 (x : Quo) (hx : x.os.length < 1000) (f t b : Int) : Fn 25 [x.enc, i f, i t, i b] (.tup [(aftQ x (actM f t b)).1.enc, i (aftQ x (actM f t b)).2]) := by
  refine run_walkF eok Try.func25 rfl (by kernel_rfl) ?_
  conv => whnf
  repeat' (first
    | ((with_reducible refine on_dec_f ?_ ?_); (focus ((try simp only [List.length_map, List.length_cons, List.length_nil, List.length_append]); omega)); conv => whnf)
    | ((with_reducible refine on_dec_t ?_ ?_); (focus ((try simp only [List.length_map, List.length_cons, List.length_nil, List.length_append]); omega)); conv => whnf)
    | ((with_reducible refine on_dec (fun h => ?_) (fun h => ?_)) <;> (try simp only [List.length_map] at h) <;> conv => whnf)
    | ((with_reducible refine on_ndec (fun h => ?_) (fun h => ?_)) <;> (try simp only [List.length_map] at h) <;> conv => whnf)
    | ((with_reducible refine on_not (fun h => ?_) (fun h => ?_)) <;> conv => whnf)
    | ((with_reducible refine onBool_split (fun h => ?_) (fun h => ?_)) <;> conv => whnf)
    | ((with_reducible refine call_go ?_); (first | refine call_step (run_dataV (c56 x hx (actM f t b) (by unfold kindOk; first | exact .inl rfl | exact .inr (.inl rfl) | exact .inr (.inr (.inl rfl)) | exact .inr (.inr (.inr rfl)))) (vlc rfl (vlc (view_agg (vlc rfl (vlc rfl (vlc rfl (vlc rfl (vlc rfl (vlc rfl (vlc rfl vln)))))))) vln)) rfl) ?_); conv => whnf)
    | (refine ⟨⟨(by first | rfl | (simp; done)), cap_ok (by simp only [List.length_map, List.length_cons, List.length_nil, List.length_append]; omega) rfl⟩, ?_⟩; conv => whnf)
    | (refine ⟨mem_one ⟨rfl, rfl⟩, ?_⟩; conv => whnf)
    | (refine ⟨(by intro y hy; obtain ⟨x, _, rfl⟩ := List.mem_map.1 hy; first | rfl | exact ⟨rfl, rfl⟩), ?_⟩; conv => whnf)
    | (refine ⟨cap_ok (by first | omega | (simp only [List.length_map]; omega)) rfl, ?_⟩; conv => whnf)
    | (refine ix_map (by omega) ?_; conv => whnf)
    | (refine ix_str (by omega) ?_; conv => whnf)
    | (refine wrap64 (by omega) ?_; conv => whnf)
    | (exfalso; simp only [List.length_map, List.length_cons, List.length_nil, List.length_append] at h; omega)
    | ((with_reducible refine endx_go ?_); first | (exact endx rfl; done) | (exact endxv (view_tup (vlc rfl (vlc rfl vln))) rfl; done))
    | (refine ⟨rfl, ?_⟩; conv => whnf)
    | fail
    )

end Go.Proofs.Ytolfkcmdfgakkaa

/-! Wg -/
namespace Go.Proofs.Ytolfkcmdfgakkaa
open Go Dw
set_option maxRecDepth 10000
set_option linter.unusedVariables false
set_option linter.unusedSimpArgs false
attribute [local irreducible] Run
set_option maxHeartbeats 4000000

def roomQ (x : Quo) (w : Int) : Int := if (!x.enf || decide ((ownR x.os w).lim = -1)) = true then 2147483647 - (ownR x.os w).used else goMax 0 ((ownR x.os w).lim - (ownR x.os w).used)
def roomE (x : Quo) (w : Int) : Int × Int := if firstE [(checkQ x).2, whoE w] = 0 then (roomQ x w, 0) else (0, firstE [(checkQ x).2, whoE w])
def warnB (o : Own) : Bool := !decide (o.warn = -1) && decide (o.warn < o.used)
def actErr (x : Quo) (w b : Int) : Int := firstE [(checkQ x).2, whoE w, numE b]
theorem room_e {x : Quo} {w : Int} (h : ¬ firstE [(checkQ x).2, whoE w] = 0) : roomE x w = (0, firstE [(checkQ x).2, whoE w]) := by unfold roomE; rw [if_neg h]
theorem room_0 {x : Quo} {w : Int} (h : firstE [(checkQ x).2, whoE w] = 0) : roomE x w = (roomQ x w, 0) := by unfold roomE; rw [if_pos h]
attribute [local irreducible] oE checkQ cnt isR ownR withR bsR fullQ put1 chg rls mov limErr limF actE doA resQ aftQ whoE limE numE goMin goMax warnB

theorem c29e (x : Quo) (hx : x.os.length < 1000) (w : Int) (hq : ¬ (checkQ x).2 = 0) : Fn 29 [x.enc, i w] (.tup [i (roomE x w).1, i (roomE x w).2]) := by
  have h1 : ¬ firstE [(checkQ x).2, whoE w] = 0 := (by rw [firstE_cons, if_neg hq]; exact hq)
  refine run_walkF eok Try.func29 rfl (by kernel_rfl) ?_
  conv => whnf
  repeat' (first
    | ((with_reducible refine on_dec_t (by assumption) ?_); conv => whnf)
    | ((with_reducible refine on_dec_f (by assumption) ?_); conv => whnf)
    | ((with_reducible refine onBool_t (by assumption) ?_); conv => whnf)
    | ((with_reducible refine onBool_f (by assumption) ?_); conv => whnf)
    | ((with_reducible refine on_nt (by assumption) ?_); conv => whnf)
    | ((with_reducible refine on_nf (by assumption) ?_); conv => whnf)
    | ((with_reducible refine on_ndec_t (by first | assumption | rfl) ?_); conv => whnf)
    | ((with_reducible refine on_ndec_f (by assumption) ?_); conv => whnf)
    | ((with_reducible refine on_dec_t rfl ?_); conv => whnf)
    | ((with_reducible refine on_ndec (fun h => ?_) (fun h => ?_)) <;> conv => whnf)
    | ((with_reducible refine on_dec_f ?_ ?_); (focus ((try simp only [List.length_map, List.length_cons, List.length_nil, List.length_append]); omega)); conv => whnf)
    | ((with_reducible refine on_dec_t ?_ ?_); (focus ((try simp only [List.length_map, List.length_cons, List.length_nil, List.length_append]); omega)); conv => whnf)
    | ((with_reducible refine on_dec (fun h => ?_) (fun h => ?_)) <;> (try simp only [List.length_map] at h) <;> conv => whnf)
    | ((with_reducible refine on_ndec (fun h => ?_) (fun h => ?_)) <;> (try simp only [List.length_map] at h) <;> conv => whnf)
    | ((with_reducible refine on_not (fun h => ?_) (fun h => ?_)) <;> conv => whnf)
    | ((with_reducible refine onBool_split (fun h => ?_) (fun h => ?_)) <;> conv => whnf)
    | ((with_reducible refine call_go ?_); (first | refine call_step (c64r x hx hq _) ?_ | refine call_step (c64n x hx hq _) ?_ | refine call_step (run_view (c51 _) rfl rfl) ?_ | refine call_step (run_view (c50 [_, _] (by simp)) rfl rfl) ?_ | refine call_step (run_view (c50 [_, _, _, _, _] (by simp)) rfl rfl) ?_ | refine call_step (run_view (c50 [_, _, _, _, _, _] (by simp)) rfl rfl) ?_ | refine call_step (run_view (c65 x (by omega) ((checkQ_iff x).1 hq).srt w) rfl (qview rfl rfl rfl (vlc rfl vln))) ?_); conv => whnf)
    | (refine ⟨⟨(by first | rfl | (simp; done)), cap_ok (by simp only [List.length_map, List.length_cons, List.length_nil, List.length_append]; omega) rfl⟩, ?_⟩; conv => whnf)
    | (refine ⟨mem_one ⟨rfl, rfl⟩, ?_⟩; conv => whnf)
    | (refine ⟨(by intro y hy; obtain ⟨x, _, rfl⟩ := List.mem_map.1 hy; first | rfl | exact ⟨rfl, rfl⟩), ?_⟩; conv => whnf)
    | (refine ⟨cap_ok (by first | omega | (simp only [List.length_map]; omega)) rfl, ?_⟩; conv => whnf)
    | (refine ix_map (by omega) ?_; conv => whnf)
    | (refine ix_str (by omega) ?_; conv => whnf)
    | (refine wrap64 (by omega) ?_; conv => whnf)
    | (exfalso; simp only [List.length_map, List.length_cons, List.length_nil, List.length_append] at h; omega)
    | ((with_reducible refine endx_go ?_); first | (refine endx2 ?_; (rw [room_e (by assumption)]) <;> rfl; done))
    | (refine ⟨rfl, ?_⟩; conv => whnf)
    | fail
    )

theorem c29n (x : Quo) (hx : x.os.length < 1000) (w : Int) (hq : (checkQ x).2 = 0) (hw : ¬ firstE [0, whoE w] = 0) : Fn 29 [x.enc, i w] (.tup [i (roomE x w).1, i (roomE x w).2]) := by
  refine run_walkF eok Try.func29 rfl (by kernel_rfl) ?_
  conv => whnf
  repeat' (first
    | ((with_reducible refine on_dec_t (by assumption) ?_); conv => whnf)
    | ((with_reducible refine on_dec_f (by assumption) ?_); conv => whnf)
    | ((with_reducible refine onBool_t (by assumption) ?_); conv => whnf)
    | ((with_reducible refine onBool_f (by assumption) ?_); conv => whnf)
    | ((with_reducible refine on_nt (by assumption) ?_); conv => whnf)
    | ((with_reducible refine on_nf (by assumption) ?_); conv => whnf)
    | ((with_reducible refine on_ndec_t (by first | assumption | rfl) ?_); conv => whnf)
    | ((with_reducible refine on_ndec_f (by assumption) ?_); conv => whnf)
    | ((with_reducible refine on_dec_t rfl ?_); conv => whnf)
    | ((with_reducible refine on_ndec (fun h => ?_) (fun h => ?_)) <;> conv => whnf)
    | ((with_reducible refine on_dec_f ?_ ?_); (focus ((try simp only [List.length_map, List.length_cons, List.length_nil, List.length_append]); omega)); conv => whnf)
    | ((with_reducible refine on_dec_t ?_ ?_); (focus ((try simp only [List.length_map, List.length_cons, List.length_nil, List.length_append]); omega)); conv => whnf)
    | ((with_reducible refine on_dec (fun h => ?_) (fun h => ?_)) <;> (try simp only [List.length_map] at h) <;> conv => whnf)
    | ((with_reducible refine on_ndec (fun h => ?_) (fun h => ?_)) <;> (try simp only [List.length_map] at h) <;> conv => whnf)
    | ((with_reducible refine on_not (fun h => ?_) (fun h => ?_)) <;> conv => whnf)
    | ((with_reducible refine onBool_split (fun h => ?_) (fun h => ?_)) <;> conv => whnf)
    | ((with_reducible refine call_go ?_); (first | refine call_step (c64r x hx hq _) ?_ | refine call_step (c64n x hx hq _) ?_ | refine call_step (run_view (c51 _) rfl rfl) ?_ | refine call_step (run_view (c50 [_, _] (by simp)) rfl rfl) ?_ | refine call_step (run_view (c50 [_, _, _, _, _] (by simp)) rfl rfl) ?_ | refine call_step (run_view (c50 [_, _, _, _, _, _] (by simp)) rfl rfl) ?_ | refine call_step (run_view (c65 x (by omega) ((checkQ_iff x).1 hq).srt w) rfl (qview rfl rfl rfl (vlc rfl vln))) ?_); conv => whnf)
    | (refine ⟨⟨(by first | rfl | (simp; done)), cap_ok (by simp only [List.length_map, List.length_cons, List.length_nil, List.length_append]; omega) rfl⟩, ?_⟩; conv => whnf)
    | (refine ⟨mem_one ⟨rfl, rfl⟩, ?_⟩; conv => whnf)
    | (refine ⟨(by intro y hy; obtain ⟨x, _, rfl⟩ := List.mem_map.1 hy; first | rfl | exact ⟨rfl, rfl⟩), ?_⟩; conv => whnf)
    | (refine ⟨cap_ok (by first | omega | (simp only [List.length_map]; omega)) rfl, ?_⟩; conv => whnf)
    | (refine ix_map (by omega) ?_; conv => whnf)
    | (refine ix_str (by omega) ?_; conv => whnf)
    | (refine wrap64 (by omega) ?_; conv => whnf)
    | (exfalso; simp only [List.length_map, List.length_cons, List.length_nil, List.length_append] at h; omega)
    | ((with_reducible refine endx_go ?_); first | (refine endx2 ?_; (rw [room_e (by rw [hq]; exact hw), hq]) <;> rfl; done))
    | (refine ⟨rfl, ?_⟩; conv => whnf)
    | fail
    )

theorem c29o (x : Quo) (hx : x.os.length < 1000) (w : Int) (hq : (checkQ x).2 = 0) (hw : firstE [0, whoE w] = 0) : Fn 29 [x.enc, i w] (.tup [i (roomE x w).1, i (roomE x w).2]) := by
  obtain ⟨hn1, hn2, hn3⟩ := ((checkQ_iff x).1 hq).nums w
  refine run_walkF eok Try.func29 rfl (by kernel_rfl) ?_
  conv => whnf
  repeat' (first
    | ((with_reducible refine on_dec_t (by assumption) ?_); conv => whnf)
    | ((with_reducible refine on_dec_f (by assumption) ?_); conv => whnf)
    | ((with_reducible refine onBool_t (by assumption) ?_); conv => whnf)
    | ((with_reducible refine onBool_f (by assumption) ?_); conv => whnf)
    | ((with_reducible refine on_nt (by assumption) ?_); conv => whnf)
    | ((with_reducible refine on_nf (by assumption) ?_); conv => whnf)
    | ((with_reducible refine on_ndec_t (by first | assumption | rfl) ?_); conv => whnf)
    | ((with_reducible refine on_ndec_f (by assumption) ?_); conv => whnf)
    | ((with_reducible refine on_dec_t rfl ?_); conv => whnf)
    | ((with_reducible refine on_ndec (fun h => ?_) (fun h => ?_)) <;> conv => whnf)
    | ((with_reducible refine on_dec_f ?_ ?_); (focus ((try simp only [List.length_map, List.length_cons, List.length_nil, List.length_append]); omega)); conv => whnf)
    | ((with_reducible refine on_dec_t ?_ ?_); (focus ((try simp only [List.length_map, List.length_cons, List.length_nil, List.length_append]); omega)); conv => whnf)
    | ((with_reducible refine on_dec (fun h => ?_) (fun h => ?_)) <;> (try simp only [List.length_map] at h) <;> conv => whnf)
    | ((with_reducible refine on_ndec (fun h => ?_) (fun h => ?_)) <;> (try simp only [List.length_map] at h) <;> conv => whnf)
    | ((with_reducible refine on_not (fun h => ?_) (fun h => ?_)) <;> conv => whnf)
    | ((with_reducible refine onBool_split (fun h => ?_) (fun h => ?_)) <;> conv => whnf)
    | ((with_reducible refine call_go ?_); (first | refine call_step (c64r x hx hq _) ?_ | refine call_step (c64n x hx hq _) ?_ | refine call_step (run_view (c51 _) rfl rfl) ?_ | refine call_step (run_view (c50 [_, _] (by simp)) rfl rfl) ?_ | refine call_step (run_view (c50 [_, _, _, _, _] (by simp)) rfl rfl) ?_ | refine call_step (run_view (c50 [_, _, _, _, _, _] (by simp)) rfl rfl) ?_ | refine call_step (run_view (c65 x (by omega) ((checkQ_iff x).1 hq).srt w) rfl (qview rfl rfl rfl (vlc rfl vln))) ?_); conv => whnf)
    | (refine ⟨⟨(by first | rfl | (simp; done)), cap_ok (by simp only [List.length_map, List.length_cons, List.length_nil, List.length_append]; omega) rfl⟩, ?_⟩; conv => whnf)
    | (refine ⟨mem_one ⟨rfl, rfl⟩, ?_⟩; conv => whnf)
    | (refine ⟨(by intro y hy; obtain ⟨x, _, rfl⟩ := List.mem_map.1 hy; first | rfl | exact ⟨rfl, rfl⟩), ?_⟩; conv => whnf)
    | (refine ⟨cap_ok (by first | omega | (simp only [List.length_map]; omega)) rfl, ?_⟩; conv => whnf)
    | (refine ix_map (by omega) ?_; conv => whnf)
    | (refine ix_str (by omega) ?_; conv => whnf)
    | (refine wrap64 (by omega) ?_; conv => whnf)
    | (refine wrap64 (by omega) ?_; conv => whnf)
    | (exfalso; simp only [List.length_map, List.length_cons, List.length_nil, List.length_append] at h; omega)
    | ((with_reducible refine endx_go ?_); first | (refine cut_ (roomQ x w = 2147483647 - (ownR x.os w).used) ?_ (fun hE => ?_); (focus (unfold roomQ; simp [*]; done)); refine endx2 ?_; (rw [room_0 (by rw [hq]; exact hw), hE]) <;> rfl; done) | (refine cut_ (roomQ x w = goMax 0 ((ownR x.os w).lim - (ownR x.os w).used)) ?_ (fun hE => ?_); (focus (unfold roomQ; simp [*]; done)); refine endx2 ?_; (rw [room_0 (by rw [hq]; exact hw), hE]) <;> rfl; done))
    | (refine ⟨rfl, ?_⟩; conv => whnf)
    | fail
    )

theorem c29 (x : Quo) (hx : x.os.length < 1000) (w : Int) : Fn 29 [x.enc, i w] (.tup [i (roomE x w).1, i (roomE x w).2]) := by
  by_cases hq : (checkQ x).2 = 0
  · by_cases hw : firstE [0, whoE w] = 0
    · exact c29o x hx w hq hw
    · exact c29n x hx w hq hw
  · exact c29e x hx w hq

end Go.Proofs.Ytolfkcmdfgakkaa

/-! Pc -/
namespace Go.Proofs.Ytolfkcmdfgakkaa
open Go Dw

def movErr (x : Quo) (f t b : Int) : Int := firstE [(checkQ x).2, whoE f, whoE t, numE b]
end Go.Proofs.Ytolfkcmdfgakkaa

/-! Wh -/
namespace Go.Proofs.Ytolfkcmdfgakkaa
open Go Dw
set_option maxRecDepth 10000
set_option linter.unusedVariables false
set_option linter.unusedSimpArgs false
attribute [local irreducible] Run
set_option maxHeartbeats 4000000

attribute [local irreducible] oE checkQ cnt isR ownR withR bsR fullQ put1 chg rls mov limErr limF actE doA resQ aftQ whoE limE numE goMin actErr movErr

end Go.Proofs.Ytolfkcmdfgakkaa

/-! Wj -/
namespace Go.Proofs.Ytolfkcmdfgakkaa
open Go Dw
set_option maxRecDepth 10000
set_option linter.unusedVariables false
set_option linter.unusedSimpArgs false
attribute [local irreducible] Run
set_option maxHeartbeats 4000000

attribute [local irreducible] oE checkQ cnt isR ownR withR bsR fullQ put1 chg rls mov limErr limF actE doA resQ aftQ whoE limE numE goMin actErr movErr
def exQ : Quo := ⟨[⟨10, 100, 150, 200, 0⟩], true⟩

theorem c13 (x : Quo) : Fn 13 [x.enc] (.bool (decide (x.os.length ≤ 32))) := by
  refine run_walkF eok Try.func13 rfl (by kernel_rfl) ?_
  conv => whnf
  repeat' (first
    | ((with_reducible refine on_dec_f ?_ ?_); (focus ((try simp only [List.length_map, List.length_cons, List.length_nil, List.length_append]); omega)); conv => whnf)
    | ((with_reducible refine on_dec_t ?_ ?_); (focus ((try simp only [List.length_map, List.length_cons, List.length_nil, List.length_append]); omega)); conv => whnf)
    | ((with_reducible refine on_dec (fun h => ?_) (fun h => ?_)) <;> (try simp only [List.length_map] at h) <;> conv => whnf)
    | ((with_reducible refine on_ndec (fun h => ?_) (fun h => ?_)) <;> (try simp only [List.length_map] at h) <;> conv => whnf)
    | ((with_reducible refine on_not (fun h => ?_) (fun h => ?_)) <;> conv => whnf)
    | ((with_reducible refine onBool_split (fun h => ?_) (fun h => ?_)) <;> conv => whnf)
    | (refine ⟨⟨(by first | rfl | (simp; done)), cap_ok (by simp only [List.length_map, List.length_cons, List.length_nil, List.length_append]; omega) rfl⟩, ?_⟩; conv => whnf)
    | (refine ⟨mem_one ⟨rfl, rfl⟩, ?_⟩; conv => whnf)
    | (refine ⟨(by intro y hy; obtain ⟨x, _, rfl⟩ := List.mem_map.1 hy; first | rfl | exact ⟨rfl, rfl⟩), ?_⟩; conv => whnf)
    | (refine ⟨cap_ok (by first | omega | (simp only [List.length_map]; omega)) rfl, ?_⟩; conv => whnf)
    | (refine ix_map (by omega) ?_; conv => whnf)
    | (refine ix_str (by omega) ?_; conv => whnf)
    | (refine wrap64 (by omega) ?_; conv => whnf)
    | (exfalso; simp only [List.length_map, List.length_cons, List.length_nil, List.length_append] at h; omega)
    | ((with_reducible refine endx_go ?_); first | (refine endx (congrArg D.bool ?_); rw [decide_eq_decide, List.length_map]; omega; done))
    | (refine ⟨rfl, ?_⟩; conv => whnf)
    | fail
    )

theorem c47 : Fn 47 [] exQ.enc := by
  refine run_walkF eok Try.func47 rfl (by kernel_rfl) ?_
  conv => whnf
  repeat' (first
    | ((with_reducible refine on_dec_f ?_ ?_); (focus ((try simp only [List.length_map, List.length_cons, List.length_nil, List.length_append]); omega)); conv => whnf)
    | ((with_reducible refine on_dec_t ?_ ?_); (focus ((try simp only [List.length_map, List.length_cons, List.length_nil, List.length_append]); omega)); conv => whnf)
    | ((with_reducible refine on_dec (fun h => ?_) (fun h => ?_)) <;> (try simp only [List.length_map] at h) <;> conv => whnf)
    | ((with_reducible refine on_ndec (fun h => ?_) (fun h => ?_)) <;> (try simp only [List.length_map] at h) <;> conv => whnf)
    | ((with_reducible refine on_not (fun h => ?_) (fun h => ?_)) <;> conv => whnf)
    | ((with_reducible refine onBool_split (fun h => ?_) (fun h => ?_)) <;> conv => whnf)
    | (refine ⟨⟨(by first | rfl | (simp; done)), cap_ok (by simp only [List.length_map, List.length_cons, List.length_nil, List.length_append]; omega) rfl⟩, ?_⟩; conv => whnf)
    | (refine ⟨mem_one ⟨rfl, rfl⟩, ?_⟩; conv => whnf)
    | (refine ⟨(by intro y hy; obtain ⟨x, _, rfl⟩ := List.mem_map.1 hy; first | rfl | exact ⟨rfl, rfl⟩), ?_⟩; conv => whnf)
    | (refine ⟨cap_ok (by first | omega | (simp only [List.length_map]; omega)) rfl, ?_⟩; conv => whnf)
    | (refine ix_map (by omega) ?_; conv => whnf)
    | (refine ix_str (by omega) ?_; conv => whnf)
    | (refine wrap64 (by omega) ?_; conv => whnf)
    | (exfalso; simp only [List.length_map, List.length_cons, List.length_nil, List.length_append] at h; omega)
    | ((with_reducible refine endx_go ?_); first | (exact endxv (view_agg (vlc rfl (vlc rfl vln))) rfl; done))
    | (refine ⟨rfl, ?_⟩; conv => whnf)
    | fail
    )

end Go.Proofs.Ytolfkcmdfgakkaa
