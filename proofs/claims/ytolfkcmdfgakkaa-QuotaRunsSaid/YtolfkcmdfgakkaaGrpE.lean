/-
  Own lemmas, no conditions: We, Wf, Wg, Pc, Wh, Wj.
-/
import Derived.Test.YtolfkcmdfgakkaaGrpD
set_option linter.unusedVariables false
set_option linter.unusedSimpArgs false

/-! We -/
namespace Go.Proofs.Ytolfkcmdfgakkaa
open Go Dw
set_option maxRecDepth 10000
set_option linter.unusedVariables false
set_option linter.unusedSimpArgs false
attribute [local irreducible] Run
set_option maxHeartbeats 4000000

theorem cut_ (e : Prop) {G : Prop} (h : e) (k : e → G) : G := k h
theorem qview {H : Heap} {a b n : Nat} {x : Quo} (h1 : H[a]? = some (qO x.enf n b)) (h2 : H[b]? = some (rO x.os)) (hn : n = x.os.length) {args : List AV} {xs : List D} (hv : vl (view 8 H) args = some xs) : vl (view 8 H) (.ptr a 0 0 :: args) = some (.fp x.enc 0 :: xs) :=
  vlc (view_q h1 h2 hn) hv
theorem put1_os (x : Quo) (o : Own) : (put1 x o).os = withR x.os o := rfl
theorem put1_enf (x : Quo) (o : Own) : (put1 x o).enf = x.enf := rfl
/-- A function that changes a quota. -/
def Mv (f : Nat) (xs : List D) (x x' : Quo) (r : AV) : Prop := Run Try.prog f (.ptr 0 0 0 :: xs.map .d) [qO x.enf x.os.length 1, rO x.os] r [qO x'.enf x'.os.length 2, deadO, rO x'.os]
theorem Mv.at {f n : Nat} {xs : List D} {r : AV} {x x' : Quo} (hf : Mv f xs x x' r) (hr : r.flat = true) (hrr : ∀ τ, ren τ r = r)
    {H : Heap} {a b : Nat} (h1 : H[a]? = some (qO x.enf n b)) (h2 : H[b]? = some (rO x.os)) (hn : n = x.os.length) (hab : a ≠ b) {args : List AV} (hv : vl (view 8 H) args = some xs) (hd : ∀ j ∈ args.flatMap (reach 8 H), j ≠ a ∧ j ≠ b) :
    Run Try.prog f (.ptr a 0 0 :: args) H r (((H.set a (qO x'.enf x'.os.length H.length)).set b deadO) ++ [rO x'.os]) := run_mv hf hr hrr h1 h2 hn hab hv hd
theorem c102 (x : Quo) (o : Own) (hx : x.os.length < 1000000) (hs : SRT x.os) : Mv 102 [o.enc] x (put1 x o) (.tup []) := by
  cases h : isR x.os o.who with
  | true => exact c102t x o hx hs h
  | false => exact c102f x o hx hs h
attribute [local irreducible] oE checkQ cnt isR ownR withR bsR fullQ put1 chg rls mov limErr limF actE doA resQ aftQ whoE limE numE goMin
theorem full_eq (x : Quo) (w : Int) : (!isR x.os w && decide (x.os.length = 30)) = fullQ x w := by unfold fullQ; rfl

theorem c89 (x : Quo) (hv : VQ x) (w b : Int) (hb : 0 ≤ b ∧ b ≤ 2147483647) : Mv 89 [i w, i b] x (chg x w b).1 (.d (i (chg x w b).2)) := by
  have hx : x.os.length < 1000000 := (by have := hv.len; omega); have hs := hv.srt; obtain ⟨hn1, hn2, hn3⟩ := hv.nums w
  refine run_walkV eok Try.func89 rfl (by kernel_rfl) [0, 1] (by rfl) [] ?_
  conv => whnf
  repeat' (first
    | ((with_reducible refine on_dec_f ?_ ?_); (focus ((try simp only [List.length_map, List.length_cons, List.length_nil, List.length_append]); omega)); conv => whnf)
    | ((with_reducible refine on_dec_t ?_ ?_); (focus ((try simp only [List.length_map, List.length_cons, List.length_nil, List.length_append]); omega)); conv => whnf)
    | ((with_reducible refine on_dec (fun h => ?_) (fun h => ?_)) <;> (try simp only [List.length_map] at h) <;> conv => whnf)
    | ((with_reducible refine on_ndec (fun h => ?_) (fun h => ?_)) <;> (try simp only [List.length_map] at h) <;> conv => whnf)
    | ((with_reducible refine on_not (fun h => ?_) (fun h => ?_)) <;> conv => whnf)
    | ((with_reducible refine onBool_split (fun h => ?_) (fun h => ?_)) <;> conv => whnf)
    | ((with_reducible refine call_go ?_); (first | refine call_step (run_view (by have := c101 x hx hs w; rw [full_eq] at this; exact this) rfl (qview rfl rfl rfl (vlc rfl vln))) ?_ | refine call_step (run_view (c65 x hx hs w) rfl (qview rfl rfl rfl (vlc rfl vln))) ?_ | refine call_step (Mv.at (c102 x { ownR x.os w with used := (ownR x.os w).used + b } hx hs) rfl (fun _ => rfl) rfl rfl rfl (Nat.ne_of_beq_eq_false rfl) (vlc (view_agg (vlc rfl (vlc rfl (vlc rfl (vlc rfl (vlc rfl vln)))))) vln) (fun j hj => absurd hj (List.not_mem_nil))) ?_ | refine call_step (Mv.at (c102 x { ownR x.os w with ref := goMin ((ownR x.os w).ref + 1) 65535 } hx hs) rfl (fun _ => rfl) rfl rfl rfl (Nat.ne_of_beq_eq_false rfl) (vlc (view_agg (vlc rfl (vlc rfl (vlc rfl (vlc rfl (vlc rfl vln)))))) vln) (fun j hj => absurd hj (List.not_mem_nil))) ?_); conv => whnf)
    | (refine ⟨⟨(by first | rfl | (simp; done)), cap_ok (by simp only [List.length_map, List.length_cons, List.length_nil, List.length_append]; omega) rfl⟩, ?_⟩; conv => whnf)
    | (refine ⟨mem_one ⟨rfl, rfl⟩, ?_⟩; conv => whnf)
    | (refine ⟨(by intro y hy; obtain ⟨x, _, rfl⟩ := List.mem_map.1 hy; first | rfl | exact ⟨rfl, rfl⟩), ?_⟩; conv => whnf)
    | (refine ⟨cap_ok (by first | omega | (simp only [List.length_map]; omega)) rfl, ?_⟩; conv => whnf)
    | (refine ix_map (by omega) ?_; conv => whnf)
    | (refine ix_str (by omega) ?_; conv => whnf)
    | (refine wrap64 (by omega) ?_; conv => whnf)
    | (refine wrap64 (by omega) ?_; conv => whnf)
    | (exfalso; simp only [List.length_map, List.length_cons, List.length_nil, List.length_append] at h; omega)
    | ((with_reducible refine endx_go ?_); first | (refine cut_ (chg x w b = (x, 0)) ?_ (fun hE => ?_); (focus (unfold chg; (first | (simp_all; done) | (simp_all; omega) | grind))); rw [hE]; refine endX_of (.inl ⟨[.old 0, .dead, .old 1], rfl, rfl, ⟨rfl, trivial⟩, ⟨⟨rfl, rfl, .inr ⟨⟨⟨rfl, rfl, rfl, rfl, rfl⟩, rfl, trivial⟩, trivial⟩⟩, rfl, ⟨rfl, rfl, .inl ⟨_, rfl, rfl⟩⟩, trivial⟩⟩); done) | (refine cut_ (chg x w b = (x, 16)) ?_ (fun hE => ?_); (focus (unfold chg; (first | (simp_all; done) | (simp_all; omega) | grind))); rw [hE]; refine endX_of (.inl ⟨[.old 0, .dead, .old 1], rfl, rfl, ⟨rfl, trivial⟩, ⟨⟨rfl, rfl, .inr ⟨⟨⟨rfl, rfl, rfl, rfl, rfl⟩, rfl, trivial⟩, trivial⟩⟩, rfl, ⟨rfl, rfl, .inl ⟨_, rfl, rfl⟩⟩, trivial⟩⟩); done) | (refine cut_ (chg x w b = (x, 8)) ?_ (fun hE => ?_); (focus (unfold chg; (first | (simp_all; done) | (simp_all; omega) | grind))); rw [hE]; refine endX_of (.inl ⟨[.old 0, .dead, .old 1], rfl, rfl, ⟨rfl, trivial⟩, ⟨⟨rfl, rfl, .inr ⟨⟨⟨rfl, rfl, rfl, rfl, rfl⟩, rfl, trivial⟩, trivial⟩⟩, rfl, ⟨rfl, rfl, .inl ⟨_, rfl, rfl⟩⟩, trivial⟩⟩); done) | (refine cut_ (chg x w b = (put1 x { ownR x.os w with ref := goMin ((ownR x.os w).ref + 1) 65535 }, 33)) ?_ (fun hE => ?_); (focus (unfold chg; (first | (simp_all; done) | (simp_all; omega) | grind))); rw [hE]; refine endX_of (.inl ⟨[.old 0, .dead, .old 3], rfl, rfl, ⟨rfl, trivial⟩, ⟨⟨rfl, rfl, .inr ⟨⟨⟨rfl, rfl, rfl, rfl, rfl⟩, rfl, trivial⟩, trivial⟩⟩, rfl, ⟨rfl, rfl, .inl ⟨_, rfl, rfl⟩⟩, trivial⟩⟩); done) | (refine cut_ (chg x w b = (put1 x { ownR x.os w with used := (ownR x.os w).used + b }, 0)) ?_ (fun hE => ?_); (focus (unfold chg; (first | (simp_all; done) | (simp_all; omega) | grind))); rw [hE]; refine endX_of (.inl ⟨[.old 0, .dead, .old 3], rfl, rfl, ⟨rfl, trivial⟩, ⟨⟨rfl, rfl, .inr ⟨⟨⟨rfl, rfl, rfl, rfl, rfl⟩, rfl, trivial⟩, trivial⟩⟩, rfl, ⟨rfl, rfl, .inl ⟨_, rfl, rfl⟩⟩, trivial⟩⟩); done))
    | (refine ⟨rfl, ?_⟩; conv => whnf)
    | fail
    )

theorem c90 (x : Quo) (hv : VQ x) (w b : Int) (hb : 0 ≤ b ∧ b ≤ 2147483647) : Mv 90 [i w, i b] x (rls x w b).1 (.d (i (rls x w b).2)) := by
  have hx : x.os.length < 1000000 := (by have := hv.len; omega); have hs := hv.srt; obtain ⟨hn1, hn2, hn3⟩ := hv.nums w
  refine run_walkV eok Try.func90 rfl (by kernel_rfl) [0, 1] (by rfl) [] ?_
  conv => whnf
  repeat' (first
    | ((with_reducible refine on_dec_f ?_ ?_); (focus ((try simp only [List.length_map, List.length_cons, List.length_nil, List.length_append]); omega)); conv => whnf)
    | ((with_reducible refine on_dec_t ?_ ?_); (focus ((try simp only [List.length_map, List.length_cons, List.length_nil, List.length_append]); omega)); conv => whnf)
    | ((with_reducible refine on_dec (fun h => ?_) (fun h => ?_)) <;> (try simp only [List.length_map] at h) <;> conv => whnf)
    | ((with_reducible refine on_ndec (fun h => ?_) (fun h => ?_)) <;> (try simp only [List.length_map] at h) <;> conv => whnf)
    | ((with_reducible refine on_not (fun h => ?_) (fun h => ?_)) <;> conv => whnf)
    | ((with_reducible refine onBool_split (fun h => ?_) (fun h => ?_)) <;> conv => whnf)
    | ((with_reducible refine call_go ?_); (first | refine call_step (run_view (c65 x hx hs w) rfl (qview rfl rfl rfl (vlc rfl vln))) ?_ | refine call_step (Mv.at (c102 x { ownR x.os w with used := (ownR x.os w).used - b } hx hs) rfl (fun _ => rfl) rfl rfl rfl (Nat.ne_of_beq_eq_false rfl) (vlc (view_agg (vlc rfl (vlc rfl (vlc rfl (vlc rfl (vlc rfl vln)))))) vln) (fun j hj => absurd hj (List.not_mem_nil))) ?_); conv => whnf)
    | (refine ⟨⟨(by first | rfl | (simp; done)), cap_ok (by simp only [List.length_map, List.length_cons, List.length_nil, List.length_append]; omega) rfl⟩, ?_⟩; conv => whnf)
    | (refine ⟨mem_one ⟨rfl, rfl⟩, ?_⟩; conv => whnf)
    | (refine ⟨(by intro y hy; obtain ⟨x, _, rfl⟩ := List.mem_map.1 hy; first | rfl | exact ⟨rfl, rfl⟩), ?_⟩; conv => whnf)
    | (refine ⟨cap_ok (by first | omega | (simp only [List.length_map]; omega)) rfl, ?_⟩; conv => whnf)
    | (refine ix_map (by omega) ?_; conv => whnf)
    | (refine ix_str (by omega) ?_; conv => whnf)
    | (refine wrap64 (by omega) ?_; conv => whnf)
    | (refine wrap64 (by omega) ?_; conv => whnf)
    | (exfalso; simp only [List.length_map, List.length_cons, List.length_nil, List.length_append] at h; omega)
    | ((with_reducible refine endx_go ?_); first | (refine cut_ (rls x w b = (x, 2)) ?_ (fun hE => ?_); (focus (unfold rls; (first | (simp_all; done) | (simp_all; omega) | grind))); rw [hE]; refine endX_of (.inl ⟨[.old 0, .dead, .old 1], rfl, rfl, ⟨rfl, trivial⟩, ⟨⟨rfl, rfl, .inr ⟨⟨⟨rfl, rfl, rfl, rfl, rfl⟩, rfl, trivial⟩, trivial⟩⟩, rfl, ⟨rfl, rfl, .inl ⟨_, rfl, rfl⟩⟩, trivial⟩⟩); done) | (refine cut_ (rls x w b = (x, 0)) ?_ (fun hE => ?_); (focus (unfold rls; (first | (simp_all; done) | (simp_all; omega) | grind))); rw [hE]; refine endX_of (.inl ⟨[.old 0, .dead, .old 1], rfl, rfl, ⟨rfl, trivial⟩, ⟨⟨rfl, rfl, .inr ⟨⟨⟨rfl, rfl, rfl, rfl, rfl⟩, rfl, trivial⟩, trivial⟩⟩, rfl, ⟨rfl, rfl, .inl ⟨_, rfl, rfl⟩⟩, trivial⟩⟩); done) | (refine cut_ (rls x w b = (put1 x { ownR x.os w with used := (ownR x.os w).used - b }, 0)) ?_ (fun hE => ?_); (focus (unfold rls; (first | (simp_all; done) | (simp_all; omega) | grind))); rw [hE]; refine endX_of (.inl ⟨[.old 0, .dead, .old 3], rfl, rfl, ⟨rfl, trivial⟩, ⟨⟨rfl, rfl, .inr ⟨⟨⟨rfl, rfl, rfl, rfl, rfl⟩, rfl, trivial⟩, trivial⟩⟩, rfl, ⟨rfl, rfl, .inl ⟨_, rfl, rfl⟩⟩, trivial⟩⟩); done))
    | (refine ⟨rfl, ?_⟩; conv => whnf)
    | fail
    )

theorem c91 (x : Quo) (hv : VQ x) (w t b : Int) (ht : whoE t = 0) (hb : 0 ≤ b ∧ b ≤ 2147483647) : Mv 91 [i w, i t, i b] x (mov x w t b).1 (.d (i (mov x w t b).2)) := by
  have hx : x.os.length < 1000000 := (by have := hv.len; omega); have hs := hv.srt; obtain ⟨hn1, hn2, hn3⟩ := hv.nums w
  refine run_walkV eok Try.func91 rfl (by kernel_rfl) [0, 1] (by rfl) [] ?_
  conv => whnf
  repeat' (first
    | ((with_reducible refine on_dec_f ?_ ?_); (focus ((try simp only [List.length_map, List.length_cons, List.length_nil, List.length_append]); omega)); conv => whnf)
    | ((with_reducible refine on_dec_t ?_ ?_); (focus ((try simp only [List.length_map, List.length_cons, List.length_nil, List.length_append]); omega)); conv => whnf)
    | ((with_reducible refine on_dec (fun h => ?_) (fun h => ?_)) <;> (try simp only [List.length_map] at h) <;> conv => whnf)
    | ((with_reducible refine on_ndec (fun h => ?_) (fun h => ?_)) <;> (try simp only [List.length_map] at h) <;> conv => whnf)
    | ((with_reducible refine on_not (fun h => ?_) (fun h => ?_)) <;> conv => whnf)
    | ((with_reducible refine onBool_split (fun h => ?_) (fun h => ?_)) <;> conv => whnf)
    | ((with_reducible refine call_go ?_); (first | refine call_step (run_view (c65 x hx hs w) rfl (qview rfl rfl rfl (vlc rfl vln))) ?_ | refine call_step (Mv.at (c89 x hv t b hb) rfl (fun _ => rfl) rfl rfl rfl (Nat.ne_of_beq_eq_false rfl) (vlc rfl (vlc rfl vln)) (fun j hj => absurd hj (List.not_mem_nil))) ?_ | refine call_step (Mv.at (c90 (chg x t b).1 (chg_ok hv ht hb.1) w b hb) rfl (fun _ => rfl) rfl rfl rfl (Nat.ne_of_beq_eq_false rfl) (vlc rfl (vlc rfl vln)) (fun j hj => absurd hj (List.not_mem_nil))) ?_); conv => whnf)
    | (refine ⟨⟨(by first | rfl | (simp; done)), cap_ok (by simp only [List.length_map, List.length_cons, List.length_nil, List.length_append]; omega) rfl⟩, ?_⟩; conv => whnf)
    | (refine ⟨mem_one ⟨rfl, rfl⟩, ?_⟩; conv => whnf)
    | (refine ⟨(by intro y hy; obtain ⟨x, _, rfl⟩ := List.mem_map.1 hy; first | rfl | exact ⟨rfl, rfl⟩), ?_⟩; conv => whnf)
    | (refine ⟨cap_ok (by first | omega | (simp only [List.length_map]; omega)) rfl, ?_⟩; conv => whnf)
    | (refine ix_map (by omega) ?_; conv => whnf)
    | (refine ix_str (by omega) ?_; conv => whnf)
    | (refine wrap64 (by omega) ?_; conv => whnf)
    | (refine wrap64 (by omega) ?_; conv => whnf)
    | (exfalso; simp only [List.length_map, List.length_cons, List.length_nil, List.length_append] at h; omega)
    | ((with_reducible refine endx_go ?_); first | (refine cut_ (mov x w t b = (x, 2)) ?_ (fun hE => ?_); (focus (unfold mov; (first | (simp_all; done) | (simp_all; omega) | grind))); rw [hE]; refine endX_of (.inl ⟨[.old 0, .dead, .old 1], rfl, rfl, ⟨rfl, trivial⟩, ⟨⟨rfl, rfl, .inr ⟨⟨⟨rfl, rfl, rfl, rfl, rfl⟩, rfl, trivial⟩, trivial⟩⟩, rfl, ⟨rfl, rfl, .inl ⟨_, rfl, rfl⟩⟩, trivial⟩⟩); done) | (refine cut_ (mov x w t b = (x, 0)) ?_ (fun hE => ?_); (focus (unfold mov; (first | (simp_all; done) | (simp_all; omega) | grind))); rw [hE]; refine endX_of (.inl ⟨[.old 0, .dead, .old 1], rfl, rfl, ⟨rfl, trivial⟩, ⟨⟨rfl, rfl, .inr ⟨⟨⟨rfl, rfl, rfl, rfl, rfl⟩, rfl, trivial⟩, trivial⟩⟩, rfl, ⟨rfl, rfl, .inl ⟨_, rfl, rfl⟩⟩, trivial⟩⟩); done) | (refine cut_ (mov x w t b = chg x t b) ?_ (fun hE => ?_); (focus (unfold mov; (first | (simp_all; done) | (simp_all; omega) | grind))); rw [hE]; refine endX_of (.inl ⟨[.old 0, .dead, .old 2], rfl, rfl, ⟨rfl, trivial⟩, ⟨⟨rfl, rfl, .inr ⟨⟨⟨rfl, rfl, rfl, rfl, rfl⟩, rfl, trivial⟩, trivial⟩⟩, rfl, ⟨rfl, rfl, .inl ⟨_, rfl, rfl⟩⟩, trivial⟩⟩); done) | (refine cut_ (mov x w t b = rls (chg x t b).1 w b) ?_ (fun hE => ?_); (focus (unfold mov; (first | (simp_all; done) | (simp_all; omega) | grind))); rw [hE]; refine endX_of (.inl ⟨[.old 0, .dead, .old 3], rfl, rfl, ⟨rfl, trivial⟩, ⟨⟨rfl, rfl, .inr ⟨⟨⟨rfl, rfl, rfl, rfl, rfl⟩, rfl, trivial⟩, trivial⟩⟩, rfl, ⟨rfl, rfl, .inl ⟨_, rfl, rfl⟩⟩, trivial⟩⟩); done))
    | (refine ⟨rfl, ?_⟩; conv => whnf)
    | fail
    )

theorem c88a (x : Quo) (hv : VQ x) (l : Lim) (hA : l.warn = -1) : Mv 88 [l.enc] x (limF x l).1 (.d (i (limF x l).2)) := by
  have hx : x.os.length < 1000000 := (by have := hv.len; omega); have hs := hv.srt; have hP : limErr x l = firstE [whoE l.who, limE l.warn, limE l.lim, if true = true then 0 else 9, if (!fullQ x l.who) = true then 0 else 16] := (by unfold limErr; simp [hA])
  refine run_walkV eok Try.func88 rfl (by kernel_rfl) [0, 1] (by rfl) [] ?_
  conv => whnf
  repeat' (first
    | ((with_reducible refine on_dec_t (by assumption) ?_); conv => whnf)
    | ((with_reducible refine on_dec_f (by assumption) ?_); conv => whnf)
    | ((with_reducible refine onBool_t (by assumption) ?_); conv => whnf)
    | ((with_reducible refine onBool_f (by assumption) ?_); conv => whnf)
    | ((with_reducible refine on_nt (by assumption) ?_); conv => whnf)
    | ((with_reducible refine on_nf (by assumption) ?_); conv => whnf)
    | ((with_reducible refine on_ndec_t (by first | assumption | rfl) ?_); conv => whnf)
    | ((with_reducible refine on_ndec_f (by assumption) ?_); conv => whnf)
    | ((with_reducible refine on_dec_t rfl ?_); conv => whnf)
    | ((with_reducible refine on_ndec (fun h => ?_) (fun h => ?_)) <;> conv => whnf)
    | ((with_reducible refine on_dec_f ?_ ?_); (focus ((try simp only [List.length_map, List.length_cons, List.length_nil, List.length_append]); omega)); conv => whnf)
    | ((with_reducible refine on_dec_t ?_ ?_); (focus ((try simp only [List.length_map, List.length_cons, List.length_nil, List.length_append]); omega)); conv => whnf)
    | ((with_reducible refine on_dec (fun h => ?_) (fun h => ?_)) <;> (try simp only [List.length_map] at h) <;> conv => whnf)
    | ((with_reducible refine on_ndec (fun h => ?_) (fun h => ?_)) <;> (try simp only [List.length_map] at h) <;> conv => whnf)
    | ((with_reducible refine on_not (fun h => ?_) (fun h => ?_)) <;> conv => whnf)
    | ((with_reducible refine onBool_split (fun h => ?_) (fun h => ?_)) <;> conv => whnf)
    | ((with_reducible refine call_go ?_); (first | refine call_step (run_view (c51 _) rfl rfl) ?_ | refine call_step (run_view (c54 _) rfl rfl) ?_ | refine call_step (run_view (c52 _ _) rfl rfl) ?_ | refine call_step (run_view (by have := c101 x hx hs l.who; rw [full_eq] at this; exact this) rfl (qview rfl rfl rfl (vlc rfl vln))) ?_ | refine call_step (run_view (c50 [_, _] (by simp)) rfl rfl) ?_ | refine call_step (run_view (c50 [_, _, _, _, _] (by simp)) rfl rfl) ?_ | refine call_step (run_view (c50 [_, _, _, _, _, _] (by simp)) rfl rfl) ?_ | refine call_step (run_view (c65 x hx hs l.who) rfl (qview rfl rfl rfl (vlc rfl vln))) ?_ | refine call_step (Mv.at (c102 x { ownR x.os l.who with warn := l.warn, lim := l.lim } hx hs) rfl (fun _ => rfl) rfl rfl rfl (Nat.ne_of_beq_eq_false rfl) (vlc (view_agg (vlc rfl (vlc rfl (vlc rfl (vlc rfl (vlc rfl vln)))))) vln) (fun j hj => absurd hj (List.not_mem_nil))) ?_); conv => whnf)
    | (refine ⟨[], [(4, 2), (7, 2), (21, 2), (7, 5), (21, 5), (21, 8), (21, 18)], (by decide +kernel), ?_⟩; conv => whnf)
    | (refine ⟨[], [(3, 5)], (by decide +kernel), ?_⟩; conv => whnf)
    | (refine ⟨⟨(by first | rfl | (simp; done)), cap_ok (by simp only [List.length_map, List.length_cons, List.length_nil, List.length_append]; omega) rfl⟩, ?_⟩; conv => whnf)
    | (refine ⟨mem_one ⟨rfl, rfl⟩, ?_⟩; conv => whnf)
    | (refine ⟨(by intro y hy; obtain ⟨x, _, rfl⟩ := List.mem_map.1 hy; first | rfl | exact ⟨rfl, rfl⟩), ?_⟩; conv => whnf)
    | (refine ⟨cap_ok (by first | omega | (simp only [List.length_map]; omega)) rfl, ?_⟩; conv => whnf)
    | (refine ix_map (by omega) ?_; conv => whnf)
    | (refine ix_str (by omega) ?_; conv => whnf)
    | (refine wrap64 (by omega) ?_; conv => whnf)
    | (refine wrap64 (by omega) ?_; conv => whnf)
    | (exfalso; simp_all; done)
    | (exfalso; simp only [List.length_map, List.length_cons, List.length_nil, List.length_append] at h; omega)
    | ((with_reducible refine endx_go ?_); first | (refine cut_ (limF x l = (x, firstE [whoE l.who, limE l.warn, limE l.lim, if true = true then 0 else 9, if (!fullQ x l.who) = true then 0 else 16])) ?_ (fun hE => ?_); (focus (unfold limF; rw [hP, if_neg (by assumption)])); rw [hE]; refine endX_of (.inl ⟨[.old 0, .dead, .old 1], rfl, rfl, ⟨rfl, trivial⟩, ⟨⟨rfl, rfl, .inr ⟨⟨⟨rfl, rfl, rfl, rfl, rfl⟩, rfl, trivial⟩, trivial⟩⟩, rfl, ⟨rfl, rfl, .inl ⟨_, rfl, rfl⟩⟩, trivial⟩⟩); done) | (refine cut_ (limF x l = (put1 x { ownR x.os l.who with warn := l.warn, lim := l.lim }, 0)) ?_ (fun hE => ?_); (focus (unfold limF; rw [hP, if_pos (by assumption)])); rw [hE]; refine endX_of (.inl ⟨[.old 0, .dead, .old 5], rfl, rfl, ⟨rfl, trivial⟩, ⟨⟨rfl, rfl, .inr ⟨⟨⟨rfl, rfl, rfl, rfl, rfl⟩, rfl, trivial⟩, trivial⟩⟩, rfl, ⟨rfl, rfl, .inl ⟨_, rfl, rfl⟩⟩, trivial⟩⟩); done))
    | (refine ⟨rfl, ?_⟩; conv => whnf)
    | fail
    )

theorem c88b (x : Quo) (hv : VQ x) (l : Lim) (hA : ¬ l.warn = -1) (hB : l.lim = -1) : Mv 88 [l.enc] x (limF x l).1 (.d (i (limF x l).2)) := by
  have hx : x.os.length < 1000000 := (by have := hv.len; omega); have hs := hv.srt; have hP : limErr x l = firstE [whoE l.who, limE l.warn, limE l.lim, if true = true then 0 else 9, if (!fullQ x l.who) = true then 0 else 16] := (by unfold limErr; simp [hA, hB])
  refine run_walkV eok Try.func88 rfl (by kernel_rfl) [0, 1] (by rfl) [] ?_
  conv => whnf
  repeat' (first
    | ((with_reducible refine on_dec_t (by assumption) ?_); conv => whnf)
    | ((with_reducible refine on_dec_f (by assumption) ?_); conv => whnf)
    | ((with_reducible refine onBool_t (by assumption) ?_); conv => whnf)
    | ((with_reducible refine onBool_f (by assumption) ?_); conv => whnf)
    | ((with_reducible refine on_nt (by assumption) ?_); conv => whnf)
    | ((with_reducible refine on_nf (by assumption) ?_); conv => whnf)
    | ((with_reducible refine on_ndec_t (by first | assumption | rfl) ?_); conv => whnf)
    | ((with_reducible refine on_ndec_f (by assumption) ?_); conv => whnf)
    | ((with_reducible refine on_dec_t rfl ?_); conv => whnf)
    | ((with_reducible refine on_ndec (fun h => ?_) (fun h => ?_)) <;> conv => whnf)
    | ((with_reducible refine on_dec_f ?_ ?_); (focus ((try simp only [List.length_map, List.length_cons, List.length_nil, List.length_append]); omega)); conv => whnf)
    | ((with_reducible refine on_dec_t ?_ ?_); (focus ((try simp only [List.length_map, List.length_cons, List.length_nil, List.length_append]); omega)); conv => whnf)
    | ((with_reducible refine on_dec (fun h => ?_) (fun h => ?_)) <;> (try simp only [List.length_map] at h) <;> conv => whnf)
    | ((with_reducible refine on_ndec (fun h => ?_) (fun h => ?_)) <;> (try simp only [List.length_map] at h) <;> conv => whnf)
    | ((with_reducible refine on_not (fun h => ?_) (fun h => ?_)) <;> conv => whnf)
    | ((with_reducible refine onBool_split (fun h => ?_) (fun h => ?_)) <;> conv => whnf)
    | ((with_reducible refine call_go ?_); (first | refine call_step (run_view (c51 _) rfl rfl) ?_ | refine call_step (run_view (c54 _) rfl rfl) ?_ | refine call_step (run_view (c52 _ _) rfl rfl) ?_ | refine call_step (run_view (by have := c101 x hx hs l.who; rw [full_eq] at this; exact this) rfl (qview rfl rfl rfl (vlc rfl vln))) ?_ | refine call_step (run_view (c50 [_, _] (by simp)) rfl rfl) ?_ | refine call_step (run_view (c50 [_, _, _, _, _] (by simp)) rfl rfl) ?_ | refine call_step (run_view (c50 [_, _, _, _, _, _] (by simp)) rfl rfl) ?_ | refine call_step (run_view (c65 x hx hs l.who) rfl (qview rfl rfl rfl (vlc rfl vln))) ?_ | refine call_step (Mv.at (c102 x { ownR x.os l.who with warn := l.warn, lim := l.lim } hx hs) rfl (fun _ => rfl) rfl rfl rfl (Nat.ne_of_beq_eq_false rfl) (vlc (view_agg (vlc rfl (vlc rfl (vlc rfl (vlc rfl (vlc rfl vln)))))) vln) (fun j hj => absurd hj (List.not_mem_nil))) ?_); conv => whnf)
    | (refine ⟨[], [(4, 2), (7, 2), (21, 2), (7, 5), (21, 5), (21, 8), (21, 18)], (by decide +kernel), ?_⟩; conv => whnf)
    | (refine ⟨[], [(3, 5)], (by decide +kernel), ?_⟩; conv => whnf)
    | (refine ⟨⟨(by first | rfl | (simp; done)), cap_ok (by simp only [List.length_map, List.length_cons, List.length_nil, List.length_append]; omega) rfl⟩, ?_⟩; conv => whnf)
    | (refine ⟨mem_one ⟨rfl, rfl⟩, ?_⟩; conv => whnf)
    | (refine ⟨(by intro y hy; obtain ⟨x, _, rfl⟩ := List.mem_map.1 hy; first | rfl | exact ⟨rfl, rfl⟩), ?_⟩; conv => whnf)
    | (refine ⟨cap_ok (by first | omega | (simp only [List.length_map]; omega)) rfl, ?_⟩; conv => whnf)
    | (refine ix_map (by omega) ?_; conv => whnf)
    | (refine ix_str (by omega) ?_; conv => whnf)
    | (refine wrap64 (by omega) ?_; conv => whnf)
    | (refine wrap64 (by omega) ?_; conv => whnf)
    | (exfalso; simp_all; done)
    | (exfalso; simp only [List.length_map, List.length_cons, List.length_nil, List.length_append] at h; omega)
    | ((with_reducible refine endx_go ?_); first | (refine cut_ (limF x l = (x, firstE [whoE l.who, limE l.warn, limE l.lim, if true = true then 0 else 9, if (!fullQ x l.who) = true then 0 else 16])) ?_ (fun hE => ?_); (focus (unfold limF; rw [hP, if_neg (by assumption)])); rw [hE]; refine endX_of (.inl ⟨[.old 0, .dead, .old 1], rfl, rfl, ⟨rfl, trivial⟩, ⟨⟨rfl, rfl, .inr ⟨⟨⟨rfl, rfl, rfl, rfl, rfl⟩, rfl, trivial⟩, trivial⟩⟩, rfl, ⟨rfl, rfl, .inl ⟨_, rfl, rfl⟩⟩, trivial⟩⟩); done) | (refine cut_ (limF x l = (put1 x { ownR x.os l.who with warn := l.warn, lim := l.lim }, 0)) ?_ (fun hE => ?_); (focus (unfold limF; rw [hP, if_pos (by assumption)])); rw [hE]; refine endX_of (.inl ⟨[.old 0, .dead, .old 5], rfl, rfl, ⟨rfl, trivial⟩, ⟨⟨rfl, rfl, .inr ⟨⟨⟨rfl, rfl, rfl, rfl, rfl⟩, rfl, trivial⟩, trivial⟩⟩, rfl, ⟨rfl, rfl, .inl ⟨_, rfl, rfl⟩⟩, trivial⟩⟩); done))
    | (refine ⟨rfl, ?_⟩; conv => whnf)
    | fail
    )

theorem c88c (x : Quo) (hv : VQ x) (l : Lim) (hA : ¬ l.warn = -1) (hB : ¬ l.lim = -1) : Mv 88 [l.enc] x (limF x l).1 (.d (i (limF x l).2)) := by
  have hx : x.os.length < 1000000 := (by have := hv.len; omega); have hs := hv.srt; have hP : limErr x l = firstE [whoE l.who, limE l.warn, limE l.lim, if decide (l.warn ≤ l.lim) = true then 0 else 9, if (!fullQ x l.who) = true then 0 else 16] := (by unfold limErr; simp [hA, hB])
  refine run_walkV eok Try.func88 rfl (by kernel_rfl) [0, 1] (by rfl) [] ?_
  conv => whnf
  repeat' (first
    | ((with_reducible refine on_dec_t (by assumption) ?_); conv => whnf)
    | ((with_reducible refine on_dec_f (by assumption) ?_); conv => whnf)
    | ((with_reducible refine onBool_t (by assumption) ?_); conv => whnf)
    | ((with_reducible refine onBool_f (by assumption) ?_); conv => whnf)
    | ((with_reducible refine on_nt (by assumption) ?_); conv => whnf)
    | ((with_reducible refine on_nf (by assumption) ?_); conv => whnf)
    | ((with_reducible refine on_ndec_t (by first | assumption | rfl) ?_); conv => whnf)
    | ((with_reducible refine on_ndec_f (by assumption) ?_); conv => whnf)
    | ((with_reducible refine on_dec_t rfl ?_); conv => whnf)
    | ((with_reducible refine on_ndec (fun h => ?_) (fun h => ?_)) <;> conv => whnf)
    | ((with_reducible refine on_dec_f ?_ ?_); (focus ((try simp only [List.length_map, List.length_cons, List.length_nil, List.length_append]); omega)); conv => whnf)
    | ((with_reducible refine on_dec_t ?_ ?_); (focus ((try simp only [List.length_map, List.length_cons, List.length_nil, List.length_append]); omega)); conv => whnf)
    | ((with_reducible refine on_dec (fun h => ?_) (fun h => ?_)) <;> (try simp only [List.length_map] at h) <;> conv => whnf)
    | ((with_reducible refine on_ndec (fun h => ?_) (fun h => ?_)) <;> (try simp only [List.length_map] at h) <;> conv => whnf)
    | ((with_reducible refine on_not (fun h => ?_) (fun h => ?_)) <;> conv => whnf)
    | ((with_reducible refine onBool_split (fun h => ?_) (fun h => ?_)) <;> conv => whnf)
    | ((with_reducible refine call_go ?_); (first | refine call_step (run_view (c51 _) rfl rfl) ?_ | refine call_step (run_view (c54 _) rfl rfl) ?_ | refine call_step (run_view (c52 _ _) rfl rfl) ?_ | refine call_step (run_view (by have := c101 x hx hs l.who; rw [full_eq] at this; exact this) rfl (qview rfl rfl rfl (vlc rfl vln))) ?_ | refine call_step (run_view (c50 [_, _] (by simp)) rfl rfl) ?_ | refine call_step (run_view (c50 [_, _, _, _, _] (by simp)) rfl rfl) ?_ | refine call_step (run_view (c50 [_, _, _, _, _, _] (by simp)) rfl rfl) ?_ | refine call_step (run_view (c65 x hx hs l.who) rfl (qview rfl rfl rfl (vlc rfl vln))) ?_ | refine call_step (Mv.at (c102 x { ownR x.os l.who with warn := l.warn, lim := l.lim } hx hs) rfl (fun _ => rfl) rfl rfl rfl (Nat.ne_of_beq_eq_false rfl) (vlc (view_agg (vlc rfl (vlc rfl (vlc rfl (vlc rfl (vlc rfl vln)))))) vln) (fun j hj => absurd hj (List.not_mem_nil))) ?_); conv => whnf)
    | (refine ⟨[], [(4, 2), (7, 2), (21, 2), (7, 5), (21, 5), (21, 8), (21, 18)], (by decide +kernel), ?_⟩; conv => whnf)
    | (refine ⟨[], [(3, 5)], (by decide +kernel), ?_⟩; conv => whnf)
    | (refine ⟨⟨(by first | rfl | (simp; done)), cap_ok (by simp only [List.length_map, List.length_cons, List.length_nil, List.length_append]; omega) rfl⟩, ?_⟩; conv => whnf)
    | (refine ⟨mem_one ⟨rfl, rfl⟩, ?_⟩; conv => whnf)
    | (refine ⟨(by intro y hy; obtain ⟨x, _, rfl⟩ := List.mem_map.1 hy; first | rfl | exact ⟨rfl, rfl⟩), ?_⟩; conv => whnf)
    | (refine ⟨cap_ok (by first | omega | (simp only [List.length_map]; omega)) rfl, ?_⟩; conv => whnf)
    | (refine ix_map (by omega) ?_; conv => whnf)
    | (refine ix_str (by omega) ?_; conv => whnf)
    | (refine wrap64 (by omega) ?_; conv => whnf)
    | (refine wrap64 (by omega) ?_; conv => whnf)
    | (exfalso; simp_all; done)
    | (exfalso; simp only [List.length_map, List.length_cons, List.length_nil, List.length_append] at h; omega)
    | ((with_reducible refine endx_go ?_); first | (refine cut_ (limF x l = (x, firstE [whoE l.who, limE l.warn, limE l.lim, if decide (l.warn ≤ l.lim) = true then 0 else 9, if (!fullQ x l.who) = true then 0 else 16])) ?_ (fun hE => ?_); (focus (unfold limF; rw [hP, if_neg (by assumption)])); rw [hE]; refine endX_of (.inl ⟨[.old 0, .dead, .old 1], rfl, rfl, ⟨rfl, trivial⟩, ⟨⟨rfl, rfl, .inr ⟨⟨⟨rfl, rfl, rfl, rfl, rfl⟩, rfl, trivial⟩, trivial⟩⟩, rfl, ⟨rfl, rfl, .inl ⟨_, rfl, rfl⟩⟩, trivial⟩⟩); done) | (refine cut_ (limF x l = (put1 x { ownR x.os l.who with warn := l.warn, lim := l.lim }, 0)) ?_ (fun hE => ?_); (focus (unfold limF; rw [hP, if_pos (by assumption)])); rw [hE]; refine endX_of (.inl ⟨[.old 0, .dead, .old 5], rfl, rfl, ⟨rfl, trivial⟩, ⟨⟨rfl, rfl, .inr ⟨⟨⟨rfl, rfl, rfl, rfl, rfl⟩, rfl, trivial⟩, trivial⟩⟩, rfl, ⟨rfl, rfl, .inl ⟨_, rfl, rfl⟩⟩, trivial⟩⟩); done))
    | (refine ⟨rfl, ?_⟩; conv => whnf)
    | fail
    )

theorem c88 (x : Quo) (hv : VQ x) (l : Lim) : Mv 88 [l.enc] x (limF x l).1 (.d (i (limF x l).2)) := by
  by_cases hA : l.warn = -1
  · exact c88a x hv l hA
  · by_cases hB : l.lim = -1
    · exact c88b x hv l hA hB
    · exact c88c x hv l hA hB

theorem c69_3 (x : Quo) (hv : VQ x) (a : Act) (hk : a.kind = 3) : Mv 69 [a.enc] x (doA x a).1 (.d (i (doA x a).2)) := by
  refine run_walkV eok Try.func69 rfl (by kernel_rfl) [0, 1] (by rfl) [] ?_
  conv => whnf
  repeat' (first
    | ((with_reducible refine on_dec_t (by assumption) ?_); conv => whnf)
    | ((with_reducible refine on_dec_f (by assumption) ?_); conv => whnf)
    | ((with_reducible refine onBool_t (by assumption) ?_); conv => whnf)
    | ((with_reducible refine onBool_f (by assumption) ?_); conv => whnf)
    | ((with_reducible refine on_nt (by assumption) ?_); conv => whnf)
    | ((with_reducible refine on_nf (by assumption) ?_); conv => whnf)
    | ((with_reducible refine on_ndec_t (by first | assumption | rfl) ?_); conv => whnf)
    | ((with_reducible refine on_ndec_f (by assumption) ?_); conv => whnf)
    | ((with_reducible refine on_dec_t rfl ?_); conv => whnf)
    | ((with_reducible refine on_ndec (fun h => ?_) (fun h => ?_)) <;> conv => whnf)
    | ((with_reducible refine on_dec_f ?_ ?_); (focus ((try simp only [List.length_map, List.length_cons, List.length_nil, List.length_append]); omega)); conv => whnf)
    | ((with_reducible refine on_dec_t ?_ ?_); (focus ((try simp only [List.length_map, List.length_cons, List.length_nil, List.length_append]); omega)); conv => whnf)
    | ((with_reducible refine on_dec (fun h => ?_) (fun h => ?_)) <;> (try simp only [List.length_map] at h) <;> conv => whnf)
    | ((with_reducible refine on_ndec (fun h => ?_) (fun h => ?_)) <;> (try simp only [List.length_map] at h) <;> conv => whnf)
    | ((with_reducible refine on_not (fun h => ?_) (fun h => ?_)) <;> conv => whnf)
    | ((with_reducible refine onBool_split (fun h => ?_) (fun h => ?_)) <;> conv => whnf)
    | ((with_reducible refine call_go ?_); (first | refine call_step (Mv.at (c88 x hv a.lim) rfl (fun _ => rfl) rfl rfl rfl (Nat.ne_of_beq_eq_false rfl) (vlc (view_agg (vlc rfl (vlc rfl (vlc rfl vln)))) vln) (fun j hj => absurd hj (List.not_mem_nil))) ?_ | refine call_step (run_view (c51 _) rfl rfl) ?_ | refine call_step (run_view (c50 [_, _] (by simp)) rfl rfl) ?_ | refine call_step (run_view (c50 [_, _, _, _, _] (by simp)) rfl rfl) ?_ | refine call_step (run_view (c50 [_, _, _, _, _, _] (by simp)) rfl rfl) ?_ | refine call_step (run_view (c53 _) rfl rfl) ?_ | refine call_step (Mv.at (c89 x hv t b hb) rfl (fun _ => rfl) rfl rfl rfl (Nat.ne_of_beq_eq_false rfl) (vlc rfl (vlc rfl vln)) (fun j hj => absurd hj (List.not_mem_nil))) ?_ | refine call_step (Mv.at (c90 (chg x t b).1 (chg_ok hv ht hb.1) w b hb) rfl (fun _ => rfl) rfl rfl rfl (Nat.ne_of_beq_eq_false rfl) (vlc rfl (vlc rfl vln)) (fun j hj => absurd hj (List.not_mem_nil))) ?_); conv => whnf)
    | (refine ⟨⟨(by first | rfl | (simp; done)), cap_ok (by simp only [List.length_map, List.length_cons, List.length_nil, List.length_append]; omega) rfl⟩, ?_⟩; conv => whnf)
    | (refine ⟨mem_one ⟨rfl, rfl⟩, ?_⟩; conv => whnf)
    | (refine ⟨(by intro y hy; obtain ⟨x, _, rfl⟩ := List.mem_map.1 hy; first | rfl | exact ⟨rfl, rfl⟩), ?_⟩; conv => whnf)
    | (refine ⟨cap_ok (by first | omega | (simp only [List.length_map]; omega)) rfl, ?_⟩; conv => whnf)
    | (refine ix_map (by omega) ?_; conv => whnf)
    | (refine ix_str (by omega) ?_; conv => whnf)
    | (refine wrap64 (by omega) ?_; conv => whnf)
    | (exfalso; simp only [List.length_map, List.length_cons, List.length_nil, List.length_append] at h; omega)
    | ((with_reducible refine endx_go ?_); first | (refine cut_ (doA x a = limF x a.lim) ?_ (fun hE => ?_); (focus (unfold doA; simp [*]; done)); rw [hE]; refine endX_of (.inl ⟨[.old 0, .dead, .old 3], rfl, rfl, ⟨rfl, trivial⟩, ⟨⟨rfl, rfl, .inr ⟨⟨⟨rfl, rfl, rfl, rfl, rfl⟩, rfl, trivial⟩, trivial⟩⟩, rfl, ⟨rfl, rfl, .inl ⟨_, rfl, rfl⟩⟩, trivial⟩⟩); done))
    | (refine ⟨rfl, ?_⟩; conv => whnf)
    | fail
    )

theorem c69_0 (x : Quo) (hv : VQ x) (a : Act) (hk : a.kind = 0) (h0 : actE a = 0) : Mv 69 [a.enc] x (doA x a).1 (.d (i (doA x a).2)) := by
  have hP : actE a = firstE [whoE a.who, numE a.bytes] := (by unfold actE; simp [hk]); obtain ⟨hw, ht, hb⟩ := actE_0 h0; have h0q := hP.symm.trans h0
  refine run_walkV eok Try.func69 rfl (by kernel_rfl) [0, 1] (by rfl) [] ?_
  conv => whnf
  repeat' (first
    | ((with_reducible refine on_dec_t (by assumption) ?_); conv => whnf)
    | ((with_reducible refine on_dec_f (by assumption) ?_); conv => whnf)
    | ((with_reducible refine onBool_t (by assumption) ?_); conv => whnf)
    | ((with_reducible refine onBool_f (by assumption) ?_); conv => whnf)
    | ((with_reducible refine on_nt (by assumption) ?_); conv => whnf)
    | ((with_reducible refine on_nf (by assumption) ?_); conv => whnf)
    | ((with_reducible refine on_ndec_t (by first | assumption | rfl) ?_); conv => whnf)
    | ((with_reducible refine on_ndec_f (by assumption) ?_); conv => whnf)
    | ((with_reducible refine on_dec_t rfl ?_); conv => whnf)
    | ((with_reducible refine on_ndec (fun h => ?_) (fun h => ?_)) <;> conv => whnf)
    | ((with_reducible refine on_dec_f ?_ ?_); (focus ((try simp only [List.length_map, List.length_cons, List.length_nil, List.length_append]); omega)); conv => whnf)
    | ((with_reducible refine on_dec_t ?_ ?_); (focus ((try simp only [List.length_map, List.length_cons, List.length_nil, List.length_append]); omega)); conv => whnf)
    | ((with_reducible refine on_dec (fun h => ?_) (fun h => ?_)) <;> (try simp only [List.length_map] at h) <;> conv => whnf)
    | ((with_reducible refine on_ndec (fun h => ?_) (fun h => ?_)) <;> (try simp only [List.length_map] at h) <;> conv => whnf)
    | ((with_reducible refine on_not (fun h => ?_) (fun h => ?_)) <;> conv => whnf)
    | ((with_reducible refine onBool_split (fun h => ?_) (fun h => ?_)) <;> conv => whnf)
    | ((with_reducible refine call_go ?_); (first | refine call_step (Mv.at (c88 x hv a.lim) rfl (fun _ => rfl) rfl rfl rfl (Nat.ne_of_beq_eq_false rfl) (vlc (view_agg (vlc rfl (vlc rfl (vlc rfl vln)))) vln) (fun j hj => absurd hj (List.not_mem_nil))) ?_ | refine call_step (run_view (c51 _) rfl rfl) ?_ | refine call_step (run_view (c50 [_, _] (by simp)) rfl rfl) ?_ | refine call_step (run_view (c50 [_, _, _, _, _] (by simp)) rfl rfl) ?_ | refine call_step (run_view (c50 [_, _, _, _, _, _] (by simp)) rfl rfl) ?_ | refine call_step (run_view (c53 _) rfl rfl) ?_ | refine call_step (Mv.at (c89 x hv a.who a.bytes hb) rfl (fun _ => rfl) rfl rfl rfl (Nat.ne_of_beq_eq_false rfl) (vlc rfl (vlc rfl vln)) (fun j hj => absurd hj (List.not_mem_nil))) ?_ | refine call_step (Mv.at (c90 x hv a.who a.bytes hb) rfl (fun _ => rfl) rfl rfl rfl (Nat.ne_of_beq_eq_false rfl) (vlc rfl (vlc rfl vln)) (fun j hj => absurd hj (List.not_mem_nil))) ?_ | refine call_step (Mv.at (c91 x hv a.who a.to a.bytes ht hb) rfl (fun _ => rfl) rfl rfl rfl (Nat.ne_of_beq_eq_false rfl) (vlc rfl (vlc rfl (vlc rfl vln))) (fun j hj => absurd hj (List.not_mem_nil))) ?_); conv => whnf)
    | (refine ⟨⟨(by first | rfl | (simp; done)), cap_ok (by simp only [List.length_map, List.length_cons, List.length_nil, List.length_append]; omega) rfl⟩, ?_⟩; conv => whnf)
    | (refine ⟨mem_one ⟨rfl, rfl⟩, ?_⟩; conv => whnf)
    | (refine ⟨(by intro y hy; obtain ⟨x, _, rfl⟩ := List.mem_map.1 hy; first | rfl | exact ⟨rfl, rfl⟩), ?_⟩; conv => whnf)
    | (refine ⟨cap_ok (by first | omega | (simp only [List.length_map]; omega)) rfl, ?_⟩; conv => whnf)
    | (refine ix_map (by omega) ?_; conv => whnf)
    | (refine ix_str (by omega) ?_; conv => whnf)
    | (refine wrap64 (by omega) ?_; conv => whnf)
    | (refine wrap64 (by omega) ?_; conv => whnf)
    | (exfalso; simp only [List.length_map, List.length_cons, List.length_nil, List.length_append] at h; omega)
    | ((with_reducible refine endx_go ?_); first | (refine cut_ (doA x a = chg x a.who a.bytes) ?_ (fun hE => ?_); (focus (unfold doA; simp [hk, h0]; done)); rw [hE]; refine endX_of (.inl ⟨[.old 0, .dead, .old 4], rfl, rfl, ⟨rfl, trivial⟩, ⟨⟨rfl, rfl, .inr ⟨⟨⟨rfl, rfl, rfl, rfl, rfl⟩, rfl, trivial⟩, trivial⟩⟩, rfl, ⟨rfl, rfl, .inl ⟨_, rfl, rfl⟩⟩, trivial⟩⟩); done))
    | (refine ⟨rfl, ?_⟩; conv => whnf)
    | fail
    )

theorem c69_0e (x : Quo) (hv : VQ x) (a : Act) (hk : a.kind = 0) (h0 : ¬ actE a = 0) : Mv 69 [a.enc] x (doA x a).1 (.d (i (doA x a).2)) := by
  have hP : actE a = firstE [whoE a.who, numE a.bytes] := (by unfold actE; simp [hk]); rw [hP] at h0
  refine run_walkV eok Try.func69 rfl (by kernel_rfl) [0, 1] (by rfl) [] ?_
  conv => whnf
  repeat' (first
    | ((with_reducible refine on_dec_t (by assumption) ?_); conv => whnf)
    | ((with_reducible refine on_dec_f (by assumption) ?_); conv => whnf)
    | ((with_reducible refine onBool_t (by assumption) ?_); conv => whnf)
    | ((with_reducible refine onBool_f (by assumption) ?_); conv => whnf)
    | ((with_reducible refine on_nt (by assumption) ?_); conv => whnf)
    | ((with_reducible refine on_nf (by assumption) ?_); conv => whnf)
    | ((with_reducible refine on_ndec_t (by first | assumption | rfl) ?_); conv => whnf)
    | ((with_reducible refine on_ndec_f (by assumption) ?_); conv => whnf)
    | ((with_reducible refine on_dec_t rfl ?_); conv => whnf)
    | ((with_reducible refine on_ndec (fun h => ?_) (fun h => ?_)) <;> conv => whnf)
    | ((with_reducible refine on_dec_f ?_ ?_); (focus ((try simp only [List.length_map, List.length_cons, List.length_nil, List.length_append]); omega)); conv => whnf)
    | ((with_reducible refine on_dec_t ?_ ?_); (focus ((try simp only [List.length_map, List.length_cons, List.length_nil, List.length_append]); omega)); conv => whnf)
    | ((with_reducible refine on_dec (fun h => ?_) (fun h => ?_)) <;> (try simp only [List.length_map] at h) <;> conv => whnf)
    | ((with_reducible refine on_ndec (fun h => ?_) (fun h => ?_)) <;> (try simp only [List.length_map] at h) <;> conv => whnf)
    | ((with_reducible refine on_not (fun h => ?_) (fun h => ?_)) <;> conv => whnf)
    | ((with_reducible refine onBool_split (fun h => ?_) (fun h => ?_)) <;> conv => whnf)
    | ((with_reducible refine call_go ?_); (first | refine call_step (Mv.at (c88 x hv a.lim) rfl (fun _ => rfl) rfl rfl rfl (Nat.ne_of_beq_eq_false rfl) (vlc (view_agg (vlc rfl (vlc rfl (vlc rfl vln)))) vln) (fun j hj => absurd hj (List.not_mem_nil))) ?_ | refine call_step (run_view (c51 _) rfl rfl) ?_ | refine call_step (run_view (c50 [_, _] (by simp)) rfl rfl) ?_ | refine call_step (run_view (c50 [_, _, _, _, _] (by simp)) rfl rfl) ?_ | refine call_step (run_view (c50 [_, _, _, _, _, _] (by simp)) rfl rfl) ?_ | refine call_step (run_view (c53 _) rfl rfl) ?_ | refine call_step (Mv.at (c89 x hv a.who a.bytes hb) rfl (fun _ => rfl) rfl rfl rfl (Nat.ne_of_beq_eq_false rfl) (vlc rfl (vlc rfl vln)) (fun j hj => absurd hj (List.not_mem_nil))) ?_ | refine call_step (Mv.at (c90 x hv a.who a.bytes hb) rfl (fun _ => rfl) rfl rfl rfl (Nat.ne_of_beq_eq_false rfl) (vlc rfl (vlc rfl vln)) (fun j hj => absurd hj (List.not_mem_nil))) ?_ | refine call_step (Mv.at (c91 x hv a.who a.to a.bytes ht hb) rfl (fun _ => rfl) rfl rfl rfl (Nat.ne_of_beq_eq_false rfl) (vlc rfl (vlc rfl (vlc rfl vln))) (fun j hj => absurd hj (List.not_mem_nil))) ?_); conv => whnf)
    | (refine ⟨⟨(by first | rfl | (simp; done)), cap_ok (by simp only [List.length_map, List.length_cons, List.length_nil, List.length_append]; omega) rfl⟩, ?_⟩; conv => whnf)
    | (refine ⟨mem_one ⟨rfl, rfl⟩, ?_⟩; conv => whnf)
    | (refine ⟨(by intro y hy; obtain ⟨x, _, rfl⟩ := List.mem_map.1 hy; first | rfl | exact ⟨rfl, rfl⟩), ?_⟩; conv => whnf)
    | (refine ⟨cap_ok (by first | omega | (simp only [List.length_map]; omega)) rfl, ?_⟩; conv => whnf)
    | (refine ix_map (by omega) ?_; conv => whnf)
    | (refine ix_str (by omega) ?_; conv => whnf)
    | (refine wrap64 (by omega) ?_; conv => whnf)
    | (refine wrap64 (by omega) ?_; conv => whnf)
    | (exfalso; simp only [List.length_map, List.length_cons, List.length_nil, List.length_append] at h; omega)
    | ((with_reducible refine endx_go ?_); first | (refine cut_ (doA x a = (x, firstE [whoE a.who, numE a.bytes])) ?_ (fun hE => ?_); (focus (unfold doA; rw [hP, if_neg (by omega), if_neg h0])); rw [hE]; refine endX_of (.inl ⟨[.old 0, .dead, .old 1], rfl, rfl, ⟨rfl, trivial⟩, ⟨⟨rfl, rfl, .inr ⟨⟨⟨rfl, rfl, rfl, rfl, rfl⟩, rfl, trivial⟩, trivial⟩⟩, rfl, ⟨rfl, rfl, .inl ⟨_, rfl, rfl⟩⟩, trivial⟩⟩); done))
    | (refine ⟨rfl, ?_⟩; conv => whnf)
    | fail
    )

theorem c69_1 (x : Quo) (hv : VQ x) (a : Act) (hk : a.kind = 1) (h0 : actE a = 0) : Mv 69 [a.enc] x (doA x a).1 (.d (i (doA x a).2)) := by
  have hP : actE a = firstE [whoE a.who, numE a.bytes] := (by unfold actE; simp [hk]); obtain ⟨hw, ht, hb⟩ := actE_0 h0; have h0q := hP.symm.trans h0
  refine run_walkV eok Try.func69 rfl (by kernel_rfl) [0, 1] (by rfl) [] ?_
  conv => whnf
  repeat' (first
    | ((with_reducible refine on_dec_t (by assumption) ?_); conv => whnf)
    | ((with_reducible refine on_dec_f (by assumption) ?_); conv => whnf)
    | ((with_reducible refine onBool_t (by assumption) ?_); conv => whnf)
    | ((with_reducible refine onBool_f (by assumption) ?_); conv => whnf)
    | ((with_reducible refine on_nt (by assumption) ?_); conv => whnf)
    | ((with_reducible refine on_nf (by assumption) ?_); conv => whnf)
    | ((with_reducible refine on_ndec_t (by first | assumption | rfl) ?_); conv => whnf)
    | ((with_reducible refine on_ndec_f (by assumption) ?_); conv => whnf)
    | ((with_reducible refine on_dec_t rfl ?_); conv => whnf)
    | ((with_reducible refine on_ndec (fun h => ?_) (fun h => ?_)) <;> conv => whnf)
    | ((with_reducible refine on_dec_f ?_ ?_); (focus ((try simp only [List.length_map, List.length_cons, List.length_nil, List.length_append]); omega)); conv => whnf)
    | ((with_reducible refine on_dec_t ?_ ?_); (focus ((try simp only [List.length_map, List.length_cons, List.length_nil, List.length_append]); omega)); conv => whnf)
    | ((with_reducible refine on_dec (fun h => ?_) (fun h => ?_)) <;> (try simp only [List.length_map] at h) <;> conv => whnf)
    | ((with_reducible refine on_ndec (fun h => ?_) (fun h => ?_)) <;> (try simp only [List.length_map] at h) <;> conv => whnf)
    | ((with_reducible refine on_not (fun h => ?_) (fun h => ?_)) <;> conv => whnf)
    | ((with_reducible refine onBool_split (fun h => ?_) (fun h => ?_)) <;> conv => whnf)
    | ((with_reducible refine call_go ?_); (first | refine call_step (Mv.at (c88 x hv a.lim) rfl (fun _ => rfl) rfl rfl rfl (Nat.ne_of_beq_eq_false rfl) (vlc (view_agg (vlc rfl (vlc rfl (vlc rfl vln)))) vln) (fun j hj => absurd hj (List.not_mem_nil))) ?_ | refine call_step (run_view (c51 _) rfl rfl) ?_ | refine call_step (run_view (c50 [_, _] (by simp)) rfl rfl) ?_ | refine call_step (run_view (c50 [_, _, _, _, _] (by simp)) rfl rfl) ?_ | refine call_step (run_view (c50 [_, _, _, _, _, _] (by simp)) rfl rfl) ?_ | refine call_step (run_view (c53 _) rfl rfl) ?_ | refine call_step (Mv.at (c89 x hv a.who a.bytes hb) rfl (fun _ => rfl) rfl rfl rfl (Nat.ne_of_beq_eq_false rfl) (vlc rfl (vlc rfl vln)) (fun j hj => absurd hj (List.not_mem_nil))) ?_ | refine call_step (Mv.at (c90 x hv a.who a.bytes hb) rfl (fun _ => rfl) rfl rfl rfl (Nat.ne_of_beq_eq_false rfl) (vlc rfl (vlc rfl vln)) (fun j hj => absurd hj (List.not_mem_nil))) ?_ | refine call_step (Mv.at (c91 x hv a.who a.to a.bytes ht hb) rfl (fun _ => rfl) rfl rfl rfl (Nat.ne_of_beq_eq_false rfl) (vlc rfl (vlc rfl (vlc rfl vln))) (fun j hj => absurd hj (List.not_mem_nil))) ?_); conv => whnf)
    | (refine ⟨⟨(by first | rfl | (simp; done)), cap_ok (by simp only [List.length_map, List.length_cons, List.length_nil, List.length_append]; omega) rfl⟩, ?_⟩; conv => whnf)
    | (refine ⟨mem_one ⟨rfl, rfl⟩, ?_⟩; conv => whnf)
    | (refine ⟨(by intro y hy; obtain ⟨x, _, rfl⟩ := List.mem_map.1 hy; first | rfl | exact ⟨rfl, rfl⟩), ?_⟩; conv => whnf)
    | (refine ⟨cap_ok (by first | omega | (simp only [List.length_map]; omega)) rfl, ?_⟩; conv => whnf)
    | (refine ix_map (by omega) ?_; conv => whnf)
    | (refine ix_str (by omega) ?_; conv => whnf)
    | (refine wrap64 (by omega) ?_; conv => whnf)
    | (refine wrap64 (by omega) ?_; conv => whnf)
    | (exfalso; simp only [List.length_map, List.length_cons, List.length_nil, List.length_append] at h; omega)
    | ((with_reducible refine endx_go ?_); first | (refine cut_ (doA x a = rls x a.who a.bytes) ?_ (fun hE => ?_); (focus (unfold doA; simp [hk, h0]; done)); rw [hE]; refine endX_of (.inl ⟨[.old 0, .dead, .old 4], rfl, rfl, ⟨rfl, trivial⟩, ⟨⟨rfl, rfl, .inr ⟨⟨⟨rfl, rfl, rfl, rfl, rfl⟩, rfl, trivial⟩, trivial⟩⟩, rfl, ⟨rfl, rfl, .inl ⟨_, rfl, rfl⟩⟩, trivial⟩⟩); done))
    | (refine ⟨rfl, ?_⟩; conv => whnf)
    | fail
    )

theorem c69_1e (x : Quo) (hv : VQ x) (a : Act) (hk : a.kind = 1) (h0 : ¬ actE a = 0) : Mv 69 [a.enc] x (doA x a).1 (.d (i (doA x a).2)) := by
  have hP : actE a = firstE [whoE a.who, numE a.bytes] := (by unfold actE; simp [hk]); rw [hP] at h0
  refine run_walkV eok Try.func69 rfl (by kernel_rfl) [0, 1] (by rfl) [] ?_
  conv => whnf
  repeat' (first
    | ((with_reducible refine on_dec_t (by assumption) ?_); conv => whnf)
    | ((with_reducible refine on_dec_f (by assumption) ?_); conv => whnf)
    | ((with_reducible refine onBool_t (by assumption) ?_); conv => whnf)
    | ((with_reducible refine onBool_f (by assumption) ?_); conv => whnf)
    | ((with_reducible refine on_nt (by assumption) ?_); conv => whnf)
    | ((with_reducible refine on_nf (by assumption) ?_); conv => whnf)
    | ((with_reducible refine on_ndec_t (by first | assumption | rfl) ?_); conv => whnf)
    | ((with_reducible refine on_ndec_f (by assumption) ?_); conv => whnf)
    | ((with_reducible refine on_dec_t rfl ?_); conv => whnf)
    | ((with_reducible refine on_ndec (fun h => ?_) (fun h => ?_)) <;> conv => whnf)
    | ((with_reducible refine on_dec_f ?_ ?_); (focus ((try simp only [List.length_map, List.length_cons, List.length_nil, List.length_append]); omega)); conv => whnf)
    | ((with_reducible refine on_dec_t ?_ ?_); (focus ((try simp only [List.length_map, List.length_cons, List.length_nil, List.length_append]); omega)); conv => whnf)
    | ((with_reducible refine on_dec (fun h => ?_) (fun h => ?_)) <;> (try simp only [List.length_map] at h) <;> conv => whnf)
    | ((with_reducible refine on_ndec (fun h => ?_) (fun h => ?_)) <;> (try simp only [List.length_map] at h) <;> conv => whnf)
    | ((with_reducible refine on_not (fun h => ?_) (fun h => ?_)) <;> conv => whnf)
    | ((with_reducible refine onBool_split (fun h => ?_) (fun h => ?_)) <;> conv => whnf)
    | ((with_reducible refine call_go ?_); (first | refine call_step (Mv.at (c88 x hv a.lim) rfl (fun _ => rfl) rfl rfl rfl (Nat.ne_of_beq_eq_false rfl) (vlc (view_agg (vlc rfl (vlc rfl (vlc rfl vln)))) vln) (fun j hj => absurd hj (List.not_mem_nil))) ?_ | refine call_step (run_view (c51 _) rfl rfl) ?_ | refine call_step (run_view (c50 [_, _] (by simp)) rfl rfl) ?_ | refine call_step (run_view (c50 [_, _, _, _, _] (by simp)) rfl rfl) ?_ | refine call_step (run_view (c50 [_, _, _, _, _, _] (by simp)) rfl rfl) ?_ | refine call_step (run_view (c53 _) rfl rfl) ?_ | refine call_step (Mv.at (c89 x hv a.who a.bytes hb) rfl (fun _ => rfl) rfl rfl rfl (Nat.ne_of_beq_eq_false rfl) (vlc rfl (vlc rfl vln)) (fun j hj => absurd hj (List.not_mem_nil))) ?_ | refine call_step (Mv.at (c90 x hv a.who a.bytes hb) rfl (fun _ => rfl) rfl rfl rfl (Nat.ne_of_beq_eq_false rfl) (vlc rfl (vlc rfl vln)) (fun j hj => absurd hj (List.not_mem_nil))) ?_ | refine call_step (Mv.at (c91 x hv a.who a.to a.bytes ht hb) rfl (fun _ => rfl) rfl rfl rfl (Nat.ne_of_beq_eq_false rfl) (vlc rfl (vlc rfl (vlc rfl vln))) (fun j hj => absurd hj (List.not_mem_nil))) ?_); conv => whnf)
    | (refine ⟨⟨(by first | rfl | (simp; done)), cap_ok (by simp only [List.length_map, List.length_cons, List.length_nil, List.length_append]; omega) rfl⟩, ?_⟩; conv => whnf)
    | (refine ⟨mem_one ⟨rfl, rfl⟩, ?_⟩; conv => whnf)
    | (refine ⟨(by intro y hy; obtain ⟨x, _, rfl⟩ := List.mem_map.1 hy; first | rfl | exact ⟨rfl, rfl⟩), ?_⟩; conv => whnf)
    | (refine ⟨cap_ok (by first | omega | (simp only [List.length_map]; omega)) rfl, ?_⟩; conv => whnf)
    | (refine ix_map (by omega) ?_; conv => whnf)
    | (refine ix_str (by omega) ?_; conv => whnf)
    | (refine wrap64 (by omega) ?_; conv => whnf)
    | (refine wrap64 (by omega) ?_; conv => whnf)
    | (exfalso; simp only [List.length_map, List.length_cons, List.length_nil, List.length_append] at h; omega)
    | ((with_reducible refine endx_go ?_); first | (refine cut_ (doA x a = (x, firstE [whoE a.who, numE a.bytes])) ?_ (fun hE => ?_); (focus (unfold doA; rw [hP, if_neg (by omega), if_neg h0])); rw [hE]; refine endX_of (.inl ⟨[.old 0, .dead, .old 1], rfl, rfl, ⟨rfl, trivial⟩, ⟨⟨rfl, rfl, .inr ⟨⟨⟨rfl, rfl, rfl, rfl, rfl⟩, rfl, trivial⟩, trivial⟩⟩, rfl, ⟨rfl, rfl, .inl ⟨_, rfl, rfl⟩⟩, trivial⟩⟩); done))
    | (refine ⟨rfl, ?_⟩; conv => whnf)
    | fail
    )

theorem c69_2 (x : Quo) (hv : VQ x) (a : Act) (hk : a.kind = 2) (h0 : actE a = 0) : Mv 69 [a.enc] x (doA x a).1 (.d (i (doA x a).2)) := by
  have hP : actE a = firstE [firstE [whoE a.who, whoE a.to], numE a.bytes] := (by unfold actE; simp [hk]); obtain ⟨hw, ht, hb⟩ := actE_0 h0; have h0q := hP.symm.trans h0; have ht := ht hk
  refine run_walkV eok Try.func69 rfl (by kernel_rfl) [0, 1] (by rfl) [] ?_
  conv => whnf
  repeat' (first
    | ((with_reducible refine on_dec_t (by assumption) ?_); conv => whnf)
    | ((with_reducible refine on_dec_f (by assumption) ?_); conv => whnf)
    | ((with_reducible refine onBool_t (by assumption) ?_); conv => whnf)
    | ((with_reducible refine onBool_f (by assumption) ?_); conv => whnf)
    | ((with_reducible refine on_nt (by assumption) ?_); conv => whnf)
    | ((with_reducible refine on_nf (by assumption) ?_); conv => whnf)
    | ((with_reducible refine on_ndec_t (by first | assumption | rfl) ?_); conv => whnf)
    | ((with_reducible refine on_ndec_f (by assumption) ?_); conv => whnf)
    | ((with_reducible refine on_dec_t rfl ?_); conv => whnf)
    | ((with_reducible refine on_ndec (fun h => ?_) (fun h => ?_)) <;> conv => whnf)
    | ((with_reducible refine on_dec_f ?_ ?_); (focus ((try simp only [List.length_map, List.length_cons, List.length_nil, List.length_append]); omega)); conv => whnf)
    | ((with_reducible refine on_dec_t ?_ ?_); (focus ((try simp only [List.length_map, List.length_cons, List.length_nil, List.length_append]); omega)); conv => whnf)
    | ((with_reducible refine on_dec (fun h => ?_) (fun h => ?_)) <;> (try simp only [List.length_map] at h) <;> conv => whnf)
    | ((with_reducible refine on_ndec (fun h => ?_) (fun h => ?_)) <;> (try simp only [List.length_map] at h) <;> conv => whnf)
    | ((with_reducible refine on_not (fun h => ?_) (fun h => ?_)) <;> conv => whnf)
    | ((with_reducible refine onBool_split (fun h => ?_) (fun h => ?_)) <;> conv => whnf)
    | ((with_reducible refine call_go ?_); (first | refine call_step (Mv.at (c88 x hv a.lim) rfl (fun _ => rfl) rfl rfl rfl (Nat.ne_of_beq_eq_false rfl) (vlc (view_agg (vlc rfl (vlc rfl (vlc rfl vln)))) vln) (fun j hj => absurd hj (List.not_mem_nil))) ?_ | refine call_step (run_view (c51 _) rfl rfl) ?_ | refine call_step (run_view (c50 [_, _] (by simp)) rfl rfl) ?_ | refine call_step (run_view (c50 [_, _, _, _, _] (by simp)) rfl rfl) ?_ | refine call_step (run_view (c50 [_, _, _, _, _, _] (by simp)) rfl rfl) ?_ | refine call_step (run_view (c53 _) rfl rfl) ?_ | refine call_step (Mv.at (c89 x hv a.who a.bytes hb) rfl (fun _ => rfl) rfl rfl rfl (Nat.ne_of_beq_eq_false rfl) (vlc rfl (vlc rfl vln)) (fun j hj => absurd hj (List.not_mem_nil))) ?_ | refine call_step (Mv.at (c90 x hv a.who a.bytes hb) rfl (fun _ => rfl) rfl rfl rfl (Nat.ne_of_beq_eq_false rfl) (vlc rfl (vlc rfl vln)) (fun j hj => absurd hj (List.not_mem_nil))) ?_ | refine call_step (Mv.at (c91 x hv a.who a.to a.bytes ht hb) rfl (fun _ => rfl) rfl rfl rfl (Nat.ne_of_beq_eq_false rfl) (vlc rfl (vlc rfl (vlc rfl vln))) (fun j hj => absurd hj (List.not_mem_nil))) ?_); conv => whnf)
    | (refine ⟨⟨(by first | rfl | (simp; done)), cap_ok (by simp only [List.length_map, List.length_cons, List.length_nil, List.length_append]; omega) rfl⟩, ?_⟩; conv => whnf)
    | (refine ⟨mem_one ⟨rfl, rfl⟩, ?_⟩; conv => whnf)
    | (refine ⟨(by intro y hy; obtain ⟨x, _, rfl⟩ := List.mem_map.1 hy; first | rfl | exact ⟨rfl, rfl⟩), ?_⟩; conv => whnf)
    | (refine ⟨cap_ok (by first | omega | (simp only [List.length_map]; omega)) rfl, ?_⟩; conv => whnf)
    | (refine ix_map (by omega) ?_; conv => whnf)
    | (refine ix_str (by omega) ?_; conv => whnf)
    | (refine wrap64 (by omega) ?_; conv => whnf)
    | (refine wrap64 (by omega) ?_; conv => whnf)
    | (exfalso; simp only [List.length_map, List.length_cons, List.length_nil, List.length_append] at h; omega)
    | ((with_reducible refine endx_go ?_); first | (refine cut_ (doA x a = mov x a.who a.to a.bytes) ?_ (fun hE => ?_); (focus (unfold doA; simp [hk, h0]; done)); rw [hE]; refine endX_of (.inl ⟨[.old 0, .dead, .old 5], rfl, rfl, ⟨rfl, trivial⟩, ⟨⟨rfl, rfl, .inr ⟨⟨⟨rfl, rfl, rfl, rfl, rfl⟩, rfl, trivial⟩, trivial⟩⟩, rfl, ⟨rfl, rfl, .inl ⟨_, rfl, rfl⟩⟩, trivial⟩⟩); done))
    | (refine ⟨rfl, ?_⟩; conv => whnf)
    | fail
    )

theorem c69_2e (x : Quo) (hv : VQ x) (a : Act) (hk : a.kind = 2) (h0 : ¬ actE a = 0) : Mv 69 [a.enc] x (doA x a).1 (.d (i (doA x a).2)) := by
  have hP : actE a = firstE [firstE [whoE a.who, whoE a.to], numE a.bytes] := (by unfold actE; simp [hk]); rw [hP] at h0
  refine run_walkV eok Try.func69 rfl (by kernel_rfl) [0, 1] (by rfl) [] ?_
  conv => whnf
  repeat' (first
    | ((with_reducible refine on_dec_t (by assumption) ?_); conv => whnf)
    | ((with_reducible refine on_dec_f (by assumption) ?_); conv => whnf)
    | ((with_reducible refine onBool_t (by assumption) ?_); conv => whnf)
    | ((with_reducible refine onBool_f (by assumption) ?_); conv => whnf)
    | ((with_reducible refine on_nt (by assumption) ?_); conv => whnf)
    | ((with_reducible refine on_nf (by assumption) ?_); conv => whnf)
    | ((with_reducible refine on_ndec_t (by first | assumption | rfl) ?_); conv => whnf)
    | ((with_reducible refine on_ndec_f (by assumption) ?_); conv => whnf)
    | ((with_reducible refine on_dec_t rfl ?_); conv => whnf)
    | ((with_reducible refine on_ndec (fun h => ?_) (fun h => ?_)) <;> conv => whnf)
    | ((with_reducible refine on_dec_f ?_ ?_); (focus ((try simp only [List.length_map, List.length_cons, List.length_nil, List.length_append]); omega)); conv => whnf)
    | ((with_reducible refine on_dec_t ?_ ?_); (focus ((try simp only [List.length_map, List.length_cons, List.length_nil, List.length_append]); omega)); conv => whnf)
    | ((with_reducible refine on_dec (fun h => ?_) (fun h => ?_)) <;> (try simp only [List.length_map] at h) <;> conv => whnf)
    | ((with_reducible refine on_ndec (fun h => ?_) (fun h => ?_)) <;> (try simp only [List.length_map] at h) <;> conv => whnf)
    | ((with_reducible refine on_not (fun h => ?_) (fun h => ?_)) <;> conv => whnf)
    | ((with_reducible refine onBool_split (fun h => ?_) (fun h => ?_)) <;> conv => whnf)
    | ((with_reducible refine call_go ?_); (first | refine call_step (Mv.at (c88 x hv a.lim) rfl (fun _ => rfl) rfl rfl rfl (Nat.ne_of_beq_eq_false rfl) (vlc (view_agg (vlc rfl (vlc rfl (vlc rfl vln)))) vln) (fun j hj => absurd hj (List.not_mem_nil))) ?_ | refine call_step (run_view (c51 _) rfl rfl) ?_ | refine call_step (run_view (c50 [_, _] (by simp)) rfl rfl) ?_ | refine call_step (run_view (c50 [_, _, _, _, _] (by simp)) rfl rfl) ?_ | refine call_step (run_view (c50 [_, _, _, _, _, _] (by simp)) rfl rfl) ?_ | refine call_step (run_view (c53 _) rfl rfl) ?_ | refine call_step (Mv.at (c89 x hv a.who a.bytes hb) rfl (fun _ => rfl) rfl rfl rfl (Nat.ne_of_beq_eq_false rfl) (vlc rfl (vlc rfl vln)) (fun j hj => absurd hj (List.not_mem_nil))) ?_ | refine call_step (Mv.at (c90 x hv a.who a.bytes hb) rfl (fun _ => rfl) rfl rfl rfl (Nat.ne_of_beq_eq_false rfl) (vlc rfl (vlc rfl vln)) (fun j hj => absurd hj (List.not_mem_nil))) ?_ | refine call_step (Mv.at (c91 x hv a.who a.to a.bytes ht hb) rfl (fun _ => rfl) rfl rfl rfl (Nat.ne_of_beq_eq_false rfl) (vlc rfl (vlc rfl (vlc rfl vln))) (fun j hj => absurd hj (List.not_mem_nil))) ?_); conv => whnf)
    | (refine ⟨⟨(by first | rfl | (simp; done)), cap_ok (by simp only [List.length_map, List.length_cons, List.length_nil, List.length_append]; omega) rfl⟩, ?_⟩; conv => whnf)
    | (refine ⟨mem_one ⟨rfl, rfl⟩, ?_⟩; conv => whnf)
    | (refine ⟨(by intro y hy; obtain ⟨x, _, rfl⟩ := List.mem_map.1 hy; first | rfl | exact ⟨rfl, rfl⟩), ?_⟩; conv => whnf)
    | (refine ⟨cap_ok (by first | omega | (simp only [List.length_map]; omega)) rfl, ?_⟩; conv => whnf)
    | (refine ix_map (by omega) ?_; conv => whnf)
    | (refine ix_str (by omega) ?_; conv => whnf)
    | (refine wrap64 (by omega) ?_; conv => whnf)
    | (refine wrap64 (by omega) ?_; conv => whnf)
    | (exfalso; simp only [List.length_map, List.length_cons, List.length_nil, List.length_append] at h; omega)
    | ((with_reducible refine endx_go ?_); first | (refine cut_ (doA x a = (x, firstE [firstE [whoE a.who, whoE a.to], numE a.bytes])) ?_ (fun hE => ?_); (focus (unfold doA; rw [hP, if_neg (by omega), if_neg h0])); rw [hE]; refine endX_of (.inl ⟨[.old 0, .dead, .old 1], rfl, rfl, ⟨rfl, trivial⟩, ⟨⟨rfl, rfl, .inr ⟨⟨⟨rfl, rfl, rfl, rfl, rfl⟩, rfl, trivial⟩, trivial⟩⟩, rfl, ⟨rfl, rfl, .inl ⟨_, rfl, rfl⟩⟩, trivial⟩⟩); done))
    | (refine ⟨rfl, ?_⟩; conv => whnf)
    | fail
    )

theorem c69 (x : Quo) (hv : VQ x) (a : Act) (hk : kindOk a) : Mv 69 [a.enc] x (doA x a).1 (.d (i (doA x a).2)) := by
  by_cases h0 : actE a = 0
  · rcases hk with hk | hk | hk | hk
    · exact c69_0 x hv a hk h0
    · exact c69_1 x hv a hk h0
    · exact c69_2 x hv a hk h0
    · exact c69_3 x hv a hk
  · rcases hk with hk | hk | hk | hk
    · exact c69_0e x hv a hk h0
    · exact c69_1e x hv a hk h0
    · exact c69_2e x hv a hk h0
    · exact c69_3 x hv a hk

end Go.Proofs.Ytolfkcmdfgakkaa

/-! Wf -/
namespace Go.Proofs.Ytolfkcmdfgakkaa
open Go Dw
set_option maxRecDepth 10000
set_option linter.unusedVariables false
set_option linter.unusedSimpArgs false
attribute [local irreducible] Run
set_option maxHeartbeats 4000000

attribute [local irreducible] oE checkQ cnt isR ownR withR bsR fullQ put1 chg rls mov limErr limF actE doA resQ aftQ whoE limE numE goMin
theorem run_dataV {f : Nat} {xs : List D} {r : D} {args : List AV} {H : Heap} (hf : Run Try.prog f (xs.map .d) [] (.d r) []) (hv : vl (view 8 H) args = some xs) (hre : args.flatMap (reach 8 H) = []) : Run Try.prog f args H (.d r) H := by
  have := run_viewF hf hv
  rw [hre] at this
  exact this
theorem cl86r (l : List Own) (hl : l.length < 1000000) (H : Heap) : Run Try.prog 86 [.d (.fs (l.map Own.enc))] H (.sl H.length 0 (l.map Own.enc).length 5 none) (H ++ [rO l]) :=
  run_clone cl86 rfl (by rw [List.length_map]; exact hl) (own_ok l).1 (own_ok l).2

theorem c64o (x : Quo) (hx : x.os.length < 1000) (hq : (checkQ x).2 = 0) : Run Try.prog 64 [.d x.enc] [] (.tup [.ptr 0 0 0, .d (i 0)]) [qO x.enf x.os.length 1, rO x.os] := by
  refine run_walkV eok Try.func64 rfl (by kernel_rfl) [] (by rfl) [] ?_
  conv => whnf
  repeat' (first
    | ((with_reducible refine on_dec_t (by assumption) ?_); conv => whnf)
    | ((with_reducible refine on_dec_f (by assumption) ?_); conv => whnf)
    | ((with_reducible refine onBool_t (by assumption) ?_); conv => whnf)
    | ((with_reducible refine onBool_f (by assumption) ?_); conv => whnf)
    | ((with_reducible refine on_nt (by assumption) ?_); conv => whnf)
    | ((with_reducible refine on_nf (by assumption) ?_); conv => whnf)
    | ((with_reducible refine on_ndec_t (by first | assumption | rfl) ?_); conv => whnf)
    | ((with_reducible refine on_ndec_f (by assumption) ?_); conv => whnf)
    | ((with_reducible refine on_dec_t rfl ?_); conv => whnf)
    | ((with_reducible refine on_ndec (fun h => ?_) (fun h => ?_)) <;> conv => whnf)
    | ((with_reducible refine on_dec_f ?_ ?_); (focus ((try simp only [List.length_map, List.length_cons, List.length_nil, List.length_append]); omega)); conv => whnf)
    | ((with_reducible refine on_dec_t ?_ ?_); (focus ((try simp only [List.length_map, List.length_cons, List.length_nil, List.length_append]); omega)); conv => whnf)
    | ((with_reducible refine on_dec (fun h => ?_) (fun h => ?_)) <;> (try simp only [List.length_map] at h) <;> conv => whnf)
    | ((with_reducible refine on_ndec (fun h => ?_) (fun h => ?_)) <;> (try simp only [List.length_map] at h) <;> conv => whnf)
    | ((with_reducible refine on_not (fun h => ?_) (fun h => ?_)) <;> conv => whnf)
    | ((with_reducible refine onBool_split (fun h => ?_) (fun h => ?_)) <;> conv => whnf)
    | ((with_reducible refine call_go ?_); (first | refine call_step (run_data (c14 x hx) _) ?_ | refine call_step (cl86r x.os (by omega) _) ?_); conv => whnf)
    | (refine ⟨⟨(by first | rfl | (simp; done)), cap_ok (by simp only [List.length_map, List.length_cons, List.length_nil, List.length_append]; omega) rfl⟩, ?_⟩; conv => whnf)
    | (refine ⟨mem_one ⟨rfl, rfl⟩, ?_⟩; conv => whnf)
    | (refine ⟨(by intro y hy; obtain ⟨x, _, rfl⟩ := List.mem_map.1 hy; first | rfl | exact ⟨rfl, rfl⟩), ?_⟩; conv => whnf)
    | (refine ⟨cap_ok (by first | omega | (simp only [List.length_map]; omega)) rfl, ?_⟩; conv => whnf)
    | (refine ix_map (by omega) ?_; conv => whnf)
    | (refine ix_str (by omega) ?_; conv => whnf)
    | (refine wrap64 (by omega) ?_; conv => whnf)
    | (exfalso; simp only [List.length_map, List.length_cons, List.length_nil, List.length_append] at h; omega)
    | ((with_reducible refine endx_go ?_); first | (refine endX_of (.inl ⟨[.old 2, .old 1], rfl, rfl, ⟨⟨⟨rfl, rfl, rfl⟩, rfl, trivial⟩, trivial⟩, ⟨⟨rfl, rfl, .inr ⟨⟨⟨rfl, rfl, (by rw [List.length_map]), rfl, rfl⟩, rfl, trivial⟩, trivial⟩⟩, ⟨rfl, rfl, .inl ⟨_, rfl, rfl⟩⟩, trivial⟩⟩); done))
    | (refine ⟨rfl, ?_⟩; conv => whnf)
    | fail
    )

theorem c64e (x : Quo) (hx : x.os.length < 1000) (hq : ¬ (checkQ x).2 = 0) : Run Try.prog 64 [.d x.enc] [] (.tup [.raw (.pointer none), .d (i (checkQ x).2)]) [] := by
  refine run_walkV eok Try.func64 rfl (by kernel_rfl) [] (by rfl) [] ?_
  conv => whnf
  repeat' (first
    | ((with_reducible refine on_dec_t (by assumption) ?_); conv => whnf)
    | ((with_reducible refine on_dec_f (by assumption) ?_); conv => whnf)
    | ((with_reducible refine onBool_t (by assumption) ?_); conv => whnf)
    | ((with_reducible refine onBool_f (by assumption) ?_); conv => whnf)
    | ((with_reducible refine on_nt (by assumption) ?_); conv => whnf)
    | ((with_reducible refine on_nf (by assumption) ?_); conv => whnf)
    | ((with_reducible refine on_ndec_t (by first | assumption | rfl) ?_); conv => whnf)
    | ((with_reducible refine on_ndec_f (by assumption) ?_); conv => whnf)
    | ((with_reducible refine on_dec_t rfl ?_); conv => whnf)
    | ((with_reducible refine on_ndec (fun h => ?_) (fun h => ?_)) <;> conv => whnf)
    | ((with_reducible refine on_dec_f ?_ ?_); (focus ((try simp only [List.length_map, List.length_cons, List.length_nil, List.length_append]); omega)); conv => whnf)
    | ((with_reducible refine on_dec_t ?_ ?_); (focus ((try simp only [List.length_map, List.length_cons, List.length_nil, List.length_append]); omega)); conv => whnf)
    | ((with_reducible refine on_dec (fun h => ?_) (fun h => ?_)) <;> (try simp only [List.length_map] at h) <;> conv => whnf)
    | ((with_reducible refine on_ndec (fun h => ?_) (fun h => ?_)) <;> (try simp only [List.length_map] at h) <;> conv => whnf)
    | ((with_reducible refine on_not (fun h => ?_) (fun h => ?_)) <;> conv => whnf)
    | ((with_reducible refine onBool_split (fun h => ?_) (fun h => ?_)) <;> conv => whnf)
    | ((with_reducible refine call_go ?_); (first | refine call_step (run_data (c14 x hx) _) ?_ | refine call_step (cl86r x.os (by omega) _) ?_); conv => whnf)
    | (refine ⟨⟨(by first | rfl | (simp; done)), cap_ok (by simp only [List.length_map, List.length_cons, List.length_nil, List.length_append]; omega) rfl⟩, ?_⟩; conv => whnf)
    | (refine ⟨mem_one ⟨rfl, rfl⟩, ?_⟩; conv => whnf)
    | (refine ⟨(by intro y hy; obtain ⟨x, _, rfl⟩ := List.mem_map.1 hy; first | rfl | exact ⟨rfl, rfl⟩), ?_⟩; conv => whnf)
    | (refine ⟨cap_ok (by first | omega | (simp only [List.length_map]; omega)) rfl, ?_⟩; conv => whnf)
    | (refine ix_map (by omega) ?_; conv => whnf)
    | (refine ix_str (by omega) ?_; conv => whnf)
    | (refine wrap64 (by omega) ?_; conv => whnf)
    | (exfalso; simp only [List.length_map, List.length_cons, List.length_nil, List.length_append] at h; omega)
    | ((with_reducible refine endx_go ?_); first | (refine endX_of (.inl ⟨[], rfl, rfl, ⟨⟨rfl, rfl, trivial⟩, trivial⟩, trivial⟩); done))
    | (refine ⟨rfl, ?_⟩; conv => whnf)
    | fail
    )

theorem c64r (x : Quo) (hx : x.os.length < 1000) (hq : (checkQ x).2 = 0) (H : Heap) : Run Try.prog 64 [.d x.enc] H (.tup [.ptr H.length 0 0, .d (i 0)]) (H ++ [qO x.enf x.os.length (H.length + 1), rO x.os]) := by
  refine run_at (σ := []) (F := []) (fl := true) (c64o x hx hq) List.nodup_nil (fun _ _ h => by cases h) ⟨⟨rfl, fun id hid => by simp [reach] at hid⟩, trivial⟩ (by simp [embH]) (fun _ => ⟨rfl, fun o ho => ?_⟩) ?_ ?_
  · simp only [List.mem_cons, List.not_mem_nil, or_false] at ho
    rcases ho with rfl | rfl
    · exact ⟨rfl, Nat.zero_ne_one⟩
    · exact ⟨flats_map _ (own_ok x.os).2, Nat.zero_ne_one⟩
  · simp [ren, rens, tau]
  · simp only [outH, setAll, List.length_nil, List.drop_zero, List.map_cons, List.map_nil, if_true]
    have e2 : renO (tau [] H.length) (rO x.os) = rO x.os := by unfold renO rO; rw [rens_D]
    rw [e2]; rfl
theorem c64n (x : Quo) (hx : x.os.length < 1000) (hq : ¬ (checkQ x).2 = 0) (H : Heap) : Run Try.prog 64 [.d x.enc] H (.tup [.raw (.pointer none), .d (i (checkQ x).2)]) H := by
  refine run_at (σ := []) (F := []) (fl := true) (c64e x hx hq) List.nodup_nil (fun _ _ h => by cases h) ⟨⟨rfl, fun id hid => by simp [reach] at hid⟩, trivial⟩ (by simp [embH]) (fun _ => ⟨rfl, fun o ho => by cases ho⟩) rfl (by simp [outH, setAll])
theorem aft_e {x : Quo} {a : Act} (hq : ¬ (checkQ x).2 = 0) : aftQ x a = (emp, (checkQ x).2) := by unfold aftQ; rw [if_neg hq]
theorem aft_0 {x : Quo} {a : Act} (hq : (checkQ x).2 = 0) (h : (doA x a).2 = 0 ∨ (doA x a).2 = 33) : aftQ x a = doA x a := by unfold aftQ resQ; rw [if_pos hq, if_pos h]
theorem aft_n {x : Quo} {a : Act} (hq : (checkQ x).2 = 0) (h : ¬ (doA x a).2 = 0) (h2 : ¬ (doA x a).2 = 33) : aftQ x a = (emp, (doA x a).2) := by unfold aftQ resQ; rw [if_pos hq, if_neg (by omega)]

theorem c56e (x : Quo) (hx : x.os.length < 1000) (a : Act) (hk : kindOk a) (hq : ¬ (checkQ x).2 = 0) : Fn 56 [x.enc, a.enc] (.tup [(aftQ x a).1.enc, i (aftQ x a).2]) := by
  refine run_walkF eok Try.func56 rfl (by kernel_rfl) ?_
  conv => whnf
  repeat' (first
    | ((with_reducible refine on_dec_t (by assumption) ?_); conv => whnf)
    | ((with_reducible refine on_dec_f (by assumption) ?_); conv => whnf)
    | ((with_reducible refine onBool_t (by assumption) ?_); conv => whnf)
    | ((with_reducible refine onBool_f (by assumption) ?_); conv => whnf)
    | ((with_reducible refine on_nt (by assumption) ?_); conv => whnf)
    | ((with_reducible refine on_nf (by assumption) ?_); conv => whnf)
    | ((with_reducible refine on_ndec_t (by first | assumption | rfl) ?_); conv => whnf)
    | ((with_reducible refine on_ndec_f (by assumption) ?_); conv => whnf)
    | ((with_reducible refine on_dec_t rfl ?_); conv => whnf)
    | ((with_reducible refine on_ndec (fun h => ?_) (fun h => ?_)) <;> conv => whnf)
    | ((with_reducible refine on_dec_f ?_ ?_); (focus ((try simp only [List.length_map, List.length_cons, List.length_nil, List.length_append]); omega)); conv => whnf)
    | ((with_reducible refine on_dec_t ?_ ?_); (focus ((try simp only [List.length_map, List.length_cons, List.length_nil, List.length_append]); omega)); conv => whnf)
    | ((with_reducible refine on_dec (fun h => ?_) (fun h => ?_)) <;> (try simp only [List.length_map] at h) <;> conv => whnf)
    | ((with_reducible refine on_ndec (fun h => ?_) (fun h => ?_)) <;> (try simp only [List.length_map] at h) <;> conv => whnf)
    | ((with_reducible refine on_not (fun h => ?_) (fun h => ?_)) <;> conv => whnf)
    | ((with_reducible refine onBool_split (fun h => ?_) (fun h => ?_)) <;> conv => whnf)
    | ((with_reducible refine call_go ?_); (first | refine call_step (c64r x hx hq _) ?_ | refine call_step (c64n x hx hq _) ?_ | refine call_step (Mv.at (c69 x ((checkQ_iff x).1 hq) a hk) rfl (fun _ => rfl) rfl rfl rfl (Nat.ne_of_beq_eq_false rfl) (vlc rfl vln) (fun j hj => absurd hj (List.not_mem_nil))) ?_); conv => whnf)
    | (refine ⟨⟨(by first | rfl | (simp; done)), cap_ok (by simp only [List.length_map, List.length_cons, List.length_nil, List.length_append]; omega) rfl⟩, ?_⟩; conv => whnf)
    | (refine ⟨mem_one ⟨rfl, rfl⟩, ?_⟩; conv => whnf)
    | (refine ⟨(by intro y hy; obtain ⟨x, _, rfl⟩ := List.mem_map.1 hy; first | rfl | exact ⟨rfl, rfl⟩), ?_⟩; conv => whnf)
    | (refine ⟨cap_ok (by first | omega | (simp only [List.length_map]; omega)) rfl, ?_⟩; conv => whnf)
    | (refine ix_map (by omega) ?_; conv => whnf)
    | (refine ix_str (by omega) ?_; conv => whnf)
    | (refine wrap64 (by omega) ?_; conv => whnf)
    | (exfalso; simp only [List.length_map, List.length_cons, List.length_nil, List.length_append] at h; omega)
    | ((with_reducible refine endx_go ?_); first | (refine endxv (view_tup (vlc (view_agg (vlc rfl (vlc rfl vln))) (vlc rfl vln))) ?_; (rw [aft_e hq]) <;> rfl; done))
    | (refine ⟨rfl, ?_⟩; conv => whnf)
    | fail
    )

theorem c56a (x : Quo) (hx : x.os.length < 1000) (a : Act) (hk : kindOk a) (hq : (checkQ x).2 = 0) (h : (doA x a).2 = 0) : Fn 56 [x.enc, a.enc] (.tup [(aftQ x a).1.enc, i (aftQ x a).2]) := by
  refine run_walkF eok Try.func56 rfl (by kernel_rfl) ?_
  conv => whnf
  repeat' (first
    | ((with_reducible refine on_dec_t (by assumption) ?_); conv => whnf)
    | ((with_reducible refine on_dec_f (by assumption) ?_); conv => whnf)
    | ((with_reducible refine onBool_t (by assumption) ?_); conv => whnf)
    | ((with_reducible refine onBool_f (by assumption) ?_); conv => whnf)
    | ((with_reducible refine on_nt (by assumption) ?_); conv => whnf)
    | ((with_reducible refine on_nf (by assumption) ?_); conv => whnf)
    | ((with_reducible refine on_ndec_t (by first | assumption | rfl) ?_); conv => whnf)
    | ((with_reducible refine on_ndec_f (by assumption) ?_); conv => whnf)
    | ((with_reducible refine on_dec_t rfl ?_); conv => whnf)
    | ((with_reducible refine on_ndec (fun h => ?_) (fun h => ?_)) <;> conv => whnf)
    | ((with_reducible refine on_dec_f ?_ ?_); (focus ((try simp only [List.length_map, List.length_cons, List.length_nil, List.length_append]); omega)); conv => whnf)
    | ((with_reducible refine on_dec_t ?_ ?_); (focus ((try simp only [List.length_map, List.length_cons, List.length_nil, List.length_append]); omega)); conv => whnf)
    | ((with_reducible refine on_dec (fun h => ?_) (fun h => ?_)) <;> (try simp only [List.length_map] at h) <;> conv => whnf)
    | ((with_reducible refine on_ndec (fun h => ?_) (fun h => ?_)) <;> (try simp only [List.length_map] at h) <;> conv => whnf)
    | ((with_reducible refine on_not (fun h => ?_) (fun h => ?_)) <;> conv => whnf)
    | ((with_reducible refine onBool_split (fun h => ?_) (fun h => ?_)) <;> conv => whnf)
    | ((with_reducible refine call_go ?_); (first | refine call_step (c64r x hx hq _) ?_ | refine call_step (c64n x hx hq _) ?_ | refine call_step (Mv.at (c69 x ((checkQ_iff x).1 hq) a hk) rfl (fun _ => rfl) rfl rfl rfl (Nat.ne_of_beq_eq_false rfl) (vlc rfl vln) (fun j hj => absurd hj (List.not_mem_nil))) ?_); conv => whnf)
    | (refine ⟨⟨(by first | rfl | (simp; done)), cap_ok (by simp only [List.length_map, List.length_cons, List.length_nil, List.length_append]; omega) rfl⟩, ?_⟩; conv => whnf)
    | (refine ⟨mem_one ⟨rfl, rfl⟩, ?_⟩; conv => whnf)
    | (refine ⟨(by intro y hy; obtain ⟨x, _, rfl⟩ := List.mem_map.1 hy; first | rfl | exact ⟨rfl, rfl⟩), ?_⟩; conv => whnf)
    | (refine ⟨cap_ok (by first | omega | (simp only [List.length_map]; omega)) rfl, ?_⟩; conv => whnf)
    | (refine ix_map (by omega) ?_; conv => whnf)
    | (refine ix_str (by omega) ?_; conv => whnf)
    | (refine wrap64 (by omega) ?_; conv => whnf)
    | (exfalso; simp only [List.length_map, List.length_cons, List.length_nil, List.length_append] at h; omega)
    | ((with_reducible refine endx_go ?_); first | (refine endxv (view_tup (vlc (view_agg (vlc (view_map rfl Nat.two_pos) (vlc rfl vln))) (vlc rfl vln))) ?_; (rw [aft_0 hq (.inl h)]) <;> rfl; done))
    | (refine ⟨rfl, ?_⟩; conv => whnf)
    | fail
    )

theorem c56b (x : Quo) (hx : x.os.length < 1000) (a : Act) (hk : kindOk a) (hq : (checkQ x).2 = 0) (h : ¬ (doA x a).2 = 0) (h2 : (doA x a).2 = 33) : Fn 56 [x.enc, a.enc] (.tup [(aftQ x a).1.enc, i (aftQ x a).2]) := by
  refine run_walkF eok Try.func56 rfl (by kernel_rfl) ?_
  conv => whnf
  repeat' (first
    | ((with_reducible refine on_dec_t (by assumption) ?_); conv => whnf)
    | ((with_reducible refine on_dec_f (by assumption) ?_); conv => whnf)
    | ((with_reducible refine onBool_t (by assumption) ?_); conv => whnf)
    | ((with_reducible refine onBool_f (by assumption) ?_); conv => whnf)
    | ((with_reducible refine on_nt (by assumption) ?_); conv => whnf)
    | ((with_reducible refine on_nf (by assumption) ?_); conv => whnf)
    | ((with_reducible refine on_ndec_t (by first | assumption | rfl) ?_); conv => whnf)
    | ((with_reducible refine on_ndec_f (by assumption) ?_); conv => whnf)
    | ((with_reducible refine on_dec_t rfl ?_); conv => whnf)
    | ((with_reducible refine on_ndec (fun h => ?_) (fun h => ?_)) <;> conv => whnf)
    | ((with_reducible refine on_dec_f ?_ ?_); (focus ((try simp only [List.length_map, List.length_cons, List.length_nil, List.length_append]); omega)); conv => whnf)
    | ((with_reducible refine on_dec_t ?_ ?_); (focus ((try simp only [List.length_map, List.length_cons, List.length_nil, List.length_append]); omega)); conv => whnf)
    | ((with_reducible refine on_dec (fun h => ?_) (fun h => ?_)) <;> (try simp only [List.length_map] at h) <;> conv => whnf)
    | ((with_reducible refine on_ndec (fun h => ?_) (fun h => ?_)) <;> (try simp only [List.length_map] at h) <;> conv => whnf)
    | ((with_reducible refine on_not (fun h => ?_) (fun h => ?_)) <;> conv => whnf)
    | ((with_reducible refine onBool_split (fun h => ?_) (fun h => ?_)) <;> conv => whnf)
    | ((with_reducible refine call_go ?_); (first | refine call_step (c64r x hx hq _) ?_ | refine call_step (c64n x hx hq _) ?_ | refine call_step (Mv.at (c69 x ((checkQ_iff x).1 hq) a hk) rfl (fun _ => rfl) rfl rfl rfl (Nat.ne_of_beq_eq_false rfl) (vlc rfl vln) (fun j hj => absurd hj (List.not_mem_nil))) ?_); conv => whnf)
    | (refine ⟨⟨(by first | rfl | (simp; done)), cap_ok (by simp only [List.length_map, List.length_cons, List.length_nil, List.length_append]; omega) rfl⟩, ?_⟩; conv => whnf)
    | (refine ⟨mem_one ⟨rfl, rfl⟩, ?_⟩; conv => whnf)
    | (refine ⟨(by intro y hy; obtain ⟨x, _, rfl⟩ := List.mem_map.1 hy; first | rfl | exact ⟨rfl, rfl⟩), ?_⟩; conv => whnf)
    | (refine ⟨cap_ok (by first | omega | (simp only [List.length_map]; omega)) rfl, ?_⟩; conv => whnf)
    | (refine ix_map (by omega) ?_; conv => whnf)
    | (refine ix_str (by omega) ?_; conv => whnf)
    | (refine wrap64 (by omega) ?_; conv => whnf)
    | (exfalso; simp only [List.length_map, List.length_cons, List.length_nil, List.length_append] at h; omega)
    | ((with_reducible refine endx_go ?_); first | (refine endxv (view_tup (vlc (view_agg (vlc (view_map rfl Nat.two_pos) (vlc rfl vln))) (vlc rfl vln))) ?_; (rw [aft_0 hq (.inr h2)]) <;> rfl; done))
    | (refine ⟨rfl, ?_⟩; conv => whnf)
    | fail
    )

theorem c56c (x : Quo) (hx : x.os.length < 1000) (a : Act) (hk : kindOk a) (hq : (checkQ x).2 = 0) (h : ¬ (doA x a).2 = 0) (h2 : ¬ (doA x a).2 = 33) : Fn 56 [x.enc, a.enc] (.tup [(aftQ x a).1.enc, i (aftQ x a).2]) := by
  refine run_walkF eok Try.func56 rfl (by kernel_rfl) ?_
  conv => whnf
  repeat' (first
    | ((with_reducible refine on_dec_t (by assumption) ?_); conv => whnf)
    | ((with_reducible refine on_dec_f (by assumption) ?_); conv => whnf)
    | ((with_reducible refine onBool_t (by assumption) ?_); conv => whnf)
    | ((with_reducible refine onBool_f (by assumption) ?_); conv => whnf)
    | ((with_reducible refine on_nt (by assumption) ?_); conv => whnf)
    | ((with_reducible refine on_nf (by assumption) ?_); conv => whnf)
    | ((with_reducible refine on_ndec_t (by first | assumption | rfl) ?_); conv => whnf)
    | ((with_reducible refine on_ndec_f (by assumption) ?_); conv => whnf)
    | ((with_reducible refine on_dec_t rfl ?_); conv => whnf)
    | ((with_reducible refine on_ndec (fun h => ?_) (fun h => ?_)) <;> conv => whnf)
    | ((with_reducible refine on_dec_f ?_ ?_); (focus ((try simp only [List.length_map, List.length_cons, List.length_nil, List.length_append]); omega)); conv => whnf)
    | ((with_reducible refine on_dec_t ?_ ?_); (focus ((try simp only [List.length_map, List.length_cons, List.length_nil, List.length_append]); omega)); conv => whnf)
    | ((with_reducible refine on_dec (fun h => ?_) (fun h => ?_)) <;> (try simp only [List.length_map] at h) <;> conv => whnf)
    | ((with_reducible refine on_ndec (fun h => ?_) (fun h => ?_)) <;> (try simp only [List.length_map] at h) <;> conv => whnf)
    | ((with_reducible refine on_not (fun h => ?_) (fun h => ?_)) <;> conv => whnf)
    | ((with_reducible refine onBool_split (fun h => ?_) (fun h => ?_)) <;> conv => whnf)
    | ((with_reducible refine call_go ?_); (first | refine call_step (c64r x hx hq _) ?_ | refine call_step (c64n x hx hq _) ?_ | refine call_step (Mv.at (c69 x ((checkQ_iff x).1 hq) a hk) rfl (fun _ => rfl) rfl rfl rfl (Nat.ne_of_beq_eq_false rfl) (vlc rfl vln) (fun j hj => absurd hj (List.not_mem_nil))) ?_); conv => whnf)
    | (refine ⟨⟨(by first | rfl | (simp; done)), cap_ok (by simp only [List.length_map, List.length_cons, List.length_nil, List.length_append]; omega) rfl⟩, ?_⟩; conv => whnf)
    | (refine ⟨mem_one ⟨rfl, rfl⟩, ?_⟩; conv => whnf)
    | (refine ⟨(by intro y hy; obtain ⟨x, _, rfl⟩ := List.mem_map.1 hy; first | rfl | exact ⟨rfl, rfl⟩), ?_⟩; conv => whnf)
    | (refine ⟨cap_ok (by first | omega | (simp only [List.length_map]; omega)) rfl, ?_⟩; conv => whnf)
    | (refine ix_map (by omega) ?_; conv => whnf)
    | (refine ix_str (by omega) ?_; conv => whnf)
    | (refine wrap64 (by omega) ?_; conv => whnf)
    | (exfalso; simp only [List.length_map, List.length_cons, List.length_nil, List.length_append] at h; omega)
    | ((with_reducible refine endx_go ?_); first | (refine endxv (view_tup (vlc (view_agg (vlc rfl (vlc rfl vln))) (vlc rfl vln))) ?_; (rw [aft_n hq h h2]) <;> rfl; done))
    | (refine ⟨rfl, ?_⟩; conv => whnf)
    | fail
    )

theorem c56 (x : Quo) (hx : x.os.length < 1000) (a : Act) (hk : kindOk a) : Fn 56 [x.enc, a.enc] (.tup [(aftQ x a).1.enc, i (aftQ x a).2]) := by
  by_cases hq : (checkQ x).2 = 0
  · by_cases h : (doA x a).2 = 0
    · exact c56a x hx a hk hq h
    · by_cases h2 : (doA x a).2 = 33
      · exact c56b x hx a hk hq h h2
      · exact c56c x hx a hk hq h h2
  · exact c56e x hx a hk hq
def lim0 : Lim := ⟨0, 0, 0⟩
def actC (w b : Int) : Act := ⟨0, w, 0, b, lim0⟩
def actR (w b : Int) : Act := ⟨1, w, 0, b, lim0⟩
def actM (f t b : Int) : Act := ⟨2, f, t, b, lim0⟩
def actL (l : Lim) : Act := ⟨3, 0, 0, 0, l⟩

theorem c16 (x : Quo) (hx : x.os.length < 1000) (w b : Int) : Fn 16 [x.enc, i w, i b] (.tup [(aftQ x (actC w b)).1.enc, i (aftQ x (actC w b)).2]) := by
  refine run_walkF eok Try.func16 rfl (by kernel_rfl) ?_
  conv => whnf
  repeat' (first
    | ((with_reducible refine on_dec_f ?_ ?_); (focus ((try simp only [List.length_map, List.length_cons, List.length_nil, List.length_append]); omega)); conv => whnf)
    | ((with_reducible refine on_dec_t ?_ ?_); (focus ((try simp only [List.length_map, List.length_cons, List.length_nil, List.length_append]); omega)); conv => whnf)
    | ((with_reducible refine on_dec (fun h => ?_) (fun h => ?_)) <;> (try simp only [List.length_map] at h) <;> conv => whnf)
    | ((with_reducible refine on_ndec (fun h => ?_) (fun h => ?_)) <;> (try simp only [List.length_map] at h) <;> conv => whnf)
    | ((with_reducible refine on_not (fun h => ?_) (fun h => ?_)) <;> conv => whnf)
    | ((with_reducible refine onBool_split (fun h => ?_) (fun h => ?_)) <;> conv => whnf)
    | ((with_reducible refine call_go ?_); (first | refine call_step (run_dataV (c56 x hx (actC w b) (by unfold kindOk; first | exact .inl rfl | exact .inr (.inl rfl) | exact .inr (.inr (.inl rfl)) | exact .inr (.inr (.inr rfl)))) (vlc rfl (vlc (view_agg (vlc rfl (vlc rfl (vlc rfl (vlc rfl (vlc rfl (vlc rfl (vlc rfl vln)))))))) vln)) rfl) ?_); conv => whnf)
    | (refine ⟨⟨(by first | rfl | (simp; done)), cap_ok (by simp only [List.length_map, List.length_cons, List.length_nil, List.length_append]; omega) rfl⟩, ?_⟩; conv => whnf)
    | (refine ⟨mem_one ⟨rfl, rfl⟩, ?_⟩; conv => whnf)
    | (refine ⟨(by intro y hy; obtain ⟨x, _, rfl⟩ := List.mem_map.1 hy; first | rfl | exact ⟨rfl, rfl⟩), ?_⟩; conv => whnf)
    | (refine ⟨cap_ok (by first | omega | (simp only [List.length_map]; omega)) rfl, ?_⟩; conv => whnf)
    | (refine ix_map (by omega) ?_; conv => whnf)
    | (refine ix_str (by omega) ?_; conv => whnf)
    | (refine wrap64 (by omega) ?_; conv => whnf)
    | (exfalso; simp only [List.length_map, List.length_cons, List.length_nil, List.length_append] at h; omega)
    | ((with_reducible refine endx_go ?_); first | (exact endx rfl; done) | (exact endxv (view_tup (vlc rfl (vlc rfl vln))) rfl; done))
    | (refine ⟨rfl, ?_⟩; conv => whnf)
    | fail
    )

theorem c22 (x : Quo) (hx : x.os.length < 1000) (w b : Int) : Fn 22 [x.enc, i w, i b] (.tup [(aftQ x (actR w b)).1.enc, i (aftQ x (actR w b)).2]) := by
  refine run_walkF eok Try.func22 rfl (by kernel_rfl) ?_
  conv => whnf
  repeat' (first
    | ((with_reducible refine on_dec_f ?_ ?_); (focus ((try simp only [List.length_map, List.length_cons, List.length_nil, List.length_append]); omega)); conv => whnf)
    | ((with_reducible refine on_dec_t ?_ ?_); (focus ((try simp only [List.length_map, List.length_cons, List.length_nil, List.length_append]); omega)); conv => whnf)
    | ((with_reducible refine on_dec (fun h => ?_) (fun h => ?_)) <;> (try simp only [List.length_map] at h) <;> conv => whnf)
    | ((with_reducible refine on_ndec (fun h => ?_) (fun h => ?_)) <;> (try simp only [List.length_map] at h) <;> conv => whnf)
    | ((with_reducible refine on_not (fun h => ?_) (fun h => ?_)) <;> conv => whnf)
    | ((with_reducible refine onBool_split (fun h => ?_) (fun h => ?_)) <;> conv => whnf)
    | ((with_reducible refine call_go ?_); (first | refine call_step (run_dataV (c56 x hx (actR w b) (by unfold kindOk; first | exact .inl rfl | exact .inr (.inl rfl) | exact .inr (.inr (.inl rfl)) | exact .inr (.inr (.inr rfl)))) (vlc rfl (vlc (view_agg (vlc rfl (vlc rfl (vlc rfl (vlc rfl (vlc rfl (vlc rfl (vlc rfl vln)))))))) vln)) rfl) ?_); conv => whnf)
    | (refine ⟨⟨(by first | rfl | (simp; done)), cap_ok (by simp only [List.length_map, List.length_cons, List.length_nil, List.length_append]; omega) rfl⟩, ?_⟩; conv => whnf)
    | (refine ⟨mem_one ⟨rfl, rfl⟩, ?_⟩; conv => whnf)
    | (refine ⟨(by intro y hy; obtain ⟨x, _, rfl⟩ := List.mem_map.1 hy; first | rfl | exact ⟨rfl, rfl⟩), ?_⟩; conv => whnf)
    | (refine ⟨cap_ok (by first | omega | (simp only [List.length_map]; omega)) rfl, ?_⟩; conv => whnf)
    | (refine ix_map (by omega) ?_; conv => whnf)
    | (refine ix_str (by omega) ?_; conv => whnf)
    | (refine wrap64 (by omega) ?_; conv => whnf)
    | (exfalso; simp only [List.length_map, List.length_cons, List.length_nil, List.length_append] at h; omega)
    | ((with_reducible refine endx_go ?_); first | (exact endx rfl; done) | (exact endxv (view_tup (vlc rfl (vlc rfl vln))) rfl; done))
    | (refine ⟨rfl, ?_⟩; conv => whnf)
    | fail
    )

theorem c25 (x : Quo) (hx : x.os.length < 1000) (f t b : Int) : Fn 25 [x.enc, i f, i t, i b] (.tup [(aftQ x (actM f t b)).1.enc, i (aftQ x (actM f t b)).2]) := by
  refine run_walkF eok Try.func25 rfl (by kernel_rfl) ?_
  conv => whnf
  repeat' (first
    | ((with_reducible refine on_dec_f ?_ ?_); (focus ((try simp only [List.length_map, List.length_cons, List.length_nil, List.length_append]); omega)); conv => whnf)
    | ((with_reducible refine on_dec_t ?_ ?_); (focus ((try simp only [List.length_map, List.length_cons, List.length_nil, List.length_append]); omega)); conv => whnf)
    | ((with_reducible refine on_dec (fun h => ?_) (fun h => ?_)) <;> (try simp only [List.length_map] at h) <;> conv => whnf)
    | ((with_reducible refine on_ndec (fun h => ?_) (fun h => ?_)) <;> (try simp only [List.length_map] at h) <;> conv => whnf)
    | ((with_reducible refine on_not (fun h => ?_) (fun h => ?_)) <;> conv => whnf)
    | ((with_reducible refine onBool_split (fun h => ?_) (fun h => ?_)) <;> conv => whnf)
    | ((with_reducible refine call_go ?_); (first | refine call_step (run_dataV (c56 x hx (actM f t b) (by unfold kindOk; first | exact .inl rfl | exact .inr (.inl rfl) | exact .inr (.inr (.inl rfl)) | exact .inr (.inr (.inr rfl)))) (vlc rfl (vlc (view_agg (vlc rfl (vlc rfl (vlc rfl (vlc rfl (vlc rfl (vlc rfl (vlc rfl vln)))))))) vln)) rfl) ?_); conv => whnf)
    | (refine ⟨⟨(by first | rfl | (simp; done)), cap_ok (by simp only [List.length_map, List.length_cons, List.length_nil, List.length_append]; omega) rfl⟩, ?_⟩; conv => whnf)
    | (refine ⟨mem_one ⟨rfl, rfl⟩, ?_⟩; conv => whnf)
    | (refine ⟨(by intro y hy; obtain ⟨x, _, rfl⟩ := List.mem_map.1 hy; first | rfl | exact ⟨rfl, rfl⟩), ?_⟩; conv => whnf)
    | (refine ⟨cap_ok (by first | omega | (simp only [List.length_map]; omega)) rfl, ?_⟩; conv => whnf)
    | (refine ix_map (by omega) ?_; conv => whnf)
    | (refine ix_str (by omega) ?_; conv => whnf)
    | (refine wrap64 (by omega) ?_; conv => whnf)
    | (exfalso; simp only [List.length_map, List.length_cons, List.length_nil, List.length_append] at h; omega)
    | ((with_reducible refine endx_go ?_); first | (exact endx rfl; done) | (exact endxv (view_tup (vlc rfl (vlc rfl vln))) rfl; done))
    | (refine ⟨rfl, ?_⟩; conv => whnf)
    | fail
    )

theorem c26 (x : Quo) (hx : x.os.length < 1000) (l : Lim) : Fn 26 [x.enc, l.enc] (.tup [(aftQ x (actL l)).1.enc, i (aftQ x (actL l)).2]) := by
  refine run_walkF eok Try.func26 rfl (by kernel_rfl) ?_
  conv => whnf
  repeat' (first
    | ((with_reducible refine on_dec_f ?_ ?_); (focus ((try simp only [List.length_map, List.length_cons, List.length_nil, List.length_append]); omega)); conv => whnf)
    | ((with_reducible refine on_dec_t ?_ ?_); (focus ((try simp only [List.length_map, List.length_cons, List.length_nil, List.length_append]); omega)); conv => whnf)
    | ((with_reducible refine on_dec (fun h => ?_) (fun h => ?_)) <;> (try simp only [List.length_map] at h) <;> conv => whnf)
    | ((with_reducible refine on_ndec (fun h => ?_) (fun h => ?_)) <;> (try simp only [List.length_map] at h) <;> conv => whnf)
    | ((with_reducible refine on_not (fun h => ?_) (fun h => ?_)) <;> conv => whnf)
    | ((with_reducible refine onBool_split (fun h => ?_) (fun h => ?_)) <;> conv => whnf)
    | ((with_reducible refine call_go ?_); (first | refine call_step (run_dataV (c56 x hx (actL l) (by unfold kindOk; first | exact .inl rfl | exact .inr (.inl rfl) | exact .inr (.inr (.inl rfl)) | exact .inr (.inr (.inr rfl)))) (vlc rfl (vlc (view_agg (vlc rfl (vlc rfl (vlc rfl (vlc rfl (vlc rfl (vlc rfl (vlc rfl vln)))))))) vln)) rfl) ?_); conv => whnf)
    | (refine ⟨⟨(by first | rfl | (simp; done)), cap_ok (by simp only [List.length_map, List.length_cons, List.length_nil, List.length_append]; omega) rfl⟩, ?_⟩; conv => whnf)
    | (refine ⟨mem_one ⟨rfl, rfl⟩, ?_⟩; conv => whnf)
    | (refine ⟨(by intro y hy; obtain ⟨x, _, rfl⟩ := List.mem_map.1 hy; first | rfl | exact ⟨rfl, rfl⟩), ?_⟩; conv => whnf)
    | (refine ⟨cap_ok (by first | omega | (simp only [List.length_map]; omega)) rfl, ?_⟩; conv => whnf)
    | (refine ix_map (by omega) ?_; conv => whnf)
    | (refine ix_str (by omega) ?_; conv => whnf)
    | (refine wrap64 (by omega) ?_; conv => whnf)
    | (exfalso; simp only [List.length_map, List.length_cons, List.length_nil, List.length_append] at h; omega)
    | ((with_reducible refine endx_go ?_); first | (exact endx rfl; done) | (exact endxv (view_tup (vlc rfl (vlc rfl vln))) rfl; done))
    | (refine ⟨rfl, ?_⟩; conv => whnf)
    | fail
    )

end Go.Proofs.Ytolfkcmdfgakkaa

/-! Wg -/
namespace Go.Proofs.Ytolfkcmdfgakkaa
open Go Dw
set_option maxRecDepth 10000
set_option linter.unusedVariables false
set_option linter.unusedSimpArgs false
attribute [local irreducible] Run
set_option maxHeartbeats 4000000

def roomQ (x : Quo) (w : Int) : Int := if (!x.enf || decide ((ownR x.os w).lim = -1)) = true then 2147483647 - (ownR x.os w).used else goMax 0 ((ownR x.os w).lim - (ownR x.os w).used)
def roomE (x : Quo) (w : Int) : Int × Int := if firstE [(checkQ x).2, whoE w] = 0 then (roomQ x w, 0) else (0, firstE [(checkQ x).2, whoE w])
def warnB (o : Own) : Bool := !decide (o.warn = -1) && decide (o.warn < o.used)
def warned (l : List Own) : List Int := (l.filter warnB).map Own.who
theorem warned_t {l : List Own} {k : Nat} (h : k < l.length) (hw : warnB l[k] = true) : warned (l.take (k + 1)) = warned (l.take k) ++ [l[k].who] := by
  unfold warned; rw [List.take_succ_eq_append_getElem h, List.filter_append, List.map_append]; simp [hw]
theorem warned_f {l : List Own} {k : Nat} (h : k < l.length) (hw : warnB l[k] = false) : warned (l.take (k + 1)) = warned (l.take k) := by
  unfold warned; rw [List.take_succ_eq_append_getElem h, List.filter_append, List.map_append]; simp [hw]
theorem warned_le (l : List Own) : (warned l).length ≤ l.length := by unfold warned; rw [List.length_map]; exact List.length_filter_le _ _
def warnE (x : Quo) : List Int × Int := if (checkQ x).2 = 0 then (warned x.os, 0) else ([], (checkQ x).2)
def actErr (x : Quo) (w b : Int) : Int := firstE [(checkQ x).2, whoE w, numE b]
theorem room_e {x : Quo} {w : Int} (h : ¬ firstE [(checkQ x).2, whoE w] = 0) : roomE x w = (0, firstE [(checkQ x).2, whoE w]) := by unfold roomE; rw [if_neg h]
theorem room_0 {x : Quo} {w : Int} (h : firstE [(checkQ x).2, whoE w] = 0) : roomE x w = (roomQ x w, 0) := by unfold roomE; rw [if_pos h]
theorem fe2 {a b : Int} (h : a = 0) : firstE [0, b] = firstE [a, b] := by rw [h]
attribute [local irreducible] oE checkQ cnt isR ownR withR bsR fullQ put1 chg rls mov limErr limF actE doA resQ aftQ whoE limE numE goMin goMax warnB

theorem c29e (x : Quo) (hx : x.os.length < 1000) (w : Int) (hq : ¬ (checkQ x).2 = 0) : Fn 29 [x.enc, i w] (.tup [i (roomE x w).1, i (roomE x w).2]) := by
  have h1 : ¬ firstE [(checkQ x).2, whoE w] = 0 := (by rw [firstE_cons, if_neg hq]; exact hq)
  refine run_walkF eok Try.func29 rfl (by kernel_rfl) ?_
  conv => whnf
  repeat' (first
    | ((with_reducible refine on_dec_t (by assumption) ?_); conv => whnf)
    | ((with_reducible refine on_dec_f (by assumption) ?_); conv => whnf)
    | ((with_reducible refine onBool_t (by assumption) ?_); conv => whnf)
    | ((with_reducible refine onBool_f (by assumption) ?_); conv => whnf)
    | ((with_reducible refine on_nt (by assumption) ?_); conv => whnf)
    | ((with_reducible refine on_nf (by assumption) ?_); conv => whnf)
    | ((with_reducible refine on_ndec_t (by first | assumption | rfl) ?_); conv => whnf)
    | ((with_reducible refine on_ndec_f (by assumption) ?_); conv => whnf)
    | ((with_reducible refine on_dec_t rfl ?_); conv => whnf)
    | ((with_reducible refine on_ndec (fun h => ?_) (fun h => ?_)) <;> conv => whnf)
    | ((with_reducible refine on_dec_f ?_ ?_); (focus ((try simp only [List.length_map, List.length_cons, List.length_nil, List.length_append]); omega)); conv => whnf)
    | ((with_reducible refine on_dec_t ?_ ?_); (focus ((try simp only [List.length_map, List.length_cons, List.length_nil, List.length_append]); omega)); conv => whnf)
    | ((with_reducible refine on_dec (fun h => ?_) (fun h => ?_)) <;> (try simp only [List.length_map] at h) <;> conv => whnf)
    | ((with_reducible refine on_ndec (fun h => ?_) (fun h => ?_)) <;> (try simp only [List.length_map] at h) <;> conv => whnf)
    | ((with_reducible refine on_not (fun h => ?_) (fun h => ?_)) <;> conv => whnf)
    | ((with_reducible refine onBool_split (fun h => ?_) (fun h => ?_)) <;> conv => whnf)
    | ((with_reducible refine call_go ?_); (first | refine call_step (c64r x hx hq _) ?_ | refine call_step (c64n x hx hq _) ?_ | refine call_step (run_view (c51 _) rfl rfl) ?_ | refine call_step (run_view (c50 [_, _] (by simp)) rfl rfl) ?_ | refine call_step (run_view (c50 [_, _, _, _, _] (by simp)) rfl rfl) ?_ | refine call_step (run_view (c50 [_, _, _, _, _, _] (by simp)) rfl rfl) ?_ | refine call_step (run_view (c65 x (by omega) ((checkQ_iff x).1 hq).srt w) rfl (qview rfl rfl rfl (vlc rfl vln))) ?_); conv => whnf)
    | (refine ⟨⟨(by first | rfl | (simp; done)), cap_ok (by simp only [List.length_map, List.length_cons, List.length_nil, List.length_append]; omega) rfl⟩, ?_⟩; conv => whnf)
    | (refine ⟨mem_one ⟨rfl, rfl⟩, ?_⟩; conv => whnf)
    | (refine ⟨(by intro y hy; obtain ⟨x, _, rfl⟩ := List.mem_map.1 hy; first | rfl | exact ⟨rfl, rfl⟩), ?_⟩; conv => whnf)
    | (refine ⟨cap_ok (by first | omega | (simp only [List.length_map]; omega)) rfl, ?_⟩; conv => whnf)
    | (refine ix_map (by omega) ?_; conv => whnf)
    | (refine ix_str (by omega) ?_; conv => whnf)
    | (refine wrap64 (by omega) ?_; conv => whnf)
    | (exfalso; simp only [List.length_map, List.length_cons, List.length_nil, List.length_append] at h; omega)
    | ((with_reducible refine endx_go ?_); first | (refine endx2 ?_; (rw [room_e (by assumption)]) <;> rfl; done))
    | (refine ⟨rfl, ?_⟩; conv => whnf)
    | fail
    )

theorem c29n (x : Quo) (hx : x.os.length < 1000) (w : Int) (hq : (checkQ x).2 = 0) (hw : ¬ firstE [0, whoE w] = 0) : Fn 29 [x.enc, i w] (.tup [i (roomE x w).1, i (roomE x w).2]) := by
  refine run_walkF eok Try.func29 rfl (by kernel_rfl) ?_
  conv => whnf
  repeat' (first
    | ((with_reducible refine on_dec_t (by assumption) ?_); conv => whnf)
    | ((with_reducible refine on_dec_f (by assumption) ?_); conv => whnf)
    | ((with_reducible refine onBool_t (by assumption) ?_); conv => whnf)
    | ((with_reducible refine onBool_f (by assumption) ?_); conv => whnf)
    | ((with_reducible refine on_nt (by assumption) ?_); conv => whnf)
    | ((with_reducible refine on_nf (by assumption) ?_); conv => whnf)
    | ((with_reducible refine on_ndec_t (by first | assumption | rfl) ?_); conv => whnf)
    | ((with_reducible refine on_ndec_f (by assumption) ?_); conv => whnf)
    | ((with_reducible refine on_dec_t rfl ?_); conv => whnf)
    | ((with_reducible refine on_ndec (fun h => ?_) (fun h => ?_)) <;> conv => whnf)
    | ((with_reducible refine on_dec_f ?_ ?_); (focus ((try simp only [List.length_map, List.length_cons, List.length_nil, List.length_append]); omega)); conv => whnf)
    | ((with_reducible refine on_dec_t ?_ ?_); (focus ((try simp only [List.length_map, List.length_cons, List.length_nil, List.length_append]); omega)); conv => whnf)
    | ((with_reducible refine on_dec (fun h => ?_) (fun h => ?_)) <;> (try simp only [List.length_map] at h) <;> conv => whnf)
    | ((with_reducible refine on_ndec (fun h => ?_) (fun h => ?_)) <;> (try simp only [List.length_map] at h) <;> conv => whnf)
    | ((with_reducible refine on_not (fun h => ?_) (fun h => ?_)) <;> conv => whnf)
    | ((with_reducible refine onBool_split (fun h => ?_) (fun h => ?_)) <;> conv => whnf)
    | ((with_reducible refine call_go ?_); (first | refine call_step (c64r x hx hq _) ?_ | refine call_step (c64n x hx hq _) ?_ | refine call_step (run_view (c51 _) rfl rfl) ?_ | refine call_step (run_view (c50 [_, _] (by simp)) rfl rfl) ?_ | refine call_step (run_view (c50 [_, _, _, _, _] (by simp)) rfl rfl) ?_ | refine call_step (run_view (c50 [_, _, _, _, _, _] (by simp)) rfl rfl) ?_ | refine call_step (run_view (c65 x (by omega) ((checkQ_iff x).1 hq).srt w) rfl (qview rfl rfl rfl (vlc rfl vln))) ?_); conv => whnf)
    | (refine ⟨⟨(by first | rfl | (simp; done)), cap_ok (by simp only [List.length_map, List.length_cons, List.length_nil, List.length_append]; omega) rfl⟩, ?_⟩; conv => whnf)
    | (refine ⟨mem_one ⟨rfl, rfl⟩, ?_⟩; conv => whnf)
    | (refine ⟨(by intro y hy; obtain ⟨x, _, rfl⟩ := List.mem_map.1 hy; first | rfl | exact ⟨rfl, rfl⟩), ?_⟩; conv => whnf)
    | (refine ⟨cap_ok (by first | omega | (simp only [List.length_map]; omega)) rfl, ?_⟩; conv => whnf)
    | (refine ix_map (by omega) ?_; conv => whnf)
    | (refine ix_str (by omega) ?_; conv => whnf)
    | (refine wrap64 (by omega) ?_; conv => whnf)
    | (exfalso; simp only [List.length_map, List.length_cons, List.length_nil, List.length_append] at h; omega)
    | ((with_reducible refine endx_go ?_); first | (refine endx2 ?_; (rw [room_e (by rw [hq]; exact hw), hq]) <;> rfl; done))
    | (refine ⟨rfl, ?_⟩; conv => whnf)
    | fail
    )

theorem c29o (x : Quo) (hx : x.os.length < 1000) (w : Int) (hq : (checkQ x).2 = 0) (hw : firstE [0, whoE w] = 0) : Fn 29 [x.enc, i w] (.tup [i (roomE x w).1, i (roomE x w).2]) := by
  obtain ⟨hn1, hn2, hn3⟩ := ((checkQ_iff x).1 hq).nums w
  refine run_walkF eok Try.func29 rfl (by kernel_rfl) ?_
  conv => whnf
  repeat' (first
    | ((with_reducible refine on_dec_t (by assumption) ?_); conv => whnf)
    | ((with_reducible refine on_dec_f (by assumption) ?_); conv => whnf)
    | ((with_reducible refine onBool_t (by assumption) ?_); conv => whnf)
    | ((with_reducible refine onBool_f (by assumption) ?_); conv => whnf)
    | ((with_reducible refine on_nt (by assumption) ?_); conv => whnf)
    | ((with_reducible refine on_nf (by assumption) ?_); conv => whnf)
    | ((with_reducible refine on_ndec_t (by first | assumption | rfl) ?_); conv => whnf)
    | ((with_reducible refine on_ndec_f (by assumption) ?_); conv => whnf)
    | ((with_reducible refine on_dec_t rfl ?_); conv => whnf)
    | ((with_reducible refine on_ndec (fun h => ?_) (fun h => ?_)) <;> conv => whnf)
    | ((with_reducible refine on_dec_f ?_ ?_); (focus ((try simp only [List.length_map, List.length_cons, List.length_nil, List.length_append]); omega)); conv => whnf)
    | ((with_reducible refine on_dec_t ?_ ?_); (focus ((try simp only [List.length_map, List.length_cons, List.length_nil, List.length_append]); omega)); conv => whnf)
    | ((with_reducible refine on_dec (fun h => ?_) (fun h => ?_)) <;> (try simp only [List.length_map] at h) <;> conv => whnf)
    | ((with_reducible refine on_ndec (fun h => ?_) (fun h => ?_)) <;> (try simp only [List.length_map] at h) <;> conv => whnf)
    | ((with_reducible refine on_not (fun h => ?_) (fun h => ?_)) <;> conv => whnf)
    | ((with_reducible refine onBool_split (fun h => ?_) (fun h => ?_)) <;> conv => whnf)
    | ((with_reducible refine call_go ?_); (first | refine call_step (c64r x hx hq _) ?_ | refine call_step (c64n x hx hq _) ?_ | refine call_step (run_view (c51 _) rfl rfl) ?_ | refine call_step (run_view (c50 [_, _] (by simp)) rfl rfl) ?_ | refine call_step (run_view (c50 [_, _, _, _, _] (by simp)) rfl rfl) ?_ | refine call_step (run_view (c50 [_, _, _, _, _, _] (by simp)) rfl rfl) ?_ | refine call_step (run_view (c65 x (by omega) ((checkQ_iff x).1 hq).srt w) rfl (qview rfl rfl rfl (vlc rfl vln))) ?_); conv => whnf)
    | (refine ⟨⟨(by first | rfl | (simp; done)), cap_ok (by simp only [List.length_map, List.length_cons, List.length_nil, List.length_append]; omega) rfl⟩, ?_⟩; conv => whnf)
    | (refine ⟨mem_one ⟨rfl, rfl⟩, ?_⟩; conv => whnf)
    | (refine ⟨(by intro y hy; obtain ⟨x, _, rfl⟩ := List.mem_map.1 hy; first | rfl | exact ⟨rfl, rfl⟩), ?_⟩; conv => whnf)
    | (refine ⟨cap_ok (by first | omega | (simp only [List.length_map]; omega)) rfl, ?_⟩; conv => whnf)
    | (refine ix_map (by omega) ?_; conv => whnf)
    | (refine ix_str (by omega) ?_; conv => whnf)
    | (refine wrap64 (by omega) ?_; conv => whnf)
    | (refine wrap64 (by omega) ?_; conv => whnf)
    | (exfalso; simp only [List.length_map, List.length_cons, List.length_nil, List.length_append] at h; omega)
    | ((with_reducible refine endx_go ?_); first | (refine cut_ (roomQ x w = 2147483647 - (ownR x.os w).used) ?_ (fun hE => ?_); (focus (unfold roomQ; simp [*]; done)); refine endx2 ?_; (rw [room_0 (by rw [hq]; exact hw), hE]) <;> rfl; done) | (refine cut_ (roomQ x w = goMax 0 ((ownR x.os w).lim - (ownR x.os w).used)) ?_ (fun hE => ?_); (focus (unfold roomQ; simp [*]; done)); refine endx2 ?_; (rw [room_0 (by rw [hq]; exact hw), hE]) <;> rfl; done))
    | (refine ⟨rfl, ?_⟩; conv => whnf)
    | fail
    )

theorem c29 (x : Quo) (hx : x.os.length < 1000) (w : Int) : Fn 29 [x.enc, i w] (.tup [i (roomE x w).1, i (roomE x w).2]) := by
  by_cases hq : (checkQ x).2 = 0
  · by_cases hw : firstE [0, whoE w] = 0
    · exact c29o x hx w hq hw
    · exact c29n x hx w hq hw
  · exact c29e x hx w hq

theorem c21 (x : Quo) (hx : x.os.length < 1000) (hv : VQ x) (w : Int) : Fn 21 [x.enc, i w] (i (roomQ x w)) := by
  obtain ⟨hn1, hn2, hn3⟩ := hv.nums w
  refine run_walkF eok Try.func21 rfl (by kernel_rfl) ?_
  conv => whnf
  repeat' (first
    | ((with_reducible refine on_dec_f ?_ ?_); (focus ((try simp only [List.length_map, List.length_cons, List.length_nil, List.length_append]); omega)); conv => whnf)
    | ((with_reducible refine on_dec_t ?_ ?_); (focus ((try simp only [List.length_map, List.length_cons, List.length_nil, List.length_append]); omega)); conv => whnf)
    | ((with_reducible refine on_dec (fun h => ?_) (fun h => ?_)) <;> (try simp only [List.length_map] at h) <;> conv => whnf)
    | ((with_reducible refine on_ndec (fun h => ?_) (fun h => ?_)) <;> (try simp only [List.length_map] at h) <;> conv => whnf)
    | ((with_reducible refine on_not (fun h => ?_) (fun h => ?_)) <;> conv => whnf)
    | ((with_reducible refine onBool_split (fun h => ?_) (fun h => ?_)) <;> conv => whnf)
    | ((with_reducible refine call_go ?_); (first | refine call_step (run_view (c24 x (by omega) w) rfl rfl) ?_); conv => whnf)
    | (refine ⟨⟨(by first | rfl | (simp; done)), cap_ok (by simp only [List.length_map, List.length_cons, List.length_nil, List.length_append]; omega) rfl⟩, ?_⟩; conv => whnf)
    | (refine ⟨mem_one ⟨rfl, rfl⟩, ?_⟩; conv => whnf)
    | (refine ⟨(by intro y hy; obtain ⟨x, _, rfl⟩ := List.mem_map.1 hy; first | rfl | exact ⟨rfl, rfl⟩), ?_⟩; conv => whnf)
    | (refine ⟨cap_ok (by first | omega | (simp only [List.length_map]; omega)) rfl, ?_⟩; conv => whnf)
    | (refine ix_map (by omega) ?_; conv => whnf)
    | (refine ix_str (by omega) ?_; conv => whnf)
    | (refine wrap64 (by omega) ?_; conv => whnf)
    | (refine wrap64 (by omega) ?_; conv => whnf)
    | (exfalso; simp only [List.length_map, List.length_cons, List.length_nil, List.length_append] at h; omega)
    | ((with_reducible refine endx_go ?_); first | (refine cut_ (roomQ x w = 2147483647 - (ownR x.os w).used) ?_ (fun hE => ?_); (focus (unfold roomQ; simp [*]; done)); refine endx (congrArg i ?_); rw [hE]; done) | (refine cut_ (roomQ x w = goMax 0 ((ownR x.os w).lim - (ownR x.os w).used)) ?_ (fun hE => ?_); (focus (unfold roomQ; simp [*]; done)); refine endx (congrArg i ?_); rw [hE]; done))
    | (refine ⟨rfl, ?_⟩; conv => whnf)
    | fail
    )

theorem c30o (x : Quo) (hx : x.os.length < 1000) (hq : (checkQ x).2 = 0) : Fn 30 [x.enc] (.tup [.fs ((warnE x).1.map i), i (warnE x).2]) := by
  refine run_walkF eok Try.func30 rfl (by kernel_rfl) ?_
  conv => whnf
  repeat' (first
    | ((with_reducible refine on_dec_t (by assumption) ?_); conv => whnf)
    | ((with_reducible refine on_dec_f (by assumption) ?_); conv => whnf)
    | ((with_reducible refine onBool_t (by assumption) ?_); conv => whnf)
    | ((with_reducible refine onBool_f (by assumption) ?_); conv => whnf)
    | ((with_reducible refine on_nt (by assumption) ?_); conv => whnf)
    | ((with_reducible refine on_nf (by assumption) ?_); conv => whnf)
    | ((with_reducible refine on_ndec_t (by first | assumption | rfl) ?_); conv => whnf)
    | ((with_reducible refine on_ndec_f (by assumption) ?_); conv => whnf)
    | ((with_reducible refine on_dec_t rfl ?_); conv => whnf)
    | ((with_reducible refine on_dec_f ?_ ?_); (focus ((try simp only [List.length_map, List.length_cons, List.length_nil, List.length_append]); omega)); conv => whnf)
    | ((with_reducible refine on_dec_t ?_ ?_); (focus ((try simp only [List.length_map, List.length_cons, List.length_nil, List.length_append]); omega)); conv => whnf)
    | ((with_reducible refine on_dec (fun h => ?_) (fun h => ?_)) <;> (try simp only [List.length_map] at h) <;> conv => whnf)
    | ((with_reducible refine on_ndec (fun h => ?_) (fun h => ?_)) <;> (try simp only [List.length_map] at h) <;> conv => whnf)
    | ((with_reducible refine on_not (fun h => ?_) (fun h => ?_)) <;> conv => whnf)
    | ((with_reducible refine onBool_split (fun h => ?_) (fun h => ?_)) <;> conv => whnf)
    | ((with_reducible refine call_go ?_); (first | refine call_step (run_data (c14 x hx) _) ?_); conv => whnf)
    | ((with_reducible refine loop_go ?_); first | (refine loop1 (fun (k : Nat) => x.os.length - k) (fun (k : Nat) => k ≤ x.os.length) (fun (k : Nat) => [(6, .sl 1 0 (warned (x.os.take k)).length 1 none), (18, .d (.fs (x.os.map Own.enc))), (19, .d (i x.os.length)), (20, .d (i k))]) (fun (k : Nat) => [⟨[.d x.enc], 2, 0⟩, ⟨((warned (x.os.take k)).map i).map .d, 1, 0⟩]) (0) (by exact Nat.zero_le _) ?_ (fun k C hI hC => ?_); (exact ⟨[.old 0, .void 1], rfl, rfl, ⟨⟨rfl, rfl, rfl, rfl⟩, (by first | (show (_ : D) = _; with_reducible rfl) | exact rfl), (by first | (show (_ : D) = _; with_reducible rfl) | exact congrArg (D.int .i64) (by omega) | exact congrArg (D.int .i64) (by simp only [List.length_map]) | exact rfl), (by first | (show (_ : D) = _; with_reducible rfl) | exact congrArg (D.int .i64) (by omega) | exact congrArg (D.int .i64) (by simp only [List.length_map]) | exact rfl), trivial⟩, ⟨⟨rfl, rfl, .inl ⟨[_], rfl, rfl⟩⟩, ⟨rfl, rfl, (by decide), rfl⟩, trivial⟩⟩); all_goals (conv => whnf)))
    | ((with_reducible show C _ _); first | (refine hC (k + 1) _ _ ?_ (by omega) ?_; clear hC; rotate_left; (exact ⟨[.old 0, .old 4], rfl, rfl, ⟨⟨rfl, rfl, (by rw [warned_t (by omega) (by unfold warnB; simp [*]; try omega)]; simp), rfl, rfl⟩, (by first | (show (_ : D) = _; with_reducible rfl) | exact rfl), (by first | (show (_ : D) = _; with_reducible rfl) | exact congrArg (D.int .i64) (by omega) | exact congrArg (D.int .i64) (by simp only [List.length_map]) | exact rfl), (by first | (show (_ : D) = _; with_reducible rfl) | exact congrArg (D.int .i64) (by omega) | exact congrArg (D.int .i64) (by simp only [List.length_map]) | exact rfl), trivial⟩, ⟨⟨rfl, rfl, .inl ⟨[_], rfl, rfl⟩⟩, ⟨rfl, rfl, .inr (by rw [warned_t (by omega) (by unfold warnB; simp [*]; try omega)]; exact wks_add (wksd _ _) rfl)⟩, trivial⟩⟩); (exact (by omega : k + 1 ≤ x.os.length))) | (refine hC (k + 1) _ _ ?_ (by omega) ?_; clear hC; rotate_left; (exact ⟨[.old 0, .old 1], rfl, rfl, ⟨⟨rfl, rfl, (by rw [warned_f (by omega) (by unfold warnB; simp [*]; try omega)]), rfl, rfl⟩, (by first | (show (_ : D) = _; with_reducible rfl) | exact rfl), (by first | (show (_ : D) = _; with_reducible rfl) | exact congrArg (D.int .i64) (by omega) | exact congrArg (D.int .i64) (by simp only [List.length_map]) | exact rfl), (by first | (show (_ : D) = _; with_reducible rfl) | exact congrArg (D.int .i64) (by omega) | exact congrArg (D.int .i64) (by simp only [List.length_map]) | exact rfl), trivial⟩, ⟨⟨rfl, rfl, .inl ⟨[_], rfl, rfl⟩⟩, ⟨rfl, rfl, .inr (by rw [warned_f (by omega) (by unfold warnB; simp [*]; try omega)]; exact wksd _ _)⟩, trivial⟩⟩); (exact (by omega : k + 1 ≤ x.os.length))))
    | (refine ⟨⟨(by first | rfl | (simp; done)), cap_ok (by simp only [List.length_map, List.length_cons, List.length_nil, List.length_append]; omega) rfl⟩, ?_⟩; conv => whnf)
    | (refine ⟨mem_one ⟨rfl, rfl⟩, ?_⟩; conv => whnf)
    | (refine ⟨(by intro y hy; obtain ⟨x, _, rfl⟩ := List.mem_map.1 hy; first | rfl | exact ⟨rfl, rfl⟩), ?_⟩; conv => whnf)
    | (refine ⟨cap_ok (by first | omega | (simp only [List.length_map]; omega)) rfl, ?_⟩; conv => whnf)
    | (refine ix_map (by omega) ?_; conv => whnf)
    | (refine ix_str (by omega) ?_; conv => whnf)
    | (refine wrap64 (by omega) ?_; conv => whnf)
    | (refine ⟨Nat.le_refl _, ?_⟩; conv => whnf)
    | (refine ⟨⟨(by simp only [List.length_map, List.length_append]; omega), cap_ok (by have hwl := warned_le (x.os.take k); have htl := List.length_take_le k x.os; simp only [List.length_map, List.length_cons, List.length_nil, List.length_append]; omega) rfl⟩, ?_⟩; conv => whnf)
    | (refine wrap64 (by omega) ?_; conv => whnf)
    | (exfalso; simp only [List.length_map, List.length_cons, List.length_nil, List.length_append] at h; omega)
    | ((with_reducible refine endx_go ?_); first | (refine endxv (view_tup (vlc (view_map rfl Nat.two_pos) (vlc rfl vln))) ?_; unfold warnE; (rw [if_pos hq, List.take_of_length_le (by omega)]) <;> rfl; done))
    | (refine ⟨rfl, ?_⟩; conv => whnf)
    | fail
    )

theorem c30e (x : Quo) (hx : x.os.length < 1000) (hq : ¬ (checkQ x).2 = 0) : Fn 30 [x.enc] (.tup [.fs ((warnE x).1.map i), i (warnE x).2]) := by
  refine run_walkF eok Try.func30 rfl (by kernel_rfl) ?_
  conv => whnf
  repeat' (first
    | ((with_reducible refine on_dec_t (by assumption) ?_); conv => whnf)
    | ((with_reducible refine on_dec_f (by assumption) ?_); conv => whnf)
    | ((with_reducible refine onBool_t (by assumption) ?_); conv => whnf)
    | ((with_reducible refine onBool_f (by assumption) ?_); conv => whnf)
    | ((with_reducible refine on_nt (by assumption) ?_); conv => whnf)
    | ((with_reducible refine on_nf (by assumption) ?_); conv => whnf)
    | ((with_reducible refine on_ndec_t (by first | assumption | rfl) ?_); conv => whnf)
    | ((with_reducible refine on_ndec_f (by assumption) ?_); conv => whnf)
    | ((with_reducible refine on_dec_t rfl ?_); conv => whnf)
    | ((with_reducible refine on_dec_f ?_ ?_); (focus ((try simp only [List.length_map, List.length_cons, List.length_nil, List.length_append]); omega)); conv => whnf)
    | ((with_reducible refine on_dec_t ?_ ?_); (focus ((try simp only [List.length_map, List.length_cons, List.length_nil, List.length_append]); omega)); conv => whnf)
    | ((with_reducible refine on_dec (fun h => ?_) (fun h => ?_)) <;> (try simp only [List.length_map] at h) <;> conv => whnf)
    | ((with_reducible refine on_ndec (fun h => ?_) (fun h => ?_)) <;> (try simp only [List.length_map] at h) <;> conv => whnf)
    | ((with_reducible refine on_not (fun h => ?_) (fun h => ?_)) <;> conv => whnf)
    | ((with_reducible refine onBool_split (fun h => ?_) (fun h => ?_)) <;> conv => whnf)
    | ((with_reducible refine call_go ?_); (first | refine call_step (run_data (c14 x hx) _) ?_); conv => whnf)
    | (refine ⟨⟨(by first | rfl | (simp; done)), cap_ok (by simp only [List.length_map, List.length_cons, List.length_nil, List.length_append]; omega) rfl⟩, ?_⟩; conv => whnf)
    | (refine ⟨mem_one ⟨rfl, rfl⟩, ?_⟩; conv => whnf)
    | (refine ⟨(by intro y hy; obtain ⟨x, _, rfl⟩ := List.mem_map.1 hy; first | rfl | exact ⟨rfl, rfl⟩), ?_⟩; conv => whnf)
    | (refine ⟨cap_ok (by first | omega | (simp only [List.length_map]; omega)) rfl, ?_⟩; conv => whnf)
    | (refine ix_map (by omega) ?_; conv => whnf)
    | (refine ix_str (by omega) ?_; conv => whnf)
    | (refine wrap64 (by omega) ?_; conv => whnf)
    | (exfalso; simp only [List.length_map, List.length_cons, List.length_nil, List.length_append] at h; omega)
    | ((with_reducible refine endx_go ?_); first | (refine endxv (view_tup (vlc rfl (vlc rfl vln))) ?_; unfold warnE; (rw [if_neg hq]) <;> rfl; done))
    | (refine ⟨rfl, ?_⟩; conv => whnf)
    | fail
    )

theorem c33 (x : Quo) (hx : x.os.length < 1000) : Fn 33 [x.enc] (.fs ((warned x.os).map i)) := by
  refine run_walkF eok Try.func33 rfl (by kernel_rfl) ?_
  conv => whnf
  repeat' (first
    | ((with_reducible refine on_dec_f ?_ ?_); (focus ((try simp only [List.length_map, List.length_cons, List.length_nil, List.length_append]); omega)); conv => whnf)
    | ((with_reducible refine on_dec_t ?_ ?_); (focus ((try simp only [List.length_map, List.length_cons, List.length_nil, List.length_append]); omega)); conv => whnf)
    | ((with_reducible refine on_dec (fun h => ?_) (fun h => ?_)) <;> (try simp only [List.length_map] at h) <;> conv => whnf)
    | ((with_reducible refine on_ndec (fun h => ?_) (fun h => ?_)) <;> (try simp only [List.length_map] at h) <;> conv => whnf)
    | ((with_reducible refine on_not (fun h => ?_) (fun h => ?_)) <;> conv => whnf)
    | ((with_reducible refine onBool_split (fun h => ?_) (fun h => ?_)) <;> conv => whnf)
    | ((with_reducible refine loop_go ?_); first | (refine loop1 (fun (k : Nat) => x.os.length - k) (fun (k : Nat) => k ≤ x.os.length) (fun (k : Nat) => [(1, .ptr 0 0 0), (3, .sl 1 0 (warned (x.os.take k)).length 1 none), (4, .d (i k))]) (fun (k : Nat) => [⟨[.d x.enc], 2, 0⟩, ⟨((warned (x.os.take k)).map i).map .d, 1, 0⟩]) (0) (by exact Nat.zero_le _) ?_ (fun k C hI hC => ?_); (exact ⟨[.old 0, .void 1], rfl, rfl, ⟨⟨rfl, rfl, rfl⟩, ⟨rfl, rfl, rfl, rfl⟩, (by first | (show (_ : D) = _; with_reducible rfl) | exact congrArg (D.int .i64) (by omega) | exact congrArg (D.int .i64) (by simp only [List.length_map]) | exact rfl), trivial⟩, ⟨⟨rfl, rfl, .inl ⟨[_], rfl, rfl⟩⟩, ⟨rfl, rfl, (by decide), rfl⟩, trivial⟩⟩); all_goals (conv => whnf)))
    | ((with_reducible show C _ _); first | (refine hC (k + 1) _ _ ?_ (by omega) ?_; clear hC; rotate_left; (exact ⟨[.old 0, .old 4], rfl, rfl, ⟨⟨rfl, rfl, rfl⟩, ⟨rfl, rfl, (by rw [warned_t (by omega) (by unfold warnB; simp [*]; try omega)]; simp), rfl, rfl⟩, (by first | (show (_ : D) = _; with_reducible rfl) | exact congrArg (D.int .i64) (by omega) | exact congrArg (D.int .i64) (by simp only [List.length_map]) | exact rfl), trivial⟩, ⟨⟨rfl, rfl, .inl ⟨[_], rfl, rfl⟩⟩, ⟨rfl, rfl, .inr (by rw [warned_t (by omega) (by unfold warnB; simp [*]; try omega)]; exact wks_add (wksd _ _) rfl)⟩, trivial⟩⟩); (exact (by omega : k + 1 ≤ x.os.length))) | (refine hC (k + 1) _ _ ?_ (by omega) ?_; clear hC; rotate_left; (exact ⟨[.old 0, .old 1], rfl, rfl, ⟨⟨rfl, rfl, rfl⟩, ⟨rfl, rfl, (by rw [warned_f (by omega) (by unfold warnB; simp [*]; try omega)]), rfl, rfl⟩, (by first | (show (_ : D) = _; with_reducible rfl) | exact congrArg (D.int .i64) (by omega) | exact congrArg (D.int .i64) (by simp only [List.length_map]) | exact rfl), trivial⟩, ⟨⟨rfl, rfl, .inl ⟨[_], rfl, rfl⟩⟩, ⟨rfl, rfl, .inr (by rw [warned_f (by omega) (by unfold warnB; simp [*]; try omega)]; exact wksd _ _)⟩, trivial⟩⟩); (exact (by omega : k + 1 ≤ x.os.length))))
    | (refine ⟨⟨(by first | rfl | (simp; done)), cap_ok (by simp only [List.length_map, List.length_cons, List.length_nil, List.length_append]; omega) rfl⟩, ?_⟩; conv => whnf)
    | (refine ⟨mem_one ⟨rfl, rfl⟩, ?_⟩; conv => whnf)
    | (refine ⟨(by intro y hy; obtain ⟨x, _, rfl⟩ := List.mem_map.1 hy; first | rfl | exact ⟨rfl, rfl⟩), ?_⟩; conv => whnf)
    | (refine ⟨cap_ok (by first | omega | (simp only [List.length_map]; omega)) rfl, ?_⟩; conv => whnf)
    | (refine ix_map (by omega) ?_; conv => whnf)
    | (refine ix_str (by omega) ?_; conv => whnf)
    | (refine wrap64 (by omega) ?_; conv => whnf)
    | (refine ⟨Nat.le_refl _, ?_⟩; conv => whnf)
    | (refine ⟨⟨(by simp only [List.length_map, List.length_append]; omega), cap_ok (by have hwl := warned_le (x.os.take k); have htl := List.length_take_le k x.os; simp only [List.length_map, List.length_cons, List.length_nil, List.length_append]; omega) rfl⟩, ?_⟩; conv => whnf)
    | (refine wrap64 (by omega) ?_; conv => whnf)
    | (exfalso; simp only [List.length_map, List.length_cons, List.length_nil, List.length_append] at h; omega)
    | ((with_reducible refine endx_go ?_); first | (refine endxv (view_map rfl Nat.two_pos) ?_; (rw [List.take_of_length_le (by omega)]) <;> rfl; done))
    | (refine ⟨rfl, ?_⟩; conv => whnf)
    | fail
    )

end Go.Proofs.Ytolfkcmdfgakkaa

/-! Pc -/
namespace Go.Proofs.Ytolfkcmdfgakkaa
open Go Dw

theorem whoE_02 (n : Int) : whoE n = 0 ∨ whoE n = 2 := by
  by_cases h : whoE n = 0
  · exact .inl h
  · exact .inr (who_2 h)
theorem numE_02 (n : Int) : numE n = 0 ∨ numE n = 2 := by unfold numE; split <;> simp
theorem limE_02 (n : Int) : limE n = 0 ∨ limE n = 2 := by unfold limE; split <;> simp
theorem resQ_0 (x : Quo) : resQ (x, 0) = (x, 0) := rfl
theorem resQ_33 (x : Quo) : resQ (x, 33) = (x, 33) := rfl
theorem resQ_e (x : Quo) {e : Int} (h : ¬ e = 0) (h2 : ¬ e = 33) : resQ (x, e) = (emp, e) := by unfold resQ; rw [if_neg (by simp only; omega)]
theorem actE_C (w b : Int) : actE (actC w b) = firstE [whoE w, numE b] := rfl
theorem actE_R (w b : Int) : actE (actR w b) = firstE [whoE w, numE b] := rfl
theorem fe_02 {a b : Int} (h : a = 0 ∨ a = 2) (h2 : b = 0 ∨ b = 2) : firstE [a, b] = 0 ∨ firstE [a, b] = 2 := by
  rcases h with rfl | rfl <;> rcases h2 with rfl | rfl <;> decide
theorem fe3 {c a b : Int} (h : c = 0) : firstE [c, a, b] = firstE [a, b] := by rw [firstE_cons, if_pos h]
theorem fe3n {c : Int} {l : List Int} (h : ¬ c = 0) : firstE (c :: l) = c := by rw [firstE_cons, if_neg h]
theorem aft_err {x : Quo} {a : Act} (hk : ¬ a.kind = 3) (h : ¬ firstE [(checkQ x).2, actE a] = 0) (h2 : actE a = 0 ∨ actE a = 2) : aftQ x a = (emp, firstE [(checkQ x).2, actE a]) := by
  by_cases hq : (checkQ x).2 = 0
  · have e : firstE [(checkQ x).2, actE a] = actE a := by rw [firstE_cons, if_pos hq]; rcases h2 with h2 | h2 <;> simp [firstE, h2]
    rw [e] at h ⊢
    unfold aftQ doA
    rw [if_pos hq, if_neg hk, if_neg h, resQ_e _ h (by omega)]
  · rw [fe3n hq, aft_e hq]
theorem aft_ok {x : Quo} {a : Act} (hk : ¬ a.kind = 3) (h : firstE [(checkQ x).2, actE a] = 0) : (checkQ x).2 = 0 ∧ actE a = 0 ∧ aftQ x a = resQ (if a.kind = 0 then chg x a.who a.bytes else if a.kind = 1 then rls x a.who a.bytes else mov x a.who a.to a.bytes) := by
  rw [firstE_z] at h
  have h1 := h _ (List.mem_cons_self)
  have h2 := h (actE a) (by simp)
  refine ⟨h1, h2, ?_⟩
  unfold aftQ doA
  rw [if_pos h1, if_neg hk, if_pos h2]
theorem fe_flat (c a b : Int) : firstE [c, firstE [a, b]] = firstE [c, a, b] := by
  by_cases h : c = 0 <;> by_cases h2 : a = 0 <;> by_cases h3 : b = 0 <;> simp [firstE, h, h2, h3]
theorem fe_flat3 (c a b d : Int) : firstE [c, firstE [firstE [a, b], d]] = firstE [c, a, b, d] := by
  by_cases h : c = 0 <;> by_cases h2 : a = 0 <;> by_cases h3 : b = 0 <;> by_cases h4 : d = 0 <;> simp [firstE, h, h2, h3, h4]
theorem aftC_e {x : Quo} {w b : Int} (h : ¬ actErr x w b = 0) : aftQ x (actC w b) = (emp, actErr x w b) := by
  unfold actErr at *
  rw [← fe_flat] at *
  exact aft_err (a := actC w b) (show ¬ (0 : Int) = 3 by decide) h (fe_02 (whoE_02 w) (numE_02 b))
theorem aftR_e {x : Quo} {w b : Int} (h : ¬ actErr x w b = 0) : aftQ x (actR w b) = (emp, actErr x w b) := by
  unfold actErr at *
  rw [← fe_flat] at *
  exact aft_err (a := actR w b) (show ¬ (1 : Int) = 3 by decide) h (fe_02 (whoE_02 w) (numE_02 b))
theorem actErr_0 {x : Quo} {w b : Int} (h : actErr x w b = 0) : VQ x ∧ whoE w = 0 ∧ 0 ≤ b ∧ b ≤ 2147483647 := by
  unfold actErr at h
  rw [firstE_z] at h
  exact ⟨(checkQ_iff x).1 (h _ (List.mem_cons_self)), h (whoE w) (by simp), numE_iff.1 (h (numE b) (by simp))⟩
theorem aftC_0 {x : Quo} {w b : Int} (h : actErr x w b = 0) : aftQ x (actC w b) = resQ (chg x w b) := by
  unfold actErr at h
  rw [← fe_flat] at h
  exact (aft_ok (a := actC w b) (show ¬ (0 : Int) = 3 by decide) h).2.2
theorem aftR_0 {x : Quo} {w b : Int} (h : actErr x w b = 0) : aftQ x (actR w b) = resQ (rls x w b) := by
  unfold actErr at h
  rw [← fe_flat] at h
  exact (aft_ok (a := actR w b) (show ¬ (1 : Int) = 3 by decide) h).2.2
def movErr (x : Quo) (f t b : Int) : Int := firstE [(checkQ x).2, whoE f, whoE t, numE b]
theorem fe_02' {a b d : Int} (h : a = 0 ∨ a = 2) (h2 : b = 0 ∨ b = 2) (h3 : d = 0 ∨ d = 2) : firstE [firstE [a, b], d] = 0 ∨ firstE [firstE [a, b], d] = 2 := fe_02 (fe_02 h h2) h3
theorem aftM_e {x : Quo} {f t b : Int} (h : ¬ movErr x f t b = 0) : aftQ x (actM f t b) = (emp, movErr x f t b) := by
  unfold movErr at *
  rw [← fe_flat3] at *
  exact aft_err (a := actM f t b) (show ¬ (2 : Int) = 3 by decide) h (fe_02' (whoE_02 f) (whoE_02 t) (numE_02 b))
theorem movErr_0 {x : Quo} {f t b : Int} (h : movErr x f t b = 0) : VQ x ∧ whoE f = 0 ∧ whoE t = 0 ∧ 0 ≤ b ∧ b ≤ 2147483647 := by
  unfold movErr at h
  rw [firstE_z] at h
  exact ⟨(checkQ_iff x).1 (h _ (List.mem_cons_self)), h (whoE f) (by simp), h (whoE t) (by simp), numE_iff.1 (h (numE b) (by simp))⟩
theorem aftM_0 {x : Quo} {f t b : Int} (h : movErr x f t b = 0) : aftQ x (actM f t b) = resQ (mov x f t b) := by
  unfold movErr at h
  rw [← fe_flat3] at h
  exact (aft_ok (a := actM f t b) (show ¬ (2 : Int) = 3 by decide) h).2.2
theorem aftL_q {x : Quo} {l : Lim} (h : (checkQ x).2 = 0) : aftQ x (actL l) = resQ (limF x l) := by
  unfold aftQ doA
  rw [if_pos h, if_pos (show (actL l).kind = 3 from rfl)]; rfl
theorem ownR_withR : ∀ (l : List Own) (o : Own) (f : Int), SRT l → ownR (withR l o) f = if o.who = f then o else ownR l f
  | [], o, f, _ => rfl
  | y :: l, o, f, hs => by
    have hs' := hs
    rw [SRT, List.pairwise_cons] at hs
    simp only [withR]
    by_cases h1 : y.who < o.who
    · rw [if_pos h1]
      simp only [ownR]
      rw [ownR_withR l o f hs.2]
      by_cases h2 : y.who = f
      · rw [if_pos h2, if_pos h2, if_neg (by omega)]
      · rw [if_neg h2, if_neg h2]
    · rw [if_neg h1]
      by_cases h2 : y.who = o.who
      · rw [if_pos h2]
        simp only [ownR]
        by_cases h3 : o.who = f
        · rw [if_pos h3, if_pos h3]
        · rw [if_neg h3, if_neg h3, if_neg (by omega)]
      · rw [if_neg h2]; rfl
theorem chg_own {x : Quo} (h : VQ x) {f t b : Int} (hne : ¬ f = t) : ownR (chg x t b).1.os f = ownR x.os f := by
  have key : ∀ o : Own, o.who = t → ownR (put1 x o).os f = ownR x.os f := fun o ho => by
    show ownR (withR x.os o) f = _
    rw [ownR_withR _ _ _ h.srt, if_neg (by omega)]
  unfold chg
  split
  · rfl
  · split
    · rfl
    · split
      · exact key _ (ownR_who _ _)
      · split
        · rfl
        · exact key _ (ownR_who _ _)
/-- The document's move. -/
def movR (x : Quo) (f t b : Int) : Quo × Int :=
  if (ownR x.os f).used < b then (emp, 2) else if f = t then (x, 0)
  else if (!decide ((resQ (chg x t b)).2 = 0) || decide (b = 0)) = true then resQ (chg x t b)
  else (put1 (resQ (chg x t b)).1 { ownR x.os f with used := (ownR x.os f).used - b }, 0)
theorem mov_movR {x : Quo} (h : VQ x) {f t b : Int} (hb : 0 ≤ b) : resQ (mov x f t b) = movR x f t b := by
  unfold mov movR
  by_cases h1 : (ownR x.os f).used < b
  · rw [if_pos h1, if_pos h1]; rfl
  · rw [if_neg h1, if_neg h1]
    by_cases h2 : f = t
    · rw [if_pos h2, if_pos h2]; rfl
    · rw [if_neg h2, if_neg h2]
      have hr : (resQ (chg x t b)).2 = (chg x t b).2 := by unfold resQ; split <;> rfl
      rw [hr]
      by_cases h3 : (chg x t b).2 = 0
      · rw [if_pos h3, decide_eq_true h3]
        have hq : resQ (chg x t b) = chg x t b := by unfold resQ; rw [if_pos (.inl h3)]
        rw [hq]
        by_cases h4 : b = 0
        · rw [decide_eq_true h4]
          have hc : chg x t b = (x, 0) := by unfold chg; rw [if_pos h4]
          rw [hc]
          unfold rls
          rw [if_neg h1, if_neg (by omega)]
          rfl
        · rw [decide_eq_false h4]
          unfold rls
          rw [chg_own h h2, if_neg h1, if_pos (by omega)]
          rfl
      · rw [if_neg h3, decide_eq_false h3]; rfl
theorem limErr_eq (x : Quo) (l : Lim) (h1 : whoE l.who = 0) (h2 : -1 ≤ l.warn ∧ l.warn ≤ 2147483646) (h3 : -1 ≤ l.lim ∧ l.lim ≤ 2147483646) :
    limErr x l = firstE [if (!(!decide (l.warn = -1) && !decide (l.lim = -1)) || decide (l.warn ≤ l.lim)) = true then 0 else 9, if (!fullQ x l.who) = true then 0 else 16] := by
  unfold limErr
  rw [firstE_cons, if_pos h1, firstE_cons, if_pos (limE_iff.2 h2), firstE_cons, if_pos (limE_iff.2 h3)]
theorem limErr_w (x : Quo) (l : Lim) (h1 : ¬ whoE l.who = 0) : limErr x l = whoE l.who := by
  unfold limErr; rw [firstE_cons, if_neg h1]
theorem limErr_2 (x : Quo) (l : Lim) (h1 : whoE l.who = 0) (h2 : ¬ ((-1 ≤ l.warn ∧ l.warn ≤ 2147483646) ∧ (-1 ≤ l.lim ∧ l.lim ≤ 2147483646))) : limErr x l = 2 := by
  unfold limErr
  rw [firstE_cons, if_pos h1]
  by_cases h3 : limE l.warn = 0
  · have h4 : ¬ limE l.lim = 0 := fun e => h2 ⟨limE_iff.1 h3, limE_iff.1 e⟩
    rw [firstE_cons, if_pos h3, firstE_cons, if_neg h4]
    rcases limE_02 l.lim with e | e
    · exact absurd e h4
    · exact e
  · rw [firstE_cons, if_neg h3]
    rcases limE_02 l.warn with e | e
    · exact absurd e h3
    · exact e
theorem limF_e {x : Quo} {l : Lim} {e : Int} (h : limErr x l = e) (h0 : ¬ e = 0) (h3 : ¬ e = 33) : resQ (limF x l) = (emp, e) := by
  unfold limF; rw [h, if_neg h0, resQ_e _ h0 h3]
theorem limF_0 {x : Quo} {l : Lim} (h : limErr x l = 0) : resQ (limF x l) = (put1 x { ownR x.os l.who with warn := l.warn, lim := l.lim }, 0) := by
  unfold limF; rw [if_pos h, resQ_0]
end Go.Proofs.Ytolfkcmdfgakkaa

/-! Wh -/
namespace Go.Proofs.Ytolfkcmdfgakkaa
open Go Dw
set_option maxRecDepth 10000
set_option linter.unusedVariables false
set_option linter.unusedSimpArgs false
attribute [local irreducible] Run
set_option maxHeartbeats 4000000

theorem c62p (x : Quo) (o : Own) (hx : x.os.length < 1000) (hs : SRT x.os) : Fn 62 [x.enc, o.enc] (put1 x o).enc := c62 x o hx hs
def isQ (x : Quo) (e : Int) (y : Quo) (c : Int) : Bool := decide (e = c) && decide (x = if (!decide (c = 0) && !decide (c = 33)) = true then emp else y)
theorem put_len {x : Quo} (h : VQ x) (o : Own) : (put1 x o).os.length < 1000 := by
  show (withR x.os o).length < 1000
  rw [withR_len _ _ h.srt]
  have := h.len
  split <;> omega
theorem emp_len : emp.os.length < 1000 := by decide
theorem isR_i (x : Quo) (e : Int) (y : Quo) (c : Int) (h : (!decide (c = 0) && !decide (c = 33)) = true) : isQ x e y c = (decide (e = c) && decide (x = emp)) := by unfold isQ; rw [if_pos h]
theorem isR_n (x : Quo) (e : Int) (y : Quo) (c : Int) (h : ¬ (!decide (c = 0) && !decide (c = 33)) = true) : isQ x e y c = (decide (e = c) && decide (x = y)) := by unfold isQ; rw [if_neg h]
theorem fe_e {a b : Int} {l : List Int} (h : ¬ a = 0) : firstE (a :: l) = a := by rw [firstE_cons, if_neg h]
theorem lE9 {x : Quo} {l : Lim} (h1 : whoE l.who = 0) (h2 : within l.warn (-1) 2147483646 = true) (h3 : within l.lim (-1) 2147483646 = true) (h4 : ¬ l.warn = -1) (h5 : ¬ l.lim = -1) (h6 : l.lim < l.warn) : limErr x l = 9 := by
  rw [limErr_eq x l h1 (within_t h2) (within_t h3)]
  simp [firstE, h4, h5, h6, Int.not_le]
theorem lE16 {x : Quo} {l : Lim} (h1 : whoE l.who = 0) (h2 : within l.warn (-1) 2147483646 = true) (h3 : within l.lim (-1) 2147483646 = true) (h4 : l.warn = -1 ∨ l.lim = -1 ∨ ¬ l.lim < l.warn) (h5 : fullQ x l.who = true) : limErr x l = 16 := by
  rw [limErr_eq x l h1 (within_t h2) (within_t h3)]
  have : (!(!decide (l.warn = -1) && !decide (l.lim = -1)) || decide (l.warn ≤ l.lim)) = true := by
    rcases h4 with h | h | h
    · simp [h]
    · simp [h]
    · simp [Int.not_lt.1 h]
  rw [if_pos this, h5]; rfl
theorem lE0 {x : Quo} {l : Lim} (h1 : whoE l.who = 0) (h2 : within l.warn (-1) 2147483646 = true) (h3 : within l.lim (-1) 2147483646 = true) (h4 : l.warn = -1 ∨ l.lim = -1 ∨ ¬ l.lim < l.warn) (h5 : fullQ x l.who = false) : limErr x l = 0 := by
  rw [limErr_eq x l h1 (within_t h2) (within_t h3)]
  have : (!(!decide (l.warn = -1) && !decide (l.lim = -1)) || decide (l.warn ≤ l.lim)) = true := by
    rcases h4 with h | h | h
    · simp [h]
    · simp [h]
    · simp [Int.not_lt.1 h]
  rw [if_pos this, h5]; rfl
theorem fQ_t {x : Quo} {w : Int} (h : VQ x) (h1 : isR x.os w = false) (h2 : (30 : Int) ≤ x.os.length) : fullQ x w = true := by
  have := h.len
  unfold fullQ; rw [h1, decide_eq_true (by omega)]; rfl
theorem fQ_f {x : Quo} {w : Int} (h : isR x.os w = true ∨ ¬ (30 : Int) ≤ x.os.length) : fullQ x w = false := by
  unfold fullQ
  rcases h with h | h
  · rw [h]; rfl
  · rw [decide_eq_false (by omega)]; simp
attribute [local irreducible] oE checkQ cnt isR ownR withR bsR fullQ put1 chg rls mov limErr limF actE doA resQ aftQ whoE limE numE goMin actErr movErr

theorem c59 (x : Quo) (hx : x.os.length < 1000) (w b : Int) : Fn 59 [x.enc, i w, i b] (i (actErr x w b)) := by
  refine run_walkF eok Try.func59 rfl (by kernel_rfl) ?_
  conv => whnf
  repeat' (first
    | ((with_reducible refine on_dec_f ?_ ?_); (focus ((try simp only [List.length_map, List.length_cons, List.length_nil, List.length_append]); omega)); conv => whnf)
    | ((with_reducible refine on_dec_t ?_ ?_); (focus ((try simp only [List.length_map, List.length_cons, List.length_nil, List.length_append]); omega)); conv => whnf)
    | ((with_reducible refine on_dec (fun h => ?_) (fun h => ?_)) <;> (try simp only [List.length_map] at h) <;> conv => whnf)
    | ((with_reducible refine on_ndec (fun h => ?_) (fun h => ?_)) <;> (try simp only [List.length_map] at h) <;> conv => whnf)
    | ((with_reducible refine on_not (fun h => ?_) (fun h => ?_)) <;> conv => whnf)
    | ((with_reducible refine onBool_split (fun h => ?_) (fun h => ?_)) <;> conv => whnf)
    | ((with_reducible refine call_go ?_); (first | refine call_step (run_data (c31 x hx) _) ?_ | refine call_step (run_view (c20 _) rfl rfl) ?_ | refine call_step (run_view (c63 _) rfl rfl) ?_); conv => whnf)
    | (refine ⟨⟨(by first | rfl | (simp; done)), cap_ok (by simp only [List.length_map, List.length_cons, List.length_nil, List.length_append]; omega) rfl⟩, ?_⟩; conv => whnf)
    | (refine ⟨mem_one ⟨rfl, rfl⟩, ?_⟩; conv => whnf)
    | (refine ⟨(by intro y hy; obtain ⟨x, _, rfl⟩ := List.mem_map.1 hy; first | rfl | exact ⟨rfl, rfl⟩), ?_⟩; conv => whnf)
    | (refine ⟨cap_ok (by first | omega | (simp only [List.length_map]; omega)) rfl, ?_⟩; conv => whnf)
    | (refine ix_map (by omega) ?_; conv => whnf)
    | (refine ix_str (by omega) ?_; conv => whnf)
    | (refine wrap64 (by omega) ?_; conv => whnf)
    | (exfalso; simp only [List.length_map, List.length_cons, List.length_nil, List.length_append] at h; omega)
    | ((with_reducible refine endx_go ?_); first | (refine endx (congrArg i ?_); unfold actErr; (first | (rw [fe_e (b := 0) (by assumption)]; done) | (rw [firstE_cons, if_pos (by assumption), fe_e (b := 0) (by assumption)]; done) | (rw [firstE_cons, if_pos (by assumption), firstE_cons, if_pos (by assumption), firstE_cons, firstE_nil]; split <;> simp_all)); done))
    | (refine ⟨rfl, ?_⟩; conv => whnf)
    | fail
    )

theorem c60 (x : Quo) (hx : x.os.length < 1000) (hv : VQ x) (w b : Int) (hb : 0 ≤ b ∧ b ≤ 2147483647) : Fn 60 [x.enc, i w, i b] (.tup [(resQ (chg x w b)).1.enc, i (resQ (chg x w b)).2]) := by
  obtain ⟨hn1, hn2, hn3⟩ := hv.nums w; have hfl := hv.len
  refine run_walkF eok Try.func60 rfl (by kernel_rfl) ?_
  conv => whnf
  repeat' (first
    | ((with_reducible refine on_dec_f ?_ ?_); (focus ((try simp only [List.length_map, List.length_cons, List.length_nil, List.length_append]); omega)); conv => whnf)
    | ((with_reducible refine on_dec_t ?_ ?_); (focus ((try simp only [List.length_map, List.length_cons, List.length_nil, List.length_append]); omega)); conv => whnf)
    | ((with_reducible refine on_dec (fun h => ?_) (fun h => ?_)) <;> (try simp only [List.length_map] at h) <;> conv => whnf)
    | ((with_reducible refine on_ndec (fun h => ?_) (fun h => ?_)) <;> (try simp only [List.length_map] at h) <;> conv => whnf)
    | ((with_reducible refine on_not (fun h => ?_) (fun h => ?_)) <;> conv => whnf)
    | ((with_reducible refine onBool_split (fun h => ?_) (fun h => ?_)) <;> conv => whnf)
    | ((with_reducible refine call_go ?_); (first | refine call_step (run_view (c24 x (by omega) w) rfl rfl) ?_ | refine call_step (run_data (c15 x (by omega)) _) ?_ | refine call_step (run_dataV (c62p x { ownR x.os w with used := (ownR x.os w).used + b } (by first | exact hx | exact put_len hv _ | exact hyl) hv.srt) (vlc rfl (vlc (view_agg (vlc rfl (vlc rfl (vlc rfl (vlc rfl (vlc rfl vln)))))) vln)) rfl) ?_ | refine call_step (run_dataV (c62p x { ownR x.os w with ref := goMin ((ownR x.os w).ref + 1) 65535 } (by first | exact hx | exact put_len hv _ | exact hyl) hv.srt) (vlc rfl (vlc (view_agg (vlc rfl (vlc rfl (vlc rfl (vlc rfl (vlc rfl vln)))))) vln)) rfl) ?_); conv => whnf)
    | (refine ⟨⟨(by first | rfl | (simp; done)), cap_ok (by simp only [List.length_map, List.length_cons, List.length_nil, List.length_append]; omega) rfl⟩, ?_⟩; conv => whnf)
    | (refine ⟨mem_one ⟨rfl, rfl⟩, ?_⟩; conv => whnf)
    | (refine ⟨(by intro y hy; obtain ⟨x, _, rfl⟩ := List.mem_map.1 hy; first | rfl | exact ⟨rfl, rfl⟩), ?_⟩; conv => whnf)
    | (refine ⟨cap_ok (by first | omega | (simp only [List.length_map]; omega)) rfl, ?_⟩; conv => whnf)
    | (refine ix_map (by omega) ?_; conv => whnf)
    | (refine ix_str (by omega) ?_; conv => whnf)
    | (refine wrap64 (by omega) ?_; conv => whnf)
    | (refine wrap64 (by omega) ?_; conv => whnf)
    | (exfalso; simp only [List.length_map, List.length_cons, List.length_nil, List.length_append] at h; omega)
    | ((with_reducible refine endx_go ?_); first | (refine cut_ (resQ (chg x w b) = (x, 0)) ?_ (fun hE => ?_); (focus ((unfold chg fullQ resQ; (first | (simp_all; done) | (simp_all; omega) | grind)))); rw [hE]; (first | (refine endx ?_; rfl) | (refine endxv (view_tup (vlc (view_agg (vlc rfl (vlc rfl vln))) (vlc rfl vln))) ?_; rfl) | (refine endxv (view_tup (vlc rfl (vlc rfl vln))) ?_; rfl)); done) | (refine cut_ (resQ (chg x w b) = (emp, 16)) ?_ (fun hE => ?_); (focus ((unfold chg fullQ resQ; (first | (simp_all; done) | (simp_all; omega) | grind)))); rw [hE]; (first | (refine endx ?_; rfl) | (refine endxv (view_tup (vlc (view_agg (vlc rfl (vlc rfl vln))) (vlc rfl vln))) ?_; rfl) | (refine endxv (view_tup (vlc rfl (vlc rfl vln))) ?_; rfl)); done) | (refine cut_ (resQ (chg x w b) = (emp, 8)) ?_ (fun hE => ?_); (focus ((unfold chg fullQ resQ; (first | (simp_all; done) | (simp_all; omega) | grind)))); rw [hE]; (first | (refine endx ?_; rfl) | (refine endxv (view_tup (vlc (view_agg (vlc rfl (vlc rfl vln))) (vlc rfl vln))) ?_; rfl) | (refine endxv (view_tup (vlc rfl (vlc rfl vln))) ?_; rfl)); done) | (refine cut_ (resQ (chg x w b) = (put1 x { ownR x.os w with ref := goMin ((ownR x.os w).ref + 1) 65535 }, 33)) ?_ (fun hE => ?_); (focus ((unfold chg fullQ resQ; (first | (simp_all; done) | (simp_all; omega) | grind)))); rw [hE]; (first | (refine endx ?_; rfl) | (refine endxv (view_tup (vlc (view_agg (vlc rfl (vlc rfl vln))) (vlc rfl vln))) ?_; rfl) | (refine endxv (view_tup (vlc rfl (vlc rfl vln))) ?_; rfl)); done) | (refine cut_ (resQ (chg x w b) = (put1 x { ownR x.os w with used := (ownR x.os w).used + b }, 0)) ?_ (fun hE => ?_); (focus ((unfold chg fullQ resQ; (first | (simp_all; done) | (simp_all; omega) | grind)))); rw [hE]; (first | (refine endx ?_; rfl) | (refine endxv (view_tup (vlc (view_agg (vlc rfl (vlc rfl vln))) (vlc rfl vln))) ?_; rfl) | (refine endxv (view_tup (vlc rfl (vlc rfl vln))) ?_; rfl)); done))
    | (refine ⟨rfl, ?_⟩; conv => whnf)
    | fail
    )

theorem c18e (x : Quo) (hx : x.os.length < 1000) (w b : Int) (h0 : ¬ actErr x w b = 0) : Fn 18 [x.enc, i w, i b] (.tup [(aftQ x (actC w b)).1.enc, i (aftQ x (actC w b)).2]) := by
  refine run_walkF eok Try.func18 rfl (by kernel_rfl) ?_
  conv => whnf
  repeat' (first
    | ((with_reducible refine on_dec_t (by assumption) ?_); conv => whnf)
    | ((with_reducible refine on_dec_f (by assumption) ?_); conv => whnf)
    | ((with_reducible refine onBool_t (by assumption) ?_); conv => whnf)
    | ((with_reducible refine onBool_f (by assumption) ?_); conv => whnf)
    | ((with_reducible refine on_nt (by assumption) ?_); conv => whnf)
    | ((with_reducible refine on_nf (by assumption) ?_); conv => whnf)
    | ((with_reducible refine on_ndec_t (by first | assumption | rfl) ?_); conv => whnf)
    | ((with_reducible refine on_ndec_f (by assumption) ?_); conv => whnf)
    | ((with_reducible refine on_dec_t rfl ?_); conv => whnf)
    | ((with_reducible refine on_ndec (fun h => ?_) (fun h => ?_)) <;> conv => whnf)
    | ((with_reducible refine on_dec_f ?_ ?_); (focus ((try simp only [List.length_map, List.length_cons, List.length_nil, List.length_append]); omega)); conv => whnf)
    | ((with_reducible refine on_dec_t ?_ ?_); (focus ((try simp only [List.length_map, List.length_cons, List.length_nil, List.length_append]); omega)); conv => whnf)
    | ((with_reducible refine on_dec (fun h => ?_) (fun h => ?_)) <;> (try simp only [List.length_map] at h) <;> conv => whnf)
    | ((with_reducible refine on_ndec (fun h => ?_) (fun h => ?_)) <;> (try simp only [List.length_map] at h) <;> conv => whnf)
    | ((with_reducible refine on_not (fun h => ?_) (fun h => ?_)) <;> conv => whnf)
    | ((with_reducible refine onBool_split (fun h => ?_) (fun h => ?_)) <;> conv => whnf)
    | ((with_reducible refine call_go ?_); (first | refine call_step (run_data (c59 x hx w b) _) ?_ | refine call_step (run_data (c60 x hx hv w b hb) _) ?_); conv => whnf)
    | (refine ⟨⟨(by first | rfl | (simp; done)), cap_ok (by simp only [List.length_map, List.length_cons, List.length_nil, List.length_append]; omega) rfl⟩, ?_⟩; conv => whnf)
    | (refine ⟨mem_one ⟨rfl, rfl⟩, ?_⟩; conv => whnf)
    | (refine ⟨(by intro y hy; obtain ⟨x, _, rfl⟩ := List.mem_map.1 hy; first | rfl | exact ⟨rfl, rfl⟩), ?_⟩; conv => whnf)
    | (refine ⟨cap_ok (by first | omega | (simp only [List.length_map]; omega)) rfl, ?_⟩; conv => whnf)
    | (refine ix_map (by omega) ?_; conv => whnf)
    | (refine ix_str (by omega) ?_; conv => whnf)
    | (refine wrap64 (by omega) ?_; conv => whnf)
    | (exfalso; simp only [List.length_map, List.length_cons, List.length_nil, List.length_append] at h; omega)
    | ((with_reducible refine endx_go ?_); first | (rw [aftC_e h0]; (first | (refine endx ?_; rfl) | (refine endxv (view_tup (vlc (view_agg (vlc rfl (vlc rfl vln))) (vlc rfl vln))) ?_; rfl) | (refine endxv (view_tup (vlc rfl (vlc rfl vln))) ?_; rfl)); done))
    | (refine ⟨rfl, ?_⟩; conv => whnf)
    | fail
    )

theorem c18o (x : Quo) (hx : x.os.length < 1000) (w b : Int) (h0 : actErr x w b = 0) : Fn 18 [x.enc, i w, i b] (.tup [(aftQ x (actC w b)).1.enc, i (aftQ x (actC w b)).2]) := by
  obtain ⟨hv, hw, hb⟩ := actErr_0 h0
  refine run_walkF eok Try.func18 rfl (by kernel_rfl) ?_
  conv => whnf
  repeat' (first
    | ((with_reducible refine on_dec_t (by assumption) ?_); conv => whnf)
    | ((with_reducible refine on_dec_f (by assumption) ?_); conv => whnf)
    | ((with_reducible refine onBool_t (by assumption) ?_); conv => whnf)
    | ((with_reducible refine onBool_f (by assumption) ?_); conv => whnf)
    | ((with_reducible refine on_nt (by assumption) ?_); conv => whnf)
    | ((with_reducible refine on_nf (by assumption) ?_); conv => whnf)
    | ((with_reducible refine on_ndec_t (by first | assumption | rfl) ?_); conv => whnf)
    | ((with_reducible refine on_ndec_f (by assumption) ?_); conv => whnf)
    | ((with_reducible refine on_dec_t rfl ?_); conv => whnf)
    | ((with_reducible refine on_ndec (fun h => ?_) (fun h => ?_)) <;> conv => whnf)
    | ((with_reducible refine on_dec_f ?_ ?_); (focus ((try simp only [List.length_map, List.length_cons, List.length_nil, List.length_append]); omega)); conv => whnf)
    | ((with_reducible refine on_dec_t ?_ ?_); (focus ((try simp only [List.length_map, List.length_cons, List.length_nil, List.length_append]); omega)); conv => whnf)
    | ((with_reducible refine on_dec (fun h => ?_) (fun h => ?_)) <;> (try simp only [List.length_map] at h) <;> conv => whnf)
    | ((with_reducible refine on_ndec (fun h => ?_) (fun h => ?_)) <;> (try simp only [List.length_map] at h) <;> conv => whnf)
    | ((with_reducible refine on_not (fun h => ?_) (fun h => ?_)) <;> conv => whnf)
    | ((with_reducible refine onBool_split (fun h => ?_) (fun h => ?_)) <;> conv => whnf)
    | ((with_reducible refine call_go ?_); (first | refine call_step (run_data (c59 x hx w b) _) ?_ | refine call_step (run_data (c60 x hx hv w b hb) _) ?_); conv => whnf)
    | (refine ⟨⟨(by first | rfl | (simp; done)), cap_ok (by simp only [List.length_map, List.length_cons, List.length_nil, List.length_append]; omega) rfl⟩, ?_⟩; conv => whnf)
    | (refine ⟨mem_one ⟨rfl, rfl⟩, ?_⟩; conv => whnf)
    | (refine ⟨(by intro y hy; obtain ⟨x, _, rfl⟩ := List.mem_map.1 hy; first | rfl | exact ⟨rfl, rfl⟩), ?_⟩; conv => whnf)
    | (refine ⟨cap_ok (by first | omega | (simp only [List.length_map]; omega)) rfl, ?_⟩; conv => whnf)
    | (refine ix_map (by omega) ?_; conv => whnf)
    | (refine ix_str (by omega) ?_; conv => whnf)
    | (refine wrap64 (by omega) ?_; conv => whnf)
    | (exfalso; simp only [List.length_map, List.length_cons, List.length_nil, List.length_append] at h; omega)
    | ((with_reducible refine endx_go ?_); first | (rw [aftC_0 h0]; (first | (refine endx ?_; rfl) | (refine endxv (view_tup (vlc (view_agg (vlc rfl (vlc rfl vln))) (vlc rfl vln))) ?_; rfl) | (refine endxv (view_tup (vlc rfl (vlc rfl vln))) ?_; rfl)); done))
    | (refine ⟨rfl, ?_⟩; conv => whnf)
    | fail
    )

theorem c18 (x : Quo) (hx : x.os.length < 1000) (w b : Int) : Fn 18 [x.enc, i w, i b] (.tup [(aftQ x (actC w b)).1.enc, i (aftQ x (actC w b)).2]) := by
  by_cases h0 : actErr x w b = 0
  · exact c18o x hx w b h0
  · exact c18e x hx w b h0

theorem c23e (x : Quo) (hx : x.os.length < 1000) (w b : Int) (h0 : ¬ actErr x w b = 0) : Fn 23 [x.enc, i w, i b] (.tup [(aftQ x (actR w b)).1.enc, i (aftQ x (actR w b)).2]) := by
  refine run_walkF eok Try.func23 rfl (by kernel_rfl) ?_
  conv => whnf
  repeat' (first
    | ((with_reducible refine on_dec_t (by assumption) ?_); conv => whnf)
    | ((with_reducible refine on_dec_f (by assumption) ?_); conv => whnf)
    | ((with_reducible refine onBool_t (by assumption) ?_); conv => whnf)
    | ((with_reducible refine onBool_f (by assumption) ?_); conv => whnf)
    | ((with_reducible refine on_nt (by assumption) ?_); conv => whnf)
    | ((with_reducible refine on_nf (by assumption) ?_); conv => whnf)
    | ((with_reducible refine on_ndec_t (by first | assumption | rfl) ?_); conv => whnf)
    | ((with_reducible refine on_ndec_f (by assumption) ?_); conv => whnf)
    | ((with_reducible refine on_dec_t rfl ?_); conv => whnf)
    | ((with_reducible refine on_ndec (fun h => ?_) (fun h => ?_)) <;> conv => whnf)
    | ((with_reducible refine on_dec_f ?_ ?_); (focus ((try simp only [List.length_map, List.length_cons, List.length_nil, List.length_append]); omega)); conv => whnf)
    | ((with_reducible refine on_dec_t ?_ ?_); (focus ((try simp only [List.length_map, List.length_cons, List.length_nil, List.length_append]); omega)); conv => whnf)
    | ((with_reducible refine on_dec (fun h => ?_) (fun h => ?_)) <;> (try simp only [List.length_map] at h) <;> conv => whnf)
    | ((with_reducible refine on_ndec (fun h => ?_) (fun h => ?_)) <;> (try simp only [List.length_map] at h) <;> conv => whnf)
    | ((with_reducible refine on_not (fun h => ?_) (fun h => ?_)) <;> conv => whnf)
    | ((with_reducible refine onBool_split (fun h => ?_) (fun h => ?_)) <;> conv => whnf)
    | ((with_reducible refine call_go ?_); (first | refine call_step (run_data (c59 x hx w b) _) ?_ | refine call_step (run_view (c24 x (by omega) w) rfl rfl) ?_ | refine call_step (run_data (c15 x (by omega)) _) ?_ | refine call_step (run_dataV (c62p x { ownR x.os w with used := (ownR x.os w).used - b } (by first | exact hx | exact put_len hv _ | exact hyl) hv.srt) (vlc rfl (vlc (view_agg (vlc rfl (vlc rfl (vlc rfl (vlc rfl (vlc rfl vln)))))) vln)) rfl) ?_); conv => whnf)
    | (refine ⟨⟨(by first | rfl | (simp; done)), cap_ok (by simp only [List.length_map, List.length_cons, List.length_nil, List.length_append]; omega) rfl⟩, ?_⟩; conv => whnf)
    | (refine ⟨mem_one ⟨rfl, rfl⟩, ?_⟩; conv => whnf)
    | (refine ⟨(by intro y hy; obtain ⟨x, _, rfl⟩ := List.mem_map.1 hy; first | rfl | exact ⟨rfl, rfl⟩), ?_⟩; conv => whnf)
    | (refine ⟨cap_ok (by first | omega | (simp only [List.length_map]; omega)) rfl, ?_⟩; conv => whnf)
    | (refine ix_map (by omega) ?_; conv => whnf)
    | (refine ix_str (by omega) ?_; conv => whnf)
    | (refine wrap64 (by omega) ?_; conv => whnf)
    | (exfalso; simp only [List.length_map, List.length_cons, List.length_nil, List.length_append] at h; omega)
    | ((with_reducible refine endx_go ?_); first | (rw [aftR_e h0]; (first | (refine endx ?_; rfl) | (refine endxv (view_tup (vlc (view_agg (vlc rfl (vlc rfl vln))) (vlc rfl vln))) ?_; rfl) | (refine endxv (view_tup (vlc rfl (vlc rfl vln))) ?_; rfl)); done))
    | (refine ⟨rfl, ?_⟩; conv => whnf)
    | fail
    )

theorem c23o (x : Quo) (hx : x.os.length < 1000) (w b : Int) (h0 : actErr x w b = 0) : Fn 23 [x.enc, i w, i b] (.tup [(aftQ x (actR w b)).1.enc, i (aftQ x (actR w b)).2]) := by
  obtain ⟨hv, hw, hb⟩ := actErr_0 h0; obtain ⟨hn1, hn2, hn3⟩ := hv.nums w; have hfl := hv.len
  refine run_walkF eok Try.func23 rfl (by kernel_rfl) ?_
  conv => whnf
  repeat' (first
    | ((with_reducible refine on_dec_t (by assumption) ?_); conv => whnf)
    | ((with_reducible refine on_dec_f (by assumption) ?_); conv => whnf)
    | ((with_reducible refine onBool_t (by assumption) ?_); conv => whnf)
    | ((with_reducible refine onBool_f (by assumption) ?_); conv => whnf)
    | ((with_reducible refine on_nt (by assumption) ?_); conv => whnf)
    | ((with_reducible refine on_nf (by assumption) ?_); conv => whnf)
    | ((with_reducible refine on_ndec_t (by first | assumption | rfl) ?_); conv => whnf)
    | ((with_reducible refine on_ndec_f (by assumption) ?_); conv => whnf)
    | ((with_reducible refine on_dec_t rfl ?_); conv => whnf)
    | ((with_reducible refine on_ndec (fun h => ?_) (fun h => ?_)) <;> conv => whnf)
    | ((with_reducible refine on_dec_f ?_ ?_); (focus ((try simp only [List.length_map, List.length_cons, List.length_nil, List.length_append]); omega)); conv => whnf)
    | ((with_reducible refine on_dec_t ?_ ?_); (focus ((try simp only [List.length_map, List.length_cons, List.length_nil, List.length_append]); omega)); conv => whnf)
    | ((with_reducible refine on_dec (fun h => ?_) (fun h => ?_)) <;> (try simp only [List.length_map] at h) <;> conv => whnf)
    | ((with_reducible refine on_ndec (fun h => ?_) (fun h => ?_)) <;> (try simp only [List.length_map] at h) <;> conv => whnf)
    | ((with_reducible refine on_not (fun h => ?_) (fun h => ?_)) <;> conv => whnf)
    | ((with_reducible refine onBool_split (fun h => ?_) (fun h => ?_)) <;> conv => whnf)
    | ((with_reducible refine call_go ?_); (first | refine call_step (run_data (c59 x hx w b) _) ?_ | refine call_step (run_view (c24 x (by omega) w) rfl rfl) ?_ | refine call_step (run_data (c15 x (by omega)) _) ?_ | refine call_step (run_dataV (c62p x { ownR x.os w with used := (ownR x.os w).used - b } (by first | exact hx | exact put_len hv _ | exact hyl) hv.srt) (vlc rfl (vlc (view_agg (vlc rfl (vlc rfl (vlc rfl (vlc rfl (vlc rfl vln)))))) vln)) rfl) ?_); conv => whnf)
    | (refine ⟨⟨(by first | rfl | (simp; done)), cap_ok (by simp only [List.length_map, List.length_cons, List.length_nil, List.length_append]; omega) rfl⟩, ?_⟩; conv => whnf)
    | (refine ⟨mem_one ⟨rfl, rfl⟩, ?_⟩; conv => whnf)
    | (refine ⟨(by intro y hy; obtain ⟨x, _, rfl⟩ := List.mem_map.1 hy; first | rfl | exact ⟨rfl, rfl⟩), ?_⟩; conv => whnf)
    | (refine ⟨cap_ok (by first | omega | (simp only [List.length_map]; omega)) rfl, ?_⟩; conv => whnf)
    | (refine ix_map (by omega) ?_; conv => whnf)
    | (refine ix_str (by omega) ?_; conv => whnf)
    | (refine wrap64 (by omega) ?_; conv => whnf)
    | (refine wrap64 (by omega) ?_; conv => whnf)
    | (exfalso; simp only [List.length_map, List.length_cons, List.length_nil, List.length_append] at h; omega)
    | ((with_reducible refine endx_go ?_); first | (rw [aftR_0 h0]; refine cut_ (resQ (rls x w b) = (emp, 2)) ?_ (fun hE => ?_); (focus ((unfold rls resQ; (first | (simp_all; done) | (simp_all; omega) | grind)))); rw [hE]; (first | (refine endx ?_; rfl) | (refine endxv (view_tup (vlc (view_agg (vlc rfl (vlc rfl vln))) (vlc rfl vln))) ?_; rfl) | (refine endxv (view_tup (vlc rfl (vlc rfl vln))) ?_; rfl)); done) | (rw [aftR_0 h0]; refine cut_ (resQ (rls x w b) = (x, 0)) ?_ (fun hE => ?_); (focus ((unfold rls resQ; (first | (simp_all; done) | (simp_all; omega) | grind)))); rw [hE]; (first | (refine endx ?_; rfl) | (refine endxv (view_tup (vlc (view_agg (vlc rfl (vlc rfl vln))) (vlc rfl vln))) ?_; rfl) | (refine endxv (view_tup (vlc rfl (vlc rfl vln))) ?_; rfl)); done) | (rw [aftR_0 h0]; refine cut_ (resQ (rls x w b) = (put1 x { ownR x.os w with used := (ownR x.os w).used - b }, 0)) ?_ (fun hE => ?_); (focus ((unfold rls resQ; (first | (simp_all; done) | (simp_all; omega) | grind)))); rw [hE]; (first | (refine endx ?_; rfl) | (refine endxv (view_tup (vlc (view_agg (vlc rfl (vlc rfl vln))) (vlc rfl vln))) ?_; rfl) | (refine endxv (view_tup (vlc rfl (vlc rfl vln))) ?_; rfl)); done))
    | (refine ⟨rfl, ?_⟩; conv => whnf)
    | fail
    )

theorem c23 (x : Quo) (hx : x.os.length < 1000) (w b : Int) : Fn 23 [x.enc, i w, i b] (.tup [(aftQ x (actR w b)).1.enc, i (aftQ x (actR w b)).2]) := by
  by_cases h0 : actErr x w b = 0
  · exact c23o x hx w b h0
  · exact c23e x hx w b h0

end Go.Proofs.Ytolfkcmdfgakkaa

/-! Wj -/
namespace Go.Proofs.Ytolfkcmdfgakkaa
open Go Dw
set_option maxRecDepth 10000
set_option linter.unusedVariables false
set_option linter.unusedSimpArgs false
attribute [local irreducible] Run
set_option maxHeartbeats 4000000

attribute [local irreducible] oE checkQ cnt isR ownR withR bsR fullQ put1 chg rls mov limErr limF actE doA resQ aftQ whoE limE numE goMin actErr movErr
theorem res_srt {x : Quo} (h : VQ x) {t b : Int} (ht : whoE t = 0) (hb : 0 ≤ b) : VQ (resQ (chg x t b)).1 := by
  have h1 := chg_ok h ht hb
  unfold resQ
  split
  · exact h1
  · show VQ emp
    exact ⟨by decide, List.Pairwise.nil, fun o ho => by cases ho⟩
theorem chg_0 (x : Quo) (t : Int) : resQ (chg x t 0) = (x, 0) := by unfold chg resQ; simp

theorem c27e (x : Quo) (hx : x.os.length < 1000) (f t b : Int) (h0 : ¬ movErr x f t b = 0) : Fn 27 [x.enc, i f, i t, i b] (.tup [(aftQ x (actM f t b)).1.enc, i (aftQ x (actM f t b)).2]) := by
  refine run_walkF eok Try.func27 rfl (by kernel_rfl) ?_
  conv => whnf
  repeat' (first
    | ((with_reducible refine on_dec_t (by assumption) ?_); conv => whnf)
    | ((with_reducible refine on_dec_f (by assumption) ?_); conv => whnf)
    | ((with_reducible refine onBool_t (by assumption) ?_); conv => whnf)
    | ((with_reducible refine onBool_f (by assumption) ?_); conv => whnf)
    | ((with_reducible refine on_nt (by assumption) ?_); conv => whnf)
    | ((with_reducible refine on_nf (by assumption) ?_); conv => whnf)
    | ((with_reducible refine on_ndec_t (by first | assumption | rfl) ?_); conv => whnf)
    | ((with_reducible refine on_ndec_f (by assumption) ?_); conv => whnf)
    | ((with_reducible refine on_dec_t rfl ?_); conv => whnf)
    | ((with_reducible refine on_ndec (fun h => ?_) (fun h => ?_)) <;> conv => whnf)
    | ((with_reducible refine on_dec_f ?_ ?_); (focus ((try simp only [List.length_map, List.length_cons, List.length_nil, List.length_append]); omega)); conv => whnf)
    | ((with_reducible refine on_dec_t ?_ ?_); (focus ((try simp only [List.length_map, List.length_cons, List.length_nil, List.length_append]); omega)); conv => whnf)
    | ((with_reducible refine on_dec (fun h => ?_) (fun h => ?_)) <;> (try simp only [List.length_map] at h) <;> conv => whnf)
    | ((with_reducible refine on_ndec (fun h => ?_) (fun h => ?_)) <;> (try simp only [List.length_map] at h) <;> conv => whnf)
    | ((with_reducible refine on_not (fun h => ?_) (fun h => ?_)) <;> conv => whnf)
    | ((with_reducible refine onBool_split (fun h => ?_) (fun h => ?_)) <;> conv => whnf)
    | ((with_reducible refine call_go ?_); (first | refine call_step (run_data (c31 x hx) _) ?_ | refine call_step (run_view (c20 _) rfl rfl) ?_ | refine call_step (run_view (c63 _) rfl rfl) ?_ | refine call_step (run_view (c24 x (by omega) f) rfl rfl) ?_ | refine call_step (run_data (c15 x (by omega)) _) ?_ | refine call_step (run_data (c60 x hx hv t b hb) _) ?_ | refine call_step (run_dataV (c62p (resQ (chg x t b)).1 { ownR x.os f with used := (ownR x.os f).used - b } hyl (res_srt hv ht hb.1).srt) (vlc rfl (vlc (view_agg (vlc rfl (vlc rfl (vlc rfl (vlc rfl (vlc rfl vln)))))) vln)) rfl) ?_); conv => whnf)
    | (refine ⟨⟨(by first | rfl | (simp; done)), cap_ok (by simp only [List.length_map, List.length_cons, List.length_nil, List.length_append]; omega) rfl⟩, ?_⟩; conv => whnf)
    | (refine ⟨mem_one ⟨rfl, rfl⟩, ?_⟩; conv => whnf)
    | (refine ⟨(by intro y hy; obtain ⟨x, _, rfl⟩ := List.mem_map.1 hy; first | rfl | exact ⟨rfl, rfl⟩), ?_⟩; conv => whnf)
    | (refine ⟨cap_ok (by first | omega | (simp only [List.length_map]; omega)) rfl, ?_⟩; conv => whnf)
    | (refine ix_map (by omega) ?_; conv => whnf)
    | (refine ix_str (by omega) ?_; conv => whnf)
    | (refine wrap64 (by omega) ?_; conv => whnf)
    | (exfalso; refine h0 ?_; unfold movErr; rw [firstE_z]; intro e he; simp only [List.mem_cons, List.not_mem_nil, or_false] at he; rcases he with rfl | rfl | rfl | rfl <;> assumption)
    | (exfalso; simp only [List.length_map, List.length_cons, List.length_nil, List.length_append] at h; omega)
    | ((with_reducible refine endx_go ?_); first | (rw [aftM_e h0]; refine cut_ (movErr x f t b = (checkQ x).2) ?_ (fun hE => ?_); (focus ((unfold movErr; simp [firstE_cons, *]; done))); rw [hE]; (first | (refine endx ?_; rfl) | (refine endxv (view_tup (vlc (view_agg (vlc rfl (vlc rfl vln))) (vlc rfl vln))) ?_; rfl) | (refine endxv (view_tup (vlc rfl (vlc rfl vln))) ?_; rfl)); done) | (rw [aftM_e h0]; refine cut_ (movErr x f t b = whoE f) ?_ (fun hE => ?_); (focus ((unfold movErr; simp [firstE_cons, *]; done))); rw [hE]; (first | (refine endx ?_; rfl) | (refine endxv (view_tup (vlc (view_agg (vlc rfl (vlc rfl vln))) (vlc rfl vln))) ?_; rfl) | (refine endxv (view_tup (vlc rfl (vlc rfl vln))) ?_; rfl)); done) | (rw [aftM_e h0]; refine cut_ (movErr x f t b = whoE t) ?_ (fun hE => ?_); (focus ((unfold movErr; simp [firstE_cons, *]; done))); rw [hE]; (first | (refine endx ?_; rfl) | (refine endxv (view_tup (vlc (view_agg (vlc rfl (vlc rfl vln))) (vlc rfl vln))) ?_; rfl) | (refine endxv (view_tup (vlc rfl (vlc rfl vln))) ?_; rfl)); done) | (rw [aftM_e h0]; refine cut_ (movErr x f t b = numE b) ?_ (fun hE => ?_); (focus ((unfold movErr; simp [firstE_cons, *]; done))); rw [hE]; (first | (refine endx ?_; rfl) | (refine endxv (view_tup (vlc (view_agg (vlc rfl (vlc rfl vln))) (vlc rfl vln))) ?_; rfl) | (refine endxv (view_tup (vlc rfl (vlc rfl vln))) ?_; rfl)); done))
    | (refine ⟨rfl, ?_⟩; conv => whnf)
    | fail
    )

theorem c27o (x : Quo) (hx : x.os.length < 1000) (f t b : Int) (h0 : movErr x f t b = 0) : Fn 27 [x.enc, i f, i t, i b] (.tup [(aftQ x (actM f t b)).1.enc, i (aftQ x (actM f t b)).2]) := by
  obtain ⟨hv, hf, ht, hb⟩ := movErr_0 h0; have hq := (checkQ_iff x).2 hv; have hnb := numE_iff.2 hb; obtain ⟨hn1, hn2, hn3⟩ := hv.nums f; have hyl : (resQ (chg x t b)).1.os.length < 1000 := (by have := (res_srt hv ht hb.1).len; omega)
  refine run_walkF eok Try.func27 rfl (by kernel_rfl) ?_
  conv => whnf
  repeat' (first
    | ((with_reducible refine on_dec_t (by assumption) ?_); conv => whnf)
    | ((with_reducible refine on_dec_f (by assumption) ?_); conv => whnf)
    | ((with_reducible refine onBool_t (by assumption) ?_); conv => whnf)
    | ((with_reducible refine onBool_f (by assumption) ?_); conv => whnf)
    | ((with_reducible refine on_nt (by assumption) ?_); conv => whnf)
    | ((with_reducible refine on_nf (by assumption) ?_); conv => whnf)
    | ((with_reducible refine on_ndec_t (by first | assumption | rfl) ?_); conv => whnf)
    | ((with_reducible refine on_ndec_f (by assumption) ?_); conv => whnf)
    | ((with_reducible refine on_dec_t rfl ?_); conv => whnf)
    | ((with_reducible refine on_ndec (fun h => ?_) (fun h => ?_)) <;> conv => whnf)
    | ((with_reducible refine on_dec_f ?_ ?_); (focus ((try simp only [List.length_map, List.length_cons, List.length_nil, List.length_append]); omega)); conv => whnf)
    | ((with_reducible refine on_dec_t ?_ ?_); (focus ((try simp only [List.length_map, List.length_cons, List.length_nil, List.length_append]); omega)); conv => whnf)
    | ((with_reducible refine on_dec (fun h => ?_) (fun h => ?_)) <;> (try simp only [List.length_map] at h) <;> conv => whnf)
    | ((with_reducible refine on_ndec (fun h => ?_) (fun h => ?_)) <;> (try simp only [List.length_map] at h) <;> conv => whnf)
    | ((with_reducible refine on_not (fun h => ?_) (fun h => ?_)) <;> conv => whnf)
    | ((with_reducible refine onBool_split (fun h => ?_) (fun h => ?_)) <;> conv => whnf)
    | ((with_reducible refine call_go ?_); (first | refine call_step (run_data (c31 x hx) _) ?_ | refine call_step (run_view (c20 _) rfl rfl) ?_ | refine call_step (run_view (c63 _) rfl rfl) ?_ | refine call_step (run_view (c24 x (by omega) f) rfl rfl) ?_ | refine call_step (run_data (c15 x (by omega)) _) ?_ | refine call_step (run_data (c60 x hx hv t b hb) _) ?_ | refine call_step (run_dataV (c62p (resQ (chg x t b)).1 { ownR x.os f with used := (ownR x.os f).used - b } hyl (res_srt hv ht hb.1).srt) (vlc rfl (vlc (view_agg (vlc rfl (vlc rfl (vlc rfl (vlc rfl (vlc rfl vln)))))) vln)) rfl) ?_); conv => whnf)
    | (refine ⟨⟨(by first | rfl | (simp; done)), cap_ok (by simp only [List.length_map, List.length_cons, List.length_nil, List.length_append]; omega) rfl⟩, ?_⟩; conv => whnf)
    | (refine ⟨mem_one ⟨rfl, rfl⟩, ?_⟩; conv => whnf)
    | (refine ⟨(by intro y hy; obtain ⟨x, _, rfl⟩ := List.mem_map.1 hy; first | rfl | exact ⟨rfl, rfl⟩), ?_⟩; conv => whnf)
    | (refine ⟨cap_ok (by first | omega | (simp only [List.length_map]; omega)) rfl, ?_⟩; conv => whnf)
    | (refine ix_map (by omega) ?_; conv => whnf)
    | (refine ix_str (by omega) ?_; conv => whnf)
    | (refine wrap64 (by omega) ?_; conv => whnf)
    | (refine wrap64 (by omega) ?_; conv => whnf)
    | (exfalso; simp only [List.length_map, List.length_cons, List.length_nil, List.length_append] at h; omega)
    | ((with_reducible refine endx_go ?_); first | (rw [aftM_0 h0, mov_movR hv hb.1]; refine cut_ (movR x f t b = (emp, 2)) ?_ (fun hE => ?_); (focus ((unfold movR; (first | (simp_all; done) | (simp_all; omega) | grind)))); rw [hE]; (first | (refine endx ?_; rfl) | (refine endxv (view_tup (vlc (view_agg (vlc rfl (vlc rfl vln))) (vlc rfl vln))) ?_; rfl) | (refine endxv (view_tup (vlc rfl (vlc rfl vln))) ?_; rfl)); done) | (rw [aftM_0 h0, mov_movR hv hb.1]; refine cut_ (movR x f t b = (x, 0)) ?_ (fun hE => ?_); (focus ((unfold movR; (first | (simp_all; done) | (simp_all; omega) | grind)))); rw [hE]; (first | (refine endx ?_; rfl) | (refine endxv (view_tup (vlc (view_agg (vlc rfl (vlc rfl vln))) (vlc rfl vln))) ?_; rfl) | (refine endxv (view_tup (vlc rfl (vlc rfl vln))) ?_; rfl)); done) | (rw [aftM_0 h0, mov_movR hv hb.1]; refine cut_ (movR x f t b = resQ (chg x t b)) ?_ (fun hE => ?_); (focus ((unfold movR; (first | (simp_all; done) | (simp_all; omega) | grind)))); rw [hE]; (first | (refine endx ?_; rfl) | (refine endxv (view_tup (vlc (view_agg (vlc rfl (vlc rfl vln))) (vlc rfl vln))) ?_; rfl) | (refine endxv (view_tup (vlc rfl (vlc rfl vln))) ?_; rfl)); done) | (rw [aftM_0 h0, mov_movR hv hb.1]; refine cut_ (movR x f t b = (put1 (resQ (chg x t b)).1 { ownR x.os f with used := (ownR x.os f).used - b }, 0)) ?_ (fun hE => ?_); (focus ((unfold movR; (first | (simp_all; done) | (simp_all; omega) | grind)))); rw [hE]; (first | (refine endx ?_; rfl) | (refine endxv (view_tup (vlc (view_agg (vlc rfl (vlc rfl vln))) (vlc rfl vln))) ?_; rfl) | (refine endxv (view_tup (vlc rfl (vlc rfl vln))) ?_; rfl)); done))
    | (refine ⟨rfl, ?_⟩; conv => whnf)
    | fail
    )

theorem c27 (x : Quo) (hx : x.os.length < 1000) (f t b : Int) : Fn 27 [x.enc, i f, i t, i b] (.tup [(aftQ x (actM f t b)).1.enc, i (aftQ x (actM f t b)).2]) := by
  by_cases h0 : movErr x f t b = 0
  · exact c27o x hx f t b h0
  · exact c27e x hx f t b h0

theorem c28e (x : Quo) (hx : x.os.length < 1000) (l : Lim) (h0 : ¬ (checkQ x).2 = 0) : Fn 28 [x.enc, l.enc] (.tup [(aftQ x (actL l)).1.enc, i (aftQ x (actL l)).2]) := by
  refine run_walkF eok Try.func28 rfl (by kernel_rfl) ?_
  conv => whnf
  repeat' (first
    | ((with_reducible refine on_dec_t (by assumption) ?_); conv => whnf)
    | ((with_reducible refine on_dec_f (by assumption) ?_); conv => whnf)
    | ((with_reducible refine onBool_t (by assumption) ?_); conv => whnf)
    | ((with_reducible refine onBool_f (by assumption) ?_); conv => whnf)
    | ((with_reducible refine on_nt (by assumption) ?_); conv => whnf)
    | ((with_reducible refine on_nf (by assumption) ?_); conv => whnf)
    | ((with_reducible refine on_ndec_t (by first | assumption | rfl) ?_); conv => whnf)
    | ((with_reducible refine on_ndec_f (by assumption) ?_); conv => whnf)
    | ((with_reducible refine on_dec_t rfl ?_); conv => whnf)
    | ((with_reducible refine on_ndec (fun h => ?_) (fun h => ?_)) <;> conv => whnf)
    | ((with_reducible refine on_dec_f ?_ ?_); (focus ((try simp only [List.length_map, List.length_cons, List.length_nil, List.length_append]); omega)); conv => whnf)
    | ((with_reducible refine on_dec_t ?_ ?_); (focus ((try simp only [List.length_map, List.length_cons, List.length_nil, List.length_append]); omega)); conv => whnf)
    | ((with_reducible refine on_dec (fun h => ?_) (fun h => ?_)) <;> (try simp only [List.length_map] at h) <;> conv => whnf)
    | ((with_reducible refine on_ndec (fun h => ?_) (fun h => ?_)) <;> (try simp only [List.length_map] at h) <;> conv => whnf)
    | ((with_reducible refine on_not (fun h => ?_) (fun h => ?_)) <;> conv => whnf)
    | ((with_reducible refine onBool_split (fun h => ?_) (fun h => ?_)) <;> conv => whnf)
    | ((with_reducible refine call_go ?_); (first | refine call_step (run_data (c31 x hx) _) ?_ | refine call_step (run_view (c20 _) rfl rfl) ?_ | refine call_step (run_view (c58 _) rfl rfl) ?_ | refine call_step (run_view (c24 x (by omega) l.who) rfl rfl) ?_ | refine call_step (run_dataV (c62p x { ownR x.os l.who with warn := l.warn, lim := l.lim } hx hv.srt) (vlc rfl (vlc (view_agg (vlc rfl (vlc rfl (vlc rfl (vlc rfl (vlc rfl vln)))))) vln)) rfl) ?_); conv => whnf)
    | (refine ⟨[], [(3, 5)], (by decide +kernel), ?_⟩; conv => whnf)
    | (refine ⟨⟨(by first | rfl | (simp; done)), cap_ok (by simp only [List.length_map, List.length_cons, List.length_nil, List.length_append]; omega) rfl⟩, ?_⟩; conv => whnf)
    | (refine ⟨mem_one ⟨rfl, rfl⟩, ?_⟩; conv => whnf)
    | (refine ⟨(by intro y hy; obtain ⟨x, _, rfl⟩ := List.mem_map.1 hy; first | rfl | exact ⟨rfl, rfl⟩), ?_⟩; conv => whnf)
    | (refine ⟨cap_ok (by first | omega | (simp only [List.length_map]; omega)) rfl, ?_⟩; conv => whnf)
    | (refine ix_map (by omega) ?_; conv => whnf)
    | (refine ix_str (by omega) ?_; conv => whnf)
    | (refine wrap64 (by omega) ?_; conv => whnf)
    | (exfalso; simp only [List.length_map, List.length_cons, List.length_nil, List.length_append] at h; omega)
    | ((with_reducible refine endx_go ?_); first | (rw [aft_e h0]; (first | (refine endx ?_; rfl) | (refine endxv (view_tup (vlc (view_agg (vlc rfl (vlc rfl vln))) (vlc rfl vln))) ?_; rfl) | (refine endxv (view_tup (vlc rfl (vlc rfl vln))) ?_; rfl)); done))
    | (refine ⟨rfl, ?_⟩; conv => whnf)
    | fail
    )

theorem c28o (x : Quo) (hx : x.os.length < 1000) (l : Lim) (h0 : (checkQ x).2 = 0) : Fn 28 [x.enc, l.enc] (.tup [(aftQ x (actL l)).1.enc, i (aftQ x (actL l)).2]) := by
  have hv := (checkQ_iff x).1 h0
  refine run_walkF eok Try.func28 rfl (by kernel_rfl) ?_
  conv => whnf
  repeat' (first
    | ((with_reducible refine on_dec_t (by assumption) ?_); conv => whnf)
    | ((with_reducible refine on_dec_f (by assumption) ?_); conv => whnf)
    | ((with_reducible refine onBool_t (by assumption) ?_); conv => whnf)
    | ((with_reducible refine onBool_f (by assumption) ?_); conv => whnf)
    | ((with_reducible refine on_nt (by assumption) ?_); conv => whnf)
    | ((with_reducible refine on_nf (by assumption) ?_); conv => whnf)
    | ((with_reducible refine on_ndec_t (by first | assumption | rfl) ?_); conv => whnf)
    | ((with_reducible refine on_ndec_f (by assumption) ?_); conv => whnf)
    | ((with_reducible refine on_dec_t rfl ?_); conv => whnf)
    | ((with_reducible refine on_ndec (fun h => ?_) (fun h => ?_)) <;> conv => whnf)
    | ((with_reducible refine on_dec_f ?_ ?_); (focus ((try simp only [List.length_map, List.length_cons, List.length_nil, List.length_append]); omega)); conv => whnf)
    | ((with_reducible refine on_dec_t ?_ ?_); (focus ((try simp only [List.length_map, List.length_cons, List.length_nil, List.length_append]); omega)); conv => whnf)
    | ((with_reducible refine on_dec (fun h => ?_) (fun h => ?_)) <;> (try simp only [List.length_map] at h) <;> conv => whnf)
    | ((with_reducible refine on_ndec (fun h => ?_) (fun h => ?_)) <;> (try simp only [List.length_map] at h) <;> conv => whnf)
    | ((with_reducible refine on_not (fun h => ?_) (fun h => ?_)) <;> conv => whnf)
    | ((with_reducible refine onBool_split (fun h => ?_) (fun h => ?_)) <;> conv => whnf)
    | ((with_reducible refine call_go ?_); (first | refine call_step (run_data (c31 x hx) _) ?_ | refine call_step (run_view (c20 _) rfl rfl) ?_ | refine call_step (run_view (c58 _) rfl rfl) ?_ | refine call_step (run_view (c24 x (by omega) l.who) rfl rfl) ?_ | refine call_step (run_dataV (c62p x { ownR x.os l.who with warn := l.warn, lim := l.lim } hx hv.srt) (vlc rfl (vlc (view_agg (vlc rfl (vlc rfl (vlc rfl (vlc rfl (vlc rfl vln)))))) vln)) rfl) ?_); conv => whnf)
    | (refine ⟨[], [(3, 5)], (by decide +kernel), ?_⟩; conv => whnf)
    | (refine ⟨⟨(by first | rfl | (simp; done)), cap_ok (by simp only [List.length_map, List.length_cons, List.length_nil, List.length_append]; omega) rfl⟩, ?_⟩; conv => whnf)
    | (refine ⟨mem_one ⟨rfl, rfl⟩, ?_⟩; conv => whnf)
    | (refine ⟨(by intro y hy; obtain ⟨x, _, rfl⟩ := List.mem_map.1 hy; first | rfl | exact ⟨rfl, rfl⟩), ?_⟩; conv => whnf)
    | (refine ⟨cap_ok (by first | omega | (simp only [List.length_map]; omega)) rfl, ?_⟩; conv => whnf)
    | (refine ix_map (by omega) ?_; conv => whnf)
    | (refine ix_str (by omega) ?_; conv => whnf)
    | (refine wrap64 (by omega) ?_; conv => whnf)
    | (refine wrap64 (by omega) ?_; conv => whnf)
    | (exfalso; simp only [List.length_map, List.length_cons, List.length_nil, List.length_append] at h; omega)
    | ((with_reducible refine endx_go ?_); first | (rw [aftL_q h0]; rw [limF_e (limErr_w x l (by assumption)) (by assumption) (by rcases whoE_02 l.who with e | e <;> omega)]; (first | (refine endx ?_; rfl) | (refine endxv (view_tup (vlc (view_agg (vlc rfl (vlc rfl vln))) (vlc rfl vln))) ?_; rfl) | (refine endxv (view_tup (vlc rfl (vlc rfl vln))) ?_; rfl)); done) | (rw [aftL_q h0]; rw [limF_e (limErr_2 x l (by assumption) (by (first | have w1 := within_f (by assumption : within l.warn (-1) 2147483646 = false) | have w1 := within_f (by assumption : within l.lim (-1) 2147483646 = false)); omega)) (by decide) (by decide)]; (first | (refine endx ?_; rfl) | (refine endxv (view_tup (vlc (view_agg (vlc rfl (vlc rfl vln))) (vlc rfl vln))) ?_; rfl) | (refine endxv (view_tup (vlc rfl (vlc rfl vln))) ?_; rfl)); done) | (rw [aftL_q h0]; rw [limF_e (lE9 (by assumption) (by assumption) (by assumption) (by assumption) (by assumption) (by assumption)) (by decide) (by decide)]; (first | (refine endx ?_; rfl) | (refine endxv (view_tup (vlc (view_agg (vlc rfl (vlc rfl vln))) (vlc rfl vln))) ?_; rfl) | (refine endxv (view_tup (vlc rfl (vlc rfl vln))) ?_; rfl)); done) | (rw [aftL_q h0]; rw [limF_e (lE16 (by assumption) (by assumption) (by assumption) (by first | exact .inl (by assumption) | exact .inr (.inl (by assumption)) | exact .inr (.inr (by assumption))) (fQ_t hv (by assumption) (by assumption))) (by decide) (by decide)]; (first | (refine endx ?_; rfl) | (refine endxv (view_tup (vlc (view_agg (vlc rfl (vlc rfl vln))) (vlc rfl vln))) ?_; rfl) | (refine endxv (view_tup (vlc rfl (vlc rfl vln))) ?_; rfl)); done) | (rw [aftL_q h0]; rw [limF_0 (lE0 (by assumption) (by assumption) (by assumption) (by first | exact .inl (by assumption) | exact .inr (.inl (by assumption)) | exact .inr (.inr (by assumption))) (fQ_f (by first | exact .inl (by assumption) | exact .inr (by assumption))))]; (first | (refine endx ?_; rfl) | (refine endxv (view_tup (vlc (view_agg (vlc rfl (vlc rfl vln))) (vlc rfl vln))) ?_; rfl) | (refine endxv (view_tup (vlc rfl (vlc rfl vln))) ?_; rfl)); done))
    | (refine ⟨rfl, ?_⟩; conv => whnf)
    | fail
    )

theorem c28 (x : Quo) (hx : x.os.length < 1000) (l : Lim) : Fn 28 [x.enc, l.enc] (.tup [(aftQ x (actL l)).1.enc, i (aftQ x (actL l)).2]) := by
  by_cases h0 : (checkQ x).2 = 0
  · exact c28o x hx l h0
  · exact c28e x hx l h0

theorem si_take {a b : List Int} {k : Nat} (h : a.take k = b.take k) (ha : k < a.length) (hb : k < b.length) (e : a[k] = b[k]) : a.take (k + 1) = b.take (k + 1) := by
  rw [List.take_succ_eq_append_getElem ha, List.take_succ_eq_append_getElem hb, h, e]
theorem si_t {a b : List Int} {k : Nat} (hl : a.length = b.length) (hk : a.length ≤ k) (h : a.take k = b.take k) : decide (a = b) = true := by
  rw [List.take_of_length_le hk, List.take_of_length_le (by omega)] at h
  exact decide_eq_true h
theorem si_f {a b : List Int} {k : Nat} (hk : k < a.length) (hk2 : k < b.length) (h : ¬ a[k] = b[k]) : decide (a = b) = false := by
  rw [decide_eq_false_iff_not]; intro e; subst e; exact h rfl
theorem si_l {a b : List Int} (h : ¬ a.length = b.length) : decide (a = b) = false := by
  rw [decide_eq_false_iff_not]; intro e; subst e; exact h rfl

theorem c32 (a b : List Int) (ha : a.length < 1000000) (hb : b.length < 1000000) : Fn 32 [.fs (a.map i), .fs (b.map i)] (.bool (decide (a = b))) := by
  refine run_walkF eok Try.func32 rfl (by kernel_rfl) ?_
  conv => whnf
  repeat' (first
    | ((with_reducible refine on_dec_f ?_ ?_); (focus ((try simp only [List.length_map, List.length_cons, List.length_nil, List.length_append]); omega)); conv => whnf)
    | ((with_reducible refine on_dec_t ?_ ?_); (focus ((try simp only [List.length_map, List.length_cons, List.length_nil, List.length_append]); omega)); conv => whnf)
    | ((with_reducible refine on_dec (fun h => ?_) (fun h => ?_)) <;> (try simp only [List.length_map] at h) <;> conv => whnf)
    | ((with_reducible refine on_ndec (fun h => ?_) (fun h => ?_)) <;> (try simp only [List.length_map] at h) <;> conv => whnf)
    | ((with_reducible refine on_not (fun h => ?_) (fun h => ?_)) <;> conv => whnf)
    | ((with_reducible refine onBool_split (fun h => ?_) (fun h => ?_)) <;> conv => whnf)
    | (refine ⟨[], [], (by decide +kernel), ?_⟩; conv => whnf)
    | ((with_reducible refine loop_go ?_); first | (refine loop1 (fun (k : Nat) => a.length - k) (fun (k : Nat) => k ≤ a.length ∧ a.take k = b.take k) (fun (k : Nat) => [(0, .d (.fs (a.map i))), (1, .d (.fs (b.map i))), (5, .d (i k))]) (fun (k : Nat) => []) (0) (by exact ⟨Nat.zero_le _, rfl⟩) ?_ (fun k C hI hC => ?_); (exact ⟨[], rfl, rfl, ⟨(by first | (show (_ : D) = _; with_reducible rfl) | exact rfl), (by first | (show (_ : D) = _; with_reducible rfl) | exact rfl), (by first | (show (_ : D) = _; with_reducible rfl) | exact congrArg (D.int .i64) (by omega) | exact congrArg (D.int .i64) (by simp only [List.length_map]) | exact rfl), trivial⟩, trivial⟩); all_goals (conv => whnf)))
    | ((with_reducible show C _ _); first | (refine hC (k + 1) _ _ ?_ (by omega) ?_; clear hC; rotate_left; (exact ⟨[], rfl, rfl, ⟨(by first | (show (_ : D) = _; with_reducible rfl) | exact rfl), (by first | (show (_ : D) = _; with_reducible rfl) | exact rfl), (by first | (show (_ : D) = _; with_reducible rfl) | exact congrArg (D.int .i64) (by omega) | exact congrArg (D.int .i64) (by simp only [List.length_map]) | exact rfl), trivial⟩, trivial⟩); (exact ⟨by omega, si_take hI.2 (by omega) (by omega) (by first | assumption | (simp_all; done))⟩)))
    | (refine ⟨⟨(by first | rfl | (simp; done)), cap_ok (by simp only [List.length_map, List.length_cons, List.length_nil, List.length_append]; omega) rfl⟩, ?_⟩; conv => whnf)
    | (refine ⟨mem_one ⟨rfl, rfl⟩, ?_⟩; conv => whnf)
    | (refine ⟨(by intro y hy; obtain ⟨x, _, rfl⟩ := List.mem_map.1 hy; first | rfl | exact ⟨rfl, rfl⟩), ?_⟩; conv => whnf)
    | (refine ⟨cap_ok (by first | omega | (simp only [List.length_map]; omega)) rfl, ?_⟩; conv => whnf)
    | (refine ix_map (by omega) ?_; conv => whnf)
    | (refine ix_str (by omega) ?_; conv => whnf)
    | (refine wrap64 (by omega) ?_; conv => whnf)
    | (refine wrap64 (by omega) ?_; conv => whnf)
    | (exfalso; simp only [List.length_map, List.length_cons, List.length_nil, List.length_append] at h; omega)
    | ((with_reducible refine endx_go ?_); first | (exact endx (congrArg D.bool (si_f (k := k) (by omega) (by omega) (by assumption)).symm); done) | (exact endx (congrArg D.bool (si_t (k := k) (by omega) (by omega) hI.2).symm); done) | (exact endx (congrArg D.bool (si_l (by omega)).symm); done))
    | (refine ⟨rfl, ?_⟩; conv => whnf)
    | fail
    )

theorem c19n (x y : Quo) (hx : x.os.length < 1000) (hy : y.os.length < 1000) (e c : Int) (hc : (!decide (c = 0) && !decide (c = 33)) = false) : Fn 19 [x.enc, i e, y.enc, i c] (.bool (isQ x e y c)) := by
  refine run_walkF eok Try.func19 rfl (by kernel_rfl) ?_
  conv => whnf
  repeat' (first
    | ((with_reducible refine on_dec_f ?_ ?_); (focus ((try simp only [List.length_map, List.length_cons, List.length_nil, List.length_append]); omega)); conv => whnf)
    | ((with_reducible refine on_dec_t ?_ ?_); (focus ((try simp only [List.length_map, List.length_cons, List.length_nil, List.length_append]); omega)); conv => whnf)
    | ((with_reducible refine on_dec (fun h => ?_) (fun h => ?_)) <;> (try simp only [List.length_map] at h) <;> conv => whnf)
    | ((with_reducible refine on_ndec (fun h => ?_) (fun h => ?_)) <;> (try simp only [List.length_map] at h) <;> conv => whnf)
    | ((with_reducible refine on_not (fun h => ?_) (fun h => ?_)) <;> conv => whnf)
    | ((with_reducible refine onBool_split (fun h => ?_) (fun h => ?_)) <;> conv => whnf)
    | ((with_reducible refine call_go ?_); (first | refine call_step (run_data (c36 x y (by omega) (by omega)) _) ?_); conv => whnf)
    | (refine ⟨⟨(by first | rfl | (simp; done)), cap_ok (by simp only [List.length_map, List.length_cons, List.length_nil, List.length_append]; omega) rfl⟩, ?_⟩; conv => whnf)
    | (refine ⟨mem_one ⟨rfl, rfl⟩, ?_⟩; conv => whnf)
    | (refine ⟨(by intro y hy; obtain ⟨x, _, rfl⟩ := List.mem_map.1 hy; first | rfl | exact ⟨rfl, rfl⟩), ?_⟩; conv => whnf)
    | (refine ⟨cap_ok (by first | omega | (simp only [List.length_map]; omega)) rfl, ?_⟩; conv => whnf)
    | (refine ix_map (by omega) ?_; conv => whnf)
    | (refine ix_str (by omega) ?_; conv => whnf)
    | (refine wrap64 (by omega) ?_; conv => whnf)
    | (exfalso; simp_all; done)
    | (exfalso; simp only [List.length_map, List.length_cons, List.length_nil, List.length_append] at h; omega)
    | ((with_reducible refine endx_go ?_); first | (rw [isR_n x e y c (by rw [hc]; decide)]; refine endx (congrArg D.bool ?_); simp_all; done; done))
    | (refine ⟨rfl, ?_⟩; conv => whnf)
    | fail
    )

theorem c19i (x y : Quo) (hx : x.os.length < 1000) (hy : y.os.length < 1000) (e c : Int) (hc : (!decide (c = 0) && !decide (c = 33)) = true) : Fn 19 [x.enc, i e, y.enc, i c] (.bool (isQ x e y c)) := by
  refine run_walkF eok Try.func19 rfl (by kernel_rfl) ?_
  conv => whnf
  repeat' (first
    | ((with_reducible refine on_dec_f ?_ ?_); (focus ((try simp only [List.length_map, List.length_cons, List.length_nil, List.length_append]); omega)); conv => whnf)
    | ((with_reducible refine on_dec_t ?_ ?_); (focus ((try simp only [List.length_map, List.length_cons, List.length_nil, List.length_append]); omega)); conv => whnf)
    | ((with_reducible refine on_dec (fun h => ?_) (fun h => ?_)) <;> (try simp only [List.length_map] at h) <;> conv => whnf)
    | ((with_reducible refine on_ndec (fun h => ?_) (fun h => ?_)) <;> (try simp only [List.length_map] at h) <;> conv => whnf)
    | ((with_reducible refine on_not (fun h => ?_) (fun h => ?_)) <;> conv => whnf)
    | ((with_reducible refine onBool_split (fun h => ?_) (fun h => ?_)) <;> conv => whnf)
    | ((with_reducible refine call_go ?_); (first | refine call_step (run_dataV (c36 x emp (by omega) (by decide)) (vlc rfl (vlc (view_agg (vlc rfl (vlc rfl vln))) vln)) rfl) ?_); conv => whnf)
    | (refine ⟨⟨(by first | rfl | (simp; done)), cap_ok (by simp only [List.length_map, List.length_cons, List.length_nil, List.length_append]; omega) rfl⟩, ?_⟩; conv => whnf)
    | (refine ⟨mem_one ⟨rfl, rfl⟩, ?_⟩; conv => whnf)
    | (refine ⟨(by intro y hy; obtain ⟨x, _, rfl⟩ := List.mem_map.1 hy; first | rfl | exact ⟨rfl, rfl⟩), ?_⟩; conv => whnf)
    | (refine ⟨cap_ok (by first | omega | (simp only [List.length_map]; omega)) rfl, ?_⟩; conv => whnf)
    | (refine ix_map (by omega) ?_; conv => whnf)
    | (refine ix_str (by omega) ?_; conv => whnf)
    | (refine wrap64 (by omega) ?_; conv => whnf)
    | (exfalso; simp_all; done)
    | (exfalso; simp only [List.length_map, List.length_cons, List.length_nil, List.length_append] at h; omega)
    | ((with_reducible refine endx_go ?_); first | (rw [isR_i x e y c hc]; refine endx (congrArg D.bool ?_); simp_all; done; done))
    | (refine ⟨rfl, ?_⟩; conv => whnf)
    | fail
    )

theorem c19 (x y : Quo) (hx : x.os.length < 1000) (hy : y.os.length < 1000) (e c : Int) : Fn 19 [x.enc, i e, y.enc, i c] (.bool (isQ x e y c)) := by
  cases hc : (!decide (c = 0) && !decide (c = 33)) with
  | true => exact c19i x y hx hy e c hc
  | false => exact c19n x y hx hy e c hc
def exQ : Quo := ⟨[⟨10, 100, 150, 200, 0⟩], true⟩

theorem c13 (x : Quo) : Fn 13 [x.enc] (.bool (decide (x.os.length ≤ 32))) := by
  refine run_walkF eok Try.func13 rfl (by kernel_rfl) ?_
  conv => whnf
  repeat' (first
    | ((with_reducible refine on_dec_f ?_ ?_); (focus ((try simp only [List.length_map, List.length_cons, List.length_nil, List.length_append]); omega)); conv => whnf)
    | ((with_reducible refine on_dec_t ?_ ?_); (focus ((try simp only [List.length_map, List.length_cons, List.length_nil, List.length_append]); omega)); conv => whnf)
    | ((with_reducible refine on_dec (fun h => ?_) (fun h => ?_)) <;> (try simp only [List.length_map] at h) <;> conv => whnf)
    | ((with_reducible refine on_ndec (fun h => ?_) (fun h => ?_)) <;> (try simp only [List.length_map] at h) <;> conv => whnf)
    | ((with_reducible refine on_not (fun h => ?_) (fun h => ?_)) <;> conv => whnf)
    | ((with_reducible refine onBool_split (fun h => ?_) (fun h => ?_)) <;> conv => whnf)
    | (refine ⟨⟨(by first | rfl | (simp; done)), cap_ok (by simp only [List.length_map, List.length_cons, List.length_nil, List.length_append]; omega) rfl⟩, ?_⟩; conv => whnf)
    | (refine ⟨mem_one ⟨rfl, rfl⟩, ?_⟩; conv => whnf)
    | (refine ⟨(by intro y hy; obtain ⟨x, _, rfl⟩ := List.mem_map.1 hy; first | rfl | exact ⟨rfl, rfl⟩), ?_⟩; conv => whnf)
    | (refine ⟨cap_ok (by first | omega | (simp only [List.length_map]; omega)) rfl, ?_⟩; conv => whnf)
    | (refine ix_map (by omega) ?_; conv => whnf)
    | (refine ix_str (by omega) ?_; conv => whnf)
    | (refine wrap64 (by omega) ?_; conv => whnf)
    | (exfalso; simp only [List.length_map, List.length_cons, List.length_nil, List.length_append] at h; omega)
    | ((with_reducible refine endx_go ?_); first | (refine endx (congrArg D.bool ?_); rw [decide_eq_decide, List.length_map]; omega; done))
    | (refine ⟨rfl, ?_⟩; conv => whnf)
    | fail
    )

theorem c47 : Fn 47 [] exQ.enc := by
  refine run_walkF eok Try.func47 rfl (by kernel_rfl) ?_
  conv => whnf
  repeat' (first
    | ((with_reducible refine on_dec_f ?_ ?_); (focus ((try simp only [List.length_map, List.length_cons, List.length_nil, List.length_append]); omega)); conv => whnf)
    | ((with_reducible refine on_dec_t ?_ ?_); (focus ((try simp only [List.length_map, List.length_cons, List.length_nil, List.length_append]); omega)); conv => whnf)
    | ((with_reducible refine on_dec (fun h => ?_) (fun h => ?_)) <;> (try simp only [List.length_map] at h) <;> conv => whnf)
    | ((with_reducible refine on_ndec (fun h => ?_) (fun h => ?_)) <;> (try simp only [List.length_map] at h) <;> conv => whnf)
    | ((with_reducible refine on_not (fun h => ?_) (fun h => ?_)) <;> conv => whnf)
    | ((with_reducible refine onBool_split (fun h => ?_) (fun h => ?_)) <;> conv => whnf)
    | (refine ⟨⟨(by first | rfl | (simp; done)), cap_ok (by simp only [List.length_map, List.length_cons, List.length_nil, List.length_append]; omega) rfl⟩, ?_⟩; conv => whnf)
    | (refine ⟨mem_one ⟨rfl, rfl⟩, ?_⟩; conv => whnf)
    | (refine ⟨(by intro y hy; obtain ⟨x, _, rfl⟩ := List.mem_map.1 hy; first | rfl | exact ⟨rfl, rfl⟩), ?_⟩; conv => whnf)
    | (refine ⟨cap_ok (by first | omega | (simp only [List.length_map]; omega)) rfl, ?_⟩; conv => whnf)
    | (refine ix_map (by omega) ?_; conv => whnf)
    | (refine ix_str (by omega) ?_; conv => whnf)
    | (refine wrap64 (by omega) ?_; conv => whnf)
    | (exfalso; simp only [List.length_map, List.length_cons, List.length_nil, List.length_append] at h; omega)
    | ((with_reducible refine endx_go ?_); first | (exact endxv (view_agg (vlc rfl (vlc rfl vln))) rfl; done))
    | (refine ⟨rfl, ?_⟩; conv => whnf)
    | fail
    )

end Go.Proofs.Ytolfkcmdfgakkaa
