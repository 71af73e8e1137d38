/-
  Own lemmas, no conditions: Wo, Pf, Wp, Pg, Wq, Pe, Wr.
-/
import Derived.Test.YtolfkcmdfgakkaaGrpF
set_option linter.unusedVariables false
set_option linter.unusedSimpArgs false

/-! Wo -/
namespace Go.Proofs.Ytolfkcmdfgakkaa
open Go Dw
set_option maxRecDepth 10000
set_option linter.unusedVariables false
set_option linter.unusedSimpArgs false
attribute [local irreducible] Run
set_option maxHeartbeats 4000000

attribute [local irreducible] oE checkQ cnt isR ownR withR bsR fullQ put1 chg rls mov limErr limF actE doA resQ aftQ whoE limE numE goMin goMax actErr movErr filE iget iput upto eF srt isQ roomQ warned
end Go.Proofs.Ytolfkcmdfgakkaa

/-! Pf -/
namespace Go.Proofs.Ytolfkcmdfgakkaa
open Go Dw
set_option maxRecDepth 100000
set_option linter.unusedVariables false

def addK (l : List Int) (n : Int) : List Int := if n ∈ l then l else l ++ [n]
def allK (l : List Own) : List Int := l.foldl (fun ks o => addK ks o.who) []
def difU (a b : Quo) (w : Int) : Bool := !decide ((ownR a.os w).used = (ownR b.os w).used)
def mkG (a b : Quo) (w : Int) : Gap := ⟨w, (ownR a.os w).used, (ownR b.os w).used⟩
def gaps (a b : Quo) (ks : List Int) : List Gap := (ks.filter (difU a b)).map (mkG a b)
def kys (a b : Quo) : List Int := srt (allK (a.os ++ b.os))
def diffQ (a b : Quo) : List Gap × Int := if firstE [(checkQ a).2, (checkQ b).2] = 0 then (gaps a b (kys a b), 0) else ([], firstE [(checkQ a).2, (checkQ b).2])
end Go.Proofs.Ytolfkcmdfgakkaa

/-! Wp -/
namespace Go.Proofs.Ytolfkcmdfgakkaa
open Go Dw
set_option maxRecDepth 10000
set_option linter.unusedVariables false
set_option linter.unusedSimpArgs false
attribute [local irreducible] Run
set_option maxHeartbeats 4000000

attribute [local irreducible] oE checkQ cnt isR ownR withR bsR fullQ put1 chg rls mov limErr limF actE doA resQ aftQ whoE limE numE goMin goMax actErr movErr filE iget iput upto eF srt isQ roomQ warned mget mput addK allK kys

end Go.Proofs.Ytolfkcmdfgakkaa

/-! Pg -/
namespace Go.Proofs.Ytolfkcmdfgakkaa
open Go Dw
set_option maxRecDepth 100000
set_option linter.unusedVariables false

def stO (out : List Own) (f : Fil) : List Own := withR out { ownR out f.who with used := goMin ((ownR out f.who).used + f.bytes) 2147483647 }
def bgO (out : List Own) (f : Fil) : Bool := decide (2147483647 - (ownR out f.who).used < f.bytes)
def refF : List Fil → List Own → Bool → List Own × Bool
  | [], out, g => (out, g)
  | f :: l, out, g => refF l (stO out f) (g || bgO out f)
def sref (l : List Fil) : Quo × Int :=
  if 100 < l.length then (emp, 8)
  else if ¬ (eF l 0).2 = 0 then (emp, (eF l 0).2)
  else if 30 < (refF l [] false).1.length then (emp, 16)
  else if (refF l [] false).2 = true then (emp, 8)
  else (⟨(refF l [] false).1, true⟩, 0)
theorem iget_put (n v m : Int) : ∀ (L : List (Int × Int)), iget (iput L n v) m = if m = n then v else iget L m
  | [] => by simp only [iput, iget]
  | p :: L => by
    have ih := iget_put n v m L
    simp only [iput]
    by_cases h : n = p.1
    · rw [if_pos h]
      simp only [iget]
      by_cases h2 : m = n
      · simp [h2]
      · have : ¬ m = p.1 := by omega
        simp [h2, this]
    · rw [if_neg h]
      simp only [iget, ih]
      by_cases h2 : m = n
      · subst h2; simp [h]
      · simp [h2]
theorem ikeys_put (n v : Int) (L : List (Int × Int)) (m : Int) : m ∈ ikeys (iput L n v) ↔ m ∈ ikeys L ∨ m = n := by
  rw [iput_keys]
  split
  · rename_i h; exact ⟨.inl, fun h2 => h2.elim id (fun e => e ▸ h)⟩
  · simp
theorem isR_withR : ∀ (l : List Own) (o : Own) (w : Int), isR (withR l o) w = (decide (o.who = w) || isR l w)
  | [], o, w => rfl
  | y :: l, o, w => by
    simp only [withR]
    split
    · rw [isR_cons, isR_withR l, isR_cons]
      cases decide (y.who = w) <;> cases decide (o.who = w) <;> rfl
    · split
      · rename_i h2 h
        rw [isR_cons, isR_cons, h]
        cases decide (o.who = w) <;> rfl
      · rfl
structure InvS (n : Nat) (S : List (Int × Int)) (out : List Own) (g : Bool) : Prop where
  ord : SRT out
  mem : ∀ w, isR out w = true ↔ w ∈ ikeys S
  own : ∀ w, ownR out w = { newO w with used := goMin (iget S w) 2147483647 }
  big : g = true ↔ ∃ w, 2147483647 < iget S w
  rng : ∀ w, 0 ≤ iget S w ∧ iget S w ≤ n * 2147483647
theorem InvS.start : InvS 0 [] [] false := by
  refine ⟨List.Pairwise.nil, fun w => ?_, fun w => ?_, ?_, fun w => ?_⟩
  · simp [isR, ikeys]
  · simp [ownR, iget, newO, goMin]
  · simp [iget]
  · simp [iget]
theorem wrap_id {x : Int} (h : -9223372036854775808 ≤ x ∧ x ≤ 9223372036854775807) : IntKind.i64.wrap x = x := Go.IntWalk.i64_in _ (by omega)
theorem goMin_add {a b : Int} (hb : 0 ≤ b) : goMin (goMin a 2147483647 + b) 2147483647 = goMin (a + b) 2147483647 := by
  unfold goMin; split <;> split <;> (try split) <;> omega
theorem InvS.step {n : Nat} {S : List (Int × Int)} {out : List Own} {g : Bool} (h : InvS n S out g) (hn : n < 1000) {f : Fil} (hf : filE f = 0) : InvS (n + 1) (addW S f) (stO out f) (g || bgO out f) := by
  obtain ⟨_, hb1, hb2⟩ := filE_0 hf
  have hr := h.rng f.who
  have hS : addW S f = iput S f.who (iget S f.who + f.bytes) := by unfold addW; rw [wrap_id (by omega)]
  have hw : ({ ownR out f.who with used := goMin ((ownR out f.who).used + f.bytes) 2147483647 } : Own) = { newO f.who with used := goMin (iget S f.who + f.bytes) 2147483647 } := by
    rw [h.own f.who]
    show ({ newO f.who with used := goMin (goMin (iget S f.who) 2147483647 + f.bytes) 2147483647 } : Own) = _
    rw [goMin_add hb1]
  have hO : stO out f = withR out { newO f.who with used := goMin (iget S f.who + f.bytes) 2147483647 } := by unfold stO; rw [hw]
  rw [hS, hO]
  refine ⟨withR_srt h.ord, fun w => ?_, fun w => ?_, ?_, fun w => ?_⟩
  · rw [isR_withR, ikeys_put, ← h.mem w]
    show (decide (f.who = w) || isR out w) = true ↔ _
    simp only [Bool.or_eq_true, decide_eq_true_eq]
    constructor
    · rintro (e | e)
      · exact .inr e.symm
      · exact .inl e
    · rintro (e | e)
      · exact .inr e
      · exact .inl e.symm
  · rw [ownR_withR _ _ _ h.ord, iget_put]
    show (if f.who = w then _ else _) = _
    by_cases e : f.who = w
    · subst e; simp
    · rw [if_neg e, if_neg (by omega), h.own w]
  · have hu : (ownR out f.who).used = goMin (iget S f.who) 2147483647 := by rw [h.own f.who]
    rw [Bool.or_eq_true, h.big]
    unfold bgO
    rw [hu, decide_eq_true_eq]
    have hg : goMin (iget S f.who) 2147483647 = if 2147483647 < iget S f.who then 2147483647 else iget S f.who := rfl
    rw [hg]
    constructor
    · rintro (⟨w, hw⟩ | e)
      · refine ⟨w, ?_⟩
        rw [iget_put]
        split
        · rename_i e; subst e; omega
        · exact hw
      · refine ⟨f.who, ?_⟩
        rw [iget_put, if_pos rfl]
        split at e <;> omega
    · rintro ⟨w, hw⟩
      rw [iget_put] at hw
      split at hw
      · rename_i e
        by_cases h2 : 2147483647 < iget S f.who
        · exact .inl ⟨_, h2⟩
        · right; rw [if_neg h2]; omega
      · exact .inl ⟨w, hw⟩
  · rw [iget_put]
    have := h.rng w
    split <;> omega
theorem InvS.all : ∀ (l : List Fil) {n : Nat} {S : List (Int × Int)} {out : List Own} {g : Bool}, InvS n S out g → n + l.length < 1000 → (∀ f ∈ l, filE f = 0) → InvS (n + l.length) (upto l S) (refF l out g).1 (refF l out g).2
  | [], n, S, out, g, h, _, _ => h
  | f :: l, n, S, out, g, h, hn, hf => by
    simp only [List.length_cons] at hn
    have h1 := h.step (by omega) (hf f (by simp))
    have := InvS.all l h1 (by omega) (fun x hx => hf x (by simp [hx]))
    simp only [upto, hf f (by simp), if_true, refF]
    rw [List.length_cons, show n + (l.length + 1) = n + 1 + l.length by omega]
    exact this
theorem SRT_own : ∀ {l : List Own}, SRT l → (l.map Own.who).map (ownR l) = l
  | [], _ => rfl
  | o :: l, h => by
    have h' := h
    rw [SRT, List.pairwise_cons] at h'
    have ih := SRT_own (l := l) h'.2
    rw [List.map_cons, List.map_cons]
    congr 1
    · simp [ownR]
    · refine Eq.trans ?_ ih
      refine List.map_congr_left fun w hw => ?_
      obtain ⟨p, hp, rfl⟩ := List.mem_map.1 hw
      have : o.who < p.who := h'.1 p hp
      simp only [ownR]
      rw [if_neg (by omega)]
def inU (a b : Quo) (w : Int) : Bool := (isR a.os w || isR b.os w) && difU a b w
def gapsR (a b : Quo) (n : Nat) : List Gap := (((List.range n).map (fun k : Nat => (k : Int))).filter (inU a b)).map (mkG a b)
end Go.Proofs.Ytolfkcmdfgakkaa

/-! Wq -/
namespace Go.Proofs.Ytolfkcmdfgakkaa
open Go Dw
set_option maxRecDepth 10000
set_option linter.unusedVariables false
set_option linter.unusedSimpArgs false
attribute [local irreducible] Run
set_option maxHeartbeats 4000000

attribute [local irreducible] oE checkQ cnt isR ownR withR bsR fullQ put1 chg rls mov limErr limF actE doA resQ aftQ whoE limE numE goMin goMax actErr movErr filE iget iput upto eF srt isQ roomQ warned mget mput addK allK kys refF stO bgO gaps gapsR diffQ sref
end Go.Proofs.Ytolfkcmdfgakkaa

/-! Pe -/
namespace Go.Proofs.Ytolfkcmdfgakkaa
open Go Dw

end Go.Proofs.Ytolfkcmdfgakkaa

/-! Wr -/
namespace Go.Proofs.Ytolfkcmdfgakkaa
open Go Dw
set_option maxRecDepth 10000
set_option linter.unusedVariables false
set_option linter.unusedSimpArgs false
attribute [local irreducible] Run
set_option maxHeartbeats 4000000

attribute [local irreducible] oE checkQ cnt isR ownR withR bsR fullQ put1 chg rls mov limErr limF actE doA resQ aftQ whoE limE numE goMin goMax actErr movErr filE iget iput upto eF srt isQ roomQ warned mget mput addK allK kys refF stO bgO gaps gapsR diffQ sref sumsQ
theorem reach_ds (n : Nat) (h : Heap) : ∀ (l : List D), (l.map AV.d).flatMap (reach (n + 1) h) = []
  | [] => rfl
  | x :: l => by rw [List.map_cons, List.flatMap_cons, reach_ds n h l]; rfl
end Go.Proofs.Ytolfkcmdfgakkaa
