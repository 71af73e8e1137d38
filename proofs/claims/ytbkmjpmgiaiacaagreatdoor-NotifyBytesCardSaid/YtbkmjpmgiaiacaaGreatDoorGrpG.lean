/-
  Own lemmas, no conditions: Ld, Sh.
-/
import Derived.Test.YtbkmjpmgiaiacaaGreatDoorGrpF
import Derived.Test.YtbkmjpmgiaiacaaGreatDoorTie
import Derived.Test.YtbkmjpmgiaiacaaGreatDoorCards
import Derived.ProofKit
import Derived.LaidMore
import Derived.Test.YtbkmjpmgiaiacaaGreatDoorRows
set_option linter.unusedVariables false
set_option linter.unusedSimpArgs false

/-! Ld -/
namespace Go.Proofs.YtbkmjpmgiaiacaaGreatDoor
open Go Dw Go.ChangeShapes Go.WideShapes Go.RowKit
set_option maxRecDepth 100000

theorem own28 : ownKnob Tryz.prog.godebug = none := by kernel_rfl
theorem laidOut28 : laidOutB Tryz.prog = true := by kernel_rfl
/-- The variables that the rows list. -/
def laid28 : List (String × DataW Unit) := [("unicode/utf8.acceptRanges", Rows.laid_unicode_utf8_acceptRanges), ("unicode/utf8.first", Rows.laid_unicode_utf8_first)]
/-- The pinned table. -/
def table28 : Array Value := (Pinned.utf8FirstZ.map fun (n : Nat) => Value.int .u8 n).toArray
def withTable (o : Go.Obj) : Go.Obj := match o with
  | Go.Obj.cells _ t fr => Go.Obj.cells table28 t fr
  | o => o
/-- The world that the door leaves, with the pinned table in it. -/
noncomputable def wit28 (os : Os) : World :=
  { World.doorLaid Tryz.prog 60 os with heap := (World.doorLaid Tryz.prog 60 os).heap.modify 2 withTable }

theorem door_met28 (os : Os) (args : Array Value) : laidMetH Tryz.prog laid28 ((wit28 os).forCall (fun _ _ => 0) ⟨#[], args, []⟩).memory :=
  laidMetH_of_parts3 (fuel := 8) (laidMet_of_run' 8 (by kernel_rfl) (by kernel_rfl)) (by kernel_rfl) (by kernel_rfl)

/-- The variables that the row of NotifyBytes lists. -/
def laid28b : List (String × DataW Unit) := [("math/bits.deBruijn32tab", Rows.laid_math_bits_deBruijn32tab), ("math/bits.deBruijn64tab", Rows.laid_math_bits_deBruijn64tab), ("unicode/utf8.acceptRanges", Rows.laid_unicode_utf8_acceptRanges), ("unicode/utf8.first", Rows.laid_unicode_utf8_first)]
theorem door_met28b (os : Os) (args : Array Value) : laidMetH Tryz.prog laid28b ((wit28 os).forCall (fun _ _ => 0) ⟨#[], args, []⟩).memory :=
  laidMetH_of_parts3 (fuel := 8) (laidMet_of_run' 8 (by kernel_rfl) (by kernel_rfl)) (by kernel_rfl) (by kernel_rfl)

theorem shaped28 (os : Os) (args : Array Value) : ((wit28 os).forCall (fun _ _ => 0) ⟨#[], args, []⟩).Shaped Tryz.prog :=
  World.shaped_of_RefB (by kernel_rfl) (by kernel_rfl)

theorem card_hl {P : Program} {nm : String} {f0 : Nat} {fn0 : Func} {lk : Bool} (h1 : P.funcNamed nm = some f0) (h2 : P.funcs[f0]? = some fn0) (h3 : lk = P.looks []) (h4 : (fn0.params.toList.all fun t => !P.wantsStandIn t) = true) :
    ∀ f fn, P.funcNamed nm = some f → P.funcs[f]? = some fn → lk = P.looks [] ∧ ∀ (j : Nat) t, fn.params[j]? = some t → P.wantsStandIn t = false := by
  intro f fn h5 h6
  obtain rfl : f = f0 := (Option.some.inj (h1.symm.trans h5)).symm
  obtain rfl : fn = fn0 := (Option.some.inj (h2.symm.trans h6)).symm
  refine ⟨h3, fun j t ht => ?_⟩
  have := List.all_eq_true.1 h4 t (List.mem_of_getElem? (by simpa using ht))
  simpa using this
end Go.Proofs.YtbkmjpmgiaiacaaGreatDoor

/-! Sh -/
namespace Go.Proofs.YtbkmjpmgiaiacaaGreatDoor
open Go Dw
theorem map_of {α : Type} {f : α → D} : ∀ (l : List D), (∀ y ∈ l, ∃ a, y = f a) → ∃ r : List α, l = r.map f
  | [], _ => ⟨[], rfl⟩
  | x :: l, h => by
    obtain ⟨a, rfl⟩ := h x (by simp)
    obtain ⟨r, rfl⟩ := map_of l fun y hy => h y (by simp [hy])
    exact ⟨a :: r, rfl⟩
theorem shpWt {n : Nat} {x : D} (h : shp E (n + 2) 23 x) : ∃ w : Wt, x = w.enc := by
  obtain ⟨cs, rfl, y1, r1, ⟨k1, rfl, _⟩, rfl, y2, r2, ⟨k2, rfl, _⟩, rfl, y3, r3, ⟨k3, rfl, _⟩, rfl, y4, r4, ⟨k4, rfl, _⟩, rfl, rfl⟩ := h
  exact ⟨⟨k1, k2, k3, k4⟩, rfl⟩
theorem shpEv {n : Nat} {x : D} (h : shp E (n + 2) 25 x) : ∃ r : Rec, x = r.enc ∧ r.act < 9223372036854775808 := by
  obtain ⟨cs, rfl, y1, r1, ⟨k1, rfl, b1⟩, rfl, y2, r2, ⟨k2, rfl, _⟩, rfl, rfl⟩ := h
  refine ⟨⟨k1, k2⟩, rfl, ?_⟩
  unfold Lit.wf at b1
  simp only [Bool.and_eq_true, decide_eq_true_eq] at b1
  have h2 : k1 ≤ IntKind.max .i64 := b1.2
  have h3 : IntKind.max .i64 = 9223372036854775807 := by decide
  show k1 < _
  omega
theorem shpRec {n : Nat} {x : D} (h : shp E (n + 2) 64 x) : ∃ r : Rec, x = r.enc ∧ r.act < 9223372036854775808 := by
  obtain ⟨cs, rfl, y1, r1, ⟨k1, rfl, b1⟩, rfl, y2, r2, ⟨k2, rfl, _⟩, rfl, rfl⟩ := h
  refine ⟨⟨k1, k2⟩, rfl, ?_⟩
  unfold Lit.wf at b1
  simp only [Bool.and_eq_true, decide_eq_true_eq] at b1
  have h2 : k1 ≤ IntKind.max .i64 := b1.2
  have h3 : IntKind.max .i64 = 9223372036854775807 := by decide
  show k1 < _
  omega
theorem recs_of : ∀ (l : List D), (∀ y ∈ l, ∃ r : Rec, y = r.enc ∧ r.act < 9223372036854775808) → ∃ r : List Rec, l = r.map Rec.enc ∧ ∀ x ∈ r, x.act < 9223372036854775808
  | [], _ => ⟨[], rfl, fun _ h => by cases h⟩
  | x :: l, h => by
    obtain ⟨a, rfl, ha⟩ := h x (by simp)
    obtain ⟨r, rfl, hr⟩ := recs_of l fun y hy => h y (by simp [hy])
    exact ⟨a :: r, rfl, fun y hy => by
      rcases List.mem_cons.1 hy with rfl | hy
      · exact ha
      · exact hr y hy⟩
theorem shpRecs {n : Nat} {x : D} (h : shp E (n + 3) 52 x) : ∃ r : List Rec, x = .fs (r.map Rec.enc) ∧ ∀ y ∈ r, y.act < 9223372036854775808 := by
  obtain ⟨l, rfl, _, h3⟩ := h
  obtain ⟨r, rfl, hr⟩ := recs_of l fun y hy => shpRec (h3 y hy)
  exact ⟨r, rfl, hr⟩
end Go.Proofs.YtbkmjpmgiaiacaaGreatDoor
