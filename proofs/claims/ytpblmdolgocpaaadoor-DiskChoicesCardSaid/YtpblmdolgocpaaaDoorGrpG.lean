/-
  Own lemmas, no conditions: Ld, Sh.
-/
import Derived.Test.YtpblmdolgocpaaaDoorGrpF
import Derived.Test.YtpblmdolgocpaaaDoorTie
import Derived.Test.YtpblmdolgocpaaaDoorCards
import Derived.ProofKit
import Derived.LaidMore
import Derived.Test.YtpblmdolgocpaaaDoorRows
set_option linter.unusedVariables false
set_option linter.unusedSimpArgs false

/-! Ld -/
namespace Go.Proofs.YtpblmdolgocpaaaDoor
open Go Dw Go.ChangeShapes Go.WideShapes Go.RowKit
set_option maxRecDepth 100000

theorem own02 : ownKnob Tryd.prog.godebug = none := by kernel_rfl
theorem laidOut02 : laidOutB Tryd.prog = true := by kernel_rfl
/-- The variables that the rows list. -/
def laid02 : List (String × DataW Unit) := [("unicode/utf8.acceptRanges", Rows.laid_unicode_utf8_acceptRanges), ("unicode/utf8.first", Rows.laid_unicode_utf8_first)]
/-- The pinned table. -/
def table02 : Array Value := (Pinned.utf8FirstZ.map fun (n : Nat) => Value.int .u8 n).toArray
def withTable (o : Go.Obj) : Go.Obj := match o with
  | Go.Obj.cells _ t fr => Go.Obj.cells table02 t fr
  | o => o
/-- The world that the door leaves, with the pinned table in it. -/
noncomputable def wit02 (os : Os) : World :=
  { World.doorLaid Tryd.prog 19 os with heap := (World.doorLaid Tryd.prog 19 os).heap.modify 0 withTable }

theorem door_met02 (os : Os) (args : Array Value) : laidMetH Tryd.prog laid02 ((wit02 os).forCall (fun _ _ => 0) ⟨#[], args, []⟩).memory :=
  laidMetH_of_parts3 (fuel := 8) (laidMet_of_run' 8 (by kernel_rfl) (by kernel_rfl)) (by kernel_rfl) (by kernel_rfl)

theorem shaped02 (os : Os) (args : Array Value) : ((wit02 os).forCall (fun _ _ => 0) ⟨#[], args, []⟩).Shaped Tryd.prog :=
  World.shaped_of_RefB (by kernel_rfl) (by kernel_rfl)

theorem card_hl {P : Program} {nm : String} {f0 : Nat} {fn0 : Func} {lk : Bool} (h1 : P.funcNamed nm = some f0) (h2 : P.funcs[f0]? = some fn0) (h3 : lk = P.looks []) (h4 : (fn0.params.toList.all fun t => !P.wantsStandIn t) = true) :
    ∀ f fn, P.funcNamed nm = some f → P.funcs[f]? = some fn → lk = P.looks [] ∧ ∀ (j : Nat) t, fn.params[j]? = some t → P.wantsStandIn t = false := by
  intro f fn h5 h6
  obtain rfl : f = f0 := (Option.some.inj (h1.symm.trans h5)).symm
  obtain rfl : fn = fn0 := (Option.some.inj (h2.symm.trans h6)).symm
  refine ⟨h3, fun j t ht => ?_⟩
  have := List.all_eq_true.1 h4 t (List.mem_of_getElem? (by simpa using ht))
  simpa using this
end Go.Proofs.YtpblmdolgocpaaaDoor

/-! Sh -/
namespace Go.Proofs.YtpblmdolgocpaaaDoor
open Go Dw
theorem map_of {α : Type} {f : α → D} : ∀ (l : List D), (∀ y ∈ l, ∃ a, y = f a) → ∃ r : List α, l = r.map f
  | [], _ => ⟨[], rfl⟩
  | x :: l, h => by
    obtain ⟨a, rfl⟩ := h x (by simp)
    obtain ⟨r, rfl⟩ := map_of l fun y hy => h y (by simp [hy])
    exact ⟨a :: r, rfl⟩
theorem shpWr {n : Nat} {x : D} (h : shp E (n + 2) 68 x) : ∃ r : Wr, x = r.enc := by
  obtain ⟨cs, rfl, y1, r1, ⟨k1, rfl, _⟩, rfl, y2, r2, ⟨k2, rfl, _⟩, rfl, rfl⟩ := h
  exact ⟨⟨k1, k2⟩, rfl⟩
theorem shpWrs {n : Nat} {x : D} (h : shp E (n + 3) 22 x) : ∃ l : List Wr, x = .fs (l.map Wr.enc) := by
  obtain ⟨l, rfl, _, h3⟩ := h
  obtain ⟨r, rfl⟩ := map_of l fun y hy => shpWr (h3 y hy)
  exact ⟨r, rfl⟩
theorem shpInts {n : Nat} {x : D} (h : shp E (n + 2) 42 x) : ∃ l : List Int, x = .fs (l.map i) := by
  obtain ⟨l, rfl, _, h3⟩ := h
  obtain ⟨r, rfl⟩ := map_of (f := i) l fun y hy => by
    obtain ⟨k, rfl, _⟩ := h3 y hy
    exact ⟨k, rfl⟩
  exact ⟨r, rfl⟩
theorem shpFl {n : Nat} {x : D} (h : shp E (n + 3) 54 x) : ∃ r : Fl, x = r.enc := by
  obtain ⟨cs, rfl, y1, r1, ⟨k1, rfl, _⟩, rfl, y2, r2, h2, rfl, rfl⟩ := h
  obtain ⟨l, rfl⟩ := shpInts h2
  exact ⟨⟨k1, l⟩, rfl⟩
end Go.Proofs.YtpblmdolgocpaaaDoor
