/-
  Own lemmas, no conditions: Aw, Pg, Wh.
-/
import Derived.Test.YtpfokhdelnlciaaGreatDoorGrpE
set_option linter.unusedVariables false
set_option linter.unusedSimpArgs false
namespace Go.Proofs.YtpfokhdelnlciaaGreatDoor
open Go Dw Paths
set_option maxRecDepth 100000
def tree0 : List Nod := [⟨0, [⟨[97], 1⟩, ⟨[108], 2⟩, ⟨[109], 3⟩], []⟩, ⟨0, [⟨[102], 4⟩, ⟨[117, 112], 5⟩], []⟩, ⟨2, [], [97, 47, 102]⟩, ⟨3, [], [47, 97]⟩, ⟨1, [], []⟩, ⟨2, [], [46, 46, 47, 108]⟩]
def ys0 : List Way := [(1, [47, 97]), (2, [47, 108]), (3, [47, 109]), (4, [47, 97, 47, 102]), (5, [47, 97, 47, 117, 112])]
theorem ys0_bfs : bfs tree0 10 [(0, [])] = some ys0 := by kernel_rfl
theorem ys0_toN : toN 4 (allW ys0) = [[47, 97, 47, 102]] := by decide +kernel
theorem c81a : Fn 81 [treeD tree0, i 4] (.fs [.str [47, 97, 47, 102]]) := by
  have := c81 tree0 4 10 ys0 ys0_bfs (by decide) (by decide)
  rw [ys0_toN, sortB_one] at this
  exact this
def g81 : List D → Option D := fun xs => if sameDs xs [treeD tree0, i 4] then some (.fs [.str [47, 97, 47, 102]]) else none
def frcS {α : Type} : Bs → (Bs → α) → α
  | [], K => K []
  | b :: l, K => frcS l (fun l => K (b :: l))
theorem frcS_eq {α : Type} : ∀ (s : Bs) (K : Bs → α), frcS s K = K s
  | [], K => rfl
  | b :: l, K => by rw [frcS, frcS_eq l]
def frcSs {α : Type} : List Bs → (List Bs → α) → α
  | [], K => K []
  | b :: l, K => frcS b (fun b => frcSs l (fun l => K (b :: l)))
theorem frcSs_eq {α : Type} : ∀ (s : List Bs) (K : List Bs → α), frcSs s K = K s
  | [], K => rfl
  | b :: l, K => by rw [frcSs, frcS_eq, frcSs_eq l]
def frcBo {α : Type} (b : Bool) (K : Bool → α) : α := match b with
  | true => K true
  | false => K false
theorem frcBo_eq {α : Type} (b : Bool) (K : Bool → α) : frcBo b K = K b := by cases b <;> rfl
def frcP {α : Type} (p : PP) (K : PP → α) : α := frcBo p.abs fun a => frcSs p.parts fun l => frcS p.stream fun s => K ⟨a, l, s⟩
theorem frcP_eq {α : Type} (p : PP) (K : PP → α) : frcP p K = K p := by unfold frcP; rw [frcBo_eq, frcSs_eq, frcS_eq]
def g35 : List D → Option D
  | [.str s] => frcP (parse s).1 fun p => frcI (parse s).2 fun e => some (.tup [PPe p, i e])
  | _ => none
def g63 : List D → Option D
  | [.str s] => if decide (s.length < 1000000) then frcI (nameErr s) fun n => some (i n) else none
  | _ => none
def g105 : List D → Option D
  | [.str s] => if decide (s.length < 1000000) then frcI (nameErr s) fun n => (if decide (n = 0) then frcS (fold s) fun x => some (.tup [.str x, i 0]) else some (.tup [.str [], i n])) else none
  | _ => none
def ppOf : D → Option PP
  | .agg [.bool a, .fs l, .str s] => (match strsOf l with
    | some r => some ⟨a, r, s⟩
    | none => none)
  | _ => none
theorem ppOf_ok {x : D} {p : PP} (h : ppOf x = some p) : x = PPe p := by
  unfold ppOf at h
  split at h
  · split at h
    · rename_i r hr; cases h; rw [strsOf_ok hr]; rfl
    · cases h
  · cases h
def g55 : List D → Option D
  | [x] => (match ppOf x with
    | some p => if decide (p.parts.length < 1000000 ∧ (text p).length < 1000000) then frcS (text p) fun s => some (.str s) else none
    | none => none)
  | _ => none
def g56 : List D → Option D
  | [x] => (match ppOf x with
    | some p => if decide (p.parts.length < 1000000) then frcP (normal p) fun q => some (PPe q) else none
    | none => none)
  | _ => none
def orcA (f : Nat) : Option Orc := if Nat.beq f 81 then some (.fn g81) else if Nat.beq f 35 then some (.fn g35) else if Nat.beq f 63 then some (.fn g63) else if Nat.beq f 105 then some (.fn g105) else if Nat.beq f 55 then some (.fn g55) else if Nat.beq f 56 then some (.fn g56) else orc27 f
theorem horcA : OrcOk Tryz.prog orcA := by
  intro f o h
  unfold orcA at h
  split at h
  · rename_i h1; cases h; rw [Nat.eq_of_beq_eq_true h1]
    intro xs y e
    unfold g81 at e
    split at e
    · rename_i h2; cases e
      rw [sameDs_ok _ _ h2]; exact c81a
    · cases e
  split at h
  · rename_i h1; cases h; rw [Nat.eq_of_beq_eq_true h1]
    intro xs y e
    unfold g35 at e
    split at e
    · rw [frcP_eq, frcI_eq] at e; cases e; exact c35 _
    · cases e
  split at h
  · rename_i h1; cases h; rw [Nat.eq_of_beq_eq_true h1]
    intro xs y e
    unfold g63 at e
    split at e
    · split at e
      · rename_i h2; rw [frcI_eq] at e; cases e; exact c63 _ (of_decide_eq_true h2)
      · cases e
    · cases e
  split at h
  · rename_i h1; cases h; rw [Nat.eq_of_beq_eq_true h1]
    intro xs y e
    unfold g105 at e
    split at e
    · split at e
      · rename_i h2
        rw [frcI_eq] at e
        split at e
        · rename_i h3; rw [frcS_eq] at e; cases e; exact c105 _ (of_decide_eq_true h2) (of_decide_eq_true h3)
        · rename_i h3; cases e; exact c105n _ (of_decide_eq_true h2) (by simpa using h3)
      · cases e
    · cases e
  split at h
  · rename_i h1; cases h; rw [Nat.eq_of_beq_eq_true h1]
    intro xs y e
    unfold g55 at e
    split at e
    · split at e
      · rename_i p hp
        split at e
        · rename_i h2; rw [frcS_eq] at e; cases e; rw [ppOf_ok hp]
          have := of_decide_eq_true h2
          exact c55 p this.1 this.2
        · cases e
      · cases e
    · cases e
  split at h
  · rename_i h1; cases h; rw [Nat.eq_of_beq_eq_true h1]
    intro xs y e
    unfold g56 at e
    split at e
    · split at e
      · rename_i p hp
        split at e
        · rename_i h2; rw [frcP_eq] at e; cases e; rw [ppOf_ok hp]
          exact c56 p (of_decide_eq_true h2)
        · cases e
      · cases e
    · cases e
  · exact horc27 f o h
def dmA (f : Nat) : Bool := [19, 27, 63, 105, 71, 52, 53, 69, 55, 78, 79, 80, 97, 98, 99, 126, 127, 129, 130, 128, 107, 111, 112, 113, 50, 57, 90, 42, 45, 92, 21].any (Nat.beq f)
theorem c10 : Fn 10 [] (.bool true) :=
  run_ev2 (fs := Tryz.prog.funcs.toList) (orc := orcA) eok horcA (xs := []) rfl names_ok dmA 300 60 (by kernel_rfl) rfl rfl
end Go.Proofs.YtpfokhdelnlciaaGreatDoor
namespace Paths
def fmtErr (p : PP) : Int :=
  firstE [if p.parts.length ≤ 16 then 0 else 8, firstE (p.parts.map partErr), streamErr p.stream, if p.stream = [] ∨ (p.parts ≠ [] ∧ dots (p.parts.getLastD []) = false) then 0 else 3, if p.parts ≠ [] ∨ p.abs = true then 0 else 7, if (text p).length ≤ 200 then 0 else 8]
end Paths
namespace Go.Proofs.YtpfokhdelnlciaaGreatDoor
open Go Dw
set_option maxRecDepth 10000
attribute [local irreducible] Run
set_option maxHeartbeats 2000000
open Paths
attribute [local irreducible] nameErr cut normal dots partErr text parse glue
theorem b4 {q : Prop} [Decidable q] {b : Bool} (h : q ↔ b = true) : (if q then (0 : Int) else 3) = if b = true then 0 else 3 := by
  cases b
  · rw [if_neg (by rw [h]; simp), if_neg (by simp)]
  · rw [if_pos (h.2 rfl), if_pos rfl]
end Go.Proofs.YtpfokhdelnlciaaGreatDoor
