/-
  Own lemmas, no conditions: Aw, Pg, Wh.
-/
import Derived.Test.YtpfokhdelnlciaaGreatDoorGrpE
set_option linter.unusedVariables false
set_option linter.unusedSimpArgs false
namespace Go.Proofs.YtpfokhdelnlciaaGreatDoor
open Go Dw Paths
set_option maxRecDepth 100000
def tree0 : List Nod:=[⟨0,[⟨[97],1⟩,⟨[108],2⟩,⟨[109],3⟩],[]⟩,⟨0,[⟨[102],4⟩,⟨[117,112],5⟩],[]⟩,⟨2,[],[97,47,102]⟩,⟨3,[],[47,97]⟩,⟨1,[],[]⟩,⟨2,[],[46,46,47,108]⟩]
def ys0 : List Way:=[(1,[47,97]),(2,[47,108]),(3,[47,109]),(4,[47,97,47,102]),(5,[47,97,47,117,112])]
theorem ys0_bfs : bfs tree0 10 [(0,[])] = some ys0:=by kernel_rfl
theorem ys0_toN : toN 4 (allW ys0) = [[47,97,47,102]]:=by decide +kernel
end Go.Proofs.YtpfokhdelnlciaaGreatDoor
namespace Paths
def fmtErr (p : PP) : Int:=
 firstE [if p.parts.length ≤ 16 then 0 else 8,firstE (p.parts.map partErr),streamErr p.stream,if p.stream = [] ∨ (p.parts ≠ [] ∧ dots (p.parts.getLastD []) = false) then 0 else 3,if p.parts ≠ [] ∨ p.abs = true then 0 else 7,if (text p).length ≤ 200 then 0 else 8]
theorem firstE_mem {l : List Int} (h : firstE l = 0) {e : Int} (he : e ∈ l) : e = 0:=firstE_all h e he
theorem fmt_ok {p : PP} (h : fmtErr p = 0) : p.parts.length ≤ 16 ∧ (∀ x ∈ p.parts,partErr x = 0) ∧ streamErr p.stream = 0 ∧ (p.stream = [] ∨ (p.parts ≠ [] ∧ dots (p.parts.getLastD []) = false)) ∧ (p.parts ≠ [] ∨ p.abs = true) ∧ (text p).length ≤ 200:=by
 have k:=fun e he=>firstE_mem h (e:=e) he
 have h1:=k _ (.head _)
 have h2:=k _ (.tail _ (.head _))
 have h3:=k _ (.tail _ (.tail _ (.head _)))
 have h4:=k _ (.tail _ (.tail _ (.tail _ (.head _))))
 have h5:=k _ (.tail _ (.tail _ (.tail _ (.tail _ (.head _)))))
 have h6:=k _ (.tail _ (.tail _ (.tail _ (.tail _ (.tail _ (.head _))))))
 refine ⟨?_,fun x hx=>firstE_mem h2 (List.mem_map_of_mem hx),h3,?_,?_,?_⟩
 ·by_cases c : p.parts.length ≤ 16
  ·exact c
  ·rw [if_neg c] at h1;cases h1
 ·by_cases c : p.stream = [] ∨ (p.parts ≠ [] ∧ dots (p.parts.getLastD []) = false)
  ·exact c
  ·rw [if_neg c] at h4;cases h4
 ·by_cases c : p.parts ≠ [] ∨ p.abs = true
  ·exact c
  ·rw [if_neg c] at h5;cases h5
 ·by_cases c : (text p).length ≤ 200
  ·exact c
  ·rw [if_neg c] at h6;cases h6
theorem snoc_of {l : List Bs} (h : l ≠ []) : ∃ m x,l = m ++ [x]:=⟨l.dropLast,l.getLast h,(List.dropLast_concat_getLast h).symm⟩
theorem getLastD_snoc (m : List Bs) (x : Bs) : (m ++ [x]).getLastD [] = x:=by simp
theorem parse_text {p : PP} (h : fmtErr p = 0) : parse (text p) = (p,0):=by
  obtain ⟨h1,h2,h3,h4,h5,h6⟩:=fmt_ok h
  obtain ⟨a,l,t⟩:=p
  simp only at h1 h2 h3 h4 h5
  have hg : ∀ x ∈ l,47 ∉ x ∧ 58 ∉ x ∧ x ≠ [] ∧ x.length ≤ 32:=fun x hx=>part_no (h2 x hx)
  by_cases hl : l = []
  · subst hl
    have ha : a = true:=by simpa using h5
    have ht : t = []:=by simpa using h4
    subst ha;subst ht
    rfl
  · obtain ⟨m,x,rfl⟩:=snoc_of hl
    have hx:=hg x (by simp)
    have ht : t = [] ∨ (nameErr t = 0 ∧ t ≠ [] ∧ dots x = false):=by
      by_cases c : t = []
      · exact .inl c
      · refine .inr ⟨?_,c,?_⟩
        · unfold streamErr at h3;rw [if_neg c] at h3;exact h3
        · rcases h4 with h4 | h4
          · exact absurd h4 c
          · have:=h4.2;rwa [getLastD_snoc] at this
    -- the text without its head
    have hcut : ∃ q : Bs,(if a then [47] else []) ++ q = text ⟨a,m ++ [x],t⟩ ∧ q ≠ [] ∧ q.head? ≠ some 47 ∧ cut 47 q = m ++ [x ++ (if t = [] then [] else 58 :: t)]:=by
      refine ⟨glue 47 (m ++ [x ++ (if t = [] then [] else 58 :: t)]),?_,?_,?_,?_⟩
      · rw [glue_snoc];unfold text;simp only [List.append_assoc]
      · exact glue_ne (by simp) fun y hy => by
          rcases List.mem_append.1 hy with hy | hy
          · exact (hg y (by simp [hy])).2.2.1
          · rw [List.mem_singleton] at hy;subst hy
            intro c;exact hx.2.2.1 (List.append_eq_nil_iff.1 c).1
      · refine glue_head (by simp) fun y hy=>?_
        rcases List.mem_append.1 hy with hy | hy
        · exact ⟨(hg y (by simp [hy])).2.2.1,(hg y (by simp [hy])).1⟩
        · rw [List.mem_singleton] at hy;subst hy
          refine ⟨fun c=>hx.2.2.1 (List.append_eq_nil_iff.1 c).1,fun c=>?_⟩
          rcases List.mem_append.1 c with c | c
          · exact hx.1 c
          · rcases ht with ht | ht
            · rw [if_pos ht] at c;cases c
            · rw [if_neg ht.2.1] at c
              rcases List.mem_cons.1 c with c | c
              · cases c
              · exact (legal_no ht.1).1 c
      · refine cut_glue (by simp) fun y hy=>?_
        rcases List.mem_append.1 hy with hy | hy
        · exact (hg y (by simp [hy])).1
        · rw [List.mem_singleton] at hy;subst hy
          intro c
          rcases List.mem_append.1 c with c | c
          · exact hx.1 c
          · rcases ht with ht | ht
            · rw [if_pos ht] at c;cases c
            · rw [if_neg ht.2.1] at c
              rcases List.mem_cons.1 c with c | c
              · cases c
              · exact (legal_no ht.1).1 c
    obtain ⟨q,e1,e2,e3,e4⟩:=hcut
    have hr : restOf (text ⟨a,m ++ [x],t⟩) = q:=by
      rw [← e1]
      cases a
      · exact if_neg e3
      · rfl
    have hab : isAbs (text ⟨a,m ++ [x],t⟩) = a:=by
      rw [← e1]
      cases a
      · exact decide_eq_false e3
      · rfl
    have hne : text ⟨a,m ++ [x],t⟩ ≠ []:=by
      rw [← e1];intro c;exact e2 (List.append_eq_nil_iff.1 c).2
    have hn47 : text ⟨a,m ++ [x],t⟩ ≠ [47]:=by
      intro c
      have : restOf (text ⟨a,m ++ [x],t⟩) = restOf [47]:=by rw [c]
      rw [hr] at this
      exact e2 this
    have hcol : colons (cut 47 q) = some (m ++ [x],t):=by
      rw [e4]
      unfold colons
      rw [getLastD_snoc]
      rcases ht with ht | ht
      · subst ht;rw [if_pos rfl,List.append_nil,cut_none hx.2.1]
      · rw [if_neg ht.2.1,cut_at t hx.2.1,cut_none (legal_no ht.1).2.1]
        simp only
        rw [if_neg (by rintro (c | c); · rw [ht.2.2] at c; cases c
                       · exact ht.2.1 c)]
        simp
    have hw : wellParts (m ++ [x]) = true:=by
      unfold wellParts
      rw [List.all_eq_true]
      intro y hy
      obtain ⟨g1,g2,g3,g4⟩:=hg y hy
      simp [g3,g2]
    have hz : firstE ((m ++ [x]).map partErr) = 0:=by
      have : ∀ k : List Bs,(∀ y ∈ k,partErr y = 0) → firstE (k.map partErr) = 0:=by
        intro k
        induction k with
        | nil=>intro _;rfl
        | cons y k ih=>
          intro hk
          rw [List.map_cons]
          show (if partErr y = 0 then firstE (k.map partErr) else partErr y) = 0
          rw [if_pos (hk y (by simp))]
          exact ih fun z hz=>hk z (by simp [hz])
      exact this _ h2
    have hpe : partsErr (m ++ [x]) t = 0:=by
      unfold partsErr
      rw [hz]
      have hs : (if t = [] then (0 : Int) else nameErr t) = 0:=by
        rcases ht with ht | ht
        · rw [if_pos ht]
        · rw [if_neg ht.2.1];exact ht.1
      rw [hs,if_neg (by omega)]
      rfl
    unfold parse
    rw [if_neg (by omega),if_neg hne,if_neg hn47,hr,hcol]
    simp only [hw,hpe,hab,Bool.true_eq_false,if_false,ne_eq,not_true_eq_false]
end Paths
namespace Go.Proofs.YtpfokhdelnlciaaGreatDoor
open Go Dw
set_option maxRecDepth 10000
attribute [local irreducible] Run
set_option maxHeartbeats 2000000
open Paths
attribute [local irreducible] nameErr cut normal dots partErr text parse glue
theorem b4 {q : Prop} [Decidable q] {b : Bool} (h : q ↔ b = true) : (if q then (0 : Int) else 3) = if b = true then 0 else 3:=by
 cases b
 ·rw [if_neg (by rw [h];simp),if_neg (by simp)]
 ·rw [if_pos (h.2 rfl),if_pos rfl]
theorem fmtT {p : PP} (h : p.parts.length ≤ 16) (hb : firstE (p.parts.map partErr) = 0) (hc : streamErr p.stream = 0) (hd : p.stream = [] ∨ (p.parts ≠ [] ∧ dots (p.parts.getLastD []) = false)) (he : p.parts ≠ [] ∨ p.abs = true) : fmtErr p = if (text p).length ≤ 200 then 0 else 8:=by
 unfold fmtErr;rw [if_pos h,hb,hc,if_pos hd,if_pos he]
 split<;>rfl
end Go.Proofs.YtpfokhdelnlciaaGreatDoor
