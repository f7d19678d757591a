/- What All, Refs tell, in plain words. -/
import Derived.Test.YtlfanphdnjoofaaM2
namespace Go.Proofs.Ytlfanphdnjoofaa
open Go.RowKit
set_option linter.unusedVariables false

def seqKids {α : Type} (f : Nat → St → Option (List α) × St) : Nat → Nat → List α → St → Option (List α) × St
  | 0, _, acc, S => (some acc, S)
  | n + 1, d, acc, S => match f d S with
    | (none, S') => (none, S')
    | (some l, S') => seqKids f n (d + 1) (acc ++ l) S'
/-- The items of a tree at the level 16 - n, as they come. -/
def allM : Nat → St → Ref → Option (List Item) × St
  | 0, S, _ => (none, S)
  | n + 1, S, r => bif r.none then (some [], S) else match S.node r (16 - n) with
    | none => (none, S.seen r)
    | some nd => bif nd.leaf then (some nd.its, S.seen r) else seqKids (fun d S => allM n S (nd.kid d)) 16 0 [] (S.seen r)
/-- The refs of a tree. -/
def refsM : Nat → St → Ref → Option (List Ref) × St
  | 0, S, _ => (none, S)
  | n + 1, S, r => bif r.none then (some [], S) else match S.node r (16 - n) with
    | none => (none, S.seen r)
    | some nd => bif nd.leaf then (some [r], S.seen r) else seqKids (fun d S => refsM n S (nd.kid d)) 16 0 [r] (S.seen r)
theorem allM_succ (n : Nat) (S : St) (r : Ref) : allM (n + 1) S r = bif r.none then (some [], S) else match S.node r (16 - n) with
    | none => (none, S.seen r)
    | some nd => bif nd.leaf then (some nd.its, S.seen r) else seqKids (fun d S => allM n S (nd.kid d)) 16 0 [] (S.seen r) := by rw [allM]
theorem refsM_succ (n : Nat) (S : St) (r : Ref) : refsM (n + 1) S r = bif r.none then (some [], S) else match S.node r (16 - n) with
    | none => (none, S.seen r)
    | some nd => bif nd.leaf then (some [r], S.seen r) else seqKids (fun d S => refsM n S (nd.kid d)) 16 0 [r] (S.seen r) := by rw [refsM]
theorem seqKids_gr {α : Type} {f : Nat → St → Option (List α) × St} (hf : ∀ d S, Gr S (f d S).2) : ∀ (n d : Nat) (acc : List α) (S : St), Gr S (seqKids f n d acc S).2
  | 0, _, _, S => Gr.refl S
  | n + 1, d, a, S => by
    have h := hf d S
    unfold seqKids
    rcases hfd : f d S with ⟨_ | p, S'⟩
    · rw [hfd] at h; exact h
    · rw [hfd] at h; exact h.trans (seqKids_gr hf n _ _ _)
theorem allM_gr (n : Nat) : ∀ (S : St) (r : Ref), Gr S (allM n S r).2 := by
  induction n with
  | zero => intro S r; exact Gr.refl S
  | succ n ih =>
    intro S r
    rw [allM_succ]
    cases hr : r.none
    · rw [cond_false]
      rcases hn : S.node r (16 - n) with _ | nd
      · exact Gr.seen S r
      · simp only
        cases hl : nd.leaf
        · rw [cond_false]
          exact (Gr.seen S r).trans (seqKids_gr (fun d S => ih S _) 16 0 _ _)
        · exact Gr.seen S r
    · exact Gr.refl S
theorem refsM_gr (n : Nat) : ∀ (S : St) (r : Ref), Gr S (refsM n S r).2 := by
  induction n with
  | zero => intro S r; exact Gr.refl S
  | succ n ih =>
    intro S r
    rw [refsM_succ]
    cases hr : r.none
    · rw [cond_false]
      rcases hn : S.node r (16 - n) with _ | nd
      · exact Gr.seen S r
      · simp only
        cases hl : nd.leaf
        · rw [cond_false]
          exact (Gr.seen S r).trans (seqKids_gr (fun d S => ih S _) 16 0 _ _)
        · exact Gr.seen S r
    · exact Gr.refl S
theorem seqKids_er {α : Type} {f : Nat → St → Option (List α) × St} (hf : ∀ d S, f d S.er = ((f d S).1, (f d S).2.er)) : ∀ (n d : Nat) (a : List α) (S : St), seqKids f n d a S.er = ((seqKids f n d a S).1, (seqKids f n d a S).2.er)
  | 0, _, _, _ => rfl
  | n + 1, d, a, S => by
    unfold seqKids
    rw [hf]
    rcases f d S with ⟨_ | p, S'⟩
    · rfl
    · exact seqKids_er hf n _ _ _
theorem allM_er (n : Nat) : ∀ (S : St) (r : Ref), allM n S.er r = ((allM n S r).1, (allM n S r).2.er) := by
  induction n with
  | zero => intro S r; rfl
  | succ n ih =>
    intro S r
    rw [allM_succ, allM_succ]
    cases hr : r.none
    · rw [cond_false, cond_false]
      rcases hn : S.node r (16 - n) with _ | nd
      · rw [show S.er.node r (16 - n) = none by rw [St.er_node, hn]; rfl]
        simp only [St.er_seen]
      · rw [show S.er.node r (16 - n) = some nd.er by rw [St.er_node, hn]; rfl]
        simp only
        cases hl : nd.leaf
        · rw [cond_false, cond_false, ← St.er_seen]
          exact seqKids_er (fun d S => ih S _) _ _ _ _
        · simp only [cond_true, St.er_seen]
    · rfl
theorem refsM_er (n : Nat) : ∀ (S : St) (r : Ref), refsM n S.er r = ((refsM n S r).1, (refsM n S r).2.er) := by
  induction n with
  | zero => intro S r; rfl
  | succ n ih =>
    intro S r
    rw [refsM_succ, refsM_succ]
    cases hr : r.none
    · rw [cond_false, cond_false]
      rcases hn : S.node r (16 - n) with _ | nd
      · rw [show S.er.node r (16 - n) = none by rw [St.er_node, hn]; rfl]
        simp only [St.er_seen]
      · rw [show S.er.node r (16 - n) = some nd.er by rw [St.er_node, hn]; rfl]
        simp only
        cases hl : nd.leaf
        · rw [cond_false, cond_false, ← St.er_seen]
          exact seqKids_er (fun d S => ih S _) _ _ _ _
        · simp only [cond_true, St.er_seen]
    · rfl
theorem findM_er (key : ByteArray) (n : Nat) : ∀ (S : St) (r : Ref) (l : Nat), findM key n S.er r l = ((findM key n S r l).1, (findM key n S r l).2.er) := by
  induction n with
  | zero => intro S r l; rfl
  | succ n ih =>
    intro S r l
    unfold findM
    cases hr : (r.num == 0 && r.gen == 0)
    · rw [cond_false, cond_false]
      rcases hn : S.node r l with _ | nd
      · rw [show S.er.node r l = none by rw [St.er_node, hn]; rfl]
        simp only [St.er_seen]
      · rw [show S.er.node r l = some nd.er by rw [St.er_node, hn]; rfl]
        simp only
        cases hl : nd.leaf
        · rw [cond_false, cond_false, ← St.er_seen]
          exact ih _ _ _
        · simp only [cond_true, St.er_seen]
    · rfl
/-- That what is gathered fits; k: how much there is. -/
def fitSeq {α : Type} (f : Nat → St → Option (List α) × St) (fit : Nat → St → Nat → Prop) : Nat → Nat → Nat → St → Prop
  | 0, _, k, _ => k ≤ 100000
  | n + 1, d, k, S => k ≤ 100000 ∧ fit d S k ∧ ∀ l S', f d S = (some l, S') → fitSeq f fit n (d + 1) (k + l.length) S'
def fitA : Nat → St → Ref → Nat → Prop
  | 0, _, _, _ => True
  | n + 1, S, r, k => k ≤ 100000 ∧ (r.none = false → ∀ nd, S.node r (16 - n) = some nd →
      (nd.leaf = true → k + nd.its.length ≤ 100000) ∧ (nd.leaf = false → fitSeq (fun d S => allM n S (nd.kid d)) (fun d S k => fitA n S (nd.kid d) k) 16 0 k (S.seen r)))
def fitR : Nat → St → Ref → Nat → Prop
  | 0, _, _, _ => True
  | n + 1, S, r, k => k + 1 ≤ 100000 ∧ (r.none = false → ∀ nd, S.node r (16 - n) = some nd → nd.leaf = false → fitSeq (fun d S => refsM n S (nd.kid d)) (fun d S k => fitR n S (nd.kid d) k) 16 0 (k + 1) (S.seen r))
end Go.Proofs.Ytlfanphdnjoofaa
