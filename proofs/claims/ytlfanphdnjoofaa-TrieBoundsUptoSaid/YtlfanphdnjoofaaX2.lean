/- Trees as they should be. -/
import Derived.Test.YtlfanphdnjoofaaX
namespace Go.Proofs.Ytlfanphdnjoofaa
open Go.RowKit
set_option linter.unusedVariables false

/-- A tree of at most one node: r is the leaf of X. -/
def LfT (σ : TapeS) (r : Ref) (X : List Item) : Prop :=
  (X = [] ∧ r = ⟨0, 0⟩) ∨ (X ≠ [] ∧ ∃ nd, σ.look r = some nd ∧ nd.leaf = true ∧ nd.cnt = (X.length : Int) ∧ nd.its = X ∧ ∀ d, d < 16 → nd.kid d = ⟨0, 0⟩)
/-- r is the tree of X, at the level 16 - n. -/
def Tr (σ : TapeS) : Nat → Ref → List Item → Prop
  | 0, r, X => LfT σ r X
  | n + 1, r, X => (X.length ≤ 4 → LfT σ r X) ∧ (4 < X.length → ∃ nd, σ.look r = some nd ∧ nd.leaf = false ∧ nd.cnt = (X.length : Int) ∧ nd.its = [] ∧ ∀ d, d < 16 → Tr σ n (nd.kid d) (cut (15 - n) X d))
/-- P is to become the tree of X, at the level 16 - n. -/
def PlT (σ : TapeS) : Nat → Pl → List Item → Prop
  | n, .stay r, X => Tr σ n r X
  | n, .leaf _ its, X => its = X ∧ (X.length ≤ 4 ∨ n = 0)
  | 0, .branch _ _ _, X => False
  | n + 1, .branch _ cnt k, X => 4 < X.length ∧ cnt = (X.length : Int) ∧ ∀ d, d < 16 → PlT σ n (k d) (cut (15 - n) X d)
theorem look_none' {σ : TapeS} {r : Ref} {nd : Nd} (h : σ.look r = some nd) : r.none = false := by
  unfold TapeS.look at h
  split at h
  · cases h
  · rename_i h1
    unfold Ref.none
    by_cases h0 : r.num = 0
    · exact absurd (.inr (.inl (by omega))) h1
    · rw [show (r.num == 0) = false from by simp [h0]]; rfl
/-- The tapes tell the same. -/
def Ex (σ σ' : TapeS) : Prop := ∀ r nd, σ.look r = some nd → σ'.look r = some nd
theorem Ex.refl (σ : TapeS) : Ex σ σ := fun _ _ h => h
theorem Ex.trans {a b c : TapeS} (h : Ex a b) (k : Ex b c) : Ex a c := fun r nd x => k r nd (h r nd x)
theorem LfT.ex {σ σ' : TapeS} (h : Ex σ σ') {r : Ref} {X : List Item} (k : LfT σ r X) : LfT σ' r X := by
  rcases k with k | ⟨k, nd, k1, k2⟩
  · exact .inl k
  · exact .inr ⟨k, nd, h _ _ k1, k2⟩
theorem Tr.ex {σ σ' : TapeS} (h : Ex σ σ') : ∀ (n : Nat) {r : Ref} {X : List Item}, Tr σ n r X → Tr σ' n r X
  | 0, r, X, k => LfT.ex h k
  | n + 1, r, X, k => ⟨fun hX => (k.1 hX).ex h, fun hX => by
      obtain ⟨nd, h1, h2, h3, h4, h5⟩ := k.2 hX
      exact ⟨nd, h _ _ h1, h2, h3, h4, fun d hd => Tr.ex h n (h5 d hd)⟩⟩
theorem PlT.ex {σ σ' : TapeS} (h : Ex σ σ') : ∀ (n : Nat) (P : Pl) {X : List Item}, PlT σ n P X → PlT σ' n P X
  | n, .stay r, X, k => by
    unfold PlT at k ⊢; exact Tr.ex h n k
  | n, .leaf _ _, X, k => by
    unfold PlT at k ⊢; exact k
  | 0, .branch _ _ _, X, k => by
    unfold PlT at k; exact k.elim
  | n + 1, .branch _ _ p, X, k => by
    unfold PlT at k ⊢; exact ⟨k.1, k.2.1, fun d hd => PlT.ex h n (p d) (k.2.2 d hd)⟩
/-- The same nodes, none lost that was not. -/
structure Fr0 (σ σ' : TapeS) : Prop where
  nodes : σ'.nodes = σ.nodes
  lost : σ'.lost = σ.lost
  most : σ'.most = σ.most
  got : σ'.got = σ.got
theorem Fr0.refl (σ : TapeS) : Fr0 σ σ := ⟨rfl, rfl, rfl, rfl⟩
theorem Fr0.trans {a b c : TapeS} (h : Fr0 a b) (k : Fr0 b c) : Fr0 a c := ⟨k.nodes.trans h.nodes, k.lost.trans h.lost, k.most.trans h.most, k.got.trans h.got⟩
theorem Fr0.look {σ σ' : TapeS} (h : Fr0 σ σ') (r : Ref) : σ'.look r = σ.look r := by unfold TapeS.look; rw [h.nodes, h.lost]
theorem Fr0.ex {σ σ' : TapeS} (h : Fr0 σ σ') : Ex σ σ' := fun r nd k => by rw [h.look]; exact k
theorem Fr0.xe {σ σ' : TapeS} (h : Fr0 σ σ') : Ex σ' σ := fun r nd k => by rw [← h.look]; exact k
theorem Fr0.seen (S : St) (r : Ref) : Fr0 S.σ (S.seen r).σ := by unfold St.seen; split <;> exact ⟨rfl, rfl, rfl, rfl⟩
theorem Tr.node {S : St} {n : Nat} {r : Ref} {nd : Nd} (hl : S.σ.look r = some nd) (hg : S.got < 1048576) (hn : nd.leaf = true ∨ 0 < n) (h16 : n ≤ 16) : S.node r (16 - n) = some nd := by
  unfold St.node
  rw [if_neg (by omega), hl]
  simp only
  rw [if_pos]
  rcases hn with h | h
  · exact .inl h
  · exact .inr (by omega)
/-- Whatever node is there: it was got. -/
theorem seen_got1 {S : St} {r : Ref} (hg : S.got < 1048576) : (S.seen r).got = S.got + 1 := by unfold St.seen; rw [if_neg (by omega)]
/-- A tree is nothing, a leaf or a branch. -/
theorem Tr.cases {σ : TapeS} {n : Nat} {r : Ref} {X : List Item} (h : Tr σ n r X) : (X = [] ∧ r = ⟨0, 0⟩) ∨
    (X ≠ [] ∧ (X.length ≤ 4 ∨ n = 0) ∧ r.none = false ∧ ∃ nd, σ.look r = some nd ∧ nd.leaf = true ∧ nd.cnt = (X.length : Int) ∧ nd.its = X ∧ ∀ d, d < 16 → nd.kid d = ⟨0, 0⟩) ∨
    (4 < X.length ∧ r.none = false ∧ ∃ m, n = m + 1 ∧ ∃ nd, σ.look r = some nd ∧ nd.leaf = false ∧ nd.cnt = (X.length : Int) ∧ nd.its = [] ∧ ∀ d, d < 16 → Tr σ m (nd.kid d) (cut (15 - m) X d)) := by
  cases n with
  | zero =>
    unfold Tr at h
    rcases h with h | ⟨h, nd, h1, h2⟩
    · exact .inl h
    · exact .inr (.inl ⟨h, .inr rfl, look_none' h1, nd, h1, h2⟩)
  | succ m =>
    unfold Tr at h
    by_cases hX : X.length ≤ 4
    · rcases h.1 hX with h | ⟨h, nd, h1, h2⟩
      · exact .inl h
      · exact .inr (.inl ⟨h, .inl hX, look_none' h1, nd, h1, h2⟩)
    · obtain ⟨nd, h1, h2⟩ := h.2 (by omega)
      exact .inr (.inr ⟨by omega, look_none' h1, m, rfl, nd, h1, h2⟩)
/-- What is laid down of a plan. -/
def Pl.lz : Pl → Nat
  | .stay _ => 0
  | .leaf _ its => if its.length = 0 then 0 else 1
  | .branch _ _ k => sumF (fun d => (k d).lz) 16 0 + 1
/-- Nodes were laid down. -/
structure Ext (σ σ' : TapeS) (k : Nat) : Prop where
  lost : σ'.lost = σ.lost
  most : σ'.most = σ.most
  got : σ'.got = σ.got
  nodes : ∃ N, σ'.nodes = σ.nodes ++ N ∧ N.length = k
  log : ∃ G, σ'.log = σ.log ++ G ∧ G.length = k ∧ ∀ x ∈ G, Dd.al x = true
theorem Ext.refl (σ : TapeS) : Ext σ σ 0 := ⟨rfl, rfl, rfl, ⟨[], by simp, rfl⟩, ⟨[], by simp, rfl, fun _ h => nomatch h⟩⟩
theorem Ext.trans {a b c : TapeS} {i j : Nat} (h : Ext a b i) (k : Ext b c j) : Ext a c (i + j) := by
  obtain ⟨h1, h2, h5, ⟨N, h3, h3'⟩, G, h4, h4', h4''⟩ := h
  obtain ⟨k1, k2, k5, ⟨M, k3, k3'⟩, H, k4, k4', k4''⟩ := k
  refine ⟨k1.trans h1, k2.trans h2, k5.trans h5, ⟨N ++ M, by rw [k3, h3, List.append_assoc], by simp [h3', k3']⟩, ⟨G ++ H, by rw [k4, h4, List.append_assoc], by simp [h4', k4'], fun x hx => ?_⟩⟩
  rcases List.mem_append.1 hx with hx | hx
  · exact h4'' x hx
  · exact k4'' x hx
theorem Ext.ex {σ σ' : TapeS} {k : Nat} (h : Ext σ σ' k) : Ex σ σ' := by
  obtain ⟨h1, _, _, ⟨N, h3, _⟩, _⟩ := h
  intro r nd hl
  unfold TapeS.look at hl ⊢
  rw [h1, h3]
  split at hl
  · cases hl
  · rename_i hc
    rw [if_neg]
    · have hi := (List.getElem?_eq_some_iff.1 hl).1
      rw [List.getElem?_append_left hi]; exact hl
    · rintro (h | h | h | h)
      · exact hc (.inl h)
      · exact hc (.inr (.inl h))
      · rw [List.length_append] at h; exact hc (.inr (.inr (.inl (by omega))))
      · exact hc (.inr (.inr (.inr h)))
theorem Ext.len {σ σ' : TapeS} {k : Nat} (h : Ext σ σ' k) : σ'.nodes.length = σ.nodes.length + k := by
  obtain ⟨_, _, _, ⟨N, h3, h4⟩, _⟩ := h; rw [h3, List.length_append, h4]
theorem alloc_spec (σ : TapeS) (nd : Nd) (h : (σ.nodes.length : Int) + 1 ≤ σ.most) (h0 : σ.lost = 0) :
    ∃ r σ', σ.alloc nd = ((r, 0), σ') ∧ Ext σ σ' 1 ∧ σ'.look r = some (nd.at nilS) ∧ r = ⟨(σ.nodes.length : Int) + 1, 1⟩ := by
  have hf : σ.full = false := by unfold TapeS.full; exact decide_eq_false (by omega)
  refine ⟨⟨(σ.nodes.length : Int) + 1, 1⟩, { σ with nodes := σ.nodes ++ [nd.at nilS], log := σ.log ++ [⟨true, ⟨0, 0⟩, nd.at nilS⟩] }, ?_, ⟨rfl, rfl, rfl, ⟨_, rfl, rfl⟩, ⟨_, rfl, rfl, fun x hx => ?_⟩⟩, ?_, rfl⟩
  · unfold TapeS.alloc TapeS.newRef TapeS.newErr TapeS.laid
    rw [hf]; rfl
  · rw [List.mem_singleton] at hx; rw [hx]
  · refine look_some (k := σ.nodes.length) rfl ?_ ?_ ?_ rfl ?_
    · show ¬ (σ.nodes.length : Int) + 1 < 1; omega
    · show ¬ ((σ.nodes ++ [nd.at nilS]).length : Int) < (σ.nodes.length : Int) + 1
      rw [List.length_append, List.length_singleton]; omega
    · show ¬ (σ.nodes.length : Int) + 1 = σ.lost
      omega
    · show (σ.nodes ++ [nd.at nilS])[σ.nodes.length]? = _
      rw [List.getElem?_append_right (Nat.le_refl _), Nat.sub_self]; rfl
theorem upd_eq {α : Type} (f : Nat → α) (d : Nat) (x : α) : upd f d x d = x := by unfold upd; rw [show Nat.beq d d = true from Nat.beq_refl d]; rfl
theorem upd_ne {α : Type} (f : Nat → α) {d i : Nat} (x : α) (h : i ≠ d) : upd f d x i = f i := by
  unfold upd
  rw [show Nat.beq i d = false from by cases hb : Nat.beq i d; rfl; exact absurd (Nat.eq_of_beq_eq_true hb) h]; rfl
/-- Kids are laid down. -/
theorem layKids_spec (f : Nat → TapeS → (Ref × Int) × TapeS) (sz : Nat → Nat) (R : Nat → TapeS → Ref → Prop) (hR : ∀ d σ σ' r, Ex σ σ' → R d σ r → R d σ' r) (T : TapeS)
    (hf : ∀ d σ, d < 16 → Ex T σ → σ.lost = 0 → (σ.nodes.length : Int) + sz d ≤ σ.most → ∃ r σ', f d σ = ((r, 0), σ') ∧ Ext σ σ' (sz d) ∧ R d σ' r) :
    ∀ (n d : Nat) (kid : Nat → Ref) (σ : TapeS), n + d = 16 → Ex T σ → σ.lost = 0 → (σ.nodes.length : Int) + sumF sz n d ≤ σ.most → (∀ i, i < d → R i σ (kid i)) →
    ∃ kid' σ', layKids f n d kid σ = ((kid', 0), σ') ∧ Ext σ σ' (sumF sz n d) ∧ ∀ i, i < 16 → R i σ' (kid' i)
  | 0, d, kid, σ, hd, _, _, _, h => ⟨kid, σ, rfl, Ext.refl σ, fun i hi => h i (by omega)⟩
  | n + 1, d, kid, σ, hd, hT, h0, hm, h => by
    unfold sumF at hm
    obtain ⟨r, σ1, e, x, hr⟩ := hf d σ (by omega) hT h0 (by omega)
    have hl := x.len
    obtain ⟨kid', σ', e2, x2, h2⟩ := layKids_spec f sz R hR T hf n (d + 1) (upd kid d r) σ1 (by omega) (hT.trans x.ex) (x.lost.trans h0) (by rw [x.most, hl]; push_cast; omega) (fun i hi => by
      by_cases hi2 : i = d
      · subst hi2; rw [upd_eq]; exact hr
      · rw [upd_ne _ _ hi2]; exact hR i σ σ1 _ x.ex (h i (by omega)))
    refine ⟨kid', σ', ?_, x.trans x2, h2⟩
    unfold layKids
    rw [e]
    exact e2
theorem layM_spec : ∀ (n : Nat) (P : Pl) (X : List Item) (T σ : TapeS), PlT T n P X → Ex T σ → σ.lost = 0 → (σ.nodes.length : Int) + P.lz ≤ σ.most →
    ∃ r σ', layM P σ = ((r, 0), σ') ∧ Ext σ σ' P.lz ∧ Tr σ' n r X
  | n, .stay r, X, T, σ, h, hT, h0, hm => by
    unfold PlT at h
    exact ⟨r, σ, by unfold layM; rfl, Ext.refl σ, h.ex hT n⟩
  | n, .leaf had its, X, T, σ, h, hT, h0, hm => by
    unfold PlT at h
    obtain ⟨rfl, hn⟩ := h
    by_cases hX : its = []
    · subst hX
      refine ⟨⟨0, 0⟩, σ, by unfold layM; rfl, Ext.refl σ, ?_⟩
      cases n with
      | zero => exact .inl ⟨rfl, rfl⟩
      | succ n => exact ⟨fun _ => .inl ⟨rfl, rfl⟩, fun h => absurd h (by decide)⟩
    · have hl : its.length ≠ 0 := fun h => hX (List.eq_nil_of_length_eq_zero h)
      have hz : (Pl.leaf had its).lz = 1 := by unfold Pl.lz; rw [if_neg hl]
      rw [hz] at hm ⊢
      obtain ⟨r, σ', e, x, hr, _⟩ := alloc_spec σ ⟨true, its.length, nilS, its, fun _ => ⟨0, 0⟩⟩ hm h0
      have hL : LfT σ' r its := .inr ⟨hX, _, hr, rfl, rfl, rfl, fun _ _ => rfl⟩
      refine ⟨r, σ', ?_, x, ?_⟩
      · unfold layM
        rw [show (its.length == 0) = false from by simp [hX], cond_false]; exact e
      · cases n with
        | zero => exact hL
        | succ n => exact ⟨fun _ => hL, fun h => by rcases hn with h2 | h2; omega; cases h2⟩
  | 0, .branch _ _ _, X, T, σ, h, hT, h0, hm => by
    unfold PlT at h; exact h.elim
  | n + 1, .branch had cnt k, X, T, σ, h, hT, h0, hm => by
    unfold PlT at h
    obtain ⟨hX, hc, hk⟩ := h
    unfold Pl.lz at hm ⊢
    obtain ⟨kid, σ1, e, x, hr⟩ := layKids_spec (fun d => layM (k d)) (fun d => (k d).lz) (fun d σ r => Tr σ n r (cut (15 - n) X d)) (fun d σ σ' r h => Tr.ex h n) T
      (fun d σ hd hT h0 hm => layM_spec n (k d) _ T σ (hk d hd) hT h0 hm) 16 0 (fun _ => ⟨0, 0⟩) σ rfl hT h0 (by push_cast at hm; omega) (fun i hi => by omega)
    have hl := x.len
    obtain ⟨r, σ2, e2, x2, hr2, _⟩ := alloc_spec σ1 ⟨false, cnt, nilS, [], kid⟩ (by rw [x.most, hl]; push_cast at hm ⊢; omega) (x.lost.trans h0)
    refine ⟨r, σ2, ?_, x.trans x2, ?_⟩
    · rw [layM_branch, e]; exact e2
    · exact ⟨fun h => by omega, fun _ => ⟨_, hr2, rfl, hc, rfl, fun d hd => Tr.ex x2.ex n (hr d hd)⟩⟩
theorem bld_PlT (σ : TapeS) : ∀ (n : Nat) (X : List Item) (had : Int), PlT σ n (bld n X had) X
  | 0, X, had => by unfold bld PlT; exact ⟨rfl, .inr rfl⟩
  | n + 1, X, had => by
    unfold bld
    split
    · rename_i h; unfold PlT; exact ⟨rfl, .inl h⟩
    · rename_i h; unfold PlT; exact ⟨by omega, rfl, fun d hd => bld_PlT σ n _ 0⟩
theorem PlT.lz_nil {σ : TapeS} {n : Nat} {P : Pl} (h : PlT σ n P []) : P.lz = 0 := by
  cases P with
  | stay r => rfl
  | leaf had its => unfold PlT at h; rw [h.1]; rfl
  | branch had cnt k => cases n <;> (unfold PlT at h; first | exact h.elim | exact absurd h.1 (by simp))
/-- How much is laid down at most. -/
theorem PlT.lz_le {σ : TapeS} : ∀ (n : Nat) (P : Pl) {X : List Item}, PlT σ n P X → 5 * P.lz ≤ (n + 5) * X.length
  | n, .stay r, X, h => Nat.zero_le _
  | n, .leaf had its, X, h => by
    unfold PlT at h
    obtain ⟨rfl, _⟩ := h
    unfold Pl.lz
    have : 5 * its.length ≤ (n + 5) * its.length := Nat.mul_le_mul_right _ (by omega)
    split <;> omega
  | 0, .branch _ _ _, X, h => by unfold PlT at h; exact h.elim
  | n + 1, .branch had cnt k, X, h => by
    unfold PlT at h
    unfold Pl.lz
    have h1 : sumF (fun d => 5 * (k d).lz) 16 0 ≤ sumF (fun d => (n + 5) * (cut (15 - n) X d).length) 16 0 := sumF_le 16 0 fun d _ hd => PlT.lz_le n (k d) (h.2.2 d (by omega))
    rw [sumF_mul, sumF_mul, cut_sum] at h1
    have h2 : (n + 1 + 5) * X.length = (n + 5) * X.length + X.length := by rw [show n + 1 + 5 = (n + 5) + 1 by omega]; exact Nat.succ_mul _ _
    have h3 := h.1
    omega
theorem bld_lz1 : ∀ (n : Nat) (X : List Item) (had : Int), X.length ≤ 4 → (bld n X had).lz ≤ X.length
  | 0, X, had, h => by unfold bld Pl.lz; split <;> omega
  | n + 1, X, had, h => by unfold bld; rw [if_pos h]; unfold Pl.lz; split <;> omega
/-- .. of five items. -/
theorem bld_lz5 : ∀ (n : Nat) (X : List Item) (had : Int), X.length ≤ 5 ∨ n = 0 → (bld n X had).lz ≤ n + 5
  | 0, X, had, _ => by unfold bld Pl.lz; split <;> omega
  | n + 1, X, had, h => by
    have h : X.length ≤ 5 := by rcases h with h | h; exact h; cases h
    unfold bld
    split
    · unfold Pl.lz; split <;> omega
    · rename_i h4
      unfold Pl.lz
      show sumF (fun d => (bld n (cut (15 - n) X d) 0).lz) 16 0 + 1 ≤ _
      by_cases hc : ∃ d0, d0 < 16 ∧ 4 < (cut (15 - n) X d0).length
      · obtain ⟨d0, hd0, hc⟩ := hc
        have hall : ∀ x ∈ X, digitOf x.key (15 - n) = d0 := by
          have h1 : (cut (15 - n) X d0).length = X.length := by have := cut_le (15 - n) X d0; omega
          intro x hx
          have h2 := (List.length_filter_eq_length_iff.1 h1) x hx
          simpa using h2
        have h1 : sumF (fun d => (bld n (cut (15 - n) X d) 0).lz) 16 0 ≤ sumF (fun _ => 0) 16 0 + (if 0 ≤ d0 then n + 5 else 0) := by
          refine sumF_one 16 0 fun d _ hd => ?_
          split
          · have := bld_lz5 n (cut (15 - n) X d) 0 (.inl (Nat.le_trans (cut_le _ _ _) h)); omega
          · rename_i hne
            have : cut (15 - n) X d = [] := List.filter_eq_nil_iff.2 fun x hx => by rw [hall x hx]; simpa using fun h => hne h.symm
            rw [this, (bld_PlT ⟨[], 0, 0, [], 0⟩ n [] 0).lz_nil]
            exact Nat.zero_le _
        rw [sumF_const, if_pos (Nat.zero_le _)] at h1
        omega
      · have h1 : sumF (fun d => (bld n (cut (15 - n) X d) 0).lz) 16 0 ≤ sumF (fun d => (cut (15 - n) X d).length) 16 0 := by
          refine sumF_le 16 0 fun d _ hd => bld_lz1 n _ 0 ?_
          exact Nat.le_of_not_lt fun h => hc ⟨d, by omega, h⟩
        rw [cut_sum] at h1
        omega
end Go.Proofs.Ytlfanphdnjoofaa
