/- That it fits: where copies lie does not matter; and how to reckon it. -/
import Derived.Test.YtlfanphdnjoofaaT19
namespace Go.Proofs.Ytlfanphdnjoofaa
open Go.RowKit
set_option linter.unusedVariables false

theorem fitFall_er (kid : Nat → Pl) (l : Nat) : ∀ (k d : Nat) (acc : List Item) (S : St), fitFall kid l k d acc S.er → fitFall kid l k d acc S
  | 0, _, _, _, h => h
  | k + 1, d, acc, S, h => by
    unfold fitFall at h ⊢
    refine ⟨h.1, ?_⟩
    have h := h.2
    cases hk : kid d with
    | stay r =>
      rw [hk] at h
      refine ⟨fun hr => fitFall_er kid l k _ _ _ (h.1 hr), fun hr => ?_⟩
      have h := h.2 hr
      cases hn : S.node r l with
      | none => trivial
      | some nd =>
        rw [show S.er.node r l = some nd.er by rw [St.er_node, hn]; rfl] at h
        refine ⟨h.1, fitFall_er kid l k _ _ _ ?_⟩
        have h := h.2
        rw [← St.er_seen] at h
        exact h
    | leaf a b => rw [hk] at h; exact ⟨h.1, fitFall_er kid l k _ _ _ h.2⟩
    | branch a b c => rw [hk] at h; exact ⟨h.1, fitFall_er kid l k _ _ _ h.2⟩
theorem fitKids_er {f : Nat → St → Option Pl × St} {fit : Nat → St → Prop} {fin : KA → St → Prop} (hf : ∀ d S, f d S.er = ((f d S).1, (f d S).2.er)) (h1 : ∀ d S, fit d S.er → fit d S) (h2 : ∀ a S, fin a S.er → fin a S) :
    ∀ (n d : Nat) (a : KA) (S : St), fitKids f fit fin n d a S.er → fitKids f fit fin n d a S
  | 0, _, _, _, h => h2 _ _ h
  | n + 1, d, a, S, h => ⟨h1 _ _ h.1, fun p S' e => fitKids_er hf h1 h2 n _ _ _ (h.2 p S'.er (by rw [hf, e]))⟩
theorem fitM_er (n : Nat) : ∀ (S : St) (r : Ref) (es : List Edit), fitM n S.er r es → fitM n S r es := by
  induction n with
  | zero => intro S r es _; trivial
  | succ n ih =>
    intro S r es h
    unfold fitM at h ⊢
    refine ⟨h.1, h.2.1, fun h1 h2 nd hn => ?_⟩
    have hn' : S.er.node r (16 - n) = some nd.er := by rw [St.er_node, hn]; rfl
    have h := h.2.2 h1 h2 nd.er hn'
    refine ⟨h.1, fun hl => ?_⟩
    have h := h.2 hl
    rw [← St.er_seen] at h
    exact fitKids_er (fun d S => becM_er n S _ _) (fun d S => ih S _ _) (fun a S hf hc hd => fitFall_er _ _ _ _ _ _ (hf hc hd)) _ _ _ _ h
theorem fitC_er {σ : TapeS} {top : Ref} {es : List Edit} (h : fitC σ.er top es) : fitC σ top es := fun hr => by
  have h := h hr
  refine ⟨fitM_er 17 ⟨σ, 0, []⟩ top es h.1, fun P S hb => h.2 P S.er (becM17_er hb)⟩
theorem fitSeq_er {α : Type} {f : Nat → St → Option (List α) × St} {fit : Nat → St → Nat → Prop} (hf : ∀ d S, f d S.er = ((f d S).1, (f d S).2.er)) (h1 : ∀ d S k, fit d S.er k → fit d S k) :
    ∀ (n d k : Nat) (S : St), fitSeq f fit n d k S.er → fitSeq f fit n d k S
  | 0, _, _, _, h => h
  | n + 1, d, k, S, h => ⟨h.1, h1 _ _ _ h.2.1, fun l S' e => fitSeq_er hf h1 n _ _ _ (h.2.2 l S'.er (by rw [hf, e]))⟩
theorem fitA_er (n : Nat) : ∀ (S : St) (r : Ref) (k : Nat), fitA n S.er r k → fitA n S r k := by
  induction n with
  | zero => intro S r k _; trivial
  | succ n ih =>
    intro S r k h
    unfold fitA at h ⊢
    refine ⟨h.1, fun h2 nd hn => ?_⟩
    have h := h.2 h2 nd.er (by rw [St.er_node, hn]; rfl)
    refine ⟨h.1, fun hl => ?_⟩
    have h := h.2 hl
    rw [← St.er_seen] at h
    exact fitSeq_er (fun d S => allM_er n S _) (fun d S k => ih S _ k) _ _ _ _ h
theorem fitR_er (n : Nat) : ∀ (S : St) (r : Ref) (k : Nat), fitR n S.er r k → fitR n S r k := by
  induction n with
  | zero => intro S r k _; trivial
  | succ n ih =>
    intro S r k h
    unfold fitR at h ⊢
    refine ⟨h.1, fun h2 nd hn hl => ?_⟩
    have h := h.2 h2 nd.er (by rw [St.er_node, hn]; rfl) hl
    rw [← St.er_seen] at h
    exact fitSeq_er (fun d S => refsM_er n S _) (fun d S k => ih S _ k) _ _ _ _ h

/-! ### Reckoned -/
def kOkB (its : List Item) : Bool := its.all fun x => decide (x.key.size < 9223372036854775807)
def eOkB (es : List Edit) : Bool := es.all fun e => decide (e.it.key.size < 9223372036854775807)
theorem kOkB_spec {its : List Item} (h : kOkB its = true) : kOk its := fun x hx => of_decide_eq_true (List.all_eq_true.1 h x hx)
theorem eOkB_spec {es : List Edit} (h : eOkB es = true) : eOk es := fun e he => of_decide_eq_true (List.all_eq_true.1 h e he)
def fitFallB (kid : Nat → Pl) (l : Nat) : Nat → Nat → List Item → St → Bool
  | 0, _, acc, _ => decide (acc.length ≤ 100000)
  | k + 1, d, acc, S => decide (acc.length ≤ 100000) && match kid d with
    | .stay r => bif r.none then fitFallB kid l k (d + 1) acc S else match S.node r l with
      | none => true
      | some nd => decide ((acc ++ nd.its).length ≤ 100000) && fitFallB kid l k (d + 1) (acc ++ nd.its) ((S.seen r).ret r (S.seen r).got)
    | p => decide ((acc ++ p.all).length ≤ 100000) && fitFallB kid l k (d + 1) (acc ++ p.all) S
theorem fitFallB_spec (kid : Nat → Pl) (l : Nat) : ∀ (k d : Nat) (acc : List Item) (S : St), fitFallB kid l k d acc S = true → fitFall kid l k d acc S
  | 0, _, acc, _, h => (of_decide_eq_true h : acc.length ≤ 100000)
  | k + 1, d, acc, S, h => by
    unfold fitFallB at h
    unfold fitFall
    rw [Bool.and_eq_true] at h
    refine ⟨of_decide_eq_true h.1, ?_⟩
    have h := h.2
    cases hk : kid d with
    | stay r =>
      rw [hk] at h
      simp only at h
      refine ⟨fun hr => ?_, fun hr => ?_⟩
      · rw [hr, cond_true] at h; exact fitFallB_spec kid l k _ _ _ h
      · rw [hr, cond_false] at h
        cases hn : S.node r l with
        | none => trivial
        | some nd =>
          rw [hn] at h
          simp only [Bool.and_eq_true] at h
          exact ⟨of_decide_eq_true h.1, fitFallB_spec kid l k _ _ _ h.2⟩
    | leaf a b => rw [hk] at h; simp only [Bool.and_eq_true] at h; exact ⟨of_decide_eq_true h.1, fitFallB_spec kid l k _ _ _ h.2⟩
    | branch a b c => rw [hk] at h; simp only [Bool.and_eq_true] at h; exact ⟨of_decide_eq_true h.1, fitFallB_spec kid l k _ _ _ h.2⟩
def fitKidsB (f : Nat → St → Option Pl × St) (fit : Nat → St → Bool) (fin : KA → St → Bool) : Nat → Nat → KA → St → Bool
  | 0, _, a, S => fin a S
  | n + 1, d, a, S => fit d S && match f d S with
    | (none, _) => true
    | (some p, S') => fitKidsB f fit fin n (d + 1) (a.add d p) S'
theorem fitKidsB_spec {f : Nat → St → Option Pl × St} {fit : Nat → St → Bool} {fin : KA → St → Bool} {fit' : Nat → St → Prop} {fin' : KA → St → Prop} (h1 : ∀ d S, fit d S = true → fit' d S) (h2 : ∀ a S, fin a S = true → fin' a S) :
    ∀ (n d : Nat) (a : KA) (S : St), fitKidsB f fit fin n d a S = true → fitKids f fit' fin' n d a S
  | 0, _, _, _, h => h2 _ _ h
  | n + 1, d, a, S, h => by
    unfold fitKidsB at h
    rw [Bool.and_eq_true] at h
    refine ⟨h1 _ _ h.1, fun p S' e => ?_⟩
    have h := h.2
    rw [e] at h
    exact fitKidsB_spec h1 h2 n _ _ _ h
def fitDoneB (l : Nat) (r : Ref) (got : Int) (a : KA) (S : St) : Bool := !a.ch || decide (a.cnt > 4) || fitFallB a.kid l 16 0 [] (S.ret r got)
def fitMB : Nat → St → Ref → List Edit → Bool
  | 0, _, _, _ => true
  | n + 1, S, r, es => decide (es.length ≤ 50000) && eOkB es && (es.length == 0 || r.none || match S.node r (16 - n) with
      | none => true
      | some nd => bif nd.leaf then decide (nd.its.length ≤ 50000) && kOkB nd.its
        else fitKidsB (fun d S => becM n S (nd.kid d) (es.filter fun e => digitOf e.it.key (16 - n) == d)) (fun d S => fitMB n S (nd.kid d) (es.filter fun e => digitOf e.it.key (16 - n) == d))
          (fitDoneB (17 - n) r (S.seen r).got) 16 0 ⟨fun _ => .stay ⟨0, 0⟩, nd.cnt, false⟩ (S.seen r))
theorem fitMB_spec (n : Nat) : ∀ (S : St) (r : Ref) (es : List Edit), fitMB n S r es = true → fitM n S r es := by
  induction n with
  | zero => intro S r es _; trivial
  | succ n ih =>
    intro S r es h
    unfold fitMB at h
    unfold fitM
    rw [Bool.and_eq_true, Bool.and_eq_true] at h
    refine ⟨of_decide_eq_true h.1.1, eOkB_spec h.1.2, fun h1 h2 nd hn => ?_⟩
    have h := h.2
    rw [h2, hn, show (es.length == 0) = false from beq_eq_false_iff_ne.2 h1, Bool.false_or, Bool.false_or] at h
    simp only at h
    refine ⟨fun hl => ?_, fun hl => ?_⟩
    · rw [hl, cond_true, Bool.and_eq_true] at h
      exact ⟨of_decide_eq_true h.1, kOkB_spec h.2⟩
    · rw [hl, cond_false] at h
      refine fitKidsB_spec (fun d S => ih S _ _) (fun a S hf hc hd => ?_) _ _ _ _ h
      unfold fitDoneB at hf
      rw [hc, hd] at hf
      exact fitFallB_spec _ _ _ _ _ _ hf
def fitCB (σ : TapeS) (top : Ref) (es : List Edit) : Bool := fitMB 17 ⟨σ, 0, []⟩ top es && match becM 17 ⟨σ, 0, []⟩ top es with
  | (none, _) => true
  | (some P, S) => decide (P.size ≤ 1000000) && decide (P.all.length ≤ 100000) && decide (S.rs.length ≤ 100000)
theorem fitCB_spec {σ : TapeS} {top : Ref} {es : List Edit} (h : fitCB σ top es = true) : fitC σ top es := fun _ => by
  unfold fitCB at h
  rw [Bool.and_eq_true] at h
  refine ⟨fitMB_spec _ _ _ _ h.1, fun P S hb => ?_⟩
  have h := h.2
  rw [hb] at h
  simp only [Bool.and_eq_true] at h
  exact ⟨of_decide_eq_true h.1.1, of_decide_eq_true h.1.2, of_decide_eq_true h.2⟩
def fitSeqB {α : Type} (f : Nat → St → Option (List α) × St) (fit : Nat → St → Nat → Bool) : Nat → Nat → Nat → St → Bool
  | 0, _, k, _ => decide (k ≤ 100000)
  | n + 1, d, k, S => decide (k ≤ 100000) && fit d S k && match f d S with
    | (none, _) => true
    | (some l, S') => fitSeqB f fit n (d + 1) (k + l.length) S'
theorem fitSeqB_spec {α : Type} {f : Nat → St → Option (List α) × St} {fit : Nat → St → Nat → Bool} {fit' : Nat → St → Nat → Prop} (h1 : ∀ d S k, fit d S k = true → fit' d S k) :
    ∀ (n d k : Nat) (S : St), fitSeqB f fit n d k S = true → fitSeq f fit' n d k S
  | 0, _, k, _, h => (of_decide_eq_true h : k ≤ 100000)
  | n + 1, d, k, S, h => by
    unfold fitSeqB at h
    rw [Bool.and_eq_true, Bool.and_eq_true] at h
    refine ⟨of_decide_eq_true h.1.1, h1 _ _ _ h.1.2, fun l S' e => ?_⟩
    have h := h.2
    rw [e] at h
    exact fitSeqB_spec h1 n _ _ _ h
def fitAB : Nat → St → Ref → Nat → Bool
  | 0, _, _, _ => true
  | n + 1, S, r, k => decide (k ≤ 100000) && (r.none || match S.node r (16 - n) with
    | none => true
    | some nd => bif nd.leaf then decide (k + nd.its.length ≤ 100000) else fitSeqB (fun d S => allM n S (nd.kid d)) (fun d S k => fitAB n S (nd.kid d) k) 16 0 k (S.seen r))
theorem fitAB_spec (n : Nat) : ∀ (S : St) (r : Ref) (k : Nat), fitAB n S r k = true → fitA n S r k := by
  induction n with
  | zero => intro S r k _; trivial
  | succ n ih =>
    intro S r k h
    unfold fitAB at h
    unfold fitA
    rw [Bool.and_eq_true] at h
    refine ⟨of_decide_eq_true h.1, fun h2 nd hn => ?_⟩
    have h := h.2
    rw [h2, hn, Bool.false_or] at h
    simp only at h
    refine ⟨fun hl => ?_, fun hl => ?_⟩
    · rw [hl, cond_true] at h; exact of_decide_eq_true h
    · rw [hl, cond_false] at h
      exact fitSeqB_spec (fun d S k => ih S _ k) _ _ _ _ h
end Go.Proofs.Ytlfanphdnjoofaa
