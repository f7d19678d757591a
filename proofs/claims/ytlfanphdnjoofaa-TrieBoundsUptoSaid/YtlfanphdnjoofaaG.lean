/- Regions that draw their order: what only reads is taken first, under a condition on the world that each other operation keeps (where it is asked to). -/
import Derived.WalkKit
import Derived.KernelRfl
import Derived.Lib.Hide
import Derived.Orders
import Derived.OrdersHeld
namespace Go.Proofs.Ytlfanphdnjoofaa
open Go.RowKit

section
variable {P : Program} {ops : Array Oper} {Q : Exit → Act → World → Prop} {S : Nat → World → Prop}

/-- Number j waits for number i, directly or through others. -/
def waits (ops : Array Oper) : Nat → Nat → Nat → Bool
  | 0, _, _ => false
  | f + 1, j, i => match ops[j]? with
    | some oj => oj.after.any (fun e => Region.binds .any e && (e.on == i || waits ops f e.on i))
    | none => false
/-- Whatever may come up next is carried out, in whatever order; each S i is kept by whoever does not wait for i. -/
def wpG (P : Program) (ops : Array Oper) (Q : Exit → Act → World → Prop) (S : Nat → World → Prop) : Nat → Array Bool → Act → World → Prop
  | 0, listed, a, w => Region.ready .any ops listed = [] ∧ Q .normal a w
  | n + 1, listed, a, w => (Region.ready .any ops listed = [] → Q .normal a w) ∧
      ∀ j ∈ Region.ready .any ops listed, wpOp P ops Q j (fun a' w' => (∀ i, waits ops ops.size j i = false → S i w → S i w') ∧ wpG P ops Q S n (listed.setIfInBounds j true) a' w') a w

theorem wpAny_of_wpG : ∀ (n : Nat) (listed : Array Bool) (a : Act) (w : World), wpG P ops Q S n listed a w → wpAny P .any ops Q n listed a w
  | 0, _, _, _, h => h
  | n + 1, _, _, _, h => ⟨h.1, fun i hi => wpOp_mono (fun a' w' h' => wpAny_of_wpG n _ a' w' h'.2) (h.2 i hi)⟩

def Closed (ops : Array Oper) (listed : Array Bool) : Prop := ∀ j oj, ops[j]? = some oj → listed.getD j false = true → ∀ e ∈ oj.after, Region.binds .any e = true → listed.getD e.on false = true
def closedB (ops : Array Oper) (listed : Array Bool) : Bool := (List.range ops.size).all fun j => !(listed.getD j false) || match ops[j]? with
  | some oj => oj.after.all (fun e => !(Region.binds .any e) || listed.getD e.on false)
  | none => true
theorem closedB_spec {listed : Array Bool} (h : closedB ops listed = true) : Closed ops listed := by
  intro j oj hj hl e he hb
  simp only [closedB, List.all_eq_true, List.mem_range] at h
  have h1 := h j (Array.getElem?_eq_some_iff.1 hj).1
  simp only [hj, hl, Bool.not_true, Bool.false_or] at h1
  have h2 := Array.all_eq_true'.1 h1 e he
  simpa [hb] using h2
theorem waits_listed {listed : Array Bool} {i : Nat} (hc : Closed ops listed) : ∀ (f j : Nat) (oj : Oper), ops[j]? = some oj → (∀ e ∈ oj.after, Region.binds .any e = true → listed.getD e.on false = true) → waits ops f j i = true → listed.getD i false = true
  | 0, _, _, _, _, h => by simp [waits] at h
  | f + 1, j, oj, hj, hall, h => by
    simp only [waits, hj] at h
    obtain ⟨e, he, hb⟩ := Array.any_eq_true'.1 h
    simp only [Bool.and_eq_true, Bool.or_eq_true, beq_iff_eq] at hb
    have h1 := hall e he hb.1
    rcases hb.2 with h2 | h2
    · rw [← h2]; exact h1
    · cases hq : ops[e.on]? with
      | none => cases f <;> simp [waits, hq] at h2
      | some oq => exact waits_listed hc f e.on oq hq (hc e.on oq hq h1) h2
theorem Closed.set {listed : Array Bool} {j : Nat} {oj : Oper} (hc : Closed ops listed) (hj : ops[j]? = some oj) (hall : ∀ e ∈ oj.after, Region.binds .any e = true → listed.getD e.on false = true) : Closed ops (listed.setIfInBounds j true) := by
  intro k ok hk hl e he hb
  refine getD_set_true ?_
  by_cases hkj : j = k
  · subst hkj
    rw [hj] at hk; injection hk with hk; subst hk
    exact hall e he hb
  · rw [getD_set_ne false hkj] at hl
    exact hc k ok hk hl e he hb

/-- What yields its value in every world that meets S may be carried out first. -/
theorem wpG_first {i : Nat} {oi : Oper} {v : Value} (hi : ops[i]? = some oi) (hsel : Region.noSelect ops = true)
    (hQ : ∀ c a w, Q (.panic c) (a.put oi.dst v) w → Q (.panic c) a w) :
    ∀ (n : Nat) (listed : Array Bool) (a : Act) (w : World),
      Closed ops listed →
      (∀ j oj, ops[j]? = some oj → j ≠ i → listed.getD j true = false → (∀ e ∈ oj.after, Region.binds .any e = true → e.on ≠ i) → waits ops ops.size j i = false → oi.apart ops oj = true) →
      i ∈ Region.ready .any ops listed → YieldsIf P ops (S i) oi v a → S i w →
      wpG P ops Q S n (listed.setIfInBounds i true) (a.put oi.dst v) w → wpG P ops Q S (n + 1) listed a w := by
  intro n
  induction n with
  | zero =>
    intro listed a w _ _ hr hy hS H
    refine ⟨fun h => by simp [h] at hr, fun j hj => ?_⟩
    have hji : j = i := Classical.byContradiction fun hne => by
      have h1 := ready_mono hj hne
      simp [H.1] at h1
    subst hji
    exact hy.wpOp hi hS ⟨fun _ _ h => h, H⟩
  | succ n ih =>
    intro listed a w hcl hfree hr hy hS H
    refine ⟨fun h => by simp [h] at hr, fun j hj => ?_⟩
    by_cases hji : j = i
    · subst hji
      exact hy.wpOp hi hS ⟨fun _ _ h => h, H⟩
    · obtain ⟨hun, oj, hoj, hall⟩ := mem_ready.1 hj
      have hno : ∀ e ∈ oj.after, Region.binds .any e = true → e.on ≠ i := by
        intro e he hb heq
        have h1 := hall e he hb
        have h0 := (mem_ready.1 hr).1
        rw [heq] at h1
        simp only [Array.getD_eq_getD_getElem?] at h0 h1
        cases hl : listed[i]? with
        | none => simp [hl] at h1
        | some b => simp [hl] at h0 h1; rw [h0] at h1; cases h1
      have hnw : waits ops ops.size j i = false := by
        cases hw : waits ops ops.size j i with
        | false => rfl
        | true =>
          have h1 := waits_listed hcl _ j oj hoj hall hw
          have h0 := (mem_ready.1 hr).1
          simp only [Array.getD_eq_getD_getElem?] at h0 h1
          cases hl : listed[i]? with
          | none => simp [hl] at h1
          | some b => simp [hl] at h0 h1; rw [h0] at h1; cases h1
      have hap := hfree j oj hoj hji hun hno hnw
      have h2 := wpOp_putIf hoj hap (Region.noSelect_spec hsel i oi · · hi) (Region.noSelect_spec hsel j oj · · hoj) hQ hy (H.2 j (ready_mono hj hji))
      refine wpOp_mono (fun a' w' h3 => ?_) h2
      have hS' : S i w' := h3.2.1 i hnw hS
      refine ⟨h3.2.1, ih (listed.setIfInBounds j true) a' w' (hcl.set hoj hall) ?_ (ready_mono hr (Ne.symm hji)) h3.1 hS' ?_⟩
      · intro k ok hk hki hkun hkno hkw
        refine hfree k ok hk hki ?_ hkno hkw
        by_cases hjk : j = k
        · subst hjk; exact hun
        · rwa [getD_set_ne true hjk] at hkun
      · rw [Array.setIfInBounds_comm _ _ hji]
        exact h3.2.2

/-- What yields its value in every world may be carried out first. -/
theorem wpG_firstP {i : Nat} {oi : Oper} {v : Value} (hi : ops[i]? = some oi) (hsel : Region.noSelect ops = true)
    (hQ : ∀ c a w, Q (.panic c) (a.put oi.dst v) w → Q (.panic c) a w) :
    ∀ (n : Nat) (listed : Array Bool) (a : Act) (w : World),
      (∀ j oj, ops[j]? = some oj → j ≠ i → listed.getD j true = false → (∀ e ∈ oj.after, Region.binds .any e = true → e.on ≠ i) → oi.apart ops oj = true) →
      i ∈ Region.ready .any ops listed → YieldsIf P ops (fun _ => True) oi v a →
      wpG P ops Q S n (listed.setIfInBounds i true) (a.put oi.dst v) w → wpG P ops Q S (n + 1) listed a w := by
  intro n
  induction n with
  | zero =>
    intro listed a w _ hr hy H
    refine ⟨fun h => by simp [h] at hr, fun j hj => ?_⟩
    have hji : j = i := Classical.byContradiction fun hne => by
      have h1 := ready_mono hj hne
      simp [H.1] at h1
    subst hji
    exact hy.wpOp hi trivial ⟨fun _ _ h => h, H⟩
  | succ n ih =>
    intro listed a w hfree hr hy H
    refine ⟨fun h => by simp [h] at hr, fun j hj => ?_⟩
    by_cases hji : j = i
    · subst hji
      exact hy.wpOp hi trivial ⟨fun _ _ h => h, H⟩
    · obtain ⟨hun, oj, hoj, hall⟩ := mem_ready.1 hj
      have hno : ∀ e ∈ oj.after, Region.binds .any e = true → e.on ≠ i := by
        intro e he hb heq
        have h1 := hall e he hb
        have h0 := (mem_ready.1 hr).1
        rw [heq] at h1
        simp only [Array.getD_eq_getD_getElem?] at h0 h1
        cases hl : listed[i]? with
        | none => simp [hl] at h1
        | some b => simp [hl] at h0 h1; rw [h0] at h1; cases h1
      have hap := hfree j oj hoj hji hun hno
      have h2 := wpOp_putIf hoj hap (Region.noSelect_spec hsel i oi · · hi) (Region.noSelect_spec hsel j oj · · hoj) hQ hy (H.2 j (ready_mono hj hji))
      refine wpOp_mono (fun a' w' h3 => ?_) h2
      refine ⟨h3.2.1, ih (listed.setIfInBounds j true) a' w' ?_ (ready_mono hr (Ne.symm hji)) h3.1 ?_⟩
      · intro k ok hk hki hkun hkno
        refine hfree k ok hk hki ?_ hkno
        by_cases hjk : j = k
        · subst hjk; exact hun
        · rwa [getD_set_ne true hjk] at hkun
      · rw [Array.setIfInBounds_comm _ _ hji]
        exact h3.2.2

theorem wpG_takeP (i : Nat) {oi : Oper} {v : Value} {n : Nat} {listed : Array Bool} {a : Act} {w : World} (hi : ops[i]? = some oi)
    (hs : Region.noSelect ops = true) (hf : Region.free .any ops listed i = true) (hr : (Region.ready .any ops listed).contains i = true)
    (hQ : ∀ c a w, Q (.panic c) (a.put oi.dst v) w → Q (.panic c) a w) (hy : YieldsIf P ops (fun _ => True) oi v a)
    (h : wpG P ops Q S n (listed.setIfInBounds i true) (a.put oi.dst v) w) : wpG P ops Q S (n + 1) listed a w :=
  wpG_firstP hi hs hQ n listed a w (fun j oj hj hne hun hno => Region.free_spec hi hf j oj hj hne hun hno) (by simpa using hr) hy h

/-- Number i is carried out first: the side conditions are closed facts. -/
theorem wpG_take (i : Nat) {oi : Oper} {v : Value} {n : Nat} {listed : Array Bool} {a : Act} {w : World} (hi : ops[i]? = some oi)
    (hs : Region.noSelect ops = true) (hf : Region.free .any ops listed i = true) (hd : closedB ops listed = true) (hr : (Region.ready .any ops listed).contains i = true)
    (hQ : ∀ c a w, Q (.panic c) (a.put oi.dst v) w → Q (.panic c) a w) (hS : S i w) (hy : YieldsIf P ops (S i) oi v a)
    (h : wpG P ops Q S n (listed.setIfInBounds i true) (a.put oi.dst v) w) : wpG P ops Q S (n + 1) listed a w :=
  wpG_first hi hs hQ n listed a w (closedB_spec hd) (fun j oj hj hne hun hno _ => Region.free_spec hi hf j oj hj hne hun hno) (by simpa using hr) hy hS h

theorem wpG_done {listed : Array Bool} {a : Act} {w : World} (hr : Region.ready .any ops listed = []) (h : Q .normal a w) : ∀ n, wpG P ops Q S n listed a w
  | 0 => ⟨hr, h⟩
  | _ + 1 => ⟨fun _ => h, by simp [hr]⟩

/-- Number i alone can come up. -/
theorem wpG_one (i : Nat) {o : Oper} {n : Nat} {listed : Array Bool} {a : Act} {w : World} (hr : Region.ready .any ops listed = [i]) (ho : ops[i]? = some o)
    (h : ∀ K : Act → World → Prop, (∀ a' w', (∀ k, waits ops ops.size i k = false → S k w → S k w') → wpG P ops Q S n (listed.setIfInBounds i true) a' w' → K a' w') →
      if Region.wanted o (yielded ops a.tmps) = true then Oper.wp P o a w K Q else K (a.put o.dst undef) w) : wpG P ops Q S (n + 1) listed a w :=
  ⟨fun h0 => by simp [h0] at hr, fun j hj => by
    rw [hr, List.mem_singleton] at hj
    subst hj
    exact wpOp_step ho fun K' hK' => h K' fun a' w' h1 h2 => hK' a' w' ⟨h1, h2⟩⟩
/-- One of two. -/
theorem wpG_two (i j : Nat) {o p : Oper} {n : Nat} {listed : Array Bool} {a : Act} {w : World} (hr : Region.ready .any ops listed = [i, j]) (ho : ops[i]? = some o) (hp : ops[j]? = some p)
    (h : ∀ K : Act → World → Prop, (∀ a' w', (∀ k, waits ops ops.size i k = false → S k w → S k w') → wpG P ops Q S n (listed.setIfInBounds i true) a' w' → K a' w') →
      if Region.wanted o (yielded ops a.tmps) = true then Oper.wp P o a w K Q else K (a.put o.dst undef) w)
    (h' : ∀ K : Act → World → Prop, (∀ a' w', (∀ k, waits ops ops.size j k = false → S k w → S k w') → wpG P ops Q S n (listed.setIfInBounds j true) a' w' → K a' w') →
      if Region.wanted p (yielded ops a.tmps) = true then Oper.wp P p a w K Q else K (a.put p.dst undef) w) : wpG P ops Q S (n + 1) listed a w :=
  ⟨fun h0 => by simp [h0] at hr, fun k hk => by
    rw [hr] at hk
    rcases List.mem_cons.1 hk with rfl | hk
    · exact wpOp_step ho fun K' hK' => h K' fun a' w' h1 h2 => hK' a' w' ⟨h1, h2⟩
    · rw [List.mem_singleton] at hk
      subst hk
      exact wpOp_step hp fun K' hK' => h' K' fun a' w' h1 h2 => hK' a' w' ⟨h1, h2⟩⟩

theorem wp_region_G {id : Nat} {a : Act} {w : World} (S : Nat → World → Prop) (hm : P.follows .mixedOrders = true)
    (h : wpG P ops Q S ops.size (Array.replicate ops.size false) a w.drew) : (Code.region id ops true).wp P Q a w :=
  wp_region_any hm (wpAny_of_wpG _ _ _ _ h)
end

end Go.Proofs.Ytlfanphdnjoofaa
