/- Sorting by insertion, in plain words: no program in sight. -/
import Derived.Test.YtlfanphdnjoofaaE
namespace Go.Proofs.Ytlfanphdnjoofaa
set_option linter.unusedVariables false
section
variable {α : Type} (lt : α → α → Bool)

/-- x goes in from the left of a list that stands the other way round. -/
def insR (x : α) : List α → List α
  | [] => [x]
  | y :: r => bif lt x y then y :: insR x r else x :: y :: r
/-- x goes in from behind: past each y with lt x y. -/
def insE (l : List α) (x : α) : List α := (insR lt x l.reverse).reverse
/-- Sorted by insertion, alike ones as they came. -/
def isort (l : List α) : List α := l.foldl (insE lt) []
theorem insR_length (x : α) : ∀ l : List α, (insR lt x l).length = l.length + 1
  | [] => rfl
  | y :: r => by
    unfold insR
    cases lt x y <;> simp [insR_length x r]
theorem insE_length (l : List α) (x : α) : (insE lt l x).length = l.length + 1 := by simp [insE, insR_length]
theorem isort_snoc (l : List α) (x : α) : isort lt (l ++ [x]) = insE lt (isort lt l) x := by simp [isort]
theorem isort_length (l : List α) : (isort lt l).length = l.length := by
  suffices h : ∀ (l acc : List α), (l.foldl (insE lt) acc).length = acc.length + l.length by simpa [isort] using h l []
  intro l
  induction l with
  | nil => simp
  | cons x r ih => intro acc; rw [List.foldl_cons, ih, insE_length, List.length_cons]; omega
theorem insR_mem (x : α) : ∀ (l : List α) (y : α), y ∈ insR lt x l ↔ y = x ∨ y ∈ l
  | [], y => by simp [insR]
  | z :: r, y => by
    unfold insR
    cases lt x z
    · simp
    · simp [insR_mem x r y]
      constructor
      · rintro (h | h | h) <;> simp [h]
      · rintro (h | h | h) <;> simp [h]
theorem insE_mem (l : List α) (x y : α) : y ∈ insE lt l x ↔ y = x ∨ y ∈ l := by simp [insE, insR_mem]
theorem isort_mem (l : List α) (y : α) : y ∈ isort lt l ↔ y ∈ l := by
  suffices h : ∀ (l acc : List α), y ∈ l.foldl (insE lt) acc ↔ y ∈ acc ∨ y ∈ l by simpa [isort] using h l []
  intro l
  induction l with
  | nil => simp
  | cons x r ih =>
    intro acc
    rw [List.foldl_cons, ih, insE_mem]
    simp
    constructor
    · rintro ((h | h) | h) <;> simp [h]
    · rintro (h | h | h) <;> simp [h]
theorem insE_nil (x : α) : insE lt [] x = [x] := rfl
theorem insE_past {L : List α} {x y : α} (h : lt x y = true) : insE lt (L ++ [y]) x = insE lt L x ++ [y] := by
  simp [insE, insR, h]
theorem insE_stop {L : List α} {x y : α} (h : lt x y = false) : insE lt (L ++ [y]) x = L ++ [y, x] := by
  simp [insE, insR, h]
theorem isort_one (l : List α) (h : l.length ≤ 1) : isort lt l = l := by
  match l, h with
  | [], _ => rfl
  | [x], _ => rfl
/-- Where two neighbours lie, and what a swap makes of them. -/
theorem nb_snd (A : List α) (y x : α) (R : List α) : (A ++ y :: x :: R)[A.length + 1]? = some x := by
  rw [List.getElem?_append_right (by omega)]; simp
theorem nb_fst (A : List α) (y x : α) (R : List α) : (A ++ y :: x :: R)[A.length]? = some y := by
  rw [List.getElem?_append_right (by omega)]; simp
theorem nb_swap (A : List α) (y x : α) (R : List α) : ((A ++ y :: x :: R).set (A.length + 1) y).set A.length x = A ++ x :: y :: R := by
  rw [List.set_append_right _ _ (by omega), List.set_append_right _ _ (by omega)]
  simp
theorem exists_snoc {L : List α} (h : 0 < L.length) : ∃ M y, L = M ++ [y] := by
  rcases List.eq_nil_or_concat L with h' | ⟨M, y, h'⟩
  · rw [h'] at h; cases h
  · exact ⟨M, y, by rw [h']; simp⟩
/-- In the midst of an insertion: x lies at j, y ahead of it. -/
theorem at_x {pre L Q : List α} {x : α} {j : Nat} (hj : j = pre.length + L.length) : (pre ++ L ++ x :: Q)[j]? = some x := by
  rw [hj, ← List.length_append, List.getElem?_append_right (by omega)]; simp
theorem at_y {pre L M Q : List α} {x y : α} {j : Nat} (hj : j = pre.length + L.length) (hL : L = M ++ [y]) : (pre ++ L ++ x :: Q)[j - 1]? = some y := by
  have h := nb_fst (pre ++ M) y x Q
  have e : j - 1 = (pre ++ M).length := by rw [hj, hL]; simp
  rw [e, ← h, hL]; simp
theorem at_swap {pre L M Q : List α} {x y : α} {j : Nat} (hj : j = pre.length + L.length) (hL : L = M ++ [y]) : ((pre ++ L ++ x :: Q).set j y).set (j - 1) x = pre ++ M ++ x :: (y :: Q) := by
  have h := nb_swap (pre ++ M) y x Q
  have e : j - 1 = (pre ++ M).length := by rw [hj, hL]; simp
  have e2 : j = (pre ++ M).length + 1 := by rw [hj, hL]; simp; omega
  have e3 : pre ++ L ++ x :: Q = pre ++ M ++ y :: x :: Q := by rw [hL]; simp
  rw [e3, e, e2]
  exact h
theorem drop_cons {xs : List α} {k : Nat} {x : α} (h : xs[k]? = some x) : xs.drop k = x :: xs.drop (k + 1) := by
  obtain ⟨h1, rfl⟩ := List.getElem?_eq_some_iff.1 h
  exact List.drop_eq_getElem_cons h1
/-- Two sorted lists make one; of alike ones those of the first come first. -/
def mrg : List α → List α → List α
  | [], B => B
  | a :: A, [] => a :: A
  | a :: A, b :: B => bif lt b a then b :: mrg (a :: A) B else a :: mrg A (b :: B)
termination_by A B => A.length + B.length
theorem mrg_nil (A : List α) : mrg lt A [] = A := by cases A <;> simp [mrg]
theorem nil_mrg (B : List α) : mrg lt [] B = B := by simp [mrg]
theorem mrg_length (A B : List α) : (mrg lt A B).length = A.length + B.length := by
  fun_induction mrg lt A B <;> simp_all <;> omega
theorem mrg_mem (A B : List α) (y : α) : y ∈ mrg lt A B ↔ y ∈ A ∨ y ∈ B := by
  fun_induction mrg lt A B with
  | case1 => simp
  | case2 => simp
  | case3 a A b B h ih =>
    simp only [List.mem_cons, ih]
    constructor
    · rintro (h | (h | h) | h) <;> simp [h]
    · rintro ((h | h) | h | h) <;> simp [h]
  | case4 a A b B h ih =>
    simp only [List.mem_cons, ih]
    constructor
    · rintro (h | h | h | h) <;> simp [h]
    · rintro ((h | h) | h | h) <;> simp [h]
/-- What stands apart is merged apart. -/
theorem mrg_split (A1 A2 B1 B2 : List α) (h1 : ∀ a ∈ A2, ∀ b ∈ B1, lt b a = true) (h2 : ∀ a ∈ A1, ∀ b ∈ B2, lt b a = false) :
    mrg lt (A1 ++ A2) (B1 ++ B2) = mrg lt A1 B1 ++ mrg lt A2 B2 := by
  match A1, B1 with
  | [], [] => simp [nil_mrg]
  | [], b :: B1 =>
    have ih := mrg_split [] A2 B1 B2 (fun a ha c hc => h1 a ha c (List.mem_cons_of_mem _ hc)) (by simp)
    match A2 with
    | [] => simp [nil_mrg]
    | a :: A2 =>
      have := h1 a (by simp) b (by simp)
      simp only [List.nil_append, nil_mrg] at ih ⊢
      rw [List.cons_append, mrg, this, cond_true, ih, List.cons_append]
  | a :: A1, [] =>
    have ih := mrg_split A1 A2 [] B2 (by simp) (fun c hc b hb => h2 c (List.mem_cons_of_mem _ hc) b hb)
    match B2 with
    | [] => simp [mrg_nil]
    | b :: B2 =>
      have := h2 a (by simp) b (by simp)
      simp only [List.nil_append, mrg_nil] at ih ⊢
      rw [List.cons_append, mrg, this, cond_false, ih, List.cons_append]
  | a :: A1, b :: B1 =>
    have ih1 := mrg_split (a :: A1) A2 B1 B2 (fun a ha c hc => h1 a ha c (List.mem_cons_of_mem _ hc)) h2
    have ih2 := mrg_split A1 A2 (b :: B1) B2 h1 (fun c hc b hb => h2 c (List.mem_cons_of_mem _ hc) b hb)
    rw [List.cons_append, List.cons_append, mrg, mrg]
    rw [List.cons_append] at ih1 ih2
    cases h : lt b a
    · simp only [cond_false, List.cons_append, ih2]
    · simp only [cond_true, List.cons_append, ih1]
termination_by A1.length + B1.length
theorem mrg_one_left (x : α) (B1 B2 : List α) (h1 : ∀ b ∈ B1, lt b x = true) (h2 : ∀ b ∈ B2, lt b x = false) : mrg lt [x] (B1 ++ B2) = B1 ++ x :: B2 := by
  have h := mrg_split lt [] [x] B1 B2 (by simpa using h1) (by simp)
  simp only [List.nil_append, nil_mrg] at h
  rw [h]
  match B2 with
  | [] => simp [mrg_nil]
  | b :: B2 =>
    have := h2 b (by simp)
    rw [mrg, this, cond_false, nil_mrg]
theorem mrg_one_right (y : α) (A1 A2 : List α) (h1 : ∀ a ∈ A1, lt y a = false) (h2 : ∀ a ∈ A2, lt y a = true) : mrg lt (A1 ++ A2) [y] = A1 ++ y :: A2 := by
  have h := mrg_split lt A1 A2 [] [y] (by simp) (by simpa using h1)
  simp only [List.nil_append, mrg_nil] at h
  rw [h]
  match A2 with
  | [] => simp [nil_mrg]
  | a :: A2 =>
    have := h2 a (by simp)
    rw [mrg, this, cond_true, mrg_nil]

/-- An order, as sorting needs it. -/
structure Lin : Prop where
  asym : ∀ x y, lt x y = true → lt y x = false
  le : ∀ x y z, lt y x = false → lt z y = false → lt z x = false
variable {lt}
theorem Lin.lt_le (h : Lin lt) {x y z : α} (h1 : lt x y = true) (h2 : lt z y = false) : lt x z = true := by
  cases hz : lt x z
  · have := h.le y z x h2 hz
    rw [this] at h1; cases h1
  · rfl
theorem Lin.le_lt (h : Lin lt) {x y z : α} (h1 : lt y x = false) (h2 : lt y z = true) : lt x z = true := by
  cases hz : lt x z
  · have := h.le z x y hz h1
    rw [this] at h2; cases h2
  · rfl
/-- Sorted. -/
abbrev Srt (lt : α → α → Bool) (l : List α) : Prop := l.Pairwise fun x y => lt y x = false
theorem insE_cut (hl : Lin lt) {L : List α} (h : Srt lt L) (x : α) : ∃ L1 L2, L = L1 ++ L2 ∧ (∀ y ∈ L1, lt x y = false) ∧ (∀ y ∈ L2, lt x y = true) ∧ insE lt L x = L1 ++ x :: L2 := by
  suffices H : ∀ n (L : List α), L.length = n → Srt lt L → ∃ L1 L2, L = L1 ++ L2 ∧ (∀ y ∈ L1, lt x y = false) ∧ (∀ y ∈ L2, lt x y = true) ∧ insE lt L x = L1 ++ x :: L2 from H _ L rfl h
  intro n
  induction n with
  | zero => intro L hn _; rw [List.length_eq_zero_iff.1 hn]; exact ⟨[], [], rfl, by simp, by simp, rfl⟩
  | succ n ih =>
    intro L hn hs
    rcases List.eq_nil_or_concat L with rfl | ⟨M, y, rfl⟩
    · cases hn
    · rw [List.concat_eq_append] at hs hn ⊢
      have hs' := List.pairwise_append.1 hs
      cases hxy : lt x y
      · refine ⟨M ++ [y], [], by simp, ?_, by simp, ?_⟩
        · intro z hz
          rcases List.mem_append.1 hz with hz | hz
          · exact hl.le z y x (hs'.2.2 z hz y (by simp)) hxy
          · rw [List.mem_singleton] at hz; subst hz; exact hxy
        · rw [insE_stop lt hxy]; simp
      · obtain ⟨L1, L2, e, h1, h2, h3⟩ := ih M (by simp at hn; exact hn) hs'.1
        refine ⟨L1, L2 ++ [y], by rw [e]; simp, h1, ?_, ?_⟩
        · intro z hz
          rcases List.mem_append.1 hz with hz | hz
          · exact h2 z hz
          · rw [List.mem_singleton] at hz; subst hz; exact hxy
        · rw [insE_past lt hxy, h3]; simp
theorem insE_srt (hl : Lin lt) {L : List α} (h : Srt lt L) (x : α) : Srt lt (insE lt L x) := by
  obtain ⟨L1, L2, e, h1, h2, h3⟩ := insE_cut hl h x
  rw [h3]
  rw [e] at h
  have hp := List.pairwise_append.1 h
  refine List.pairwise_append.2 ⟨hp.1, List.pairwise_cons.2 ⟨fun z hz => hl.asym _ _ (h2 z hz), hp.2.1⟩, ?_⟩
  intro a ha b hb
  rcases List.mem_cons.1 hb with rfl | hb
  · exact h1 a ha
  · exact hp.2.2 a ha b hb
theorem isort_srt (hl : Lin lt) (l : List α) : Srt lt (isort lt l) := by
  suffices H : ∀ n (l : List α), l.length = n → Srt lt (isort lt l) from H _ l rfl
  intro n
  induction n with
  | zero => intro l hn; rw [List.length_eq_zero_iff.1 hn]; exact List.Pairwise.nil
  | succ n ih =>
    intro l hn
    rcases List.eq_nil_or_concat l with rfl | ⟨M, y, rfl⟩
    · cases hn
    · rw [List.concat_eq_append, isort_snoc]; exact insE_srt hl (ih M (by simp at hn; exact hn)) y
theorem insE_mrg (hl : Lin lt) {A B : List α} (hA : Srt lt A) (hB : Srt lt B) (hM : Srt lt (mrg lt A B)) (x : α) : insE lt (mrg lt A B) x = mrg lt A (insE lt B x) := by
  obtain ⟨A1, A2, eA, a1, a2, _⟩ := insE_cut hl hA x
  obtain ⟨B1, B2, eB, b1, b2, b3⟩ := insE_cut hl hB x
  obtain ⟨M1, M2, eM, m1, m2, m3⟩ := insE_cut hl hM x
  have s1 : mrg lt A B = mrg lt A1 B1 ++ mrg lt A2 B2 := by
    rw [eA, eB]
    exact mrg_split lt A1 A2 B1 B2 (fun a ha b hb => hl.le_lt (b1 b hb) (a2 a ha)) (fun a ha b hb => hl.asym _ _ (hl.le_lt (a1 a ha) (b2 b hb)))
  have s2 : mrg lt A (insE lt B x) = mrg lt A1 B1 ++ x :: mrg lt A2 B2 := by
    rw [b3, eA]
    have e : B1 ++ x :: B2 = (B1 ++ [x]) ++ B2 := by simp
    rw [e, mrg_split lt A1 A2 (B1 ++ [x]) B2 ?_ (fun a ha b hb => hl.asym _ _ (hl.le_lt (a1 a ha) (b2 b hb)))]
    · have := mrg_split lt A1 [] B1 [x] (by simp) (fun a ha b hb => by rw [List.mem_singleton] at hb; subst hb; exact a1 a ha)
      rw [List.append_nil, nil_mrg] at this
      rw [this]; simp
    · intro a ha b hb
      rcases List.mem_append.1 hb with hb | hb
      · exact hl.le_lt (b1 b hb) (a2 a ha)
      · rw [List.mem_singleton] at hb; subst hb; exact a2 a ha
  rw [s2, m3]
  -- both cut the same list
  have key : ∀ (P1 P2 Q1 Q2 : List α), P1 ++ P2 = Q1 ++ Q2 → (∀ y ∈ P1, lt x y = false) → (∀ y ∈ P2, lt x y = true) → (∀ y ∈ Q1, lt x y = false) → (∀ y ∈ Q2, lt x y = true) → P1 = Q1 ∧ P2 = Q2 := by
    intro P1
    induction P1 with
    | nil =>
      intro P2 Q1 Q2 e _ h2 h3 _
      cases Q1 with
      | nil => exact ⟨rfl, by simpa using e⟩
      | cons q Q1 =>
        have hq := h3 q (by simp)
        rw [h2 q (by rw [List.nil_append] at e; rw [e]; simp)] at hq; cases hq
    | cons p P1 ih =>
      intro P2 Q1 Q2 e h1 h2 h3 h4
      cases Q1 with
      | nil =>
        have hp := h1 p (by simp)
        rw [h4 p (by rw [List.nil_append] at e; rw [← e]; simp)] at hp; cases hp
      | cons q Q1 =>
        simp only [List.cons_append, List.cons.injEq] at e
        obtain ⟨e1, e2⟩ := ih P2 Q1 Q2 e.2 (fun y hy => h1 y (List.mem_cons_of_mem _ hy)) h2 (fun y hy => h3 y (List.mem_cons_of_mem _ hy)) h4
        exact ⟨by rw [e.1, e1], e2⟩
  have m4 : ∀ y ∈ mrg lt A1 B1, lt x y = false := fun y hy => ((mrg_mem lt _ _ y).1 hy).elim (a1 y) (b1 y)
  have m5 : ∀ y ∈ mrg lt A2 B2, lt x y = true := fun y hy => ((mrg_mem lt _ _ y).1 hy).elim (a2 y) (b2 y)
  obtain ⟨e1, e2⟩ := key M1 M2 _ _ (eM.symm.trans s1) m1 m2 m4 m5
  rw [e1, e2]
theorem isort_append (hl : Lin lt) (A B : List α) : isort lt (A ++ B) = mrg lt (isort lt A) (isort lt B) := by
  suffices H : ∀ n (B : List α), B.length = n → isort lt (A ++ B) = mrg lt (isort lt A) (isort lt B) from H _ B rfl
  intro n
  induction n with
  | zero => intro l hn; rw [List.length_eq_zero_iff.1 hn]; simp [isort, mrg_nil]
  | succ n ih =>
    intro l hn
    rcases List.eq_nil_or_concat l with rfl | ⟨M, y, rfl⟩
    · cases hn
    · have e := ih M (by simp at hn; exact hn)
      rw [List.concat_eq_append, isort_snoc, ← List.append_assoc, isort_snoc, e]
      exact insE_mrg hl (isort_srt hl A) (isort_srt hl M) (by rw [← e]; exact isort_srt hl _) y

/-! ### Swaps, and searches by halves -/
variable {lt : α → α → Bool}
theorem swap_at {l A M C : List α} {x y : α} {i j : Nat} (e : l = A ++ x :: (M ++ y :: C)) (hi : i = A.length) (hj : j = A.length + 1 + M.length) :
    (l.set i y).set j x = A ++ y :: (M ++ x :: C) ∧ (l.set j x).set i y = A ++ y :: (M ++ x :: C) ∧ l[i]? = some x ∧ l[j]? = some y ∧ (l.set i y)[j]? = some y ∧ (l.set j x)[i]? = some x := by
  subst hi hj e
  have e1 : (A ++ x :: (M ++ y :: C)).set A.length y = A ++ y :: (M ++ y :: C) := by rw [List.set_append_right _ _ (by omega)]; simp
  have e2 : ∀ z w : α, (A ++ z :: (M ++ y :: C)).set (A.length + 1 + M.length) w = A ++ z :: (M ++ w :: C) := by
    intro z w
    rw [List.set_append_right _ _ (by omega), show A.length + 1 + M.length - A.length = M.length + 1 by omega, List.set_cons_succ, List.set_append_right _ _ (by omega)]; simp
  have e3 : ∀ z : α, (A ++ z :: (M ++ y :: C))[A.length + 1 + M.length]? = some y := by
    intro z
    rw [List.getElem?_append_right (by omega), show A.length + 1 + M.length - A.length = M.length + 1 by omega, List.getElem?_cons_succ, List.getElem?_append_right (by omega)]; simp
  have e4 : ∀ B : List α, (A ++ x :: B)[A.length]? = some x := fun B => by rw [List.getElem?_append_right (by omega)]; simp
  refine ⟨by rw [e1, e2], ?_, e4 _, e3 _, by rw [e1, e3], by rw [e2, e4]⟩
  rw [e2, List.set_append_right _ _ (by omega)]; simp
theorem cons_of {l : List α} (h : 0 < l.length) : ∃ x r, l = x :: r := by
  cases l with
  | nil => simp at h
  | cons x r => exact ⟨x, r, rfl⟩
theorem get_at {l A B : List α} {x : α} {i : Nat} (e : l = A ++ x :: B) (h : i = A.length) : l[i]? = some x := by
  subst e h; rw [List.getElem?_append_right (by omega)]; simp
theorem get_mid {l A B C : List α} {x : α} {i k : Nat} (e : l = A ++ B ++ C) (hx : B[k]? = some x) (h : i = A.length + k) : l[i]? = some x := by
  obtain ⟨hk, rfl⟩ := List.getElem?_eq_some_iff.1 hx
  subst e h
  rw [List.getElem?_append_left (by simp; omega), List.getElem?_append_right (by omega), Nat.add_sub_cancel_left, List.getElem?_eq_getElem hk]
theorem srt_get {l : List α} (h : Srt lt l) {i j : Nat} {x y : α} (hij : i < j) (hx : l[i]? = some x) (hy : l[j]? = some y) : lt y x = false := by
  obtain ⟨h1, rfl⟩ := List.getElem?_eq_some_iff.1 hx
  obtain ⟨h2, rfl⟩ := List.getElem?_eq_some_iff.1 hy
  exact List.pairwise_iff_getElem.1 h i j h1 h2 hij
/-- All ahead of h0 are below x, if number h0 is; none from h0 on, if number h0 is not. -/
theorem srch_up (hl : Lin lt) {B : List α} (h : Srt lt B) {h0 : Nat} {x z : α} (hz : B[h0]? = some z) (hlt : lt z x = true) : ∀ y ∈ B.take (h0 + 1), lt y x = true := by
  intro y hy
  obtain ⟨i, hi⟩ := List.mem_iff_getElem?.1 hy
  rw [List.getElem?_take] at hi
  split at hi
  · rcases Nat.lt_or_ge i h0 with h1 | h1
    · exact hl.le_lt (srt_get h h1 hi hz) hlt
    · have : i = h0 := by omega
      subst this
      rw [hz] at hi; injection hi with hi; subst hi; exact hlt
  · cases hi
theorem srch_dn (hl : Lin lt) {B : List α} (h : Srt lt B) {h0 : Nat} {x z : α} (hz : B[h0]? = some z) (hlt : lt z x = false) : ∀ y ∈ B.drop h0, lt y x = false := by
  intro y hy
  obtain ⟨i, hi⟩ := List.mem_iff_getElem?.1 hy
  rw [List.getElem?_drop] at hi
  rcases Nat.eq_zero_or_pos i with h1 | h1
  · subst h1
    rw [Nat.add_zero, hz] at hi; injection hi with hi; subst hi; exact hlt
  · exact hl.le x z y hlt (srt_get h (by omega) hz hi)
theorem srch_up2 (hl : Lin lt) {A : List α} (h : Srt lt A) {h0 : Nat} {y z : α} (hz : A[h0]? = some z) (hlt : lt y z = false) : ∀ x ∈ A.take (h0 + 1), lt y x = false := by
  intro x hx
  obtain ⟨i, hi⟩ := List.mem_iff_getElem?.1 hx
  rw [List.getElem?_take] at hi
  split at hi
  · rcases Nat.lt_or_ge i h0 with h1 | h1
    · exact hl.le x z y (srt_get h h1 hi hz) hlt
    · have : i = h0 := by omega
      subst this
      rw [hz] at hi; injection hi with hi; subst hi; exact hlt
  · cases hi
theorem srch_dn2 (hl : Lin lt) {A : List α} (h : Srt lt A) {h0 : Nat} {y z : α} (hz : A[h0]? = some z) (hlt : lt y z = true) : ∀ x ∈ A.drop h0, lt y x = true := by
  intro x hx
  obtain ⟨i, hi⟩ := List.mem_iff_getElem?.1 hx
  rw [List.getElem?_drop] at hi
  rcases Nat.eq_zero_or_pos i with h1 | h1
  · subst h1
    rw [Nat.add_zero, hz] at hi; injection hi with hi; subst hi; exact hlt
  · exact hl.lt_le hlt (srt_get h (by omega) hz hi)
/-- Where the search of symMerge ends: what is cut there may be merged apart. -/
theorem sym_cut (hl : Lin lt) {A B : List α} (hA : Srt lt A) (hB : Srt lt B) {q s S R : Nat} (hS : S = 0 ∨ q = B.length + S) (hR : R = A.length ∨ R = q) (hsA : s ≤ A.length) (hsq : s ≤ q) (hq : q ≤ B.length + s)
    (h1 : s = S ∨ ∃ x y, A[s - 1]? = some x ∧ B[q - s]? = some y ∧ lt y x = false) (h2 : s = R ∨ ∃ x y, A[s]? = some x ∧ B[q - 1 - s]? = some y ∧ lt y x = true) (h0 : S ≤ s) :
    mrg lt A B = mrg lt (A.take s) (B.take (q - s)) ++ mrg lt (A.drop s) (B.drop (q - s)) := by
  have key := mrg_split lt (A.take s) (A.drop s) (B.take (q - s)) (B.drop (q - s)) ?_ ?_
  · rw [List.take_append_drop, List.take_append_drop] at key; exact key
  · intro a ha b hb
    obtain ⟨i, hi⟩ := List.mem_iff_getElem?.1 ha
    obtain ⟨j, hj⟩ := List.mem_iff_getElem?.1 hb
    rw [List.getElem?_drop] at hi
    have hil := (List.getElem?_eq_some_iff.1 hi).1
    have hjl := (List.getElem?_eq_some_iff.1 hj).1
    rw [List.length_take] at hjl
    rw [List.getElem?_take, if_pos (by omega)] at hj
    rcases h2 with h2 | ⟨x, y, hx, hy, hlt⟩
    · exfalso; omega
    · have e1 : lt a x = false := by
        rcases Nat.eq_zero_or_pos i with h3 | h3
        · subst h3; rw [Nat.add_zero, hx] at hi; injection hi with hi; subst hi
          cases hxx : lt x x
          · rfl
          · have := hl.asym _ _ hxx; rw [hxx] at this; cases this
        · exact srt_get hA (by omega) hx hi
      have e2 : lt y b = false := by
        rcases Nat.lt_or_ge j (q - 1 - s) with h3 | h3
        · exact srt_get hB h3 hj hy
        · have : j = q - 1 - s := by omega
          subst this; rw [hy] at hj; injection hj with hj; subst hj
          cases hxx : lt y y
          · rfl
          · have := hl.asym _ _ hxx; rw [hxx] at this; cases this
      exact hl.le_lt e2 (hl.lt_le hlt e1)
  · intro a ha b hb
    obtain ⟨i, hi⟩ := List.mem_iff_getElem?.1 ha
    obtain ⟨j, hj⟩ := List.mem_iff_getElem?.1 hb
    have hil := (List.getElem?_eq_some_iff.1 hi).1
    rw [List.length_take] at hil
    rw [List.getElem?_take, if_pos (by omega)] at hi
    rw [List.getElem?_drop] at hj
    have hjl := (List.getElem?_eq_some_iff.1 hj).1
    rcases h1 with h1 | ⟨x, y, hx, hy, hlt⟩
    · exfalso; omega
    · have e1 : lt x a = false := by
        rcases Nat.lt_or_ge i (s - 1) with h3 | h3
        · exact srt_get hA h3 hi hx
        · have : i = s - 1 := by omega
          subst this; rw [hx] at hi; injection hi with hi; subst hi
          cases hxx : lt x x
          · rfl
          · have := hl.asym _ _ hxx; rw [hxx] at this; cases this
      have e2 : lt b y = false := by
        rcases Nat.eq_zero_or_pos j with h3 | h3
        · subst h3; rw [Nat.add_zero, hy] at hj; injection hj with hj; subst hj
          cases hxx : lt y y
          · rfl
          · have := hl.asym _ _ hxx; rw [hxx] at this; cases this
        · exact srt_get hB (by omega) hy hj
      exact hl.le a x b e1 (hl.le x y b hlt e2)
/-- Blocks of m, each sorted. -/
def blks (lt : α → α → Bool) (m : Nat) (l : List α) : List α :=
  if h : l.length ≤ m ∨ m = 0 then isort lt l else isort lt (l.take m) ++ blks lt m (l.drop m)
termination_by l.length
decreasing_by rw [List.length_drop]; omega
theorem blks_le {m : Nat} {l : List α} (h : l.length ≤ m) : blks lt m l = isort lt l := by rw [blks, dif_pos (.inl h)]
theorem blks_gt {m : Nat} {l : List α} (h : m < l.length) (hm : 0 < m) : blks lt m l = isort lt (l.take m) ++ blks lt m (l.drop m) := by rw [blks, dif_neg (by omega)]
theorem blks_length (m : Nat) (l : List α) : (blks lt m l).length = l.length := by
  fun_induction blks lt m l with
  | case1 l h => rw [isort_length]
  | case2 l h ih => rw [List.length_append, isort_length, ih, List.length_take, List.length_drop]; omega
theorem take_take' (l : List α) (a b : Nat) : (l.drop a).take b ++ l.drop (a + b) = l.drop a := by
  rw [← List.drop_drop, List.take_append_drop]
theorem blks_nil (m : Nat) : blks lt m [] = [] := by rw [blks_le (by simp)]; rfl
theorem blks_add {m : Nat} (hm : 0 < m) : ∀ {c : Nat} {A B : List α}, A.length = m * c → B.length ≤ m → blks lt m (A ++ B) = blks lt m A ++ isort lt B
  | 0, A, B, hA, hB => by
    have : A = [] := List.eq_nil_of_length_eq_zero (by simpa using hA)
    subst this
    rw [blks_nil, List.nil_append, List.nil_append, blks_le hB]
  | c + 1, A, B, hA, hB => by
    have hA' : A.length = m * c + m := by rw [hA, Nat.mul_succ]
    have hAm : m ≤ A.length := by omega
    have e1 : (A ++ B).take m = A.take m := by rw [List.take_append_of_le_length hAm]
    have e2 : (A ++ B).drop m = A.drop m ++ B := by rw [List.drop_append_of_le_length hAm]
    have ih := blks_add hm (c := c) (A := A.drop m) (B := B) (by rw [List.length_drop]; omega) hB
    by_cases hB0 : B = []
    · subst hB0
      rw [List.append_nil, show isort lt ([] : List α) = [] from rfl, List.append_nil]
    · have hB1 : 0 < B.length := List.length_pos_iff.2 hB0
      rw [blks_gt (by rw [List.length_append]; omega) hm, e1, e2, ih]
      by_cases hA1 : m < A.length
      · rw [blks_gt hA1 hm, List.append_assoc]
      · have : A.length = m := by omega
        rw [blks_le (l := A) (by omega), List.take_of_length_le (by omega), List.drop_eq_nil_of_le (by omega), blks_nil, List.nil_append]
theorem blks_two {m : Nat} (hm : 0 < m) {l : List α} (h : 2 * m ≤ l.length) : blks lt m l = isort lt (l.take m) ++ isort lt ((l.drop m).take m) ++ blks lt m (l.drop (2 * m)) := by
  rw [blks_gt (by omega) hm, List.append_assoc]
  congr 1
  rw [show 2 * m = m + m by omega, ← List.drop_drop]
  by_cases h2 : m < (l.drop m).length
  · rw [blks_gt h2 hm]
  · have : (l.drop m).length = m := by rw [List.length_drop] at h2 ⊢; omega
    rw [blks_le (l := l.drop m) (by omega), List.take_of_length_le (by omega), List.drop_eq_nil_of_le (as := l.drop m) (by omega), blks_nil, List.append_nil]
theorem blks_rest {m : Nat} (hm : 0 < m) {l : List α} (h : m < l.length) (h2 : l.length ≤ 2 * m) : blks lt m l = isort lt (l.take m) ++ isort lt (l.drop m) := by
  rw [blks_gt h hm, blks_le (l := l.drop m) (by rw [List.length_drop]; omega)]
theorem drop_split (xs : List α) (a m : Nat) : xs.drop a = (xs.drop a).take m ++ xs.drop (a + m) := by rw [← List.drop_drop, List.take_append_drop]
theorem take_more (xs : List α) (a m : Nat) : xs.take (a + m) = xs.take a ++ (xs.drop a).take m := by
  rw [List.take_add]
/-- Sorting keeps the order of what is alike. -/
theorem insE_filter (hl : Lin lt) {L : List α} (h : Srt lt L) (x : α) (p : α → Bool) (hp : ∀ y, p x = true → lt x y = true → p y = false) : (insE lt L x).filter p = L.filter p ++ [x].filter p := by
  obtain ⟨L1, L2, e, h1, h2, h3⟩ := insE_cut hl h x
  rw [h3, e]
  cases hx : p x
  · simp [hx]
  · have : L2.filter p = [] := List.filter_eq_nil_iff.2 fun y hy => by rw [hp y hx (h2 y hy)]; simp
    simp [hx, this]
theorem isort_filter (hl : Lin lt) (p : α → Bool) (hp : ∀ x y, p x = true → lt x y = true → p y = false) (l : List α) : (isort lt l).filter p = l.filter p := by
  suffices H : ∀ n (l : List α), l.length = n → (isort lt l).filter p = l.filter p from H _ l rfl
  intro n
  induction n with
  | zero => intro l hn; rw [List.length_eq_zero_iff.1 hn]; rfl
  | succ n ih =>
    intro l hn
    rcases List.eq_nil_or_concat l with rfl | ⟨M, y, rfl⟩
    · cases hn
    · rw [List.concat_eq_append, isort_snoc, insE_filter hl (isort_srt hl M) y p (hp y), ih M (by simp at hn; exact hn), List.filter_append]
end
end Go.Proofs.Ytlfanphdnjoofaa
