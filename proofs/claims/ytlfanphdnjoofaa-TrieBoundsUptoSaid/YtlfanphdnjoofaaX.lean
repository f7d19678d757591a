/- Items by their keys, and edits of them, in plain words. -/
import Derived.Test.YtlfanphdnjoofaaM4
namespace Go.Proofs.Ytlfanphdnjoofaa
open Go.RowKit
set_option linter.unusedVariables false

theorem ltItem_kb (x y : Item) : ltItem x y = decide (kb x.key < kb y.key) := by
  unfold ltItem
  exact decide_eq_decide.2 (cmp_neg _ _)
theorem klt_irr (a : List UInt8) : ¬ a < a := List.lt_irrefl a
theorem klt_tr {a b c : List UInt8} (h : a < b) (k : b < c) : a < c := List.lt_trans h k
theorem klt_tri (a b : List UInt8) : a < b ∨ a = b ∨ b < a := by
  by_cases h : a < b
  · exact .inl h
  · by_cases k : b < a
    · exact .inr (.inr k)
    · exact .inr (.inl (ltl_anti k h))
/-- Keys that rise. -/
def Can (X : List Item) : Prop := X.Pairwise fun x y => kb x.key < kb y.key
/-- Keys that differ. -/
def Dk (X : List Item) : Prop := X.Pairwise fun x y => x.key ≠ y.key
theorem Can.dk {X : List Item} (h : Can X) : Dk X := List.Pairwise.imp (R := fun x y : Item => kb x.key < kb y.key) (S := fun x y : Item => x.key ≠ y.key) (fun {x y} h e => klt_irr (kb y.key) (by rw [e] at h; exact h)) h
theorem Can.filter {X : List Item} (h : Can X) (p : Item → Bool) : Can (X.filter p) := List.Pairwise.filter p h
theorem Dk.nodup {X : List Item} (h : Dk X) : X.Nodup := List.Pairwise.imp (S := fun x y => x ≠ y) (fun {x y} h e => h (by rw [e])) h
theorem Dk.same {X : List Item} (h : Dk X) {x y : Item} (hx : x ∈ X) (hy : y ∈ X) (e : x.key = y.key) : x = y := by
  induction X with
  | nil => cases hx
  | cons a r ih =>
    have h := List.pairwise_cons.1 h
    rcases List.mem_cons.1 hx with hx | hx <;> rcases List.mem_cons.1 hy with hy | hy
    · rw [hx, hy]
    · rw [hx] at e; exact absurd e (h.1 _ hy)
    · rw [hy] at e; exact absurd e.symm (h.1 _ hx)
    · exact ih h.2 hx hy
theorem Dk.perm {X Y : List Item} (p : X.Perm Y) (h : Dk X) : Dk Y := p.pairwise h fun h e => h e.symm
theorem Can.ext : ∀ {X Y : List Item}, Can X → Can Y → (∀ y, y ∈ X ↔ y ∈ Y) → X = Y
  | [], [], _, _, _ => rfl
  | [], b :: Y, _, _, h => absurd ((h b).2 (by simp)) (by simp)
  | a :: X, [], _, _, h => absurd ((h a).1 (by simp)) (by simp)
  | a :: X, b :: Y, hX, hY, h => by
    have h1 := List.pairwise_cons.1 hX
    have h2 := List.pairwise_cons.1 hY
    have e : a = b := by
      rcases List.mem_cons.1 ((h a).1 (by simp)) with e | ha
      · exact e
      · rcases List.mem_cons.1 ((h b).2 (by simp)) with e | hb
        · exact e.symm
        · exact absurd (klt_tr (h1.1 _ hb) (h2.1 _ ha)) (klt_irr _)
    subst e
    rw [Can.ext h1.2 h2.2 fun y => ?_]
    constructor
    · intro hy
      rcases List.mem_cons.1 ((h y).1 (List.mem_cons_of_mem _ hy)) with e | k
      · subst e; exact absurd (h1.1 _ hy) (klt_irr _)
      · exact k
    · intro hy
      rcases List.mem_cons.1 ((h y).2 (List.mem_cons_of_mem _ hy)) with e | k
      · subst e; exact absurd (h2.1 _ hy) (klt_irr _)
      · exact k
theorem insR_perm (x : Item) : ∀ l : List Item, (insR ltItem x l).Perm (x :: l)
  | [] => List.Perm.refl _
  | y :: r => by
    unfold insR
    cases ltItem x y
    · exact List.Perm.refl _
    · exact ((insR_perm x r).cons y).trans (List.Perm.swap x y r)
theorem isort_perm (l : List Item) : (isort ltItem l).Perm l := by
  suffices h : ∀ (l acc : List Item), (l.foldl (insE ltItem) acc).Perm (l ++ acc) by simpa [isort] using h l []
  intro l
  induction l with
  | nil => intro acc; exact List.Perm.refl _
  | cons x r ih =>
    intro acc
    refine (ih _).trans ?_
    refine (List.Perm.append_left r (?_ : (insE ltItem acc x).Perm (x :: acc))).trans List.perm_middle
    exact (List.reverse_perm _).trans ((insR_perm x _).trans ((List.reverse_perm acc).cons x))
theorem isort_can {l : List Item} (h : Dk l) : Can (isort ltItem l) := by
  have h1 := isort_srt Lin.item l
  have h2 : Dk (isort ltItem l) := Dk.perm (isort_perm l).symm h
  refine (h1.and h2).imp fun {x y} h => ?_
  have h3 : ¬ kb y.key < kb x.key := of_decide_eq_false (by rw [← ltItem_kb]; exact h.1)
  rcases klt_tri (kb x.key) (kb y.key) with k | k | k
  · exact k
  · exact absurd (kb_inj k) h.2
  · exact absurd k h3
theorem isort_eq {l X : List Item} (h : Dk l) (hX : Can X) (hm : ∀ y, y ∈ l ↔ y ∈ X) : isort ltItem l = X :=
  Can.ext (isort_can h) hX fun y => (isort_mem ltItem l y).trans (hm y)
theorem isort_of_perm {l X : List Item} (p : l.Perm X) (hX : Can X) : isort ltItem l = X := isort_eq (Dk.perm p.symm hX.dk) hX fun y => p.mem_iff

/-! ### One edit -/
def apS (X : List Item) (e : Edit) : List Item :=
  X.filter (fun x => decide (kb x.key < kb e.it.key)) ++ (bif e.gone then [] else [e.it]) ++ X.filter (fun x => decide (kb e.it.key < kb x.key))
/-- Items behind edits. -/
def ap (X : List Item) (es : List Edit) : List Item := es.foldl apS X
theorem apS_mem (X : List Item) (e : Edit) (y : Item) : y ∈ apS X e ↔ (y ∈ X ∧ y.key ≠ e.it.key) ∨ (e.gone = false ∧ y = e.it) := by
  have hne : (kb y.key < kb e.it.key ∨ kb e.it.key < kb y.key) ↔ y.key ≠ e.it.key := by
    constructor
    · rintro (h | h) he <;> rw [he] at h <;> exact klt_irr _ h
    · intro h
      rcases klt_tri (kb y.key) (kb e.it.key) with k | k | k
      · exact .inl k
      · exact absurd (kb_inj k) h
      · exact .inr k
  unfold apS
  cases hg : e.gone
  · simp only [cond_false, List.mem_append, List.mem_filter, decide_eq_true_eq, List.mem_singleton, true_and]
    constructor
    · rintro ((⟨h, k⟩ | h) | ⟨h, k⟩)
      · exact .inl ⟨h, hne.1 (.inl k)⟩
      · exact .inr h
      · exact .inl ⟨h, hne.1 (.inr k)⟩
    · rintro (⟨h, k⟩ | h)
      · rcases hne.2 k with k | k
        · exact .inl (.inl ⟨h, k⟩)
        · exact .inr ⟨h, k⟩
      · exact .inl (.inr h)
  · simp only [cond_true, List.mem_append, List.mem_filter, decide_eq_true_eq, List.not_mem_nil, or_false, Bool.true_eq_false, false_and]
    constructor
    · rintro (⟨h, k⟩ | ⟨h, k⟩)
      · exact ⟨h, hne.1 (.inl k)⟩
      · exact ⟨h, hne.1 (.inr k)⟩
    · rintro ⟨h, k⟩
      rcases hne.2 k with k | k
      · exact .inl ⟨h, k⟩
      · exact .inr ⟨h, k⟩
theorem apS_can {X : List Item} (h : Can X) (e : Edit) : Can (apS X e) := by
  unfold apS Can
  rw [List.pairwise_append, List.pairwise_append]
  refine ⟨⟨h.filter _, ?_, ?_⟩, h.filter _, ?_⟩
  · cases e.gone <;> simp
  · intro x hx y hy
    cases hg : e.gone
    · rw [hg] at hy
      simp at hy
      subst hy
      exact of_decide_eq_true (List.mem_filter.1 hx).2
    · rw [hg] at hy
      cases hy
  · intro x hx y hy
    have h2 : kb e.it.key < kb y.key := of_decide_eq_true (List.mem_filter.1 hy).2
    rcases List.mem_append.1 hx with hx | hx
    · exact klt_tr (of_decide_eq_true (List.mem_filter.1 hx).2) h2
    · cases hg : e.gone
      · rw [hg] at hx
        simp at hx
        subst hx
        exact h2
      · rw [hg] at hx
        cases hx
theorem ap_can {es : List Edit} : ∀ {X : List Item}, Can X → Can (ap X es) := by
  induction es with
  | nil => intro X h; exact h
  | cons e r ih => intro X h; exact ih (apS_can h e)
theorem ap_nil (X : List Item) : ap X [] = X := rfl
/-- The items of some keys, edited. -/
theorem apS_filter {X : List Item} (h : Can X) (e : Edit) (q : ByteArray → Bool) : (apS X e).filter (fun x => q x.key) = bif q e.it.key then apS (X.filter fun x => q x.key) e else X.filter fun x => q x.key := by
  refine Can.ext ((apS_can h e).filter _) ?_ fun y => ?_
  · cases q e.it.key
    · exact h.filter _
    · exact apS_can (h.filter _) e
  · cases hq : q e.it.key
    · rw [cond_false, List.mem_filter, List.mem_filter, apS_mem]
      constructor
      · rintro ⟨⟨h1, h2⟩ | ⟨h1, h2⟩, h3⟩
        · exact ⟨h1, h3⟩
        · rw [h2, hq] at h3; cases h3
      · rintro ⟨h1, h2⟩
        exact ⟨.inl ⟨h1, fun k => by rw [k, hq] at h2; cases h2⟩, h2⟩
    · rw [cond_true, List.mem_filter, apS_mem, apS_mem, List.mem_filter]
      constructor
      · rintro ⟨⟨h1, h2⟩ | ⟨h1, h2⟩, h3⟩
        · exact .inl ⟨⟨h1, h3⟩, h2⟩
        · exact .inr ⟨h1, h2⟩
      · rintro (⟨⟨h1, h3⟩, h2⟩ | ⟨h1, h2⟩)
        · exact ⟨.inl ⟨h1, h2⟩, h3⟩
        · exact ⟨.inr ⟨h1, h2⟩, by rw [h2]; exact hq⟩
theorem ap_filter (q : ByteArray → Bool) : ∀ (es : List Edit) {X : List Item}, Can X → (ap X es).filter (fun x => q x.key) = ap (X.filter fun x => q x.key) (es.filter fun e => q e.it.key) := by
  intro es
  induction es with
  | nil => intro X h; rfl
  | cons e r ih =>
    intro X h
    show (ap (apS X e) r).filter _ = _
    rw [ih (apS_can h e), apS_filter h, List.filter_cons]
    cases hq : q e.it.key
    · simp
    · simp [ap]
/-- What the program makes of a leaf's items. -/
theorem findIdx_key {l : List Item} {k : ByteArray} {y : Item} (h : l[l.findIdx fun y => y.key.toList == k.toList]? = some y) : y.key = k := by
  have h1 := (List.getElem?_eq_some_iff.1 h)
  obtain ⟨hi, rfl⟩ := h1
  have := List.findIdx_getElem (w := hi)
  rw [beq_iff_eq] at this
  exact kb_inj (by rw [← toList_kb, ← toList_kb k]; exact this)
theorem findIdx_no {l : List Item} {k : ByteArray} (h : l[l.findIdx fun y => y.key.toList == k.toList]? = none) : ∀ y ∈ l, y.key ≠ k := by
  intro y hy e
  have h1 : l.findIdx (fun y => y.key.toList == k.toList) < l.length := List.findIdx_lt_length_of_exists ⟨y, hy, by rw [e]; exact beq_self_eq_true _⟩
  rw [List.getElem?_eq_getElem h1] at h
  cases h
theorem Dk.erase {l : List Item} (h : Dk l) (i : Nat) : Dk (l.eraseIdx i) := List.Pairwise.sublist (List.eraseIdx_sublist l i) h
theorem Dk.erase_mem {l : List Item} (h : Dk l) {i : Nat} {x : Item} (hi : l[i]? = some x) (y : Item) : y ∈ l.eraseIdx i ↔ y ∈ l ∧ y.key ≠ x.key := by
  induction l generalizing i with
  | nil => cases hi
  | cons a r ih =>
    have h1 := List.pairwise_cons.1 h
    cases i with
    | zero =>
      injection hi with hi
      subst hi
      rw [List.eraseIdx_cons_zero, List.mem_cons]
      constructor
      · intro hy; exact ⟨.inr hy, fun e => h1.1 _ hy e.symm⟩
      · rintro ⟨h2 | h2, h3⟩
        · rw [h2] at h3; exact absurd rfl h3
        · exact h2
    | succ i =>
      rw [List.eraseIdx_cons_succ, List.mem_cons, List.mem_cons, ih h1.2 hi]
      have hx : x ∈ r := List.mem_of_getElem? hi
      constructor
      · rintro (e | ⟨h2, h3⟩)
        · rw [e]; exact ⟨.inl rfl, h1.1 _ hx⟩
        · exact ⟨.inr h2, h3⟩
      · rintro ⟨e | h2, h3⟩
        · exact .inl e
        · exact .inr ⟨h2, h3⟩
theorem edStep_spec {a : List Item × Bool} {X : List Item} (e : Edit) (hd : Dk a.1) (hm : ∀ y, y ∈ a.1 ↔ y ∈ X) : Dk (edStep a e).1 ∧ ∀ y, y ∈ (edStep a e).1 ↔ y ∈ apS X e := by
  have key : ∀ l : List Item, (∀ y, y ∈ l ↔ (y ∈ a.1 ∧ y.key ≠ e.it.key) ∨ (e.gone = false ∧ y = e.it)) → ∀ y, y ∈ l ↔ y ∈ apS X e := fun l h y => by
    rw [h, apS_mem, hm]
  unfold edStep
  cases hg : e.gone
  · rw [cond_false]
    split
    · rename_i x hx
      have hk := findIdx_key hx
      have hi := (List.getElem?_eq_some_iff.1 hx).1
      have hset : ∀ y, y ∈ a.1.set (a.1.findIdx fun y => y.key.toList == e.it.key.toList) e.it ↔ (y ∈ a.1.eraseIdx (a.1.findIdx fun y => y.key.toList == e.it.key.toList)) ∨ y = e.it := by
        intro y
        rw [List.set_eq_take_append_cons_drop, if_pos hi, List.eraseIdx_eq_take_drop_succ, List.mem_append, List.mem_append, List.mem_cons]
        constructor
        · rintro (h | h | h) <;> simp [h]
        · rintro ((h | h) | h) <;> simp [h]
      constructor
      · generalize a.1.findIdx (fun y => y.key.toList == e.it.key.toList) = i at hx hi
        clear hset key hm
        revert hd hx
        generalize a.1 = l at hi
        intro hd hx
        obtain ⟨A, B, hl, hA⟩ : ∃ A B, l = A ++ x :: B ∧ A.length = i := ⟨l.take i, l.drop (i + 1), by
          rw [← drop_cons hx, List.take_append_drop], List.length_take_of_le (Nat.le_of_lt hi)⟩
        subst hl
        rw [List.set_append_right _ _ (by omega), show i - A.length = 0 by omega, List.set_cons_zero]
        unfold Dk at hd ⊢
        rw [List.pairwise_append, List.pairwise_cons] at hd ⊢
        refine ⟨hd.1, ⟨fun y hy => by rw [← hk]; exact hd.2.1.1 y hy, hd.2.1.2⟩, fun y hy z hz => ?_⟩
        rcases List.mem_cons.1 hz with e2 | hz
        · rw [e2, ← hk]; exact hd.2.2 y hy x (by simp)
        · exact hd.2.2 y hy z (List.mem_cons_of_mem _ hz)
      · refine key _ fun y => ?_
        rw [hset, Dk.erase_mem hd hx, hk]
        simp [hg]
    · rename_i hx
      have hno := findIdx_no hx
      constructor
      · unfold Dk
        rw [List.pairwise_append]
        exact ⟨hd, by simp, fun y hy z hz => by rw [List.mem_singleton.1 hz]; exact hno y hy⟩
      · refine key _ fun y => ?_
        rw [List.mem_append, List.mem_singleton]
        constructor
        · rintro (h | h)
          · exact .inl ⟨h, hno y h⟩
          · exact .inr ⟨hg, h⟩
        · rintro (h | h)
          · exact .inl h.1
          · exact .inr h.2
  · rw [cond_true]
    split
    · rename_i x hx
      have hk := findIdx_key hx
      refine ⟨hd.erase _, key _ fun y => ?_⟩
      rw [Dk.erase_mem hd hx, hk]
      simp [hg]
    · rename_i hx
      have hno := findIdx_no hx
      refine ⟨hd, key _ fun y => ?_⟩
      constructor
      · intro h; exact .inl ⟨h, hno y h⟩
      · rintro (h | h)
        · exact h.1
        · rw [hg] at h; cases h.1
theorem edAll_spec {its : List Item} (h : Can its) (es : List Edit) : Dk (edAll its es).1 ∧ ∀ y, y ∈ (edAll its es).1 ↔ y ∈ ap its es := by
  have H : ∀ (es : List Edit) (a : List Item × Bool) (X : List Item), Dk a.1 → (∀ y, y ∈ a.1 ↔ y ∈ X) → Dk (es.foldl edStep a).1 ∧ ∀ y, y ∈ (es.foldl edStep a).1 ↔ y ∈ ap X es := by
    intro es
    induction es with
    | nil => intro a X h1 h2; exact ⟨h1, h2⟩
    | cons e r ih => intro a X h1 h2; exact ih _ _ (edStep_spec e h1 h2).1 (edStep_spec e h1 h2).2
  exact H es _ _ h.dk fun y => Iff.rfl
theorem isort_ed {its : List Item} (h : Can its) (es : List Edit) : isort ltItem (edAll its es).1 = ap its es :=
  isort_eq (edAll_spec h es).1 (ap_can h) (edAll_spec h es).2
theorem edAll_true : ∀ (es : List Edit) (a : List Item × Bool), a.2 = true → (es.foldl edStep a).2 = true := by
  intro es
  induction es with
  | nil => intro a h; exact h
  | cons e r ih =>
    intro a h
    refine ih _ ?_
    unfold edStep
    cases e.gone
    · rw [cond_false]; split <;> rfl
    · rw [cond_true]; split
      · rfl
      · exact h
theorem edAll_false {its : List Item} (h : Can its) {es : List Edit} (hf : (edAll its es).2 = false) : ap its es = its := by
  have H : ∀ (es : List Edit) (a : List Item × Bool), (es.foldl edStep a).2 = false → es.foldl edStep a = a := by
    intro es
    induction es with
    | nil => intro a h; rfl
    | cons e r ih =>
      intro a h
      have h2 := ih _ h
      rw [List.foldl_cons, h2]
      have h3 : (edStep a e).2 = false := by
        cases h4 : (edStep a e).2
        · rfl
        · have := edAll_true r _ h4
          rw [List.foldl_cons] at h
          rw [h] at this; cases this
      unfold edStep at h3 ⊢
      cases hg : e.gone
      · rw [hg, cond_false] at h3
        split at h3 <;> cases h3
      · rw [hg, cond_true] at h3
        rw [cond_true]
        split
        · rename_i x hx; rw [hx] at h3; cases h3
        · rfl
  have h2 := H es (its, false) hf
  have h3 := isort_ed h es
  rw [show (edAll its es).1 = its from by unfold edAll; rw [h2]] at h3
  rw [← h3]
  exact isort_eq h.dk h fun y => Iff.rfl

/-! ### Parts of a list -/
theorem part_perm {α : Type} (f : α → Nat) (l : List α) : ∀ k, ((List.range k).flatMap fun i => l.filter fun x => f x == i).Perm (l.filter fun x => decide (f x < k))
  | 0 => by
    have : (l.filter fun x => decide (f x < 0)) = [] := List.filter_eq_nil_iff.2 fun x _ => by simp
    rw [this]; exact List.Perm.refl _
  | k + 1 => by
    rw [List.range_succ, List.flatMap_append]
    refine ((part_perm f l k).append_right _).trans ?_
    rw [List.flatMap_cons, List.flatMap_nil, List.append_nil]
    have h := List.filter_append_perm (fun x => decide (f x < k)) (l.filter fun x => decide (f x < k + 1))
    rw [List.filter_filter, List.filter_filter] at h
    have e1 : (l.filter fun x => decide (f x < k) && decide (f x < k + 1)) = l.filter fun x => decide (f x < k) := List.filter_congr fun x _ => by
      by_cases hx : f x < k
      · simp [hx]; omega
      · simp [hx]
    have e2 : (l.filter fun x => !decide (f x < k) && decide (f x < k + 1)) = l.filter fun x => f x == k := List.filter_congr fun x _ => by
      by_cases hx : f x = k
      · simp [hx]
      · have : (f x == k) = false := by simp [hx]
        rw [this]
        by_cases h1 : f x < k
        · simp [h1]
        · have : ¬ f x < k + 1 := by omega
          simp [this]
    rw [e1, e2] at h
    exact h
/-- The part of a list with the digit d. -/
abbrev cut (l : Nat) (X : List Item) (d : Nat) : List Item := X.filter fun x => digitOf x.key l == d
theorem cut_all (l : Nat) (X : List Item) : (X.filter fun x => decide (digitOf x.key l < 16)) = X := List.filter_eq_self.2 fun x _ => decide_eq_true (digitOf_lt _ _)
theorem cut_perm (l : Nat) (X : List Item) : ((List.range 16).flatMap (cut l X)).Perm X := by
  have h := part_perm (fun x : Item => digitOf x.key l) X 16
  rw [cut_all] at h
  exact h
theorem part_sum {α : Type} (f : α → Nat) (l : List α) : ∀ n k, sumF (fun d => (l.filter fun x => f x == d).length) n k = (l.filter fun x => decide (k ≤ f x) && decide (f x < k + n)).length
  | 0, k => by
    have : (l.filter fun x => decide (k ≤ f x) && decide (f x < k + 0)) = [] := List.filter_eq_nil_iff.2 fun x _ => by simp
    rw [this]; rfl
  | n + 1, k => by
    rw [sumF, part_sum f l n (k + 1)]
    have h := (List.filter_append_perm (fun x => f x == k) (l.filter fun x => decide (k ≤ f x) && decide (f x < k + (n + 1)))).length_eq
    rw [List.filter_filter, List.filter_filter, List.length_append] at h
    rw [← h]
    congr 2
    · exact List.filter_congr fun x _ => by
        by_cases hx : f x = k
        · simp [hx]
        · simp [hx]
    · exact List.filter_congr fun x _ => by
        by_cases hx : f x = k
        · have : ¬ k + 1 ≤ f x := by omega
          simp [hx]; omega
        · have : (f x == k) = false := by simp [hx]
          rw [this, Bool.not_false, Bool.true_and, Bool.eq_iff_iff]
          simp only [Bool.and_eq_true, decide_eq_true_eq]
          omega
theorem cut_sum (l : Nat) (X : List Item) : sumF (fun d => (cut l X d).length) 16 0 = X.length := by
  have h := part_sum (fun x : Item => digitOf x.key l) X 16 0
  rw [show sumF (fun d => (cut l X d).length) 16 0 = _ from h]
  congr 1
  exact List.filter_eq_self.2 fun x _ => by simp [digitOf_lt]
theorem sumF_le {f g : Nat → Nat} : ∀ (n k : Nat), (∀ d, k ≤ d → d < k + n → f d ≤ g d) → sumF f n k ≤ sumF g n k
  | 0, _, _ => Nat.le_refl _
  | n + 1, k, h => Nat.add_le_add (h k (Nat.le_refl _) (by omega)) (sumF_le n (k + 1) fun d h1 h2 => h d (by omega) (by omega))
theorem sumF_one {f g : Nat → Nat} {d0 c : Nat} : ∀ (n k : Nat), (∀ d, k ≤ d → d < k + n → f d ≤ g d + (if d = d0 then c else 0)) → sumF f n k ≤ sumF g n k + (if k ≤ d0 then c else 0)
  | 0, _, _ => Nat.zero_le _
  | n + 1, k, h => by
    have h1 := h k (Nat.le_refl _) (by omega)
    have h2 := sumF_one n (k + 1) fun d h1 h2 => h d (by omega) (by omega)
    unfold sumF
    by_cases hk : k = d0
    · rw [if_pos hk] at h1
      rw [if_neg (by omega)] at h2
      rw [if_pos (by omega)]; omega
    · rw [if_neg hk] at h1
      by_cases hk2 : k ≤ d0
      · rw [if_pos (by omega)] at h2
        rw [if_pos hk2]; omega
      · rw [if_neg (by omega)] at h2
        rw [if_neg hk2]; omega
theorem sumF_mul (c : Nat) (f : Nat → Nat) : ∀ n k, sumF (fun d => c * f d) n k = c * sumF f n k
  | 0, _ => rfl
  | n + 1, k => by rw [sumF, sumF, sumF_mul, Nat.mul_add]
theorem sumF_add (f g : Nat → Nat) : ∀ n k, sumF (fun d => f d + g d) n k = sumF f n k + sumF g n k
  | 0, _ => rfl
  | n + 1, k => by rw [sumF, sumF, sumF, sumF_add]; omega
theorem sumF_const (c : Nat) : ∀ n k, sumF (fun _ => c) n k = n * c
  | 0, _ => (Nat.zero_mul c).symm
  | n + 1, k => by rw [sumF, sumF_const, Nat.succ_mul]; omega
theorem sumF_snoc (f : Nat → Nat) : ∀ n k, sumF f (n + 1) k = sumF f n k + f (k + n)
  | 0, k => by simp [sumF]
  | n + 1, k => by
    rw [sumF, sumF_snoc f n (k + 1), sumF, show k + 1 + n = k + (n + 1) by omega, Nat.add_assoc]
theorem cut_le (l : Nat) (X : List Item) (d : Nat) : (cut l X d).length ≤ X.length := List.length_filter_le _ _
theorem apS_len (X : List Item) (e : Edit) (h : Can X) : (apS X e).length ≤ X.length + 1 := by
  have h1 : ((X.filter fun x => decide (kb x.key < kb e.it.key)) ++ X.filter fun x => decide (kb e.it.key < kb x.key)).length ≤ X.length := by
    have h2 := (List.filter_append_perm (fun x => decide (kb x.key < kb e.it.key)) X).length_eq
    have h3 : (X.filter fun x => decide (kb e.it.key < kb x.key)).length ≤ (X.filter fun x => !decide (kb x.key < kb e.it.key)).length := by
      have : (X.filter fun x => decide (kb e.it.key < kb x.key)) = (X.filter fun x => !decide (kb x.key < kb e.it.key)).filter fun x => decide (kb e.it.key < kb x.key) := by
        rw [List.filter_filter]
        exact List.filter_congr fun x _ => by
          by_cases h : kb e.it.key < kb x.key
          · have : ¬ kb x.key < kb e.it.key := fun h2 => klt_irr _ (klt_tr h h2)
            simp [h, this]
          · simp [h]
      rw [this]; exact List.length_filter_le _ _
    rw [List.length_append] at h2 ⊢; omega
  unfold apS
  rw [List.length_append] at h1
  rw [List.length_append, List.length_append]
  cases e.gone
  · rw [cond_false, List.length_singleton]; omega
  · rw [cond_true, List.length_nil]; omega
theorem ap_len : ∀ (es : List Edit) {X : List Item}, Can X → (ap X es).length ≤ X.length + es.length := by
  intro es
  induction es with
  | nil => intro X h; exact Nat.le_refl _
  | cons e r ih =>
    intro X h
    have h1 := ih (apS_can h e)
    have h2 := apS_len X e h
    rw [List.length_cons]
    show (ap (apS X e) r).length ≤ _
    omega
theorem ap_mem {X : List Item} {es : List Edit} {y : Item} (h : y ∈ ap X es) : y ∈ X ∨ ∃ e ∈ es, y = e.it := by
  induction es generalizing X with
  | nil => exact .inl h
  | cons e r ih =>
    rcases ih (X := apS X e) h with h | ⟨e2, he, rfl⟩
    · rcases (apS_mem _ _ _).1 h with h | h
      · exact .inl h.1
      · exact .inr ⟨e, by simp, h.2⟩
    · exact .inr ⟨e2, List.mem_cons_of_mem _ he, rfl⟩
theorem ap_kOk {X : List Item} {es : List Edit} (h : kOk X) (h2 : eOk es) : kOk (ap X es) := fun y hy => by
  rcases ap_mem hy with h3 | ⟨e, he, rfl⟩
  · exact h y h3
  · exact h2 e he
end Go.Proofs.Ytlfanphdnjoofaa
