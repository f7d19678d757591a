/- What becomes of a tree by edits, in plain words. -/
import Derived.Test.YtlfanphdnjoofaaT16
namespace Go.Proofs.Ytlfanphdnjoofaa
open Go.RowKit
set_option linter.unusedVariables false

abbrev Ref.none (r : Ref) : Bool := r.num == 0 && r.gen == 0
def Pl.stays : Pl → Bool
  | .stay _ => true
  | _ => false
def Pl.had : Pl → Int
  | .stay _ => 0
  | .leaf had _ => had
  | .branch had _ _ => had
def Pl.cnt : Pl → Int
  | .stay _ => 0
  | .leaf _ its => its.length
  | .branch _ cnt _ => cnt
abbrev St.ret (S : St) (r : Ref) (g : Int) : St := { S with rs := S.rs ++ [⟨r.num, r.gen, g⟩] }
/-- Keys that are no longer than any. -/
def kOk (its : List Item) : Prop := ∀ x ∈ its, x.key.size < 9223372036854775807
def eOk (es : List Edit) : Prop := ∀ e ∈ es, e.it.key.size < 9223372036854775807
theorem eOk.filter {es : List Edit} (h : eOk es) (p : Edit → Bool) : eOk (es.filter p) := fun e he => h e (List.mem_filter.1 he).1
theorem edStep_mem {a : List Item × Bool} {x : Edit} {y : Item} (h : y ∈ (edStep a x).1) : y ∈ a.1 ∨ y = x.it := by
  unfold edStep at h
  cases hg : x.gone <;> rw [hg] at h
  · simp only [cond_false] at h
    split at h
    · rcases List.mem_or_eq_of_mem_set h with h | h
      · exact .inl h
      · exact .inr h
    · rcases List.mem_append.1 h with h | h
      · exact .inl h
      · exact .inr (by simpa using h)
  · simp only [cond_true] at h
    split at h
    · exact .inl (List.mem_of_mem_eraseIdx h)
    · exact .inl h
theorem edAll_mem {its : List Item} {es : List Edit} {y : Item} (h : y ∈ (edAll its es).1) : y ∈ its ∨ ∃ e ∈ es, y = e.it := by
  have H : ∀ (es : List Edit) (a : List Item × Bool), y ∈ (es.foldl edStep a).1 → y ∈ a.1 ∨ ∃ e ∈ es, y = e.it := by
    intro es
    induction es with
    | nil => intro a h; exact .inl h
    | cons x r ih =>
      intro a h
      rcases ih _ h with h | ⟨e, he, h⟩
      · rcases edStep_mem h with h | h
        · exact .inl h
        · exact .inr ⟨x, by simp, h⟩
      · exact .inr ⟨e, List.mem_cons_of_mem _ he, h⟩
  exact H es _ h
theorem kOk.ed {its : List Item} {es : List Edit} (h : kOk its) (h2 : eOk es) : kOk (isort ltItem (edAll its es).1) := fun x hx => by
  rcases edAll_mem ((isort_mem _ _ _).1 hx) with h3 | ⟨e, he, rfl⟩
  · exact h x h3
  · exact h2 e he
structure KA where
  kid : Nat → Pl
  cnt : Int
  ch : Bool
def KA.add (a : KA) (d : Nat) (p : Pl) : KA := bif p.stays then { a with kid := upd a.kid d p } else ⟨upd a.kid d p, IntKind.i64.wrap (a.cnt + IntKind.i64.wrap (p.cnt - p.had)), true⟩
def becKids (f : Nat → St → Option Pl × St) : Nat → Nat → KA → St → Option KA × St
  | 0, _, a, S => (some a, S)
  | n + 1, d, a, S => match f d S with
    | (none, S') => (none, S')
    | (some p, S') => becKids f n (d + 1) (a.add d p) S'
def fallKids (kid : Nat → Pl) (l : Nat) : Nat → Nat → List Item → St → Option (List Item) × St
  | 0, _, acc, S => (some acc, S)
  | k + 1, d, acc, S => match kid d with
    | .stay r => bif r.none then fallKids kid l k (d + 1) acc S else match S.node r l with
      | none => (none, S.seen r)
      | some nd => fallKids kid l k (d + 1) (acc ++ nd.its) ((S.seen r).ret r (S.seen r).got)
    | p => fallKids kid l k (d + 1) (acc ++ p.all) S
def fallEnd (had : Int) (F : Option (List Item) × St) : Option Pl × St := (F.1.map fun its => .leaf had (isort ltItem its), F.2)
/-- A branch whose kids are done; l: the kids' level. -/
def doneA (l : Nat) (r : Ref) (got had : Int) (a : KA) (S : St) : Option Pl × St :=
  bif a.ch then (bif decide (a.cnt > 4) then (some (.branch had a.cnt a.kid), S.ret r got) else fallEnd had (fallKids a.kid l 16 0 [] (S.ret r got))) else (some (.stay r), S)
def doneM (l : Nat) (r : Ref) (got had : Int) (F : Option KA × St) : Option Pl × St :=
  match F.1 with
  | none => (none, F.2)
  | some a => doneA l r got had a F.2
/-- What becomes of the tree r at the level 16 - n by edits. -/
def becM : Nat → St → Ref → List Edit → Option Pl × St
  | 0, S, _, _ => (none, S)
  | n + 1, S, r, es =>
    bif es.length == 0 then (some (.stay r), S)
    else bif r.none then (bif (isort ltItem (edAll [] es).1).length == 0 then (some (.stay r), S) else (some (bld n (isort ltItem (edAll [] es).1) 0), S))
    else match S.node r (16 - n) with
      | none => (none, S.seen r)
      | some nd => bif nd.leaf then
          (bif (edAll nd.its es).2 then (some (bld n (isort ltItem (edAll nd.its es).1) nd.cnt), (S.seen r).ret r (S.seen r).got) else (some (.stay r), S.seen r))
        else doneM (17 - n) r (S.seen r).got nd.cnt (becKids (fun d S => becM n S (nd.kid d) (es.filter fun e => digitOf e.it.key (16 - n) == d)) 16 0 ⟨fun _ => .stay ⟨0, 0⟩, nd.cnt, false⟩ (S.seen r))

/-- How a walk goes on. -/
structure Gr (S S2 : St) : Prop where
  nodes : S2.σ.nodes = S.σ.nodes
  got : S.got ≤ S2.got
  cap : S.got ≤ 1048576 → S2.got ≤ 1048576
  log : (S2.σ.log.length : Int) + S.got ≤ S.σ.log.length + S2.got
  rs : (S2.rs.length : Int) + S.got ≤ S.rs.length + S2.got
theorem Gr.refl (S : St) : Gr S S := ⟨rfl, Int.le_refl _, fun h => h, Int.le_refl _, Int.le_refl _⟩
theorem Gr.trans {A B C : St} (h : Gr A B) (k : Gr B C) : Gr A C :=
  ⟨k.nodes.trans h.nodes, Int.le_trans h.got k.got, fun x => k.cap (h.cap x), by have := h.log; have := k.log; omega, by have := h.rs; have := k.rs; omega⟩
theorem Gr.seen (S : St) (r : Ref) : Gr S (S.seen r) := by
  unfold St.seen
  split
  · exact Gr.refl S
  · exact ⟨rfl, by show S.got ≤ S.got + 1; omega, fun _ => by show S.got + 1 ≤ 1048576; omega, by show ((S.σ.log ++ _).length : Int) + S.got ≤ S.σ.log.length + (S.got + 1); simp; omega, by show (S.rs.length : Int) + S.got ≤ S.rs.length + (S.got + 1); omega⟩
/-- A node that was got may be retired. -/
theorem Gr.ret {S : St} {r : Ref} {l : Nat} {nd : Nd} (h : S.node r l = some nd) {S2 : St} (k : Gr (S.seen r) S2) (r2 : Ref) (g : Int) : Gr S (S2.ret r2 g) := by
  have hg : (S.seen r).got = S.got + 1 ∧ ((S.seen r).σ.log.length : Int) = S.σ.log.length + 1 ∧ (S.seen r).rs = S.rs := by
    unfold St.node at h
    unfold St.seen
    split at h
    · cases h
    · rename_i h1
      rw [if_neg h1]
      exact ⟨rfl, by show ((S.σ.log ++ _).length : Int) = _; simp, rfl⟩
  have k0 := Gr.seen S r
  refine ⟨k.nodes.trans k0.nodes, Int.le_trans k0.got k.got, fun x => k.cap (k0.cap x), ?_, ?_⟩
  · show (S2.σ.log.length : Int) + S.got ≤ _ + S2.got
    have := k.log; omega
  · show ((S2.rs ++ _).length : Int) + S.got ≤ _ + S2.got
    have := k.rs
    rw [hg.2.2] at this
    simp; omega
theorem fallKids_gr (kid : Nat → Pl) (l : Nat) : ∀ (k d : Nat) (acc : List Item) (S : St), Gr S (fallKids kid l k d acc S).2
  | 0, _, _, S => Gr.refl S
  | k + 1, d, acc, S => by
    unfold fallKids
    split
    · rename_i r _
      cases hr : r.none
      · simp only [cond_false]
        split
        · exact Gr.seen S r
        · rename_i nd hn
          exact (Gr.ret hn (Gr.refl _) _ _).trans (fallKids_gr kid l k _ _ _)
      · simp only [cond_true]; exact fallKids_gr kid l k _ _ _
    · exact fallKids_gr kid l k _ _ _
theorem becKids_gr {f : Nat → St → Option Pl × St} (hf : ∀ d S, Gr S (f d S).2) : ∀ (n d : Nat) (a : KA) (S : St), Gr S (becKids f n d a S).2
  | 0, _, _, S => Gr.refl S
  | n + 1, d, a, S => by
    have h := hf d S
    unfold becKids
    rcases hfd : f d S with ⟨_ | p, S'⟩
    · rw [hfd] at h; exact h
    · rw [hfd] at h; exact h.trans (becKids_gr hf n _ _ _)
theorem doneA_gr {S : St} {r : Ref} {l : Nat} {nd : Nd} (hn : S.node r l = some nd) (l2 : Nat) (g had : Int) (a : KA) {S2 : St} (hk : Gr (S.seen r) S2) : Gr S (doneA l2 r g had a S2).2 := by
  have h1 := (Gr.seen S r).trans hk
  have h2 := Gr.ret hn hk r g
  have h3 := h2.trans (fallKids_gr a.kid l2 16 0 [] (S2.ret r g))
  unfold doneA
  generalize fallKids a.kid l2 16 0 [] (S2.ret r g) = G at h3 ⊢
  generalize S2.ret r g = S3 at h2 ⊢
  cases a.ch
  · exact h1
  · cases decide (a.cnt > 4)
    · exact h3
    · exact h2
theorem doneM_gr {S : St} {r : Ref} {l : Nat} {nd : Nd} (hn : S.node r l = some nd) (l2 : Nat) (g had : Int) {F : Option KA × St} (hk : Gr (S.seen r) F.2) : Gr S (doneM l2 r g had F).2 := by
  rcases F with ⟨_ | a, S2⟩
  · exact (Gr.seen S r).trans hk
  · exact doneA_gr hn l2 g had a hk
theorem becM_succ (n : Nat) (S : St) (r : Ref) (es : List Edit) : becM (n + 1) S r es =
    bif es.length == 0 then (some (.stay r), S)
    else bif r.none then (bif (isort ltItem (edAll [] es).1).length == 0 then (some (.stay r), S) else (some (bld n (isort ltItem (edAll [] es).1) 0), S))
    else match S.node r (16 - n) with
      | none => (none, S.seen r)
      | some nd => bif nd.leaf then
          (bif (edAll nd.its es).2 then (some (bld n (isort ltItem (edAll nd.its es).1) nd.cnt), (S.seen r).ret r (S.seen r).got) else (some (.stay r), S.seen r))
        else doneM (17 - n) r (S.seen r).got nd.cnt (becKids (fun d S => becM n S (nd.kid d) (es.filter fun e => digitOf e.it.key (16 - n) == d)) 16 0 ⟨fun _ => .stay ⟨0, 0⟩, nd.cnt, false⟩ (S.seen r)) := by
  rw [becM]
theorem becM_gr (n : Nat) : ∀ (S : St) (r : Ref) (es : List Edit), Gr S (becM n S r es).2 := by
  induction n with
  | zero => intro S r es; exact Gr.refl S
  | succ n ih =>
    intro S r es
    rw [becM_succ]
    cases h1 : es.length == 0
    · rw [cond_false]
      cases hr : r.none
      · rw [cond_false]
        rcases hn : S.node r (16 - n) with _ | nd
        · exact Gr.seen S r
        · simp only
          cases hl : nd.leaf
          · rw [cond_false]
            exact doneM_gr hn _ _ _ (becKids_gr (fun d S => ih S _ _) 16 0 _ _)
          · rw [cond_true]
            cases (edAll nd.its es).2
            · exact Gr.seen S r
            · exact Gr.ret hn (Gr.refl _) _ _
      · rw [cond_true]
        cases (isort ltItem (edAll [] es).1).length == 0 <;> exact Gr.refl S
    · exact Gr.refl S

/-! ### That it all fits -/
def fitFall (kid : Nat → Pl) (l : Nat) : Nat → Nat → List Item → St → Prop
  | 0, _, acc, _ => acc.length ≤ 100000
  | k + 1, d, acc, S => acc.length ≤ 100000 ∧ match kid d with
    | .stay r => (r.none = true → fitFall kid l k (d + 1) acc S) ∧ (r.none = false → match S.node r l with
      | none => True
      | some nd => (acc ++ nd.its).length ≤ 100000 ∧ fitFall kid l k (d + 1) (acc ++ nd.its) ((S.seen r).ret r (S.seen r).got))
    | p => (acc ++ p.all).length ≤ 100000 ∧ fitFall kid l k (d + 1) (acc ++ p.all) S
def fitKids (f : Nat → St → Option Pl × St) (fit : Nat → St → Prop) (fin : KA → St → Prop) : Nat → Nat → KA → St → Prop
  | 0, _, a, S => fin a S
  | n + 1, d, a, S => fit d S ∧ ∀ p S', f d S = (some p, S') → fitKids f fit fin n (d + 1) (a.add d p) S'
def fitDone (l : Nat) (r : Ref) (got : Int) (a : KA) (S : St) : Prop := a.ch = true → decide (a.cnt > 4) = false → fitFall a.kid l 16 0 [] (S.ret r got)
def fitM : Nat → St → Ref → List Edit → Prop
  | 0, _, _, _ => True
  | n + 1, S, r, es => es.length ≤ 50000 ∧ eOk es ∧ (es.length ≠ 0 → r.none = false → ∀ nd, S.node r (16 - n) = some nd →
      (nd.leaf = true → nd.its.length ≤ 50000 ∧ kOk nd.its) ∧
      (nd.leaf = false → fitKids (fun d S => becM n S (nd.kid d) (es.filter fun e => digitOf e.it.key (16 - n) == d)) (fun d S => fitM n S (nd.kid d) (es.filter fun e => digitOf e.it.key (16 - n) == d))
        (fitDone (17 - n) r (S.seen r).got) 16 0 ⟨fun _ => .stay ⟨0, 0⟩, nd.cnt, false⟩ (S.seen r)))
end Go.Proofs.Ytlfanphdnjoofaa
