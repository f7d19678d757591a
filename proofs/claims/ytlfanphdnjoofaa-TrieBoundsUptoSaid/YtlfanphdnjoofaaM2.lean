/- A change as a whole, in plain words. -/
import Derived.Test.YtlfanphdnjoofaaT17
namespace Go.Proofs.Ytlfanphdnjoofaa
open Go.RowKit
set_option linter.unusedVariables false

/-- Each key is behind the one before it. -/
def riseB : List Edit → Bool
  | x :: y :: r => Op.bytesLess x.it.key.toList y.it.key.toList && riseB (y :: r)
  | _ => true
theorem riseB_of : ∀ (es : List Edit), (∀ i x y, es[i]? = some x → es[i + 1]? = some y → Op.bytesLess x.it.key.toList y.it.key.toList = true) → riseB es = true
  | [], _ => rfl
  | [_], _ => rfl
  | x :: y :: r, h => by
    rw [riseB, h 0 x y rfl rfl, riseB_of (y :: r) fun i a b ha hb => h (i + 1) a b ha hb]; rfl
theorem riseB_at : ∀ (es : List Edit) (i : Nat) (x y : Edit), riseB es = true → es[i]? = some x → es[i + 1]? = some y → Op.bytesLess x.it.key.toList y.it.key.toList = true
  | [], i, x, y, _, h1, _ => by simp at h1
  | [_], i, x, y, _, _, h2 => by simp at h2
  | a :: b :: r, 0, x, y, h, h1, h2 => by
    rw [riseB, Bool.and_eq_true] at h
    simp at h1 h2
    rw [← h1, ← h2]; exact h.1
  | a :: b :: r, i + 1, x, y, h, h1, h2 => by
    rw [riseB, Bool.and_eq_true] at h
    exact riseB_at (b :: r) i x y h.2 h1 h2
theorem riseB_not {es : List Edit} {i : Nat} {x y : Edit} (h1 : es[i]? = some x) (h2 : es[i + 1]? = some y) (h : Op.bytesLess x.it.key.toList y.it.key.toList = false) : riseB es = false := by
  cases hr : riseB es
  · rfl
  · have := riseB_at es i x y hr h1 h2
    rw [h] at this; cases this

structure ChR where
  top : Ref
  gone : List Ref
  err : Int
def chgM (σ : TapeS) (top : Ref) (es : List Edit) : ChR × TapeS :=
  bif riseB es then match becM 17 ⟨σ, 0, []⟩ top es with
    | (none, S) => (⟨⟨0, 0⟩, [], 130⟩, S.σ)
    | (some P, S) => bif (layM P S.σ).1.2 == 0 then (⟨(layM P S.σ).1.1, (isort ltRtd S.rs).map Rtd.ref, 0⟩, (layM P S.σ).2) else (⟨⟨0, 0⟩, [], (layM P S.σ).1.2⟩, (layM P S.σ).2)
  else (⟨⟨0, 0⟩, [], 131⟩, σ)
theorem chgM_rise {σ : TapeS} {top : Ref} {es : List Edit} (h : riseB es = false) : chgM σ top es = (⟨⟨0, 0⟩, [], 131⟩, σ) := by
  unfold chgM; rw [h]; rfl
theorem chgM_lost {σ : TapeS} {top : Ref} {es : List Edit} {S : St} (h : riseB es = true) (hb : becM 17 ⟨σ, 0, []⟩ top es = (none, S)) : chgM σ top es = (⟨⟨0, 0⟩, [], 130⟩, S.σ) := by
  unfold chgM; rw [h, hb]; rfl
theorem chgM_full {σ : TapeS} {top : Ref} {es : List Edit} {S : St} {P : Pl} (h : riseB es = true) (hb : becM 17 ⟨σ, 0, []⟩ top es = (some P, S)) (he : (layM P S.σ).1.2 ≠ 0) :
    chgM σ top es = (⟨⟨0, 0⟩, [], (layM P S.σ).1.2⟩, (layM P S.σ).2) := by
  unfold chgM; rw [h, hb]
  have : ((layM P S.σ).1.2 == 0) = false := by rw [beq_eq_false_iff_ne]; exact he
  simp only [cond_true, this, cond_false]
theorem chgM_done {σ : TapeS} {top : Ref} {es : List Edit} {S : St} {P : Pl} (h : riseB es = true) (hb : becM 17 ⟨σ, 0, []⟩ top es = (some P, S)) (he : (layM P S.σ).1.2 = 0) :
    chgM σ top es = (⟨(layM P S.σ).1.1, (isort ltRtd S.rs).map Rtd.ref, 0⟩, (layM P S.σ).2) := by
  unfold chgM; rw [h, hb]
  have : ((layM P S.σ).1.2 == 0) = true := by rw [beq_iff_eq]; exact he
  simp only [cond_true, this]

/-! ### Where items' copies lie does not matter -/
abbrev St.er (S : St) : St := { S with σ := S.σ.er }
theorem TapeS.er_look (σ : TapeS) (r : Ref) : σ.er.look r = (σ.look r).map Nd.er := by
  unfold TapeS.look
  have : σ.er.nodes.length = σ.nodes.length := by simp [TapeS.er]
  have e1 : σ.er.lost = σ.lost := rfl
  have e2 : σ.er.nodes = σ.nodes.map Nd.er := rfl
  rw [this, e1, e2]
  by_cases h : r.gen ≠ 1 ∨ r.num < 1 ∨ (σ.nodes.length : Int) < r.num ∨ r.num = σ.lost
  · rw [if_pos h, if_pos h]; rfl
  · rw [if_neg h, if_neg h, List.getElem?_map]
theorem TapeS.er_saw (σ : TapeS) (r : Ref) : (σ.saw r).er = σ.er.saw r := by
  simp [TapeS.er, TapeS.saw, Nd.zero, Nd.at, nilS]
theorem St.er_node (S : St) (r : Ref) (l : Nat) : S.er.node r l = (S.node r l).map Nd.er := by
  unfold St.node
  show (if 1048576 ≤ S.got then none else match S.σ.er.look r with | some n => _ | none => none) = _
  split
  · rfl
  · rw [TapeS.er_look]
    cases S.σ.look r with
    | none => rfl
    | some n =>
      show (if n.leaf = true ∨ l < 16 then some n.er else none) = Option.map Nd.er (if n.leaf = true ∨ l < 16 then some n else none)
      split <;> rfl
theorem St.er_seen (S : St) (r : Ref) : (S.seen r).er = S.er.seen r := by
  unfold St.seen
  show _ = (if 1048576 ≤ S.got then S.er else _)
  split
  · rfl
  · simp [TapeS.er_saw]
theorem fallKids_er (kid : Nat → Pl) (l : Nat) : ∀ (k d : Nat) (acc : List Item) (S : St), fallKids kid l k d acc S.er = ((fallKids kid l k d acc S).1, (fallKids kid l k d acc S).2.er)
  | 0, _, _, _ => rfl
  | k + 1, d, acc, S => by
    cases hk : kid d with
    | stay r =>
      cases hr : r.none with
      | true => rw [fallKids_none hk hr, fallKids_none hk hr]; exact fallKids_er kid l k _ _ _
      | false =>
        cases hn : S.node r l with
        | none => rw [fallKids_lost hk hr hn, fallKids_lost hk hr (by rw [St.er_node, hn]; rfl), St.er_seen]
        | some nd =>
          rw [fallKids_got hk hr hn, fallKids_got hk hr (nd := nd.er) (by rw [St.er_node, hn]; rfl), ← fallKids_er kid l k, ← St.er_seen]
    | leaf a b => rw [fallKids_new (by rw [hk]; rfl), fallKids_new (by rw [hk]; rfl)]; exact fallKids_er kid l k _ _ _
    | branch a b c => rw [fallKids_new (by rw [hk]; rfl), fallKids_new (by rw [hk]; rfl)]; exact fallKids_er kid l k _ _ _
theorem becKids_er {f : Nat → St → Option Pl × St} (hf : ∀ d S, f d S.er = ((f d S).1, (f d S).2.er)) : ∀ (n d : Nat) (a : KA) (S : St), becKids f n d a S.er = ((becKids f n d a S).1, (becKids f n d a S).2.er)
  | 0, _, _, _ => rfl
  | n + 1, d, a, S => by
    unfold becKids
    rw [hf]
    rcases f d S with ⟨_ | p, S'⟩
    · rfl
    · exact becKids_er hf n _ _ _
theorem doneM_er (l : Nat) (r : Ref) (g had : Int) (F : Option KA × St) : doneM l r g had (F.1, F.2.er) = ((doneM l r g had F).1, (doneM l r g had F).2.er) := by
  rcases F with ⟨_ | a, S⟩
  · rfl
  · show doneA l r g had a S.er = ((doneA l r g had a S).1, (doneA l r g had a S).2.er)
    have h := fallKids_er a.kid l 16 0 [] (S.ret r g)
    have h2 : (S.ret r g).er = S.er.ret r g := rfl
    rw [h2] at h
    unfold doneA
    generalize fallKids a.kid l 16 0 [] (S.ret r g) = G at h ⊢
    rw [h]
    cases a.ch
    · rfl
    · cases decide (a.cnt > 4)
      · rfl
      · rfl
theorem becM_er (n : Nat) : ∀ (S : St) (r : Ref) (es : List Edit), becM n S.er r es = ((becM n S r es).1, (becM n S r es).2.er) := by
  induction n with
  | zero => intro S r es; rfl
  | succ n ih =>
    intro S r es
    rw [becM_succ, becM_succ]
    cases h1 : es.length == 0
    · rw [cond_false, cond_false]
      cases hr : r.none
      · rw [cond_false, cond_false]
        rcases hn : S.node r (16 - n) with _ | nd
        · rw [show S.er.node r (16 - n) = none by rw [St.er_node, hn]; rfl]
          simp only [St.er_seen]
        · rw [show S.er.node r (16 - n) = some nd.er by rw [St.er_node, hn]; rfl]
          simp only
          cases hl : nd.leaf
          · rw [cond_false, cond_false]
            have hk := becKids_er (f := fun d S => becM n S (nd.kid d) (es.filter fun e => digitOf e.it.key (16 - n) == d)) (fun d S => ih S _ _) 16 0 ⟨fun _ => .stay ⟨0, 0⟩, nd.cnt, false⟩ (S.seen r)
            rw [← St.er_seen]
            rw [hk]
            exact doneM_er _ _ _ _ _
          · rw [cond_true, cond_true]
            cases (edAll nd.its es).2
            · simp only [cond_false, St.er_seen]
            · simp only [cond_true, ← St.er_seen]
      · rw [cond_true, cond_true]
        cases (isort ltItem (edAll [] es).1).length == 0 <;> rfl
    · rfl
end Go.Proofs.Ytlfanphdnjoofaa
