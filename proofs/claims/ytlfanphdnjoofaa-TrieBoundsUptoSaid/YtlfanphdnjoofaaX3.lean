/- What edits make of a tree as it should be. -/
import Derived.Test.YtlfanphdnjoofaaX2
namespace Go.Proofs.Ytlfanphdnjoofaa
open Go.RowKit
set_option linter.unusedVariables false

/-- A relation that each step of a walk keeps. -/
structure Stp (R : St → St → Prop) : Prop where
  refl : ∀ S, R S S
  trans : ∀ {a b c}, R a b → R b c → R a c
  seen : ∀ S r, R S (S.seen r)
  ret : ∀ S r g, R S (S.ret r g)
theorem fallKids_rel {R : St → St → Prop} (h : Stp R) (kid : Nat → Pl) (l : Nat) : ∀ (k d : Nat) (acc : List Item) (S : St), R S (fallKids kid l k d acc S).2
  | 0, _, _, S => h.refl _
  | k + 1, d, acc, S => by
    unfold fallKids
    split
    · rename_i r _
      cases hr : r.none
      · simp only [cond_false]
        split
        · exact h.seen S r
        · exact h.trans (h.trans (h.seen S r) (h.ret _ _ _)) (fallKids_rel h kid l k _ _ _)
      · simp only [cond_true]; exact fallKids_rel h kid l k _ _ _
    · exact fallKids_rel h kid l k _ _ _
theorem becKids_rel {R : St → St → Prop} (h : Stp R) {f : Nat → St → Option Pl × St} (hf : ∀ d S, R S (f d S).2) : ∀ (n d : Nat) (a : KA) (S : St), R S (becKids f n d a S).2
  | 0, _, _, S => h.refl _
  | n + 1, d, a, S => by
    have h1 := hf d S
    unfold becKids
    rcases hfd : f d S with ⟨_ | p, S'⟩
    · rw [hfd] at h1; exact h1
    · rw [hfd] at h1; exact h.trans h1 (becKids_rel h hf n _ _ _)
theorem doneM_rel {R : St → St → Prop} (h : Stp R) (l2 : Nat) (r : Ref) (g had : Int) (F : Option KA × St) : R F.2 (doneM l2 r g had F).2 := by
  rcases F with ⟨_ | a, S2⟩
  · exact h.refl _
  · show R S2 (doneA l2 r g had a S2).2
    have h3 := h.trans (h.ret S2 r g) (fallKids_rel h a.kid l2 16 0 [] (S2.ret r g))
    unfold doneA
    generalize fallKids a.kid l2 16 0 [] (S2.ret r g) = G at h3 ⊢
    cases a.ch
    · exact h.refl _
    · cases decide (a.cnt > 4)
      · exact h3
      · exact h.ret _ _ _
theorem becM_rel {R : St → St → Prop} (h : Stp R) (n : Nat) : ∀ (S : St) (r : Ref) (es : List Edit), R S (becM n S r es).2 := by
  induction n with
  | zero => intro S r es; exact h.refl _
  | succ n ih =>
    intro S r es
    rw [becM_succ]
    cases h1 : es.length == 0
    · rw [cond_false]
      cases hr : r.none
      · rw [cond_false]
        rcases hn : S.node r (16 - n) with _ | nd
        · exact h.seen S r
        · simp only
          cases hl : nd.leaf
          · rw [cond_false]
            exact h.trans (h.trans (h.seen S r) (becKids_rel h (fun d S => ih S _ _) 16 0 _ _)) (doneM_rel h _ _ _ _ _)
          · rw [cond_true]
            cases (edAll nd.its es).2
            · exact h.seen S r
            · exact h.trans (h.seen S r) (h.ret _ _ _)
      · rw [cond_true]
        cases (isort ltItem (edAll [] es).1).length == 0 <;> exact h.refl _
    · exact h.refl _
theorem becM_fr (n : Nat) (S : St) (r : Ref) (es : List Edit) : Fr0 S.σ (becM n S r es).2.σ :=
  becM_rel (R := fun a b => Fr0 a.σ b.σ) ⟨fun _ => Fr0.refl _, fun h k => h.trans k, Fr0.seen, fun _ _ _ => Fr0.refl _⟩ n S r es
/-- The log has only gets more, as many as were got. -/
def Lg (S S' : St) : Prop := ∃ G, S'.σ.log = S.σ.log ++ G ∧ (G.length : Int) + S.got ≤ S'.got ∧ ∀ x ∈ G, Dd.al x = false
theorem Lg.stp : Stp Lg where
  refl S := ⟨[], by simp, by simp, fun _ h => nomatch h⟩
  trans := by
    rintro a b c ⟨G, h1, h2, h3⟩ ⟨H, k1, k2, k3⟩
    refine ⟨G ++ H, by rw [k1, h1, List.append_assoc], by rw [List.length_append]; push_cast; omega, fun x hx => ?_⟩
    rcases List.mem_append.1 hx with hx | hx
    · exact h3 x hx
    · exact k3 x hx
  seen S r := by
    unfold St.seen
    split
    · exact ⟨[], by simp, by simp, fun _ h => nomatch h⟩
    · refine ⟨[⟨false, r, Nd.zero⟩], rfl, ?_, fun x hx => ?_⟩
      · show ((1 : Nat) : Int) + S.got ≤ S.got + 1; omega
      · rw [List.mem_singleton] at hx; rw [hx]
  ret S r g := ⟨[], by simp, by simp, fun _ h => nomatch h⟩

/-! ### All kids -/
theorem kids_run {f : Nat → St → Option Pl × St} {fit : Nat → St → Prop} {fin : KA → St → Prop} (I : Nat → KA → St → Prop)
    (step : ∀ d a S, d < 16 → I d a S → fit d S ∧ ∃ p S', f d S = (some p, S') ∧ I (d + 1) (a.add d p) S') (hfin : ∀ a S, I 16 a S → fin a S) :
    ∀ n d a S, n + d = 16 → I d a S → fitKids f fit fin n d a S ∧ ∃ a' S', becKids f n d a S = (some a', S') ∧ I 16 a' S'
  | 0, d, a, S, hd, h => by
    have : d = 16 := by omega
    subst this
    exact ⟨hfin a S h, a, S, rfl, h⟩
  | n + 1, d, a, S, hd, h => by
    obtain ⟨h1, p, S', e, h2⟩ := step d a S (by omega) h
    obtain ⟨h3, a', S2, e2, h4⟩ := kids_run I step hfin n (d + 1) (a.add d p) S' (by omega) h2
    refine ⟨⟨h1, fun p2 S2 e2 => ?_⟩, a', S2, ?_, h4⟩
    · rw [e] at e2
      injection e2 with e2 e3
      injection e2 with e2
      subst e2 e3; exact h3
    · unfold becKids; rw [e]; exact e2
/-- Only one kid is another. -/
theorem kids_one {f : Nat → St → Option Pl × St} {kid : Nat → Ref} {d0 : Nat} {p : Pl} {S S1 : St} (hd0 : d0 < 16) (h0 : ∀ d S, d ≠ d0 → f d S = (some (.stay (kid d)), S)) (h1 : f d0 S = (some p, S1)) :
    ∀ n d a, n + d = 16 → ∃ a', becKids f n d a (if d ≤ d0 then S else S1) = (some a', S1) ∧ (∀ i, d ≤ i → i < 16 → a'.kid i = if i = d0 then p else .stay (kid i)) ∧ (∀ i, i < d → a'.kid i = a.kid i) ∧ (a.ch = false → d ≤ d0 → a'.ch = !p.stays)
  | 0, d, a, hd => ⟨a, by rw [if_neg (by omega)]; rfl, fun i h1 h2 => by omega, fun _ _ => rfl, fun _ h => by omega⟩
  | n + 1, d, a, hd => by
    unfold becKids
    have hk : ∀ p, (a.add d p).kid = upd a.kid d p := fun p => by unfold KA.add; cases p.stays <;> rfl
    by_cases hdd : d = d0
    · subst hdd
      rw [if_pos (Nat.le_refl _), h1]
      obtain ⟨a', e, h2, h3, h4⟩ := kids_one hd0 h0 h1 n (d + 1) (a.add d p) (by omega)
      rw [if_neg (by omega)] at e
      refine ⟨a', e, fun i hi hi2 => ?_, fun i hi => ?_, fun hc _ => ?_⟩
      · by_cases hid : i = d
        · rw [if_pos hid, hid, h3 d (by omega), hk, upd_eq]
        · rw [h2 i (by omega) hi2]
      · rw [h3 i (by omega), hk, upd_ne _ _ (by omega)]
      · clear h2 h3 h4
        have hch : ∀ n d a S, (∀ i S, d ≤ i → f i S = (some (.stay (kid i)), S)) → ∀ a' S', becKids f n d a S = (some a', S') → a'.ch = a.ch := by
          intro n
          induction n with
          | zero => intro d a S _ a' S' e; injection e with e _; injection e with e; rw [← e]
          | succ n ih =>
            intro d a S hi a' S' e
            unfold becKids at e
            rw [hi d S (Nat.le_refl _)] at e
            have := ih (d + 1) _ S (fun i S h => hi i S (by omega)) a' S' e
            rw [this]; rfl
        rw [hch n (d + 1) _ S1 (fun i S h => h0 i S (by omega)) a' S1 e]
        unfold KA.add
        cases hs : p.stays
        · rfl
        · rw [cond_true]; exact hc
    · rw [h0 d _ hdd]
      obtain ⟨a', e, h2, h3, h4⟩ := kids_one hd0 h0 h1 n (d + 1) (a.add d (.stay (kid d))) (by omega)
      have hif : (if d + 1 ≤ d0 then S else S1) = (if d ≤ d0 then S else S1) := by
        by_cases h : d ≤ d0
        · rw [if_pos h, if_pos (by omega)]
        · rw [if_neg h, if_neg (by omega)]
      rw [hif] at e
      refine ⟨a', e, fun i hi hi2 => ?_, fun i hi => ?_, fun hc hd => ?_⟩
      · by_cases hid : i = d
        · rw [hid, if_neg hdd, h3 d (by omega), hk, upd_eq]
        · rw [h2 i (by omega) hi2]
      · rw [h3 i (by omega), hk, upd_ne _ _ (by omega)]
      · exact h4 hc (by omega)
/-- Kids that fall into a leaf. -/
theorem fall_run {σ0 : TapeS} {kid : Nat → Pl} {m l : Nat} {X : List Item} (hm : m ≤ 15) (hX : X.length ≤ 4) (hk : ∀ i, i < 16 → PlT σ0 m (kid i) (cut l X i)) :
    ∀ k d (S : St), k + d = 16 → Fr0 σ0 S.σ → S.got + sumF (fun i => bif (kid i).stays then (cut l X i).length else 0) k d ≤ 1048576 →
    fitFall kid (16 - m) k d ((List.range d).flatMap (cut l X)) S ∧ ∃ S', fallKids kid (16 - m) k d ((List.range d).flatMap (cut l X)) S = (some ((List.range 16).flatMap (cut l X)), S') ∧
      S'.got ≤ S.got + sumF (fun i => bif (kid i).stays then (cut l X i).length else 0) k d
  | 0, d, S, hd, hF, hg => by
    have : d = 16 := by omega
    subst this
    have hl : ((List.range 16).flatMap (cut l X)).length ≤ 100000 := by rw [(cut_perm l X).length_eq]; omega
    exact ⟨hl, S, rfl, by unfold sumF; omega⟩
  | k + 1, d, S, hd, hF, hg => by
    have hlen : ((List.range d).flatMap (cut l X)).length ≤ 100000 := by
      have h1 := (part_perm (fun x : Item => digitOf x.key l) X d).length_eq
      have h2 := List.length_filter_le (fun x => decide (digitOf x.key l < d)) X
      have h3 : ((List.range d).flatMap (cut l X)).length = _ := h1
      omega
    have hlen2 : ((List.range d).flatMap (cut l X) ++ cut l X d).length ≤ 100000 := by
      have h1 := (part_perm (fun x : Item => digitOf x.key l) X (d + 1)).length_eq
      rw [List.range_succ, List.flatMap_append] at h1
      have h2 := List.length_filter_le (fun x => decide (digitOf x.key l < d + 1)) X
      have h3 : ((List.range d).flatMap (cut l X) ++ [d].flatMap (cut l X)).length = _ := h1
      rw [List.flatMap_cons, List.flatMap_nil, List.append_nil] at h3
      omega
    have hnext : (List.range (d + 1)).flatMap (cut l X) = (List.range d).flatMap (cut l X) ++ cut l X d := by
      rw [List.range_succ, List.flatMap_append, List.flatMap_cons, List.flatMap_nil, List.append_nil]
    have hc4 : (cut l X d).length ≤ 4 := Nat.le_trans (cut_le _ _ _) hX
    have hkd := hk d (by omega)
    unfold sumF at hg ⊢
    unfold fitFall
    cases hp : kid d with
    | stay r =>
      rw [hp] at hkd hg
      unfold PlT at hkd
      rw [show (Pl.stay r).stays = true from rfl, cond_true] at hg ⊢
      simp only
      rcases hkd.cases with ⟨h1, h2⟩ | ⟨h1, _, h2, nd, h3, h4, h5, h6, _⟩ | ⟨h1, _⟩
      · have hr : r.none = true := by rw [h2]; rfl
        rw [h1, List.append_nil] at hnext
        obtain ⟨f1, S', e1, g1⟩ := fall_run hm hX hk k (d + 1) S (by omega) hF (by omega)
        rw [hnext] at f1 e1
        refine ⟨⟨hlen, fun _ => f1, fun h => by rw [hr] at h; cases h⟩, S', ?_, by omega⟩
        rw [fallKids_none hp hr]; exact e1
      · have hn1 : 1 ≤ (cut l X d).length := List.length_pos_iff.2 h1
        have hgs : S.got < 1048576 := by omega
        have hn : S.node r (16 - m) = some nd := Tr.node (by rw [hF.look]; exact h3) hgs (.inl h4) (by omega)
        have hs := seen_got1 (r := r) hgs
        obtain ⟨f1, S', e1, g1⟩ := fall_run hm hX hk k (d + 1) ((S.seen r).ret r (S.seen r).got) (by omega) (hF.trans (Fr0.seen S r)) (by show (S.seen r).got + _ ≤ _; omega)
        rw [hnext] at f1 e1
        have g1 : S'.got ≤ (S.seen r).got + _ := g1
        refine ⟨⟨hlen, fun h => (by rw [h2] at h; cases h), fun _ => ?_⟩, S', ?_, by omega⟩
        · rw [hn]
          simp only
          rw [h6]; exact ⟨hlen2, f1⟩
        · rw [fallKids_got hp h2 hn, h6]; exact e1
      · omega
    | leaf had its =>
      rw [hp] at hkd hg
      unfold PlT at hkd
      rw [show (Pl.leaf had its).stays = false from rfl, cond_false] at hg ⊢
      simp only
      obtain ⟨f1, S', e1, g1⟩ := fall_run hm hX hk k (d + 1) S (by omega) hF (by omega)
      rw [hnext] at f1 e1
      refine ⟨⟨hlen, ?_⟩, S', ?_, by omega⟩
      · show ((List.range d).flatMap (cut l X) ++ its).length ≤ 100000 ∧ _
        rw [hkd.1]; exact ⟨hlen2, by unfold Pl.all; exact f1⟩
      · rw [fallKids_new (by rw [hp]; rfl), hp]
        unfold Pl.all
        rw [hkd.1]; exact e1
    | branch had cnt kk =>
      rw [hp] at hkd
      cases m with
      | zero => unfold PlT at hkd; exact hkd.elim
      | succ m => unfold PlT at hkd; omega
theorem bld_had : ∀ (n : Nat) (X : List Item) (had : Int), (bld n X had).had = had ∧ (bld n X had).cnt = X.length ∧ (bld n X had).stays = false
  | 0, X, had => ⟨rfl, rfl, rfl⟩
  | n + 1, X, had => by unfold bld; split <;> exact ⟨rfl, rfl, rfl⟩
theorem cut_eq_all {l : Nat} {X Y : List Item} (hX : Can X) (hY : Can Y) (h : ∀ i, i < 16 → cut l X i = cut l Y i) : X = Y := by
  refine hX.ext hY fun y => ?_
  have := h _ (digitOf_lt y.key l)
  have h1 : ∀ Z : List Item, y ∈ Z ↔ y ∈ cut l Z (digitOf y.key l) := fun Z => by simp [cut]
  rw [h1 X, h1 Y, this]
/-- What is told of edits. -/
structure Bc (S : St) (n : Nat) (r : Ref) (X : List Item) (es : List Edit) (P : Pl) (S' : St) : Prop where
  plt : PlT S.σ n P (ap X es)
  got : S'.got ≤ S.got + (((n + 1) * X.length : Nat) : Int)
  stay : P.stays = true → P = .stay r ∧ ap X es = X
  new : P.stays = false → P.had = (X.length : Int) ∧ P.cnt = ((ap X es).length : Int)
/-- Where the kids d.. are still to come. -/
structure Ik (S0 : St) (m l : Nat) (nd : Nd) (X : List Item) (es : List Edit) (d : Nat) (a : KA) (S : St) : Prop where
  fr : Fr0 S0.σ S.σ
  got0 : S0.got ≤ S.got
  got : S.got ≤ S0.got + (((m + 1) * sumF (fun i => (cut l X i).length) d 0 : Nat) : Int)
  plt : ∀ i, i < d → PlT S0.σ m (a.kid i) (cut l (ap X es) i)
  cnt : a.cnt + ((sumF (fun i => (cut l X i).length) d 0 : Nat) : Int) = (X.length : Int) + ((sumF (fun i => (cut l (ap X es) i).length) d 0 : Nat) : Int)
  ch : a.ch = false → ∀ i, i < d → cut l (ap X es) i = cut l X i ∧ a.kid i = .stay (nd.kid i)
  ch2 : a.ch = false → sumF (fun i => (cut l X i).length) d 0 = sumF (fun i => (cut l (ap X es) i).length) d 0
theorem sumF_le_of {f : Nat → Nat} : ∀ (j d k : Nat), j ≤ d → sumF f j k ≤ sumF f d k
  | 0, d, k, _ => Nat.zero_le _
  | j + 1, 0, k, h => by omega
  | j + 1, d + 1, k, h => by unfold sumF; exact Nat.add_le_add_left (sumF_le_of j d (k + 1) (by omega)) _
theorem Can.nil : Can [] := List.Pairwise.nil
theorem cut_ap (l : Nat) {X : List Item} (h : Can X) (es : List Edit) (d : Nat) : cut l (ap X es) d = ap (cut l X d) (es.filter fun e => digitOf e.it.key l == d) := ap_filter (fun k => digitOf k l == d) es h
theorem eOk.all {es : List Edit} (h : eOk es) (p : Edit → Bool) : eOk (es.filter p) := h.filter p
theorem kOk.all {X : List Item} (h : kOk X) (p : Item → Bool) : kOk (X.filter p) := fun x hx => h x (List.mem_filter.1 hx).1
def Spec (n : Nat) : Prop := ∀ (S : St) (r : Ref) (X : List Item) (es : List Edit), Tr S.σ n r X → Can X → kOk X → eOk es → X.length + es.length ≤ 15000 → S.got + (((n + 1) * X.length : Nat) : Int) ≤ 1048576 →
  fitM (n + 1) S r es ∧ ∃ P S', becM (n + 1) S r es = (some P, S') ∧ Bc S n r X es P S'
theorem kids_spec {m : Nat} (hm : m ≤ 15) (ih : Spec m) {S0 : St} {nd : Nd} {X : List Item} {es : List Edit} (hk : ∀ d, d < 16 → Tr S0.σ m (nd.kid d) (cut (15 - m) X d)) (hX : Can X) (hkX : kOk X) (he : eOk es) (hN : X.length + es.length ≤ 15000)
    (hg : S0.got + (((m + 1) * X.length : Nat) : Int) ≤ 1048576) {fin : KA → St → Prop} (hfin : ∀ a S, Ik S0 m (15 - m) nd X es 16 a S → fin a S) (hc : nd.cnt = (X.length : Int)) :
    fitKids (fun d S => becM (m + 1) S (nd.kid d) (es.filter fun e => digitOf e.it.key (15 - m) == d)) (fun d S => fitM (m + 1) S (nd.kid d) (es.filter fun e => digitOf e.it.key (15 - m) == d)) fin 16 0 ⟨fun _ => .stay ⟨0, 0⟩, nd.cnt, false⟩ S0 ∧
    ∃ a' S', becKids (fun d S => becM (m + 1) S (nd.kid d) (es.filter fun e => digitOf e.it.key (15 - m) == d)) 16 0 ⟨fun _ => .stay ⟨0, 0⟩, nd.cnt, false⟩ S0 = (some a', S') ∧ Ik S0 m (15 - m) nd X es 16 a' S' := by
  refine kids_run (Ik S0 m (15 - m) nd X es) (fun d a S hd h => ?_) hfin 16 0 _ S0 rfl ⟨Fr0.refl _, Int.le_refl _, by unfold sumF; omega, fun i hi => by omega, by unfold sumF; show nd.cnt + _ = _; omega, fun _ i hi => by omega, fun _ => rfl⟩
  have hs := sumF_snoc (fun i => (cut (15 - m) X i).length) d 0
  have hs' := sumF_snoc (fun i => (cut (15 - m) (ap X es) i).length) d 0
  rw [Nat.zero_add] at hs hs'
  have hall := sumF_le_of (f := fun i => (cut (15 - m) X i).length) (d + 1) 16 0 (by omega)
  rw [cut_sum] at hall
  have hall' := sumF_le_of (f := fun i => (cut (15 - m) (ap X es) i).length) (d + 1) 16 0 (by omega)
  rw [cut_sum] at hall'
  have hap := ap_len es hX
  have hmul : (m + 1) * sumF (fun i => (cut (15 - m) X i).length) (d + 1) 0 ≤ (m + 1) * X.length := Nat.mul_le_mul_left _ hall
  have hmul2 : (m + 1) * sumF (fun i => (cut (15 - m) X i).length) (d + 1) 0 = (m + 1) * sumF (fun i => (cut (15 - m) X i).length) d 0 + (m + 1) * (cut (15 - m) X d).length := by rw [hs, Nat.mul_add]
  have hgot := h.got
  have hl1 := cut_le (15 - m) X d
  have hl2 : (es.filter fun e => digitOf e.it.key (15 - m) == d).length ≤ es.length := List.length_filter_le _ _
  obtain ⟨h1, p, S', e, hb⟩ := ih S (nd.kid d) (cut (15 - m) X d) (es.filter fun e => digitOf e.it.key (15 - m) == d) (Tr.ex h.fr.ex m (hk d hd)) (hX.filter _) (hkX.all _) (he.all _) (by omega) (by omega)
  have hfr := becM_fr (m + 1) S (nd.kid d) (es.filter fun e => digitOf e.it.key (15 - m) == d)
  have hgr := becM_gr (m + 1) S (nd.kid d) (es.filter fun e => digitOf e.it.key (15 - m) == d)
  rw [e] at hfr hgr
  have hb1 := hb.plt
  have hb3 := hb.stay
  have hb4 := hb.new
  have hb2 := hb.got
  rw [← cut_ap _ hX] at hb1 hb3 hb4
  have hg2 : S.got ≤ S'.got := hgr.got
  have hg0 := h.got0
  have hcnt := h.cnt
  have hkid : ∀ i, (a.add d p).kid i = if i = d then p else a.kid i := fun i => by
    have : (a.add d p).kid = upd a.kid d p := by unfold KA.add; cases p.stays <;> rfl
    rw [this]
    by_cases hi : i = d
    · rw [if_pos hi, hi, upd_eq]
    · rw [if_neg hi, upd_ne _ _ hi]
  refine ⟨h1, p, S', e, ⟨h.fr.trans hfr, by omega, by omega, fun i hi => ?_, ?_, fun hch i hi => ?_, fun hch => ?_⟩⟩
  · rw [hkid]
    by_cases hid : i = d
    · rw [if_pos hid, hid]; exact PlT.ex h.fr.xe m p hb1
    · rw [if_neg hid]; exact h.plt i (by omega)
  · rw [hs, hs']
    unfold KA.add
    cases hst : p.stays
    · rw [cond_false]
      show IntKind.i64.wrap (a.cnt + IntKind.i64.wrap (p.cnt - p.had)) + _ = _
      have hnew := hb4 hst
      have hle := sumF_le_of (f := fun i => (cut (15 - m) X i).length) d 16 0 (by omega)
      rw [cut_sum] at hle
      have hle' := sumF_le_of (f := fun i => (cut (15 - m) (ap X es) i).length) d 16 0 (by omega)
      rw [cut_sum] at hle'
      have hl3 := cut_le (15 - m) (ap X es) d
      have hw : IntKind.i64.wrap (p.cnt - p.had) = p.cnt - p.had := wrap_in (by omega) (by omega)
      rw [hw, wrap_in (by omega) (by omega), hnew.1, hnew.2]
      push_cast
      omega
    · rw [cond_true]
      show a.cnt + _ = _
      rw [(hb3 hst).2]; push_cast; omega
  · unfold KA.add at hch
    cases hst : p.stays
    · rw [hst, cond_false] at hch; cases hch
    · rw [hst, cond_true] at hch
      rw [hkid]
      by_cases hid : i = d
      · rw [if_pos hid, hid]; exact ⟨(hb3 hst).2, (hb3 hst).1⟩
      · rw [if_neg hid]; exact h.ch hch i (by omega)
  · unfold KA.add at hch
    cases hst : p.stays
    · rw [hst, cond_false] at hch; cases hch
    · rw [hst, cond_true] at hch
      rw [hs, hs', h.ch2 hch, (hb3 hst).2]
/-- What a branch becomes when its kids are done. -/
theorem doneA_spec {m : Nat} (hm : m ≤ 15) {S0 S : St} {nd : Nd} {r : Ref} {X : List Item} {es : List Edit} {a : KA} (hX : Can X) (h4 : 4 < X.length) (hN : X.length + es.length ≤ 15000) (hI : Ik S0 m (15 - m) nd X es 16 a S) (hc : nd.cnt = (X.length : Int))
    (hg : S.got + 4 ≤ 1048576) (hT : Tr S0.σ (m + 1) r X) (g : Int) :
    fitDone (16 - m) r g a S ∧ ∃ P S', doneA (16 - m) r g nd.cnt a S = (some P, S') ∧ PlT S0.σ (m + 1) P (ap X es) ∧ (P.stays = true → P = .stay r ∧ ap X es = X) ∧ (P.stays = false → P.had = (X.length : Int) ∧ P.cnt = ((ap X es).length : Int)) ∧
      S'.got ≤ S.got + 4 ∧ ((a.ch = false ∧ S' = S ∧ P = .stay r) ∨ (a.ch = true ∧ 4 < (ap X es).length ∧ S'.got = S.got ∧ P = .branch nd.cnt a.cnt a.kid) ∨
        (a.ch = true ∧ (ap X es).length ≤ 4 ∧ P = .leaf nd.cnt (ap X es) ∧ S'.got ≤ S.got + ((sumF (fun i => bif (a.kid i).stays then (cut (15 - m) (ap X es) i).length else 0) 16 0 : Nat) : Int))) := by
  have hcnt := hI.cnt
  have e1 := cut_sum (15 - m) X
  have e2 := cut_sum (15 - m) (ap X es)
  rw [e1, e2] at hcnt
  have hcnt2 : a.cnt = ((ap X es).length : Int) := by omega
  unfold doneA fitDone
  cases hch : a.ch
  · rw [cond_false]
    have heq : ap X es = X := cut_eq_all (ap_can hX) hX fun i hi => (hI.ch hch i hi).1
    refine ⟨fun h => (by cases h), _, _, rfl, ?_, fun _ => ⟨rfl, heq⟩, fun h => (by cases h), by omega, .inl ⟨rfl, rfl, rfl⟩⟩
    unfold PlT; rw [heq]; exact hT
  · rw [cond_true]
    by_cases h5 : 4 < (ap X es).length
    · rw [show decide (a.cnt > 4) = true from decide_eq_true (by omega), cond_true]
      refine ⟨fun _ h => (by cases h), _, _, rfl, ?_, fun h => (by cases h), fun _ => ⟨hc, hcnt2⟩, by show S.got ≤ _; omega, .inr (.inl ⟨rfl, h5, rfl, rfl⟩)⟩
      unfold PlT
      exact ⟨h5, hcnt2, fun d hd => hI.plt d hd⟩
    · rw [show decide (a.cnt > 4) = false from decide_eq_false (by omega), cond_false]
      have hle : sumF (fun i => bif (a.kid i).stays then (cut (15 - m) (ap X es) i).length else 0) 16 0 ≤ (ap X es).length := by
        rw [← e2]
        refine sumF_le 16 0 fun i _ _ => ?_
        cases (a.kid i).stays
        · exact Nat.zero_le _
        · exact Nat.le_refl _
      obtain ⟨f1, S', ef, gf⟩ := fall_run (X := ap X es) hm (by omega) hI.plt 16 0 (S.ret r g) rfl hI.fr (by show S.got + _ ≤ _; omega)
      have f1 : fitFall a.kid (16 - m) 16 0 [] (S.ret r g) := f1
      have ef : fallKids a.kid (16 - m) 16 0 [] (S.ret r g) = _ := ef
      generalize fallKids a.kid (16 - m) 16 0 [] (S.ret r g) = G at ef ⊢
      subst ef
      have gf : S'.got ≤ S.got + _ := gf
      have hs : isort ltItem ((List.range 16).flatMap (cut (15 - m) (ap X es))) = ap X es := isort_of_perm (cut_perm _ _) (ap_can hX)
      refine ⟨fun _ _ => f1, .leaf nd.cnt (ap X es), S', ?_, ?_, fun h => (by cases h), fun _ => ⟨hc, rfl⟩, by omega, .inr (.inr ⟨rfl, by omega, rfl, gf⟩)⟩
      · show (some (Pl.leaf nd.cnt (isort ltItem _)), S') = _
        rw [hs]
      · unfold PlT; exact ⟨rfl, .inl (by omega)⟩
theorem becM_step {n : Nat} (hn : n ≤ 16) (ih : ∀ m, n = m + 1 → Spec m) : Spec n := by
  intro S r X es hT hX hkX he hN hg
  have hap := ap_len es hX
  rw [becM_succ]
  unfold fitM
  by_cases hes : es = []
  · subst hes
    refine ⟨⟨by show (0 : Nat) ≤ _; omega, he, fun h => absurd rfl h⟩, .stay r, S, rfl, ⟨?_, by omega, fun _ => ⟨rfl, rfl⟩, fun h => (by cases h)⟩⟩
    unfold PlT; exact hT
  · have hne : (es.length == 0) = false := beq_eq_false_iff_ne.2 fun h => hes (List.eq_nil_of_length_eq_zero h)
    rw [hne, cond_false]
    have hT0 := hT
    rcases hT.cases with ⟨h1, h2⟩ | ⟨h1, hl, h2, nd, h3, h4, h5, h6, _⟩ | ⟨h1, h2, m, rfl, nd, h3, h4, h5, h6, hk⟩
    · subst h1 h2
      rw [show Ref.none ⟨0, 0⟩ = true from rfl, cond_true, isort_ed Can.nil]
      refine ⟨⟨by omega, he, fun _ h => (by cases h)⟩, ?_⟩
      by_cases h0 : ap [] es = []
      · rw [h0]
        refine ⟨.stay ⟨0, 0⟩, S, rfl, ⟨?_, by omega, fun _ => ⟨rfl, h0⟩, fun h => (by cases h)⟩⟩
        unfold PlT; rw [h0]; exact hT0
      · rw [show ((ap [] es).length == 0) = false from beq_eq_false_iff_ne.2 fun h => h0 (List.eq_nil_of_length_eq_zero h), cond_false]
        have hb := bld_had n (ap [] es) 0
        exact ⟨_, S, rfl, ⟨bld_PlT _ _ _ _, by omega, fun h => (by rw [hb.2.2] at h; cases h), fun _ => ⟨hb.1, hb.2.1⟩⟩⟩
    · have hX1 : 1 ≤ X.length := List.length_pos_iff.2 h1
      have hm1 : 1 * 1 ≤ (n + 1) * X.length := Nat.mul_le_mul (by omega) hX1
      have hgs : S.got < 1048576 := by omega
      have hs := seen_got1 (r := r) hgs
      have hnd : S.node r (16 - n) = some nd := Tr.node h3 hgs (.inl h4) hn
      rw [h2, cond_false, hnd]
      simp only
      rw [h4, cond_true, h6]
      refine ⟨⟨by omega, he, fun _ _ nd2 h => ?_⟩, ?_⟩
      · injection h with h
        subst h
        rw [h6]
        exact ⟨fun _ => ⟨by omega, hkX⟩, fun h => (by rw [h4] at h; cases h)⟩
      · cases hch : (edAll X es).2
        · rw [cond_false]
          have heq := edAll_false hX hch
          refine ⟨.stay r, S.seen r, rfl, ⟨?_, by omega, fun _ => ⟨rfl, heq⟩, fun h => (by cases h)⟩⟩
          unfold PlT; rw [heq]; exact hT0
        · rw [cond_true, isort_ed hX]
          have hb := bld_had n (ap X es) nd.cnt
          exact ⟨_, _, rfl, ⟨bld_PlT _ _ _ _, by show (S.seen r).got ≤ _; omega, fun h => (by rw [hb.2.2] at h; cases h), fun _ => ⟨by rw [hb.1, h5], hb.2.1⟩⟩⟩
    · have hm2 : (m + 1 + 1) * X.length = (m + 1) * X.length + X.length := Nat.succ_mul _ _
      have hgs : S.got < 1048576 := by omega
      have hs := seen_got1 (r := r) hgs
      have hnd : S.node r (16 - (m + 1)) = some nd := Tr.node h3 hgs (.inr (by omega)) hn
      rw [h2, cond_false, hnd]
      simp only
      rw [h4, cond_false, show 16 - (m + 1) = 15 - m by omega, show 17 - (m + 1) = 16 - m by omega]
      have hfin : ∀ a S2, Ik (S.seen r) m (15 - m) nd X es 16 a S2 → fitDone (16 - m) r (S.seen r).got a S2 := fun a S2 hI => by
        have hg3 := hI.got
        rw [cut_sum] at hg3
        exact (doneA_spec (by omega) hX h1 hN hI h5 (by omega) (Tr.ex (Fr0.seen S r).ex _ hT0) _).1
      obtain ⟨hf, a', S', eK, hI⟩ := kids_spec (S0 := S.seen r) (by omega) (ih m rfl) (fun d hd => Tr.ex (Fr0.seen S r).ex m (hk d hd)) hX hkX he hN (by omega) hfin h5
      have hg3 := hI.got
      rw [cut_sum] at hg3
      obtain ⟨hd1, P, S2, eP, hP, hP1, hP2, hP3, _⟩ := doneA_spec (by omega) hX h1 hN hI h5 (by omega) (Tr.ex (Fr0.seen S r).ex _ hT0) (S.seen r).got
      refine ⟨⟨by omega, he, fun _ _ nd2 h => ?_⟩, P, S2, ?_, ⟨PlT.ex (Fr0.seen S r).xe _ _ hP, by omega, hP1, hP2⟩⟩
      · injection h with h
        subst h
        exact ⟨fun h => (by rw [h4] at h; cases h), fun _ => hf⟩
      · generalize becKids _ 16 0 _ (S.seen r) = F at eK ⊢
        rw [eK]; exact eP
theorem becM_spec : ∀ n, n ≤ 16 → Spec n
  | 0, h => becM_step h fun m hm => by omega
  | n + 1, h => becM_step h fun m hm => by
    have : m = n := by omega
    subst this
    exact becM_spec m (by omega)
end Go.Proofs.Ytlfanphdnjoofaa
