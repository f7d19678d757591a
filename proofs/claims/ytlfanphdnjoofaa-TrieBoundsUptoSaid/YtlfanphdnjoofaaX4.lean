/- One edit; a search; a change as a whole. -/
import Derived.Test.YtlfanphdnjoofaaX3
namespace Go.Proofs.Ytlfanphdnjoofaa
open Go.RowKit
set_option linter.unusedVariables false

theorem sumF_at (c d0 : Nat) : ∀ n k, k ≤ d0 → d0 < k + n → c ≤ sumF (fun i => if i = d0 then c else 0) n k
  | 0, k, h, h2 => by omega
  | n + 1, k, h, h2 => by
    unfold sumF
    by_cases hk : k = d0
    · rw [if_pos hk]; omega
    · have := sumF_at c d0 n (k + 1) (by omega) (by omega); omega
/-- How much was got for a leaf that fell. -/
def Pl.fg : Pl → Nat
  | .stay _ => 0
  | .leaf _ its => min its.length 4
  | .branch _ _ _ => 4
theorem Pl.fg_le (P : Pl) : P.fg ≤ 4 := by
  cases P
  · exact Nat.zero_le _
  · exact Nat.min_le_right _ _
  · exact Nat.le_refl _
def OneE (n : Nat) : Prop := ∀ (S : St) (r : Ref) (X : List Item) (e : Edit), Tr S.σ n r X → Can X → kOk X → eOk [e] → X.length + 1 ≤ 15000 → S.got + (((n + 1) * X.length : Nat) : Int) ≤ 1048576 →
  ∀ P S', becM (n + 1) S r [e] = (some P, S') → S'.got ≤ S.got + ((n + 1 : Nat) : Int) + (P.fg : Int) ∧ P.lz ≤ n + 5
theorem becM_none (n : Nat) (S : St) (r : Ref) : becM (n + 1) S r [] = (some (.stay r), S) := by rw [becM_succ]; rfl
theorem becM_one_step {n : Nat} (hn : n ≤ 16) (ih : ∀ m, n = m + 1 → OneE m) : OneE n := by
  intro S r X e hT hX hkX he hN hg P S' hb
  have hap : (ap X [e]).length ≤ X.length + 1 := ap_len [e] hX
  rw [becM_succ] at hb
  rw [show (([e] : List Edit).length == 0) = false from rfl, cond_false] at hb
  have hT0 := hT
  rcases hT.cases with ⟨h1, h2⟩ | ⟨h1, hl, h2, nd, h3, h4, h5, h6, _⟩ | ⟨h1, h2, m, rfl, nd, h3, h4, h5, h6, hk⟩
  · subst h1 h2
    rw [show Ref.none ⟨0, 0⟩ = true from rfl, cond_true, isort_ed Can.nil] at hb
    by_cases h0 : ap [] [e] = []
    · rw [h0] at hb
      injection hb with e1 e2
      injection e1 with e1
      subst e1 e2
      exact ⟨by omega, Nat.zero_le _⟩
    · rw [show ((ap [] [e]).length == 0) = false from beq_eq_false_iff_ne.2 fun h => h0 (List.eq_nil_of_length_eq_zero h), cond_false] at hb
      injection hb with e1 e2
      injection e1 with e1
      subst e1 e2
      exact ⟨by omega, bld_lz5 n _ _ (.inl (by rw [List.length_nil] at hap; omega))⟩
  · have hX1 : 1 ≤ X.length := List.length_pos_iff.2 h1
    have hm1 : 1 * 1 ≤ (n + 1) * X.length := Nat.mul_le_mul (by omega) hX1
    have hgs : S.got < 1048576 := by omega
    have hs := seen_got1 (r := r) hgs
    have hnd : S.node r (16 - n) = some nd := Tr.node h3 hgs (.inl h4) hn
    rw [h2, cond_false, hnd] at hb
    simp only at hb
    rw [h4, cond_true, h6] at hb
    cases hch : (edAll X [e]).2
    · rw [hch, cond_false] at hb
      injection hb with e1 e2
      injection e1 with e1
      subst e1 e2
      exact ⟨by omega, Nat.zero_le _⟩
    · rw [hch, cond_true, isort_ed hX] at hb
      injection hb with e1 e2
      injection e1 with e1
      subst e1 e2
      refine ⟨by show (S.seen r).got ≤ _; omega, bld_lz5 n _ _ ?_⟩
      rcases hl with hl | hl
      · exact .inl (by omega)
      · exact .inr hl
  · have hm2 : (m + 1 + 1) * X.length = (m + 1) * X.length + X.length := Nat.succ_mul _ _
    have hgs : S.got < 1048576 := by omega
    have hs := seen_got1 (r := r) hgs
    have hnd : S.node r (16 - (m + 1)) = some nd := Tr.node h3 hgs (.inr (by omega)) hn
    rw [h2, cond_false, hnd] at hb
    simp only at hb
    rw [h4, cond_false, show 16 - (m + 1) = 15 - m by omega, show 17 - (m + 1) = 16 - m by omega] at hb
    have hk2 : ∀ d, d < 16 → Tr (S.seen r).σ m (nd.kid d) (cut (15 - m) X d) := fun d hd => Tr.ex (Fr0.seen S r).ex m (hk d hd)
    obtain ⟨_, a', S1, eK, hI⟩ := kids_spec (S0 := S.seen r) (es := [e]) (fin := fun _ _ => True) (by omega) (becM_spec m (by omega)) hk2 hX hkX he hN (by omega) (fun _ _ _ => trivial) h5
    have hg3 := hI.got
    rw [cut_sum] at hg3
    obtain ⟨_, P2, S2, eP, _, _, _, hP3, hcs⟩ := doneA_spec (es := [e]) (by omega) hX h1 hN hI h5 (by omega) (Tr.ex (Fr0.seen S r).ex _ hT0) (S.seen r).got
    have hd0 : digitOf e.it.key (15 - m) < 16 := digitOf_lt _ _
    generalize hd0e : digitOf e.it.key (15 - m) = d0 at hd0
    have hfo : (([e] : List Edit).filter fun e => digitOf e.it.key (15 - m) == d0) = [e] := by simp [hd0e]
    have hfn : ∀ d, d ≠ d0 → (([e] : List Edit).filter fun e => digitOf e.it.key (15 - m) == d) = [] := fun d hd => by simp [hd0e]; exact fun h => hd h.symm
    have hc2 := cut_le (15 - m) X d0
    have hmul : (m + 1) * (cut (15 - m) X d0).length ≤ (m + 1) * X.length := Nat.mul_le_mul_left _ hc2
    obtain ⟨_, p, S3, ep, hbc⟩ := becM_spec m (by omega) (S.seen r) (nd.kid d0) (cut (15 - m) X d0) [e] (hk2 d0 hd0) (hX.filter _) (hkX.all _) he (by show _ + 1 ≤ _; omega) (by omega)
    obtain ⟨hone1, hone2⟩ := ih m rfl (S.seen r) (nd.kid d0) (cut (15 - m) X d0) e (hk2 d0 hd0) (hX.filter _) (hkX.all _) he (by omega) (by omega) p S3 ep
    obtain ⟨a2, eK2, hkid, _, hch⟩ := kids_one (f := fun d S => becM (m + 1) S (nd.kid d) (([e] : List Edit).filter fun e => digitOf e.it.key (15 - m) == d)) (kid := nd.kid) (S := S.seen r) (S1 := S3) (p := p) hd0
      (fun d S hd => by show becM _ _ _ _ = _; rw [hfn d hd, becM_none]) (by show becM _ _ _ _ = _; rw [hfo]; exact ep) 16 0 ⟨fun _ => .stay ⟨0, 0⟩, nd.cnt, false⟩ rfl
    rw [if_pos (Nat.zero_le _)] at eK2
    rw [eK] at eK2
    injection eK2 with e1 e2
    injection e1 with e1
    subst e1 e2
    generalize becKids _ 16 0 _ (S.seen r) = F at eK hb
    subst eK
    have hb : doneA (16 - m) r (S.seen r).got nd.cnt a' S1 = (some P, S') := hb
    rw [eP] at hb
    injection hb with e1 e2
    injection e1 with e1
    subst e1 e2
    have hfg := Pl.fg_le p
    rcases hcs with ⟨c1, c2, c3⟩ | ⟨c1, c2, c3, c4⟩ | ⟨c1, c2, c3, c4⟩
    · subst c3
      have hst : p.stays = true := by have := hch rfl (Nat.zero_le _); rw [c1] at this; cases h : p.stays; rw [h] at this; cases this; rfl
      rw [(hbc.stay hst).1] at hone1
      have hone1 : S1.got ≤ (S.seen r).got + ((m + 1 : Nat) : Int) + ((0 : Nat) : Int) := hone1
      refine ⟨?_, Nat.zero_le _⟩
      rw [c2]; omega
    · rw [c3, c4]
      refine ⟨by show S1.got ≤ _ + ((4 : Nat) : Int); omega, ?_⟩
      unfold Pl.lz
      have h1 : sumF (fun d => (a'.kid d).lz) 16 0 ≤ sumF (fun _ => 0) 16 0 + (if 0 ≤ d0 then p.lz else 0) := by
        refine sumF_one 16 0 fun d _ hd => ?_
        rw [hkid d (by omega) (by omega)]
        by_cases hdd : d = d0
        · rw [if_pos hdd, if_pos hdd]; omega
        · rw [if_neg hdd, if_neg hdd]; exact Nat.le_refl _
      rw [sumF_const, if_pos (Nat.zero_le _)] at h1
      omega
    · subst c3
      have hns : p.stays = false := by have := hch rfl (Nat.zero_le _); rw [c1] at this; cases h : p.stays; rfl; rw [h] at this; cases this
      have hpd := hI.plt d0 hd0
      rw [hkid d0 (by omega) hd0, if_pos rfl] at hpd
      have hple := cut_le (15 - m) (ap X [e]) d0
      have hpf : p.fg ≤ (cut (15 - m) (ap X [e]) d0).length := by
        cases p with
        | stay r => cases hns
        | leaf had its => unfold PlT at hpd; rw [← hpd.1]; exact Nat.min_le_left _ _
        | branch had cnt k =>
          cases m with
          | zero => unfold PlT at hpd; exact hpd.elim
          | succ m => unfold PlT at hpd; omega
      have hsum : sumF (fun i => bif (a'.kid i).stays then (cut (15 - m) (ap X [e]) i).length else 0) 16 0 + (cut (15 - m) (ap X [e]) d0).length ≤ (ap X [e]).length := by
        have h1 := sumF_at (cut (15 - m) (ap X [e]) d0).length d0 16 0 (Nat.zero_le _) (by omega)
        have h2 := sumF_add (fun i => bif (a'.kid i).stays then (cut (15 - m) (ap X [e]) i).length else 0) (fun i => if i = d0 then (cut (15 - m) (ap X [e]) d0).length else 0) 16 0
        have h3 : sumF (fun i => (bif (a'.kid i).stays then (cut (15 - m) (ap X [e]) i).length else 0) + (if i = d0 then (cut (15 - m) (ap X [e]) d0).length else 0)) 16 0 ≤ sumF (fun i => (cut (15 - m) (ap X [e]) i).length) 16 0 := by
          refine sumF_le 16 0 fun i _ hi => ?_
          by_cases hid : i = d0
          · rw [if_pos hid, hid, hkid d0 (by omega) hd0, if_pos rfl, hns, cond_false]; omega
          · rw [if_neg hid]
            cases (a'.kid i).stays
            · exact Nat.zero_le _
            · exact Nat.le_refl _
        rw [cut_sum] at h3
        omega
      refine ⟨?_, by unfold Pl.lz; split <;> omega⟩
      have hmin : (Pl.leaf nd.cnt (ap X [e])).fg = (ap X [e]).length := Nat.min_eq_left c2
      rw [hmin]
      omega
theorem becM_one : ∀ n, n ≤ 16 → OneE n
  | 0, h => becM_one_step h fun m hm => by omega
  | n + 1, h => becM_one_step h fun m hm => by
    have : m = n := by omega
    subst this
    exact becM_one m (by omega)

/-! ### A search -/
theorem hitOf_spec (key : ByteArray) (X : List Item) : (∃ x, x ∈ X ∧ x.key = key ∧ hitOf key X = .hit x) ∨ ((∀ x ∈ X, x.key ≠ key) ∧ hitOf key X = .miss) := by
  unfold hitOf
  cases h : X[X.findIdx fun x => x.key.toList == key.toList]? with
  | some x => exact .inl ⟨x, List.mem_of_getElem? h, findIdx_key h, rfl⟩
  | none => exact .inr ⟨findIdx_no h, rfl⟩
theorem findM_spec (key : ByteArray) : ∀ n, n ≤ 16 → ∀ (S : St) (r : Ref) (X : List Item), Tr S.σ n r X → S.got + ((n + 1 : Nat) : Int) ≤ 1048576 →
    ∃ o S', findM key (n + 1) S r (16 - n) = (o, S') ∧ Fr0 S.σ S'.σ ∧ Gr S S' ∧ S'.got ≤ S.got + ((n + 1 : Nat) : Int) ∧ ((∃ x, x ∈ X ∧ x.key = key ∧ o = .hit x) ∨ ((∀ x ∈ X, x.key ≠ key) ∧ o = .miss)) := by
  intro n
  induction n with
  | zero =>
    intro hn S r X hT hg
    unfold findM
    rcases hT.cases with ⟨h1, h2⟩ | ⟨h1, hl, h2, nd, h3, h4, h5, h6, _⟩ | ⟨h1, h2, m, hm, _⟩
    · subst h1 h2
      exact ⟨.miss, S, rfl, Fr0.refl _, Gr.refl _, by omega, .inr ⟨(fun _ h => nomatch h), rfl⟩⟩
    · have hgs : S.got < 1048576 := by omega
      have hs := seen_got1 (r := r) hgs
      rw [show (r.num == 0 && r.gen == 0) = false from h2, cond_false, Tr.node (n := 0) h3 hgs (.inl h4) (by omega)]
      simp only
      rw [h4, cond_true, h6]
      exact ⟨_, _, rfl, Fr0.seen S r, Gr.seen S r, by omega, hitOf_spec key X⟩
    · omega
  | succ m ih =>
    intro hn S r X hT hg
    unfold findM
    rcases hT.cases with ⟨h1, h2⟩ | ⟨h1, hl, h2, nd, h3, h4, h5, h6, _⟩ | ⟨h1, h2, m', hm, nd, h3, h4, h5, h6, hk⟩
    · subst h1 h2
      exact ⟨.miss, S, rfl, Fr0.refl _, Gr.refl _, by omega, .inr ⟨(fun _ h => nomatch h), rfl⟩⟩
    · have hgs : S.got < 1048576 := by omega
      have hs := seen_got1 (r := r) hgs
      rw [show (r.num == 0 && r.gen == 0) = false from h2, cond_false, Tr.node (n := m + 1) h3 hgs (.inl h4) (by omega)]
      simp only
      rw [h4, cond_true, h6]
      exact ⟨_, _, rfl, Fr0.seen S r, Gr.seen S r, by omega, hitOf_spec key X⟩
    · have : m' = m := by omega
      subst this
      have hgs : S.got < 1048576 := by omega
      have hs := seen_got1 (r := r) hgs
      rw [show (r.num == 0 && r.gen == 0) = false from h2, cond_false, Tr.node (n := m' + 1) h3 hgs (.inr (by omega)) (by omega)]
      simp only
      rw [h4, cond_false, show 16 - (m' + 1) = 15 - m' by omega, show 15 - m' + 1 = 16 - m' by omega]
      obtain ⟨o, S', e, f1, f2, f3, f4⟩ := ih (by omega) (S.seen r) (nd.kid (digitOf key (15 - m'))) _ (Tr.ex (Fr0.seen S r).ex m' (hk _ (digitOf_lt _ _))) (by omega)
      refine ⟨o, S', e, (Fr0.seen S r).trans f1, (Gr.seen S r).trans f2, by omega, ?_⟩
      rcases f4 with ⟨x, x1, x2, x3⟩ | ⟨x1, x2⟩
      · exact .inl ⟨x, (List.mem_filter.1 x1).1, x2, x3⟩
      · exact .inr ⟨fun x hx hxk => x1 x (List.mem_filter.2 ⟨hx, by rw [hxk]; exact beq_self_eq_true _⟩) hxk, x2⟩

/-! ### A change -/
theorem flat_sum {α : Type} (f : Nat → List α) : ∀ n, ((List.range n).flatMap f).length = sumF (fun d => (f d).length) n 0
  | 0 => rfl
  | n + 1 => by rw [List.range_succ, List.flatMap_append, List.length_append, flat_sum f n, sumF_snoc, Nat.zero_add, List.flatMap_cons, List.flatMap_nil, List.append_nil]
theorem PlT.size_le {σ : TapeS} : ∀ (n : Nat) (P : Pl) {X : List Item}, PlT σ n P X → P.size ≤ 17 * n * X.length + 1
  | n, .stay r, X, h => Nat.zero_le _
  | n, .leaf had its, X, h => by show 1 ≤ _; omega
  | 0, .branch _ _ _, X, h => by unfold PlT at h; exact h.elim
  | n + 1, .branch had cnt k, X, h => by
    unfold PlT at h
    unfold Pl.size
    have h1 : sumF (fun d => (k d).size) 16 0 ≤ sumF (fun d => 17 * n * (cut (15 - n) X d).length + 1) 16 0 := sumF_le 16 0 fun d _ hd => PlT.size_le n (k d) (h.2.2 d (by omega))
    rw [sumF_add (fun d => 17 * n * (cut (15 - n) X d).length) (fun _ => 1), sumF_mul, cut_sum, sumF_const] at h1
    rw [show 17 * (n + 1) = 17 * n + 17 by omega, Nat.add_mul]
    omega
theorem PlT.all_le {σ : TapeS} : ∀ (n : Nat) (P : Pl) {X : List Item}, PlT σ n P X → P.all.length ≤ X.length
  | n, .stay r, X, h => Nat.zero_le _
  | n, .leaf had its, X, h => by unfold PlT at h; unfold Pl.all; rw [h.1]; exact Nat.le_refl _
  | 0, .branch _ _ _, X, h => by unfold PlT at h; exact h.elim
  | n + 1, .branch had cnt k, X, h => by
    unfold PlT at h
    unfold Pl.all
    have h1 : sumF (fun d => (k d).all.length) 16 0 ≤ sumF (fun d => (cut (15 - n) X d).length) 16 0 := sumF_le 16 0 fun d _ hd => PlT.all_le n (k d) (h.2.2 d (by omega))
    rw [cut_sum] at h1
    rw [flat_sum]; exact h1
/-- A change of a tree as it should be. -/
theorem chg_spec {σ : TapeS} {top : Ref} {X : List Item} {es : List Edit} (hT : Tr σ 16 top X) (hX : Can X) (hkX : kOk X) (he : eOk es) (hN : X.length + es.length ≤ 2900) (h0 : σ.lost = 0) (hm : (σ.nodes.length : Int) + 17 * ((X.length + es.length : Nat) : Int) ≤ σ.most) :
    fitC σ top es ∧ (riseB es = true → ∃ top' P S σ', becM 17 ⟨σ, 0, []⟩ top es = (some P, S) ∧ Bc ⟨σ, 0, []⟩ 16 top X es P S ∧ Fr0 σ S.σ ∧ Gr ⟨σ, 0, []⟩ S ∧ layM P S.σ = ((top', 0), σ') ∧ chgM σ top es = (⟨top', (isort ltRtd S.rs).map Rtd.ref, 0⟩, σ') ∧ Tr σ' 16 top' (ap X es) ∧ Ext S.σ σ' P.lz ∧ 5 * P.lz ≤ 21 * (ap X es).length ∧ S.got ≤ ((17 * X.length : Nat) : Int)) := by
  have hap := ap_len es hX
  have hmu : (16 + 1) * X.length ≤ (16 + 1) * 2900 := Nat.mul_le_mul_left _ (by omega)
  obtain ⟨hf, P, S, e, hb⟩ := becM_spec 16 (by omega) ⟨σ, 0, []⟩ top X es hT hX hkX he (by omega) (by show (0 : Int) + _ ≤ _; omega)
  have hfr := becM_fr (16 + 1) ⟨σ, 0, []⟩ top es
  have hgr := becM_gr (16 + 1) ⟨σ, 0, []⟩ top es
  rw [e] at hfr hgr
  have hfr : Fr0 σ S.σ := hfr
  have hlz := hb.plt.lz_le
  have hlz : 5 * P.lz ≤ 21 * (ap X es).length := hlz
  have hgb := hb.got
  have hgb : S.got ≤ 0 + (((16 + 1) * X.length : Nat) : Int) := hgb
  constructor
  · intro hr
    refine ⟨hf, fun P' S' e' => ?_⟩
    rw [show becM 17 ⟨σ, 0, []⟩ top es = (some P, S) from e] at e'
    injection e' with e1 e2
    injection e1 with e1
    subst e1 e2
    have h1 := hb.plt.size_le
    have h2 := hb.plt.all_le
    have h3 := hgr.rs
    have h4 := hb.got
    have h3 : (S.rs.length : Int) + 0 ≤ ((0 : Nat) : Int) + S.got := h3
    have h4 : S.got ≤ 0 + _ := h4
    have h5 : 17 * 16 * (ap X es).length ≤ 17 * 16 * 2900 := Nat.mul_le_mul_left _ (by omega)
    refine ⟨by omega, by omega, by omega⟩
  · intro hr
    obtain ⟨top', σ', eL, hx, ht⟩ := layM_spec 16 P (ap X es) σ S.σ hb.plt hfr.ex (hfr.lost.trans h0) (by rw [hfr.nodes, hfr.most]; omega)
    refine ⟨top', P, S, σ', e, hb, hfr, hgr, eL, ?_, ht, hx, hlz, by omega⟩
    have := chgM_done hr e (by rw [eL])
    rw [eL] at this
    exact this
end Go.Proofs.Ytlfanphdnjoofaa
