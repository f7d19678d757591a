/- Stories of edits. -/
import Derived.Test.YtlfanphdnjoofaaX4
namespace Go.Proofs.Ytlfanphdnjoofaa
open Go.RowKit
set_option linter.unusedVariables false

def layB (X : List Item) (es : List Edit) : List Item := if riseB es then ap X es else X
/-- The items behind batches. -/
def lay (ess : List (List Edit)) : List Item := ess.foldl layB []
theorem lay_snoc (ess : List (List Edit)) (es : List Edit) : lay (ess ++ [es]) = layB (lay ess) es := by simp [lay]
theorem lay_can (ess : List (List Edit)) : Can (lay ess) := by
  have H : ∀ (ess : List (List Edit)) (X : List Item), Can X → Can (ess.foldl layB X) := by
    intro ess
    induction ess with
    | nil => intro X h; exact h
    | cons e r ih =>
      intro X h
      refine ih _ ?_
      unfold layB
      split
      · exact ap_can h
      · exact h
  exact H ess [] Can.nil
theorem layB_len {X : List Item} (h : Can X) (es : List Edit) : (layB X es).length ≤ X.length + es.length := by
  unfold layB
  split
  · exact ap_len es h
  · omega
theorem layB_kOk {X : List Item} {es : List Edit} (h : kOk X) (h2 : eOk es) : kOk (layB X es) := by
  unfold layB
  split
  · exact ap_kOk h h2
  · exact h
/-- A story under way: k batches are done. -/
structure Run (ess : List (List Edit)) (k : Nat) (σ : TapeS) (top : Ref) : Prop where
  tr : Tr σ.er 16 top (lay (ess.take k))
  kok : kOk (lay (ess.take k))
  len : (lay (ess.take k)).length ≤ (ess.take k).flatten.length
  lost : σ.lost = 0
  most : σ.most = 1073741824
  nodes : 5 * σ.nodes.length ≤ k * (21 * ess.flatten.length)
  log : 5 * σ.log.length ≤ k * (106 * ess.flatten.length)
theorem be_le {B E : Nat} (h : B + E ≤ 600) : B * E ≤ 90000 := by
  have h1 : ∀ B, B < 601 → B * (600 - B) ≤ 90000 := by decide +kernel
  exact Nat.le_trans (Nat.mul_le_mul_left B (by omega)) (h1 B (by omega))
theorem Run.small {ess : List (List Edit)} {k : Nat} {σ : TapeS} {top : Ref} (h : Run ess k σ top) (hk : k ≤ ess.length) (hN : ess.length + ess.flatten.length ≤ 600) :
    σ.nodes.length ≤ 400000 ∧ σ.log.length ≤ 2000000 ∧ (lay (ess.take k)).length ≤ ess.flatten.length := by
  have h1 := h.nodes
  have h2 := h.log
  have h3 := be_le hN
  have h4 : k * (21 * ess.flatten.length) ≤ 21 * 90000 := by
    rw [← Nat.mul_assoc, Nat.mul_comm k 21, Nat.mul_assoc]
    exact Nat.mul_le_mul_left _ (Nat.le_trans (Nat.mul_le_mul_right _ hk) h3)
  have h5 : k * (106 * ess.flatten.length) ≤ 106 * 90000 := by
    rw [← Nat.mul_assoc, Nat.mul_comm k 106, Nat.mul_assoc]
    exact Nat.mul_le_mul_left _ (Nat.le_trans (Nat.mul_le_mul_right _ hk) h3)
  have h6 := h.len
  have h7 : (ess.take k).flatten.length ≤ ess.flatten.length := by
    have : ess.flatten = (ess.take k).flatten ++ (ess.drop k).flatten := by rw [← List.flatten_append, List.take_append_drop]
    rw [this, List.length_append]; omega
  omega
theorem Run.zero (ess : List (List Edit)) {σ : TapeS} (h0 : σ.lost = 0) (hm : σ.most = 1073741824) (hn : σ.nodes = []) (hl : σ.log = []) : Run ess 0 σ ⟨0, 0⟩ := by
  refine ⟨⟨fun _ => .inl ⟨rfl, rfl⟩, fun h => absurd h (Nat.not_lt_zero _)⟩, (fun _ h => nomatch h), Nat.zero_le _, h0, hm, ?_, ?_⟩
  · rw [hn]; exact Nat.zero_le _
  · rw [hl]; exact Nat.zero_le _
/-- One batch more. -/
theorem Run.step {ess : List (List Edit)} {k : Nat} {σ : TapeS} {top : Ref} {es : List Edit} (h : Run ess k σ top) (hN : ess.length + ess.flatten.length ≤ 600) (he : ess[k]? = some es) (hk : eOk es) :
    fitC σ top es ∧ (((chgM σ.er top es).1.err = 0 ∧ ∀ σ' : TapeS, σ'.er = (chgM σ.er top es).2 → Run ess (k + 1) σ' (chgM σ.er top es).1.top) ∨ ((chgM σ.er top es).1.err = 131 ∧ ∀ σ' : TapeS, σ'.er = (chgM σ.er top es).2 → Run ess (k + 1) σ' top)) := by
  obtain ⟨hkl, he2⟩ := List.getElem?_eq_some_iff.1 he
  have hs := h.small (by omega) hN
  have hfl := flat_le he
  have hX := lay_can (ess.take k)
  have htake : ess.take (k + 1) = ess.take k ++ [es] := by rw [List.take_succ_eq_append_getElem hkl, he2]
  have hlay : lay (ess.take (k + 1)) = layB (lay (ess.take k)) es := by rw [htake, lay_snoc]
  have hfl2 : (ess.take (k + 1)).flatten.length = (ess.take k).flatten.length + es.length := by rw [htake, List.flatten_append, List.length_append]; simp
  have hlen2 := layB_len hX es
  have hlen := h.len
  have e1 : σ.er.nodes.length = σ.nodes.length := by simp [TapeS.er]
  have e2 : σ.er.log.length = σ.log.length := by simp [TapeS.er]
  have hmost : σ.er.most = 1073741824 := h.most
  obtain ⟨hf, hc⟩ := chg_spec h.tr hX h.kok hk (by omega) h.lost (by rw [e1, hmost]; omega)
  refine ⟨fitC_er hf, ?_⟩
  have F1 : ∀ σ' : TapeS, σ'.nodes.length = σ'.er.nodes.length := fun σ' => by simp [TapeS.er]
  have F2 : ∀ σ' : TapeS, σ'.log.length = σ'.er.log.length := fun σ' => by simp [TapeS.er]
  have hn := h.nodes
  have hl := h.log
  have hs1 : (k + 1) * (21 * ess.flatten.length) = k * (21 * ess.flatten.length) + 21 * ess.flatten.length := Nat.succ_mul _ _
  have hs2 : (k + 1) * (106 * ess.flatten.length) = k * (106 * ess.flatten.length) + 106 * ess.flatten.length := Nat.succ_mul _ _
  cases hr : riseB es
  · have hlB : layB (lay (ess.take k)) es = lay (ess.take k) := by unfold layB; rw [hr]; rfl
    rw [chgM_rise hr]
    refine .inr ⟨rfl, fun σ' hσ => ?_⟩
    have f1 := F1 σ'
    have f2 := F2 σ'
    have hσ : σ'.er = σ.er := hσ
    refine ⟨by rw [hlay, hlB, hσ]; exact h.tr, by rw [hlay, hlB]; exact h.kok, by rw [hlay, hlB]; omega, ?_, ?_, ?_, ?_⟩
    · have : σ'.er.lost = 0 := by rw [hσ]; exact h.lost
      exact this
    · have : σ'.er.most = 1073741824 := by rw [hσ]; exact h.most
      exact this
    · rw [f1, hσ]; omega
    · rw [f2, hσ]; omega
  · have hlB : layB (lay (ess.take k)) es = ap (lay (ess.take k)) es := by unfold layB; rw [hr]; rfl
    obtain ⟨top', P, S, σ2, eb, hb, hfr, hgr, eL, ec, ht, hx, hlz, hg⟩ := hc hr
    rw [ec]
    refine .inl ⟨rfl, fun σ' hσ => ?_⟩
    have f1 := F1 σ'
    have f2 := F2 σ'
    have hσ : σ'.er = σ2 := hσ
    have hap : (ap (lay (ess.take k)) es).length ≤ ess.flatten.length := by rw [← hlB]; omega
    have hx1 := hx.len
    have hx2 : σ2.log.length = S.σ.log.length + P.lz := by
      obtain ⟨_, _, _, _, G, g1, g2, _⟩ := hx
      rw [g1, List.length_append, g2]
    have hgl := hgr.log
    have hgl : (S.σ.log.length : Int) + 0 ≤ σ.er.log.length + S.got := hgl
    refine ⟨by rw [hlay, hlB, hσ]; exact ht, by rw [hlay, hlB]; exact ap_kOk h.kok hk, by rw [hlay]; omega, ?_, ?_, ?_, ?_⟩
    · have : σ'.er.lost = 0 := by rw [hσ, hx.lost, hfr.lost]; exact h.lost
      exact this
    · have : σ'.er.most = 1073741824 := by rw [hσ, hx.most, hfr.most]; exact h.most
      exact this
    · rw [f1, hσ, hx1, hfr.nodes]; omega
    · rw [f2, hσ, hx2]; omega
/-! ### The bounds of one edit -/
abbrev TapeS.clear (σ : TapeS) : TapeS := { σ with log := [] }
theorem clear_ex (σ : TapeS) : Ex σ σ.clear := fun _ _ h => h
theorem clear_er (σ : TapeS) : σ.clear.er = σ.er.clear := rfl
/-- How many nodes a list of deeds has got. -/
def gets (l : List Dd) : Nat := l.countP fun x => !x.al
theorem bounds_spec {ess : List (List Edit)} {σ : TapeS} {top : Ref} {e : Edit} (hr : Run ess ess.length σ top) (hN : ess.length + ess.flatten.length ≤ 600) (hk : e.it.key.size < 9223372036854775807) :
    ((findM e.it.key 17 ⟨σ.clear, 0, []⟩ top 0).1.err = 0 ∧ (findM e.it.key 17 ⟨σ.clear, 0, []⟩ top 0).2.σ.log.length ≤ 17 ∧ (findM e.it.key 17 ⟨σ.clear, 0, []⟩ top 0).2.σ.clear.er = σ.clear.er) ∧
    ∀ σ1 : TapeS, σ1.er = σ.clear.er → fitC σ1 top [e] ∧ (chgM σ1.er top [e]).1.err = 0 ∧ ∀ σ2 : TapeS, σ2.er = (chgM σ1.er top [e]).2 → gets σ2.log ≤ 21 ∧ σ2.log.length ≤ gets σ2.log + 21 ∧ σ2.log.length ≤ 1000 := by
  have hs := hr.small (Nat.le_refl _) hN
  have hT := hr.tr
  have hX := lay_can (ess.take ess.length)
  have hlen := hr.len
  have hTk := hr.kok
  rw [List.take_length] at hT hX hlen hTk
  constructor
  · have h1 := findM_er e.it.key 17 ⟨σ.clear, 0, []⟩ top 0
    have hTc : Tr (St.er ⟨σ.clear, 0, []⟩).σ 16 top (lay ess) := Tr.ex (clear_ex σ.er) 16 hT
    obtain ⟨o, S', ef, hfr, hgr, hg, ho⟩ := findM_spec e.it.key 16 (by omega) (St.er ⟨σ.clear, 0, []⟩) top (lay ess) hTc (by show (0 : Int) + _ ≤ _; omega)
    rw [show findM e.it.key 17 (St.er ⟨σ.clear, 0, []⟩) top 0 = (o, S') from ef] at h1
    generalize findM e.it.key 17 ⟨σ.clear, 0, []⟩ top 0 = F at h1 ⊢
    injection h1 with h2 h3
    refine ⟨?_, ?_, ?_⟩
    · rw [← h2]
      rcases ho with ⟨x, _, _, h⟩ | ⟨_, h⟩ <;> rw [h] <;> rfl
    · have hl : F.2.σ.log.length = S'.σ.log.length := by rw [h3]; simp [TapeS.er]
      have h4 := hgr.log
      have h4 : (S'.σ.log.length : Int) + 0 ≤ ((0 : Nat) : Int) + S'.got := h4
      have hg : S'.got ≤ 0 + _ := hg
      omega
    · have h5 : F.2.er.σ = S'.σ := by rw [h3]
      show F.2.er.σ.clear = σ.er.clear
      rw [h5]
      have a1 := hfr.nodes
      have a2 := hfr.lost
      have a3 := hfr.most
      have a4 := hfr.got
      cases hS : S'.σ with
      | mk n m lo lg g =>
        rw [hS] at a1 a2 a3 a4
        show TapeS.mk n m lo [] g = _
        subst a1 a2 a3 a4
        rfl
  · intro σ1 hσ1
    have hTc : Tr σ1.er 16 top (lay ess) := by rw [hσ1]; exact Tr.ex (clear_ex σ.er) 16 hT
    have e1 : σ1.er.nodes.length = σ.nodes.length := by rw [hσ1]; simp [TapeS.er]
    have hkO : eOk [e] := fun x hx => by rw [List.mem_singleton] at hx; rw [hx]; exact hk
    have hl0 : σ1.er.lost = 0 := by rw [hσ1]; exact hr.lost
    have hm0 : σ1.er.most = 1073741824 := by rw [hσ1]; exact hr.most
    obtain ⟨hf, hc⟩ := chg_spec (es := [e]) hTc hX hTk hkO (by show _ + 1 ≤ _; omega) hl0 (by rw [hm0, e1]; show _ + 17 * (((lay ess).length + 1 : Nat) : Int) ≤ _; omega)
    refine ⟨fitC_er hf, ?_⟩
    obtain ⟨top', P, S, σ3, eb, hb, hfr, hgr, eL, ec, ht, hx, hlz, hg⟩ := hc rfl
    have hmul : (16 + 1) * (lay ess).length ≤ (16 + 1) * 600 := Nat.mul_le_mul_left _ (by omega)
    obtain ⟨o1, o2⟩ := becM_one 16 (by omega) ⟨σ1.er, 0, []⟩ top (lay ess) e hTc hX hTk hkO (by omega) (by show (0 : Int) + _ ≤ _; omega) P S eb
    obtain ⟨G, g1, g2, g3⟩ := becM_rel Lg.stp (16 + 1) ⟨σ1.er, 0, []⟩ top [e]
    rw [show becM (16 + 1) ⟨σ1.er, 0, []⟩ top [e] = (some P, S) from eb] at g1 g2
    have g1 : S.σ.log = σ1.er.log ++ G := g1
    have g2 : (G.length : Int) + 0 ≤ S.got := g2
    obtain ⟨_, _, _, _, A, a1, a2, a3⟩ := hx
    have hfg := P.fg_le
    have o1 : S.got ≤ 0 + ((16 + 1 : Nat) : Int) + (P.fg : Int) := o1
    rw [ec]
    refine ⟨rfl, fun σ2 hσ2 => ?_⟩
    have hσ2 : σ2.er = σ3 := hσ2
    have hlog : σ2.log.map Dd.er = G ++ A := by
      show σ2.er.log = _
      rw [hσ2, a1, g1, hσ1]; rfl
    have hgets : gets σ2.log = G.length := by
      have h1 : gets σ2.log = gets (σ2.log.map Dd.er) := by unfold gets; rw [List.countP_map]; rfl
      rw [h1, hlog]
      unfold gets
      rw [List.countP_append, List.countP_eq_length.2 fun x hx => by rw [g3 x hx]; rfl, List.countP_eq_zero.2 fun x hx => by rw [a3 x hx]; simp]
      rfl
    have hll : σ2.log.length = G.length + A.length := by rw [← List.length_append, ← hlog, List.length_map]
    refine ⟨by omega, by omega, by omega⟩
end Go.Proofs.Ytlfanphdnjoofaa
