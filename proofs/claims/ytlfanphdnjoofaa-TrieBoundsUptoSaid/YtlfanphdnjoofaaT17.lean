/- Walks: what becomes of a tree. -/
import Derived.Test.YtlfanphdnjoofaaT16
import Derived.Test.YtlfanphdnjoofaaM
import Derived.Test.YtlfanphdnjoofaaT9
namespace Go.Proofs.Ytlfanphdnjoofaa
open Go.RowKit
set_option linter.unusedSimpArgs false
set_option linter.unusedVariables false
attribute [local irreducible] wpList Code.wp Calls OpS wpG

def zeroPl : PlC := ⟨false, ⟨0, 0⟩, 0, 0, false, nilS, nilS⟩
/-- The plan that a call tells; or it is lost. -/
def PlR (o : Option Pl) (w : World) (g : Tg) (c : PlC) : Prop := match o with
  | none => c = zeroPl
  | some P => PlM P w g c
theorem PlR.mv {o : Option Pl} {U : Nat → Prop} {w w' : World} {g g' : Tg} {c : PlC} (h : PlR o w g c) (m : Mv U w g w' g') (hn : ¬ U 0) : PlR o w' g' c := by
  cases o with
  | none => exact h
  | some P => exact PlM.mv m hn P c h
theorem PlM.mv2 {P : Pl} {U : Nat → Prop} {w w' : World} {g g' : Tg} {c : PlC} (h : PlM P w g c) (m : Mv U w g w' g') (hn : ¬ U 0) : PlM P w' g' c := PlM.mv m hn P c h
def errO {α : Type} (o : Option α) : Int := if o.isSome then 0 else 130
theorem PlM.stays {P : Pl} {w : World} {g : Tg} {c : PlC} (h : PlM P w g c) : c.stays = P.stays := by
  cases P with
  | stay r => rw [show c = _ from h]; rfl
  | leaf had its => obtain ⟨sl, rfl, _⟩ := h; rfl
  | branch had cnt k => obtain ⟨kl, rfl, _⟩ := h; rfl
theorem PlM.stay_of {P : Pl} {w : World} {g : Tg} {c : PlC} (h : PlM P w g c) (hs : c.stays = true) : P = .stay c.ref := by
  cases P with
  | stay r => rw [show c = _ from h]
  | leaf had its => obtain ⟨sl, rfl, _⟩ := h; cases hs
  | branch had cnt k => obtain ⟨kl, rfl, _⟩ := h; cases hs
theorem PlM.cnt {P : Pl} {w : World} {g : Tg} {c : PlC} (h : PlM P w g c) : c.cnt = P.cnt ∧ c.had = P.had := by
  cases P with
  | stay r => rw [show c = _ from h]; exact ⟨rfl, rfl⟩
  | leaf had its => obtain ⟨sl, rfl, _⟩ := h; exact ⟨rfl, rfl⟩
  | branch had cnt k => obtain ⟨kl, rfl, _⟩ := h; exact ⟨rfl, rfl⟩
structure StOk (S : St) : Prop where
  nodes : S.σ.nodes.length ≤ 10000000
  log : S.σ.log.length ≤ 10000000
  got0 : 0 ≤ S.got
  got1 : S.got ≤ 1048576
  rs : S.rs.length ≤ 10000000
theorem StOk.at {S S1 : St} (h : StOk S) (g : Gr S S1) : S1.σ.nodes.length ≤ 100000000 ∧ S1.σ.log.length ≤ 100000000 ∧ 0 ≤ S1.got ∧ S1.rs.length ≤ 100000000 ∧ S1.got ≤ 1048576 := by
  have h1 := h.nodes; have h2 := h.log; have h3 := h.got0; have h4 := h.got1; have h5 := h.rs
  have k1 := g.nodes; have k2 := g.log; have k3 := g.got; have k4 := g.cap h4; have k5 := g.rs
  rw [k1]
  omega
section
variable {kid : Nat → Pl} {l k d : Nat} {acc : List Item} {S : St}
theorem fallKids_new (h : (kid d).stays = false) : fallKids kid l (k + 1) d acc S = fallKids kid l k (d + 1) (acc ++ (kid d).all) S := by
  rw [fallKids]
  cases hk : kid d with
  | stay r => rw [hk] at h; cases h
  | leaf _ _ => rfl
  | branch _ _ _ => rfl
theorem fallKids_none {r : Ref} (h : kid d = .stay r) (hr : r.none = true) : fallKids kid l (k + 1) d acc S = fallKids kid l k (d + 1) acc S := by
  rw [fallKids, h]
  simp only [hr, cond_true]
theorem fallKids_lost {r : Ref} (h : kid d = .stay r) (hr : r.none = false) (hn : S.node r l = none) : fallKids kid l (k + 1) d acc S = (none, S.seen r) := by
  rw [fallKids, h]
  simp only [hr, cond_false, hn]
theorem fallKids_got {r : Ref} {nd : Nd} (h : kid d = .stay r) (hr : r.none = false) (hn : S.node r l = some nd) : fallKids kid l (k + 1) d acc S = fallKids kid l k (d + 1) (acc ++ nd.its) ((S.seen r).ret r (S.seen r).got) := by
  rw [fallKids, h]
  simp only [hr, cond_false, hn]
theorem fitFall_new (h : (kid d).stays = false) (hf : fitFall kid l (k + 1) d acc S) : (acc ++ (kid d).all).length ≤ 100000 ∧ fitFall kid l k (d + 1) (acc ++ (kid d).all) S := by
  rw [fitFall] at hf
  cases hk : kid d with
  | stay r => rw [hk] at h; cases h
  | leaf _ _ => rw [hk] at hf; exact hf.2
  | branch _ _ _ => rw [hk] at hf; exact hf.2
theorem fitFall_none {r : Ref} (h : kid d = .stay r) (hr : r.none = true) (hf : fitFall kid l (k + 1) d acc S) : fitFall kid l k (d + 1) acc S := by
  rw [fitFall, h] at hf
  exact hf.2.1 hr
theorem fitFall_got {r : Ref} {nd : Nd} (h : kid d = .stay r) (hr : r.none = false) (hn : S.node r l = some nd) (hf : fitFall kid l (k + 1) d acc S) : (acc ++ nd.its).length ≤ 100000 ∧ fitFall kid l k (d + 1) (acc ++ nd.its) ((S.seen r).ret r (S.seen r).got) := by
  rw [fitFall, h] at hf
  have := hf.2.2 hr
  rw [hn] at this
  exact this
end
theorem KidsM.add {kid : Nat → Pl} {w : World} {g : Tg} {cs : List PlC} {P : Pl} {c : PlC} (h : KidsM kid w g cs) (hc : PlM P w g c) {d : Nat} (hd : cs.length = d) : KidsM (upd kid d P) w g (cs ++ [c]) := by
  subst hd
  refine KidsM.snoc (f := upd kid cs.length P) (fun i x hx => ?_) (by simpa [upd] using hc)
  have hi : i < cs.length := (List.getElem?_eq_some_iff.1 hx).1
  have : upd kid cs.length P i = kid i := by
    have : Nat.beq i cs.length = false := beq_false (by omega)
    simp [upd, this]
  rw [this]; exact h i x hx
theorem KA.add_kid (a : KA) (d : Nat) (p : Pl) : (a.add d p).kid = upd a.kid d p := by unfold KA.add; cases p.stays <;> rfl
theorem KA.add_stay {a : KA} {d : Nat} {p : Pl} (h : p.stays = true) : (a.add d p).cnt = a.cnt ∧ (a.add d p).ch = a.ch := by unfold KA.add; rw [h]; exact ⟨rfl, rfl⟩
theorem KA.add_new {a : KA} {d : Nat} {p : Pl} (h : p.stays = false) : (a.add d p).cnt = IntKind.i64.wrap (a.cnt + IntKind.i64.wrap (p.cnt - p.had)) ∧ (a.add d p).ch = true := by unfold KA.add; rw [h]; exact ⟨rfl, rfl⟩
theorem fallEnd_err (had : Int) (F : Option (List Item) × St) : errO (fallEnd had F).1 = errO F.1 := by
  rcases F with ⟨_ | its, S⟩ <;> rfl
theorem ps_at (ps : Nat → Sli) (d : Nat) (hd : d < 16) : (psCells ps)[d]? = some (.slice (ps d).a (ps d).n (ps d).c) := by
  have := ps_get ps d hd
  rwa [Nat.zero_add, Nat.mul_one] at this

theorem nodeN_c (τ q p : Nat) (S : St) (r : Ref) (l : Nat) (w : World) (γ : Tg) (hM : SM τ w γ q p S) (hτ : 2 ≤ τ) (h1 : S.σ.nodes.length ≤ 100000000) (h2 : S.σ.log.length ≤ 100000000) (h3 : 0 ≤ S.got) (hn : S.node r l = none) :
    Calls Try.prog 36 #[.pointer (some ⟨q, 0, none⟩), .agg r.cells.toArray, .int .i64 ((l : Nat) : Int)] w fun ε w' => ∃ (γ' : Tg) (s' : Sli), ε = .returned (.tuple #[.agg (Nd.zero.at s').cells.toArray, .int .i64 (S.seen r).got, .int .i64 130]) ∧ Mv (Rg τ (τ + 5)) w γ w' γ' ∧ SM τ w' γ' q p (S.seen r) := by
  have h := node_c τ q p S r l w γ hM hτ h1 h2 h3
  rw [hn] at h
  exact h.mono fun e w' ⟨g', s', h1, h2, h3, _⟩ => ⟨g', s', h1, h2, h3⟩
theorem nodeS_c (τ q p : Nat) (S : St) (r : Ref) (l : Nat) (nd : Nd) (w : World) (γ : Tg) (hM : SM τ w γ q p S) (hτ : 2 ≤ τ) (h1 : S.σ.nodes.length ≤ 100000000) (h2 : S.σ.log.length ≤ 100000000) (h3 : 0 ≤ S.got) (hn : S.node r l = some nd) :
    Calls Try.prog 36 #[.pointer (some ⟨q, 0, none⟩), .agg r.cells.toArray, .int .i64 ((l : Nat) : Int)] w fun ε w' => ∃ (γ' : Tg) (s' : Sli), ε = .returned (.tuple #[.agg (nd.at s').cells.toArray, .int .i64 (S.seen r).got, .int .i64 0]) ∧ Mv (Rg τ (τ + 5)) w γ w' γ' ∧ SM τ w' γ' q p (S.seen r) ∧ Ls 7 Item.cells w' γ' s' nd.its ∧ (nd.its.length ≤ 100000) := by
  have h := node_c τ q p S r l w γ hM hτ h1 h2 h3
  rw [hn] at h
  exact h

set_option maxRecDepth 100000 in
set_option maxHeartbeats 1000000 in
theorem fallen_c (τ : Nat) (q : Nat) (p : Nat) (S : St) (had : Int) (cnt : Int) (kl : Sli) (cs : List PlC) (kid : Nat → Pl) (l : Nat) (F : Option (List Item) × St) (w : World) (γ : Tg) (hM : SM τ w γ q p S) (hτ : 2 ≤ τ) (hok : StOk S) (hks : Ls 8 PlC.cells w γ kl cs) (hcl : cs.length = 16) (hpm : KidsM kid w γ cs) (hfit : fitFall kid (l + 1) 16 0 [] S) (hF : fallKids kid (l + 1) 16 0 [] S = F) (hl : l ≤ 16) :
    Calls Try.prog 85 #[.pointer (some ⟨q, 0, none⟩), .agg #[.bool false, .int .i64 0, .int .i64 0, .int .i64 had, .int .i64 cnt, .bool false, .slice none 0 0, .slice kl.a kl.n kl.c], .int .i64 ((l : Nat) : Int)] w fun ε w' => ∃ (γ' : Tg) (c' : PlC), ε = .returned (.tuple #[.agg c'.cells.toArray, .int .i64 (errO F.1)]) ∧ Mv (Rg τ (τ + 5)) w γ w' γ' ∧ SM τ w' γ' q p F.2 ∧ PlR ((fallEnd had F).1) w' γ' c' := by
 obtain ⟨t0, ht0, hf0⟩ := fresh_tag w γ (τ + 5)
 have K0 := Kn.start (Lo (Rg τ (τ + 5)) t0) w γ
 refine W.enter (ws := [(2, .int .i64 ↑l), (1, .agg #[.bool false, .int .i64 0, .int .i64 0, .int .i64 had, .int .i64 cnt, .bool false, .slice none 0 0, .slice kl.a kl.n kl.c]), (0, .pointer (some ⟨q, 0, none⟩))]) 65 Try.func85 rfl (by kernel_rfl) ?_
 have n1 := hks.len
 refine wp_seq_k fun k1 hk1 => (wp_region_lit ?_)
 refine W.op (O.new 4 109 [.bool false, .int .i64 0, .int .i64 0, .int .i64 had, .int .i64 cnt, .bool false, .slice none 0 0, .slice kl.a kl.n kl.c] rfl rfl (by kernel_rfl) K0 fun b1 w1 g1 K1 M1 => ?_)
 refine W.op (O.new 6 109 [.bool false, .int .i64 0, .int .i64 0, .int .i64 0, .int .i64 0, .bool false, .slice none 0 0, .slice none 0 0] rfl rfl (by kernel_rfl) K1 fun b2 w2 g2 K2 M2 => ?_)
 refine Zb 7 (.int .i64 0) ?_
 refine wpList_nil (hk1 _ _ (wp_seq_k fun k2 hk2 => (wp_region_lit ?_)))
 refine Zb 8 (.slice none 0 0) ?_
 refine wpList_nil (hk2 _ _ (wp_seq_k fun k3 hk3 => (wp_seq_k fun k4 hk4 => (wp_region_lit ?_))))
 refine Zb 14 (.pointer (some ⟨b1, 7, none⟩)) ?_
 refine Zc 15 (.slice kl.a kl.n kl.c) (exec_load rfl rfl Ty107 ((K2.nth 1 rfl).cell 7)) ?_
 refine Zb 16 (.int .i64 (kl.n : Int)) ?_
 refine Zb 17 (.int .i64 0) ?_
 refine wpList_nil (hk4 _ _ (wp_block ?_))
 have hG1 : Gs t0 50 7 Item.cells w2 g2 nilS [] := Gs.nil _ _ _ _ Item.size
 have n2 := hG1.len
 have hhM_1 := hM.mv M1 quiet quiet quiet quiet quiet quiet
 have hhM_2 := hhM_1.mv M2 quiet quiet quiet quiet quiet quiet
 have hhpm_1 := hpm.mv M1 quiet
 have hhpm_2 := hhpm_1.mv M2 quiet
 have hhks_1 := hks.mv M1 quiet
 have hhks_2 := hhks_1.mv M2 quiet
 refine W.loop (fun (μ0 : Nat) (ws : List (Nat × Value)) (w' : World) => ∃ (k : Nat) (acc : List Item) (sa : Sli) (S1 : St) (γ' : Tg) (ρ0 : List (Nat × Value)), μ0 = 16 - k ∧ ws = ((17, .int .i64 ↑k) :: (16, .int .i64 (kl.n : Int)) :: (15, .slice kl.a kl.n kl.c) :: (8, .slice sa.a sa.n sa.c) :: (6, .pointer (some ⟨b2, 0, none⟩)) :: (4, .pointer (some ⟨b1, 0, none⟩)) :: (2, .int .i64 ↑l) :: (0, .pointer (some ⟨q, 0, none⟩)) :: ρ0) ∧ Kn (Lo (Rg τ (τ + 5)) t0) w γ [(b2, 109, [.bool false, .int .i64 0, .int .i64 0, .int .i64 0, .int .i64 0, .bool false, .slice none 0 0, .slice none 0 0]), (b1, 109, [.bool false, .int .i64 0, .int .i64 0, .int .i64 had, .int .i64 cnt, .bool false, .slice none 0 0, .slice kl.a kl.n kl.c])] w' γ' ∧ Mv (Lo (Rg 1 (τ + 5)) t0) w2 g2 w' γ' ∧ (k ≤ 16) ∧ (fallKids kid (l + 1) (16 - k) k acc S1 = F) ∧ (fitFall kid (l + 1) (16 - k) k acc S1) ∧ (Gr S S1) ∧ SM τ w' γ' q p S1 ∧ Gs t0 50 7 Item.cells w' γ' sa acc ∧ Ls 8 PlC.cells w' γ' kl cs ∧ KidsM kid w' γ' cs) (16 - 0) ((((((((look_eq (t := 0) (v := .pointer (some ⟨q, 0, none⟩)) rfl).trans (look_eq (t := 2) (v := .int .i64 ↑l) rfl)).trans (look_eq (t := 4) (v := .pointer (some ⟨b1, 0, none⟩)) rfl)).trans (look_eq (t := 6) (v := .pointer (some ⟨b2, 0, none⟩)) rfl)).trans (look_eq (t := 8) (v := .slice nilS.a nilS.n nilS.c) rfl)).trans (look_eq (t := 15) (v := .slice kl.a kl.n kl.c) rfl)).trans (look_eq (t := 16) (v := .int .i64 (kl.n : Int)) rfl)).trans (look_eq (t := 17) (v := .int .i64 ↑0) rfl)) ?_ ?_
 ·exact ⟨0, [], nilS, S, _, _, rfl, rfl, K2, Mv.refl _ _ _, Nat.zero_le _, hF, hfit, Gr.refl S, hhM_2, hG1, hhks_2, hhpm_2⟩
 ·rintro _ _ w3 ⟨k, acc, sa, S1, g3, r1, rfl, rfl, K3, M3, p1, p2, p3, p4, h1, h2, h3, h4⟩
  have n3 := h2.len
  have n4 := h3.len
  refine wp_seq_k fun k5 hk5 => (wp_region_lit ?_)
  by_cases t1 : ((k : Nat) : Int) < (kl.n : Int)
  ·refine Zc 18 (.bool true) (okv (by kernel_rfl) (congrArg Value.bool (decide_eq_true t1))) ?_
   refine wpList_nil (hk5 _ _ (wp_seq_k fun k6 hk6 => (W.cond true rfl (wp_skip (hk6 _ _ (wp_seq_k fun k7 hk7 => ?_))))))
   refine wp_block (wp_seq_k fun k8 hk8 => (wp_region_lit ?_))
   obtain ⟨x1, hx1⟩ := get_some (xs := cs) (i := k) (by omega)
   obtain ⟨b3, o1, ha1, hib1, hr1⟩ := h3.elt hx1
   refine Zc 19 (.pointer (some ⟨b3, o1 + k * 8, none⟩)) (exec_index (E := 109) (k := k) rfl (by kernel_rfl) (by kernel_rfl) rfl ha1 rfl hib1) ?_
   refine Zc 20 (.agg x1.cells.toArray) (exec_loads (cs := x1.cells) rfl rfl Ty109 rfl hr1.2.2) ?_
   refine W.op (O.new 10 109 [.bool false, .int .i64 0, .int .i64 0, .int .i64 0, .int .i64 0, .bool false, .slice none 0 0, .slice none 0 0] rfl rfl (by kernel_rfl) K3 fun b4 w4 g4 K4 M4 => ?_)
   refine W.op (O.sta 0 x1.cells rfl rfl rfl rfl rfl Ty109 rfl rfl rfl rfl K4 fun w5 K5 M5 => ?_)
   refine wpList_nil (hk8 _ _ (wp_block (wp_seq_k fun k9 hk9 => (wp_region_lit ?_))))
   refine Zb 22 (.pointer (some ⟨b4, 0, none⟩)) ?_
   rcases bsplit (x1.stays) with t2 | t2
   ·refine Zc 23 (.bool true) (okv (exec_load rfl rfl Ty4 ((K5.nth 0 rfl).cell 0)) (congrArg Value.bool t2)) ?_
    refine Zb 24 (.bool false) ?_
    refine Zb 21 (.bool false) ?_
    refine wpList_nil (hk9 _ _ (W.cond false rfl (wp_seq_k fun k10 hk10 => (wp_region_lit ?_))))
    refine Zb 30 (.pointer (some ⟨b4, 1, none⟩)) ?_
    refine Zc 31 (.agg #[.int .i64 x1.ref.num, .int .i64 x1.ref.gen]) (exec_loads (cs := [.int .i64 x1.ref.num, .int .i64 x1.ref.gen]) rfl rfl Ty31 rfl ((K5.nth 0 rfl).part 1 2)) ?_
    have hpm_1 := h4.mv M4 quiet
    have hpm_2 := hpm_1.mv M5 (neq (by omega))
    have hpk := hpm_2 k _ hx1
    have hF1 := p2
    have hf1 := p3
    rw [show 16 - k = (16 - (k + 1)) + 1 by omega] at hF1 hf1
    have hks := PlM.stay_of hpk t2
    refine W.op (O.call 32 35 #[.agg #[.int .i64 x1.ref.num, .int .i64 x1.ref.gen]] (by kernel_rfl) rfl (by kernel_rfl) ((none_c x1.ref.num x1.ref.gen w5 g4).mono ?_))
    rintro e1 w6 ⟨g5, rfl, M6⟩
    have K6 := K5.step M6 nt_le quiet
    rcases bsplit (x1.ref.num == 0 && x1.ref.gen == 0) with t3 | t3
    ·refine ⟨_, congrArg Ending.returned (congrArg Value.bool t3), ?_⟩
     refine Zb 33 (.bool false) ?_
     refine Zb 29 (.bool false) ?_
     refine wpList_nil (hk10 _ _ (W.cond false rfl (wp_skip (block_normal (block_normal (hk7 _ _ ?_))))))
     refine wp_region_lit ?_
     refine Zc 57 (.int .i64 ((k + 1 : Nat) : Int)) (okv (v := .int .i64 (IntKind.i64.wrap (((k : Nat) : Int) + 1))) (by kernel_rfl) (wrapn (by omega) (by omega))) ?_
     refine Zb 17 (.int .i64 ((k + 1 : Nat) : Int)) ?_
     refine wpList_nil ?_
     have hM_1 := h1.mv M4 quiet quiet quiet quiet quiet quiet
     have hM_2 := hM_1.mv M5 (neq (by omega)) (neq (by omega)) (neq (by omega)) (neq (by omega)) (neq (by omega)) (neq (by omega))
     have hM_3 := hM_2.mv M6 quiet quiet quiet quiet quiet quiet
     have hacc_1 := h2.mv M4 quiet
     have hacc_2 := hacc_1.mv M5 (neq (by omega))
     have hacc_3 := hacc_2.mv M6 quiet
     have hhks_3 := h3.mv M4 quiet
     have hhks_4 := hhks_3.mv M5 (neq (by omega))
     have hhks_5 := hhks_4.mv M6 quiet
     have hpm_3 := hpm_2.mv M6 quiet
     exact ⟨16 - (k + 1), _, by omega, ((((((((look_eq (t := 0) (v := .pointer (some ⟨q, 0, none⟩)) rfl).trans (look_eq (t := 2) (v := .int .i64 ↑l) rfl)).trans (look_eq (t := 4) (v := .pointer (some ⟨b1, 0, none⟩)) rfl)).trans (look_eq (t := 6) (v := .pointer (some ⟨b2, 0, none⟩)) rfl)).trans (look_eq (t := 8) (v := .slice sa.a sa.n sa.c) rfl)).trans (look_eq (t := 15) (v := .slice kl.a kl.n kl.c) rfl)).trans (look_eq (t := 16) (v := .int .i64 (kl.n : Int)) rfl)).trans (look_eq (t := 17) (v := .int .i64 (((k + 1) : Nat) : Int)) rfl)), ⟨(k + 1), acc, sa, S1, _, _, rfl, rfl, K6.tail, (((M3.trans (M4.mono nt_le)).trans (M5.mono (le_lo (eq_rg (by omega))))).trans (M6.mono nt_le)), by omega, (fallKids_none hks t3).symm.trans hF1, fitFall_none hks t3 hf1, p4, hM_3, hacc_3, hhks_5, hpm_3⟩⟩
    ·refine ⟨_, congrArg Ending.returned (congrArg Value.bool t3), ?_⟩
     refine Zb 33 (.bool true) ?_
     refine Zb 29 (.bool true) ?_
     refine wpList_nil (hk10 _ _ (W.cond true rfl (wp_seq_k fun k11 hk11 => (wp_region_lit ?_))))
     refine Zb 35 (.pointer (some ⟨q, 0, none⟩)) ?_
     refine Zb 36 (.pointer (some ⟨b4, 1, none⟩)) ?_
     refine Zc 37 (.agg #[.int .i64 x1.ref.num, .int .i64 x1.ref.gen]) (exec_loads (cs := [.int .i64 x1.ref.num, .int .i64 x1.ref.gen]) rfl rfl Ty31 rfl ((K6.nth 0 rfl).part 1 2)) ?_
     refine Zb 38 (.int .i64 ↑l) ?_
     refine Zc 39 (.int .i64 ((l + 1 : Nat) : Int)) (okv (v := .int .i64 (IntKind.i64.wrap (((l : Nat) : Int) + 1))) (by kernel_rfl) (wrapn (by omega) (by omega))) ?_
     have hst := hok.at p4
     have hM_4 := h1.mv M4 quiet quiet quiet quiet quiet quiet
     have hM_5 := hM_4.mv M5 (neq (by omega)) (neq (by omega)) (neq (by omega)) (neq (by omega)) (neq (by omega)) (neq (by omega))
     have hM_6 := hM_5.mv M6 quiet quiet quiet quiet quiet quiet
     rcases hnd : (S1).node (⟨x1.ref.num, x1.ref.gen⟩ : Ref) (l + 1) with _ | nd9
     ·refine W.op (O.call 40 36 #[.pointer (some ⟨q, 0, none⟩), .agg #[.int .i64 x1.ref.num, .int .i64 x1.ref.gen], .int .i64 ((l + 1 : Nat) : Int)] (by kernel_rfl) rfl (by kernel_rfl) ((nodeN_c τ q p S1 (⟨x1.ref.num, x1.ref.gen⟩ : Ref) (l + 1) w6 g5 hM_6 (by omega) hst.1 hst.2.1 hst.2.2.1 hnd).mono ?_))
      rintro e2 w7 ⟨g6, s1, rfl, M7, hq1⟩
      have K7 := K6.step M7 (le_lo (fun _ h => h)) (nrg (by omega))
      refine ⟨_, rfl, ?_⟩
      refine Zb 34 (.tuple #[.agg ((Nd.zero.at s1).cells).toArray, .int .i64 ((S1.seen (⟨x1.ref.num, x1.ref.gen⟩ : Ref)).got), .int .i64 130]) ?_
      refine Zb 41 (.agg ((Nd.zero.at s1).cells).toArray) ?_
      refine Zb 42 (.int .i64 ((S1.seen (⟨x1.ref.num, x1.ref.gen⟩ : Ref)).got)) ?_
      refine Zb 43 (.int .i64 130) ?_
      refine W.op (O.new 11 66 Z66 rfl rfl (by kernel_rfl) K7 fun b5 w8 g8 K8 M9 => ?_)
      refine W.op (O.sta 0 (Nd.zero.at s1).cells rfl rfl rfl rfl rfl Ty66 rfl rfl rfl rfl K8 fun w9 K9 M10 => ?_)
      refine Zb 12 (.int .i64 ((S1.seen (⟨x1.ref.num, x1.ref.gen⟩ : Ref)).got)) ?_
      refine Zb 13 (.int .i64 130) ?_
      refine wpList_nil (hk11 _ _ (wp_seq_k fun k12 hk12 => (wp_seq_k fun k13 hk13 => (wp_region_lit ?_))))
      refine Zb 44 (.int .i64 130) ?_
      refine Zb 45 (.bool true) ?_
      refine wpList_nil (hk13 _ _ (W.cond true rfl (wp_seq_k fun k14 hk14 => (wp_region_lit ?_))))
      refine Zb 46 (.agg #[.bool false, .int .i64 0, .int .i64 0, .int .i64 0, .int .i64 0, .bool false, .slice none 0 0, .slice none 0 0]) ?_
      refine Zb 47 (.int .i64 130) ?_
      refine W.op (O.sta 2 [.bool false, .int .i64 0, .int .i64 0, .int .i64 0, .int .i64 0, .bool false, .slice none 0 0, .slice none 0 0] rfl rfl rfl rfl rfl Ty109 rfl rfl rfl rfl K9 fun w10 K10 M11 => ?_)
      refine Zb 7 (.int .i64 130) ?_
      refine wpList_nil (hk14 _ _ (wp_ret (then_ret (block_ret (block_ret (then_ret ?_))))))
      refine then_ret (block_ret (then_ret (W.rets (vs := [.agg #[.bool false, .int .i64 0, .int .i64 0, .int .i64 0, .int .i64 0, .bool false, .slice none 0 0, .slice none 0 0], .int .i64 130]) rfl (.agg (cs := [.bool false, .int .i64 0, .int .i64 0, .int .i64 0, .int .i64 0, .bool false, .slice none 0 0, .slice none 0 0]) rfl Ty109 rfl ((K10.nth 2 rfl).all 8) (.tmp rfl .nil)) (by simp) ?_)))
      have hFn := (fallKids_lost hks t3 hnd).symm.trans hF1
      subst hFn
      have hM_7 := hq1.mv M9 quiet quiet quiet quiet quiet quiet
      have hM_8 := hM_7.mv M10 (neq (by omega)) (neq (by omega)) (neq (by omega)) (neq (by omega)) (neq (by omega)) (neq (by omega))
      have hM_9 := hM_8.mv M11 (neq (by omega)) (neq (by omega)) (neq (by omega)) (neq (by omega)) (neq (by omega)) (neq (by omega))
      exact ⟨_, zeroPl, rfl, (K10.mv.shut hf0), hM_9, rfl⟩
     ·refine W.op (O.call 40 36 #[.pointer (some ⟨q, 0, none⟩), .agg #[.int .i64 x1.ref.num, .int .i64 x1.ref.gen], .int .i64 ((l + 1 : Nat) : Int)] (by kernel_rfl) rfl (by kernel_rfl) ((nodeS_c τ q p S1 (⟨x1.ref.num, x1.ref.gen⟩ : Ref) (l + 1) nd9 w6 g5 hM_6 (by omega) hst.1 hst.2.1 hst.2.2.1 hnd).mono ?_))
      rintro e3 w11 ⟨g7, s2, rfl, M8, hq2, hq3, hq4⟩
      have K11 := K6.step M8 (le_lo (fun _ h => h)) (nrg (by omega))
      have n5 := hq3.len
      refine ⟨_, rfl, ?_⟩
      refine Zb 34 (.tuple #[.agg ((nd9.at s2).cells).toArray, .int .i64 ((S1.seen (⟨x1.ref.num, x1.ref.gen⟩ : Ref)).got), .int .i64 0]) ?_
      refine Zb 41 (.agg ((nd9.at s2).cells).toArray) ?_
      refine Zb 42 (.int .i64 ((S1.seen (⟨x1.ref.num, x1.ref.gen⟩ : Ref)).got)) ?_
      refine Zb 43 (.int .i64 0) ?_
      refine W.op (O.new 11 66 Z66 rfl rfl (by kernel_rfl) K11 fun b6 w12 g9 K12 M12 => ?_)
      refine W.op (O.sta 0 (nd9.at s2).cells rfl rfl rfl rfl rfl Ty66 rfl rfl rfl rfl K12 fun w13 K13 M13 => ?_)
      refine Zb 12 (.int .i64 ((S1.seen (⟨x1.ref.num, x1.ref.gen⟩ : Ref)).got)) ?_
      refine Zb 13 (.int .i64 0) ?_
      refine wpList_nil (hk11 _ _ (wp_seq_k fun k15 hk15 => (wp_seq_k fun k16 hk16 => (wp_region_lit ?_))))
      refine Zb 44 (.int .i64 0) ?_
      refine Zb 45 (.bool false) ?_
      refine wpList_nil (hk16 _ _ (W.cond false rfl (wp_skip (hk15 _ _ (wp_seq_k fun k17 hk17 => (wp_region_lit ?_))))))
      refine Zb 48 (.pointer (some ⟨q, 0, none⟩)) ?_
      refine Zb 49 (.pointer (some ⟨b4, 1, none⟩)) ?_
      refine Zc 50 (.agg #[.int .i64 x1.ref.num, .int .i64 x1.ref.gen]) (exec_loads (cs := [.int .i64 x1.ref.num, .int .i64 x1.ref.gen]) rfl rfl Ty31 rfl ((K13.nth 1 rfl).part 1 2)) ?_
      refine Zb 51 (.int .i64 ((S1.seen (⟨x1.ref.num, x1.ref.gen⟩ : Ref)).got)) ?_
      have hM_10 := hq2.mv M12 quiet quiet quiet quiet quiet quiet
      have hM_11 := hM_10.mv M13 (neq (by omega)) (neq (by omega)) (neq (by omega)) (neq (by omega)) (neq (by omega)) (neq (by omega))
      refine W.op (O.call 52 66 #[.pointer (some ⟨q, 0, none⟩), .agg #[.int .i64 x1.ref.num, .int .i64 x1.ref.gen], .int .i64 ((S1.seen (⟨x1.ref.num, x1.ref.gen⟩ : Ref)).got)] (by kernel_rfl) rfl (by kernel_rfl) ((retire_c τ q p (S1.seen (⟨x1.ref.num, x1.ref.gen⟩ : Ref)) (⟨x1.ref.num, x1.ref.gen⟩ : Ref) ((S1.seen (⟨x1.ref.num, x1.ref.gen⟩ : Ref)).got) w13 g9 hM_11 (by omega) (by have h9 := hok.at (p4.trans (Gr.seen S1 x1.ref)); exact h9.2.2.2.1)).mono ?_))
      rintro e4 w14 ⟨g10, rfl, M14, hq5⟩
      have K14 := K13.step M14 (le_lo (fun _ h => h)) (nrg (by omega))
      refine ⟨_, rfl, ?_⟩
      refine wpList_nil (hk17 _ _ (wp_region_lit ?_))
      refine Zb 53 (.slice sa.a sa.n sa.c) ?_
      refine Zb 54 (.pointer (some ⟨b6, 2, none⟩)) ?_
      refine Zc 55 (.slice s2.a s2.n s2.c) (exec_load rfl rfl Ty37 ((K14.nth 0 rfl).cell 2)) ?_
      have hfn := fitFall_got hks t3 hnd hf1
      have hf1_1 := hq3.mv M12 quiet
      have hf1_2 := hf1_1.mv M13 (neq (by omega))
      have hf1_3 := hf1_2.mv M14 (nrg (by omega))
      have hacc_4 := h2.mv M4 quiet
      have hacc_5 := hacc_4.mv M5 (neq (by omega))
      have hacc_6 := hacc_5.mv M6 quiet
      have hacc_7 := hacc_6.mv M8 (nrg (by omega))
      have hacc_8 := hacc_7.mv M12 quiet
      have hacc_9 := hacc_8.mv M13 (neq (by omega))
      have hacc_10 := hacc_9.mv M14 (nrg (by omega))
      refine W.op (O.append (f := Item.cells) 56 nd9.its (by kernel_rfl) rfl rfl (by kernel_rfl) El50 rfl rfl hacc_10 hf1_3.len hf1_3.src (fun _ => rfl) (by have h9 := hfn.1; rw [List.length_append] at h9; omega) (by have h9 := hfn.1; rw [List.length_append] at h9; omega) fun s3 w15 g11 hG2 M15 => ?_)
      have K15 := K14.step M15 (eq_lo (by omega)) (neq (by omega))
      have n6 := hG2.len
      refine Zb 8 (.slice s3.a s3.n s3.c) ?_
      refine wpList_nil (block_normal (block_normal (hk7 _ _ (wp_region_lit ?_))))
      refine Zc 57 (.int .i64 ((k + 1 : Nat) : Int)) (okv (v := .int .i64 (IntKind.i64.wrap (((k : Nat) : Int) + 1))) (by kernel_rfl) (wrapn (by omega) (by omega))) ?_
      refine Zb 17 (.int .i64 ((k + 1 : Nat) : Int)) ?_
      refine wpList_nil ?_
      have hM_12 := hq5.mv M15 (neq (by omega)) (neq (by omega)) (neq (by omega)) (neq (by omega)) (neq (by omega)) (neq (by omega))
      have hhks_6 := h3.mv M4 quiet
      have hhks_7 := hhks_6.mv M5 (neq (by omega))
      have hhks_8 := hhks_7.mv M6 quiet
      have hhks_9 := hhks_8.mv M8 (nrg (by omega))
      have hhks_10 := hhks_9.mv M12 quiet
      have hhks_11 := hhks_10.mv M13 (neq (by omega))
      have hhks_12 := hhks_11.mv M14 (nrg (by omega))
      have hhks_13 := hhks_12.mv M15 (neq (by omega))
      have hpm_4 := hpm_2.mv M6 quiet
      have hpm_5 := hpm_4.mv M8 (nrg (by omega))
      have hpm_6 := hpm_5.mv M12 quiet
      have hpm_7 := hpm_6.mv M13 (neq (by omega))
      have hpm_8 := hpm_7.mv M14 (nrg (by omega))
      have hpm_9 := hpm_8.mv M15 (neq (by omega))
      exact ⟨16 - (k + 1), _, by omega, ((((((((look_eq (t := 0) (v := .pointer (some ⟨q, 0, none⟩)) rfl).trans (look_eq (t := 2) (v := .int .i64 ↑l) rfl)).trans (look_eq (t := 4) (v := .pointer (some ⟨b1, 0, none⟩)) rfl)).trans (look_eq (t := 6) (v := .pointer (some ⟨b2, 0, none⟩)) rfl)).trans (look_eq (t := 8) (v := .slice s3.a s3.n s3.c) rfl)).trans (look_eq (t := 15) (v := .slice kl.a kl.n kl.c) rfl)).trans (look_eq (t := 16) (v := .int .i64 (kl.n : Int)) rfl)).trans (look_eq (t := 17) (v := .int .i64 (((k + 1) : Nat) : Int)) rfl)), ⟨(k + 1), (acc ++ nd9.its), s3, ((S1.seen x1.ref).ret x1.ref (S1.seen x1.ref).got), _, _, rfl, rfl, K15.tail.tail, ((((((((M3.trans (M4.mono nt_le)).trans (M5.mono (le_lo (eq_rg (by omega))))).trans (M6.mono nt_le)).trans (M8.mono (le_lo (rg_rg (by omega) (by omega))))).trans (M12.mono nt_le)).trans (M13.mono (le_lo (eq_rg (by omega))))).trans (M14.mono (le_lo (rg_rg (by omega) (by omega))))).trans (M15.mono (eq_lo (by omega)))), by omega, (fallKids_got hks t3 hnd).symm.trans hF1, hfn.2, p4.trans (Gr.ret hnd (Gr.refl _) _ _), hM_12, hG2, hhks_13, hpm_9⟩⟩
   ·refine Zc 23 (.bool false) (okv (exec_load rfl rfl Ty4 ((K5.nth 0 rfl).cell 0)) (congrArg Value.bool t2)) ?_
    refine Zb 24 (.bool true) ?_
    refine Zb 21 (.bool true) ?_
    refine wpList_nil (hk9 _ _ (W.cond true rfl (wp_region_lit ?_)))
    refine Zb 25 (.slice sa.a sa.n sa.c) ?_
    refine Zc 26 (.agg x1.cells.toArray) (exec_loads (cs := x1.cells) rfl rfl Ty109 rfl ((K5.nth 0 rfl).all 8)) ?_
    have hpm_10 := h4.mv M4 quiet
    have hpm_11 := hpm_10.mv M5 (neq (by omega))
    have hpk := hpm_11 k _ hx1
    have hF1 := p2
    have hf1 := p3
    rw [show 16 - k = (16 - (k + 1)) + 1 by omega] at hF1 hf1
    have hns : (kid k).stays = false := by rw [← PlM.stays hpk]; exact t2
    have hfn := fitFall_new hns hf1
    refine W.op (O.call 27 99 #[.agg x1.cells.toArray] (by kernel_rfl) rfl (by kernel_rfl) ((planAll_c (kid k) x1 (t0 + 31) w5 g4 hpk (by have h9 := hfn.1; rw [List.length_append] at h9; omega)).mono ?_))
    rintro e5 w16 ⟨g12, s4, rfl, M16, hq6⟩
    have K16 := K5.step M16 nt_le quiet
    have n7 := hq6.len
    refine ⟨_, rfl, ?_⟩
    have hacc_11 := h2.mv M4 quiet
    have hacc_12 := hacc_11.mv M5 (neq (by omega))
    have hacc_13 := hacc_12.mv M16 quiet
    refine W.op (O.append (f := Item.cells) 28 ((kid k).all) (by kernel_rfl) rfl rfl (by kernel_rfl) El50 rfl rfl hacc_13 hq6.len hq6.src (fun _ => rfl) (by have h9 := hfn.1; rw [List.length_append] at h9; omega) (by have h9 := hfn.1; rw [List.length_append] at h9; omega) fun s5 w17 g13 hG3 M17 => ?_)
    have K17 := K16.step M17 (eq_lo (by omega)) (neq (by omega))
    have n8 := hG3.len
    refine Zb 8 (.slice s5.a s5.n s5.c) ?_
    refine wpList_nil (block_normal (block_normal (hk7 _ _ (wp_region_lit ?_))))
    refine Zc 57 (.int .i64 ((k + 1 : Nat) : Int)) (okv (v := .int .i64 (IntKind.i64.wrap (((k : Nat) : Int) + 1))) (by kernel_rfl) (wrapn (by omega) (by omega))) ?_
    refine Zb 17 (.int .i64 ((k + 1 : Nat) : Int)) ?_
    refine wpList_nil ?_
    have hM_13 := h1.mv M4 quiet quiet quiet quiet quiet quiet
    have hM_14 := hM_13.mv M5 (neq (by omega)) (neq (by omega)) (neq (by omega)) (neq (by omega)) (neq (by omega)) (neq (by omega))
    have hM_15 := hM_14.mv M16 quiet quiet quiet quiet quiet quiet
    have hM_16 := hM_15.mv M17 (neq (by omega)) (neq (by omega)) (neq (by omega)) (neq (by omega)) (neq (by omega)) (neq (by omega))
    have hhks_14 := h3.mv M4 quiet
    have hhks_15 := hhks_14.mv M5 (neq (by omega))
    have hhks_16 := hhks_15.mv M16 quiet
    have hhks_17 := hhks_16.mv M17 (neq (by omega))
    have hpm_12 := hpm_11.mv M16 quiet
    have hpm_13 := hpm_12.mv M17 (neq (by omega))
    exact ⟨16 - (k + 1), _, by omega, ((((((((look_eq (t := 0) (v := .pointer (some ⟨q, 0, none⟩)) rfl).trans (look_eq (t := 2) (v := .int .i64 ↑l) rfl)).trans (look_eq (t := 4) (v := .pointer (some ⟨b1, 0, none⟩)) rfl)).trans (look_eq (t := 6) (v := .pointer (some ⟨b2, 0, none⟩)) rfl)).trans (look_eq (t := 8) (v := .slice s5.a s5.n s5.c) rfl)).trans (look_eq (t := 15) (v := .slice kl.a kl.n kl.c) rfl)).trans (look_eq (t := 16) (v := .int .i64 (kl.n : Int)) rfl)).trans (look_eq (t := 17) (v := .int .i64 (((k + 1) : Nat) : Int)) rfl)), ⟨(k + 1), (acc ++ (kid k).all), s5, S1, _, _, rfl, rfl, K17.tail, ((((M3.trans (M4.mono nt_le)).trans (M5.mono (le_lo (eq_rg (by omega))))).trans (M16.mono nt_le)).trans (M17.mono (eq_lo (by omega)))), by omega, (fallKids_new hns).symm.trans hF1, hfn.2, p4, hM_16, hG3, hhks_17, hpm_13⟩⟩
  ·refine Zc 18 (.bool false) (okv (by kernel_rfl) (congrArg Value.bool (decide_eq_false t1))) ?_
   refine wpList_nil (hk5 _ _ (wp_seq_k fun k18 hk18 => (W.cond false rfl (wp_exit (then_exit ?_)))))
   have hk9 : k = 16 := by omega
   have hFe := p2
   rw [hk9] at hFe
   have hfe : acc.length ≤ 100000 := by have h := p3; rw [hk9] at h; exact h
   refine then_exit (block_exit (hk3 _ _ (wp_seq_k fun k19 hk19 => (wp_region_G (SmL [(1, (fun ξ => ξ = t0))] w3 g3) (by kernel_rfl) ?_))))
   have K18 := K3.drew
   have M18 : Mv Nt w3 g3 w3.drew g3 := (Mv.refl _ _ _).drew
   refine Yb 0 58 (.pointer (some ⟨b1, 3, none⟩)) rfl (fun u => by kernel_rfl) ?_
   refine G.take 1 59 (.int .i64 had) rfl (by kernel_rfl) rfl (fun _ _ _ h => h) ((Mv.refl _ _ _).trans (M18.mono nt_le)).self (by kernel_rfl) (fun u hm => exec_load rfl rfl Ty3 ((K3.later 1 rfl hm (neq (by omega))).cell 3)) ?_
   refine Yb 2 60 (.slice sa.a sa.n sa.c) rfl (fun u => by kernel_rfl) ?_
   refine Yb 3 61 (.int .i64 (sa.n : Int)) rfl (fun u => by kernel_rfl) ?_
   refine Yb 4 62 (.slice sa.a sa.n sa.c) rfl (fun u => by kernel_rfl) ?_
   have hacc_14 := h2.mv M18 quiet
   refine G.op 5 (by kernel_rfl) rfl (O.call 63 37 #[.slice sa.a sa.n sa.c] (by kernel_rfl) rfl (by kernel_rfl) ((byKeyAll_c sa acc t0 w3.drew g3 hacc_14 (by omega) hfe).mono ?_))
   rintro e6 w18 ⟨g14, rfl, M19, hq7⟩
   have K19 := K18.step M19 (eq_lo (by omega)) (neq (by omega))
   have n9 := hq7.len
   refine ⟨_, rfl, ⟨(kp_keep (((Mv.refl _ _ _).trans (M18.mono nt_le)).trans (M19.mono (fun _ h => h))) kp_nil), ?_⟩⟩
   refine Yb 6 64 (.agg #[.bool false, .int .i64 0, .int .i64 0, .int .i64 had, .int .i64 (sa.n : Int), .bool true, .slice sa.a sa.n sa.c, .slice none 0 0]) rfl (fun u => by kernel_rfl) ?_
   refine G.op 7 (by kernel_rfl) rfl (O.sta 0 [.bool false, .int .i64 0, .int .i64 0, .int .i64 had, .int .i64 (sa.n : Int), .bool true, .slice sa.a sa.n sa.c, .slice none 0 0] rfl rfl rfl rfl rfl Ty109 rfl rfl rfl rfl K19 fun w19 K20 M20 => ⟨(kp_skip (by kernel_rfl) kp_nil), ?_⟩)
   refine Yb 8 7 (.int .i64 0) rfl (fun u => by kernel_rfl) ?_
   refine G.fin (by kernel_rfl) ?_
   refine hk19 _ _ (wp_ret (W.rets (vs := [.agg #[.bool false, .int .i64 0, .int .i64 0, .int .i64 had, .int .i64 (sa.n : Int), .bool true, .slice sa.a sa.n sa.c, .slice none 0 0], .int .i64 0]) rfl (.agg (cs := [.bool false, .int .i64 0, .int .i64 0, .int .i64 had, .int .i64 (sa.n : Int), .bool true, .slice sa.a sa.n sa.c, .slice none 0 0]) rfl Ty109 rfl ((K20.nth 0 rfl).all 8) (.tmp rfl .nil)) (by simp) ?_))
   have hacc_15 := hq7.mv M20 (neq (by omega))
   have M21 := Mv.recol w19 g14 t0 0
   have K21 := K20.step M21 (eq_lo (by omega)) (neq (by omega))
   have h5 := hacc_15.ice
   have hFe2 : (some acc, S1) = F := hFe
   subst hFe2
   have hac : ((sa.n : Nat) : Int) = (((isort ltItem acc).length : Nat) : Int) := by rw [isort_length]; omega
   have hM_17 := h1.mv M18 quiet quiet quiet quiet quiet quiet
   have hM_18 := hM_17.mv M19 (neq (by omega)) (neq (by omega)) (neq (by omega)) (neq (by omega)) (neq (by omega)) (neq (by omega))
   have hM_19 := hM_18.mv M20 (neq (by omega)) (neq (by omega)) (neq (by omega)) (neq (by omega)) (neq (by omega)) (neq (by omega))
   have hM_20 := hM_19.mv M21 (neq (by omega)) (neq (by omega)) (neq (by omega)) (neq (by omega)) (neq (by omega)) (neq (by omega))
   exact ⟨_, ⟨false, ⟨0, 0⟩, had, ((isort ltItem acc).length : Int), true, sa, nilS⟩, by rw [hac]; rfl, (K21.mv.shut hf0), hM_20, sa, rfl, h5⟩

set_option maxRecDepth 100000 in
set_option maxHeartbeats 1000000 in
theorem branch_step (τ : Nat) (q : Nat) (p : Nat) (S : St) (nd : Nd) (r : Ref) (gt : Int) (l : Nat) (s : Sli) (es : List Edit) (f : Nat → St → Option Pl × St) (fit : Nat → St → Prop) (F : Option KA × St) (w : World) (γ : Tg) (hM : SM τ w γ q p S) (hτ : 2 ≤ τ) (hok : StOk S) (hes : Ls 8 Edit.cells w γ s es) (hel : es.length ≤ 50000) (hky : ∀ e ∈ es, e.it.key.size < 9223372036854775807) (hl : l < 16) (hgr : ∀ d S, Gr S (f d S).2) (hret : ∀ S1, Gr S S1 → StOk (S1.ret r gt)) (hfit : fitKids f fit (fitDone (l + 1) r gt) 16 0 ⟨fun _ => .stay ⟨0, 0⟩, nd.cnt, false⟩ S) (hF : becKids f 16 0 ⟨fun _ => .stay ⟨0, 0⟩, nd.cnt, false⟩ S = F) (hrec : ∀ (j : Nat), j < 16 → ∀ (S1 : St) (sj : Sli) (v : World) (g : Tg), SM τ v g q p S1 → Gr S S1 → fit j S1 → Ls 8 Edit.cells v g sj (es.filter fun x => digitOf x.it.key l == j) → Calls Try.prog 45 #[.pointer (some ⟨q, 0, none⟩), .agg (nd.kid j).cells.toArray, .int .i64 ((l + 1 : Nat) : Int), .slice sj.a sj.n sj.c] v fun ε v' => ∃ (g' : Tg) (c' : PlC), ε = .returned (.tuple #[.agg c'.cells.toArray, .int .i64 (errO (f j S1).1)]) ∧ Mv (Rg τ (τ + 5)) v g v' g' ∧ SM τ v' g' q p (f j S1).2 ∧ PlR (f j S1).1 v' g' c') :
    Calls Try.prog 67 #[.pointer (some ⟨q, 0, none⟩), .agg nd.cells.toArray, .agg r.cells.toArray, .int .i64 gt, .int .i64 ((l : Nat) : Int), .slice s.a s.n s.c] w fun ε w' => ∃ (γ' : Tg) (c' : PlC), ε = .returned (.tuple #[.agg c'.cells.toArray, .int .i64 (errO (doneM (l + 1) r gt nd.cnt F).1)]) ∧ Mv (Rg τ (τ + 5)) w γ w' γ' ∧ SM τ w' γ' q p ((doneM (l + 1) r gt nd.cnt F).2) ∧ PlR ((doneM (l + 1) r gt nd.cnt F).1) w' γ' c' := by
 obtain ⟨t0, ht0, hf0⟩ := fresh_tag w γ (τ + 5)
 have K0 := Kn.start (Lo (Rg τ (τ + 5)) t0) w γ
 refine W.enter (ws := [(5, .slice s.a s.n s.c), (4, .int .i64 ↑l), (3, .int .i64 gt), (2, .agg r.cells.toArray), (1, .agg nd.cells.toArray), (0, .pointer (some ⟨q, 0, none⟩))]) 85 Try.func67 rfl (by kernel_rfl) ?_
 have n1 := hes.len
 refine wp_seq_k fun k1 hk1 => (wp_region_lit ?_)
 refine W.op (O.new 7 66 nd.cells rfl rfl (by kernel_rfl) K0 fun b1 w1 g1 K1 M1 => ?_)
 refine W.op (O.new 8 31 r.cells rfl rfl (by kernel_rfl) K1 fun b2 w2 g2 K2 M2 => ?_)
 refine W.op (O.new 12 109 [.bool false, .int .i64 0, .int .i64 0, .int .i64 0, .int .i64 0, .bool false, .slice none 0 0, .slice none 0 0] rfl rfl (by kernel_rfl) K2 fun b3 w3 g3 K3 M3 => ?_)
 refine Zb 13 (.int .i64 0) ?_
 refine wpList_nil (hk1 _ _ (wp_seq_k fun k2 hk2 => (wp_region_lit ?_)))
 refine Zb 20 (.pointer (some ⟨b1, 1, none⟩)) ?_
 refine Zc 21 (.int .i64 nd.cnt) (exec_load rfl rfl Ty3 ((K3.nth 2 rfl).cell 1)) ?_
 refine Zb 22 (.pointer (some ⟨b1, 1, none⟩)) ?_
 refine Zc 23 (.int .i64 nd.cnt) (exec_load rfl rfl Ty3 ((K3.nth 2 rfl).cell 1)) ?_
 refine Zb 24 (.agg #[.bool false, .int .i64 0, .int .i64 0, .int .i64 nd.cnt, .int .i64 nd.cnt, .bool false, .slice none 0 0, .slice none 0 0]) ?_
 refine W.op (O.new 14 109 [.bool false, .int .i64 0, .int .i64 0, .int .i64 0, .int .i64 0, .bool false, .slice none 0 0, .slice none 0 0] rfl rfl (by kernel_rfl) K3 fun b4 w4 g4 K4 M4 => ?_)
 refine W.op (O.sta 0 [.bool false, .int .i64 0, .int .i64 0, .int .i64 nd.cnt, .int .i64 nd.cnt, .bool false, .slice none 0 0, .slice none 0 0] rfl rfl rfl rfl rfl Ty109 rfl rfl rfl rfl K4 fun w5 K5 M5 => ?_)
 refine wpList_nil (hk2 _ _ (wp_seq_k fun k3 hk3 => (wp_region_lit ?_)))
 refine Zb 15 (.bool false) ?_
 refine wpList_nil (hk3 _ _ (wp_seq_k fun k4 hk4 => (wp_seq_k fun k5 hk5 => (wp_region_lit ?_))))
 refine Zb 25 (.slice s.a s.n s.c) ?_
 refine Zb 26 (.int .i64 ↑l) ?_
 have hhes_1 := hes.mv M1 quiet
 have hhes_2 := hhes_1.mv M2 quiet
 have hhes_3 := hhes_2.mv M3 quiet
 have hhes_4 := hhes_3.mv M4 quiet
 have hhes_5 := hhes_4.mv M5 (neq (by omega))
 refine W.op (O.call 27 84 #[.slice s.a s.n s.c, .int .i64 ↑l] (by kernel_rfl) rfl (by kernel_rfl) ((parted_c s es l w5 g4 hhes_5 (by omega) hky).mono ?_))
 rintro e1 w6 ⟨g5, ps, rfl, M6, hq1⟩
 have K6 := K5.step M6 nt_le quiet
 refine ⟨_, rfl, ?_⟩
 refine Zb 28 (.int .i64 0) ?_
 refine wpList_nil (hk5 _ _ (wp_block ?_))
 have hG1 : Gs t0 109 8 PlC.cells w6 g5 nilS [] := Gs.nil _ _ _ _ (fun _ => rfl)
 have n2 := hG1.len
 have hm1 : KidsM (fun _ => .stay ⟨0, 0⟩) w6 g5 [] := fun i c hc => by simp at hc
 have hhM_1 := hM.mv M1 quiet quiet quiet quiet quiet quiet
 have hhM_2 := hhM_1.mv M2 quiet quiet quiet quiet quiet quiet
 have hhM_3 := hhM_2.mv M3 quiet quiet quiet quiet quiet quiet
 have hhM_4 := hhM_3.mv M4 quiet quiet quiet quiet quiet quiet
 have hhM_5 := hhM_4.mv M5 (neq (by omega)) (neq (by omega)) (neq (by omega)) (neq (by omega)) (neq (by omega)) (neq (by omega))
 have hhM_6 := hhM_5.mv M6 quiet quiet quiet quiet quiet quiet
 refine W.loop (fun (μ0 : Nat) (ws : List (Nat × Value)) (w' : World) => ∃ (k : Nat) (a : KA) (cs : List PlC) (kl : Sli) (S1 : St) (γ' : Tg) (ρ0 : List (Nat × Value)), μ0 = 16 - k ∧ ws = ((28, .int .i64 ↑k) :: (27, .agg (psCells ps).toArray) :: (15, .bool a.ch) :: (14, .pointer (some ⟨b4, 0, none⟩)) :: (12, .pointer (some ⟨b3, 0, none⟩)) :: (8, .pointer (some ⟨b2, 0, none⟩)) :: (7, .pointer (some ⟨b1, 0, none⟩)) :: (4, .int .i64 ↑l) :: (3, .int .i64 gt) :: (0, .pointer (some ⟨q, 0, none⟩)) :: ρ0) ∧ Kn (Lo (Rg τ (τ + 5)) t0) w γ [(b4, 109, [.bool false, .int .i64 0, .int .i64 0, .int .i64 nd.cnt, .int .i64 a.cnt, .bool false, .slice none 0 0, .slice kl.a kl.n kl.c]), (b3, 109, [.bool false, .int .i64 0, .int .i64 0, .int .i64 0, .int .i64 0, .bool false, .slice none 0 0, .slice none 0 0]), (b2, 31, r.cells), (b1, 66, nd.cells)] w' γ' ∧ Mv (Lo (Rg 1 (τ + 5)) t0) w6 g5 w' γ' ∧ (k ≤ 16) ∧ (cs.length = k) ∧ (becKids f (16 - k) k a S1 = F) ∧ (fitKids f fit (fitDone (l + 1) r gt) (16 - k) k a S1) ∧ (Gr S S1) ∧ SM τ w' γ' q p S1 ∧ PtsE l w' γ' ps es ∧ Gs t0 109 8 PlC.cells w' γ' kl cs ∧ KidsM a.kid w' γ' cs) (16 - 0) ((((((((((look_eq (t := 0) (v := .pointer (some ⟨q, 0, none⟩)) rfl).trans (look_eq (t := 3) (v := .int .i64 gt) rfl)).trans (look_eq (t := 4) (v := .int .i64 ↑l) rfl)).trans (look_eq (t := 7) (v := .pointer (some ⟨b1, 0, none⟩)) rfl)).trans (look_eq (t := 8) (v := .pointer (some ⟨b2, 0, none⟩)) rfl)).trans (look_eq (t := 12) (v := .pointer (some ⟨b3, 0, none⟩)) rfl)).trans (look_eq (t := 14) (v := .pointer (some ⟨b4, 0, none⟩)) rfl)).trans (look_eq (t := 15) (v := .bool (⟨fun _ => .stay ⟨0, 0⟩, nd.cnt, false⟩ : KA).ch) rfl)).trans (look_eq (t := 27) (v := .agg (psCells ps).toArray) rfl)).trans (look_eq (t := 28) (v := .int .i64 ↑0) rfl)) ?_ ?_
 ·exact ⟨0, (⟨fun _ => .stay ⟨0, 0⟩, nd.cnt, false⟩ : KA), [], nilS, S, _, _, rfl, rfl, K6, Mv.refl _ _ _, Nat.zero_le _, rfl, hF, hfit, Gr.refl S, hhM_6, hq1, hG1, hm1⟩
 ·rintro _ _ w7 ⟨k, a, cs, kl, S1, g6, r1, rfl, rfl, K7, M7, p1, p2, p3, p4, p5, h1, h2, h3, h4⟩
  have n3 := h3.len
  refine wp_seq_k fun k6 hk6 => (wp_region_lit ?_)
  by_cases t1 : ((k : Nat) : Int) < 16
  ·refine Zc 29 (.bool true) (okv (by kernel_rfl) (congrArg Value.bool (decide_eq_true t1))) ?_
   refine wpList_nil (hk6 _ _ (wp_seq_k fun k7 hk7 => (W.cond true rfl (wp_skip (hk7 _ _ (wp_seq_k fun k8 hk8 => ?_))))))
   refine wp_block (wp_seq_k fun k9 hk9 => (wp_region_lit ?_))
   refine Zb 30 (.int .i64 ↑k) ?_
   refine Zc 31 (.slice ((ps k).a) ((ps k).n) ((ps k).c)) (exec_indexA1 (P := Try.prog) (E := 63) (cs := psCells ps) (k := k) (m := 16) rfl (by kernel_rfl) Ty63 rfl rfl (by omega) (ps_at ps k (by omega))) ?_
   refine Zb 16 (.int .i64 ↑k) ?_
   refine Zb 17 (.slice ((ps k).a) ((ps k).n) ((ps k).c)) ?_
   refine wpList_nil (hk9 _ _ (wp_seq_k fun k10 hk10 => (wp_region_lit ?_)))
   refine Zb 33 (.pointer (some ⟨q, 0, none⟩)) ?_
   refine Zb 34 (.int .i64 ↑k) ?_
   refine Zb 35 (.pointer (some ⟨b1, 3, none⟩)) ?_
   refine Zc 36 (.pointer (some ⟨b1, 3 + k * 2, none⟩)) (exec_indexA (P := Try.prog) (E := 31) (m := 16) (k := k) rfl (by kernel_rfl) (by kernel_rfl) rfl rfl (by omega)) ?_
   refine Zc 37 (.agg ((nd.kid k).cells).toArray) (exec_loads (cs := (nd.kid k).cells) rfl rfl Ty31 rfl (fun j hj => ((K7.nth 3 rfl).part (3 + k * 2) 2 j hj).trans (congrArg (fun l : List Value => l[j]?) (Nd.kid_cells nd _ (by omega))))) ?_
   refine Zb 38 (.int .i64 ↑l) ?_
   refine Zc 39 (.int .i64 ((l + 1 : Nat) : Int)) (okv (v := .int .i64 (IntKind.i64.wrap (((l : Nat) : Int) + 1))) (by kernel_rfl) (wrapn (by omega) (by omega))) ?_
   refine Zb 40 (.slice ((ps k).a) ((ps k).n) ((ps k).c)) ?_
   have hF1 := p3
   have hf1 := p4
   rw [show 16 - k = (16 - (k + 1)) + 1 by omega] at hF1 hf1
   have hps := h2 k (by omega)
   rcases hbk : f k S1 with ⟨_ | P9, S2⟩
   ·have hr9 := hrec k (by omega) S1 (ps k) w7 g6 h1 p5 hf1.1 hps
    rw [hbk] at hr9
    refine W.op (O.call 41 45 #[.pointer (some ⟨q, 0, none⟩), .agg ((nd.kid k).cells).toArray, .int .i64 ((l + 1 : Nat) : Int), .slice ((ps k).a) ((ps k).n) ((ps k).c)] (by kernel_rfl) rfl (by kernel_rfl) ((hr9).mono ?_))
    rintro e2 w8 ⟨g7, c1, rfl, M8, hq2, hq3⟩
    have K8 := K7.step M8 (le_lo (fun _ h => h)) (nrg (by omega))
    have hF2 : (none, S2) = F := by have h9 := hF1; unfold becKids at h9; rw [hbk] at h9; exact h9
    refine ⟨_, rfl, ?_⟩
    refine Zb 32 (.tuple #[.agg c1.cells.toArray, .int .i64 130]) ?_
    refine Zb 42 (.agg c1.cells.toArray) ?_
    refine Zb 43 (.int .i64 130) ?_
    refine W.op (O.new 18 109 [.bool false, .int .i64 0, .int .i64 0, .int .i64 0, .int .i64 0, .bool false, .slice none 0 0, .slice none 0 0] rfl rfl (by kernel_rfl) K8 fun b5 w9 g9 K9 M10 => ?_)
    refine W.op (O.sta 0 c1.cells rfl rfl rfl rfl rfl Ty109 rfl rfl rfl rfl K9 fun w10 K10 M11 => ?_)
    refine Zb 19 (.int .i64 130) ?_
    refine wpList_nil (hk10 _ _ (wp_seq_k fun k11 hk11 => (wp_seq_k fun k12 hk12 => (wp_region_lit ?_))))
    refine Zb 44 (.int .i64 130) ?_
    refine Zb 45 (.bool true) ?_
    refine wpList_nil (hk12 _ _ (W.cond true rfl (wp_seq_k fun k13 hk13 => (wp_region_lit ?_))))
    refine Zb 46 (.agg #[.bool false, .int .i64 0, .int .i64 0, .int .i64 0, .int .i64 0, .bool false, .slice none 0 0, .slice none 0 0]) ?_
    refine Zb 47 (.int .i64 130) ?_
    refine W.op (O.sta 2 [.bool false, .int .i64 0, .int .i64 0, .int .i64 0, .int .i64 0, .bool false, .slice none 0 0, .slice none 0 0] rfl rfl rfl rfl rfl Ty109 rfl rfl rfl rfl K10 fun w11 K11 M12 => ?_)
    refine Zb 13 (.int .i64 130) ?_
    refine wpList_nil (hk13 _ _ (wp_ret (then_ret (block_ret (then_ret (then_ret ?_))))))
    refine block_ret (then_ret (W.rets (vs := [.agg #[.bool false, .int .i64 0, .int .i64 0, .int .i64 0, .int .i64 0, .bool false, .slice none 0 0, .slice none 0 0], .int .i64 130]) rfl (.agg (cs := [.bool false, .int .i64 0, .int .i64 0, .int .i64 0, .int .i64 0, .bool false, .slice none 0 0, .slice none 0 0]) rfl Ty109 rfl ((K11.nth 2 rfl).all 8) (.tmp rfl .nil)) (by simp) ?_))
    have hhM_7 := hq2.mv M10 quiet quiet quiet quiet quiet quiet
    have hhM_8 := hhM_7.mv M11 (neq (by omega)) (neq (by omega)) (neq (by omega)) (neq (by omega)) (neq (by omega)) (neq (by omega))
    have hhM_9 := hhM_8.mv M12 (neq (by omega)) (neq (by omega)) (neq (by omega)) (neq (by omega)) (neq (by omega)) (neq (by omega))
    subst hF2
    exact ⟨_, zeroPl, rfl, (K11.mv.shut hf0), hhM_9, rfl⟩
   ·have hr9 := hrec k (by omega) S1 (ps k) w7 g6 h1 p5 hf1.1 hps
    rw [hbk] at hr9
    refine W.op (O.call 41 45 #[.pointer (some ⟨q, 0, none⟩), .agg ((nd.kid k).cells).toArray, .int .i64 ((l + 1 : Nat) : Int), .slice ((ps k).a) ((ps k).n) ((ps k).c)] (by kernel_rfl) rfl (by kernel_rfl) ((hr9).mono ?_))
    rintro e3 w12 ⟨g8, c2, rfl, M9, hq4, hq5⟩
    have K12 := K7.step M9 (le_lo (fun _ h => h)) (nrg (by omega))
    have hF2 : becKids f (16 - (k + 1)) (k + 1) (a.add k P9) S2 = F := by have h9 := hF1; unfold becKids at h9; rw [hbk] at h9; exact h9
    have hf2 := hf1.2 P9 S2 hbk
    have hgr2 : Gr S S2 := p5.trans (by have h9 := hgr k S1; rw [hbk] at h9; exact h9)
    refine ⟨_, rfl, ?_⟩
    refine Zb 32 (.tuple #[.agg c2.cells.toArray, .int .i64 0]) ?_
    refine Zb 42 (.agg c2.cells.toArray) ?_
    refine Zb 43 (.int .i64 0) ?_
    refine W.op (O.new 18 109 [.bool false, .int .i64 0, .int .i64 0, .int .i64 0, .int .i64 0, .bool false, .slice none 0 0, .slice none 0 0] rfl rfl (by kernel_rfl) K12 fun b6 w13 g10 K13 M13 => ?_)
    refine W.op (O.sta 0 c2.cells rfl rfl rfl rfl rfl Ty109 rfl rfl rfl rfl K13 fun w14 K14 M14 => ?_)
    refine Zb 19 (.int .i64 0) ?_
    refine wpList_nil (hk10 _ _ (wp_seq_k fun k14 hk14 => (wp_seq_k fun k15 hk15 => (wp_region_lit ?_))))
    refine Zb 44 (.int .i64 0) ?_
    refine Zb 45 (.bool false) ?_
    refine wpList_nil (hk15 _ _ (W.cond false rfl (wp_skip (hk14 _ _ (wp_seq_k fun k16 hk16 => (wp_seq_k fun k17 hk17 => ?_))))))
    refine wp_region_lit ?_
    refine Zb 48 (.pointer (some ⟨b6, 0, none⟩)) ?_
    rcases bsplit (c2.stays) with t2 | t2
    ·refine Zc 49 (.bool true) (okv (exec_load rfl rfl Ty4 ((K14.nth 0 rfl).cell 0)) (congrArg Value.bool t2)) ?_
     refine Zb 50 (.bool false) ?_
     refine wpList_nil (hk17 _ _ (W.cond false rfl (wp_skip (hk16 _ _ (wp_region_lit ?_)))))
     refine Zb 60 (.pointer (some ⟨b4, 7, none⟩)) ?_
     refine Zc 61 (.slice kl.a kl.n kl.c) (exec_load rfl rfl Ty107 ((K14.nth 1 rfl).cell 7)) ?_
     refine Zc 62 (.agg c2.cells.toArray) (exec_loads (cs := c2.cells) rfl rfl Ty109 rfl ((K14.nth 0 rfl).all 8)) ?_
     refine W.op (O.lit 63 109 [.bool c2.stays, .int .i64 c2.ref.num, .int .i64 c2.ref.gen, .int .i64 c2.had, .int .i64 c2.cnt, .bool c2.leaf, .slice c2.sl.a c2.sl.n c2.sl.c, .slice c2.kl.a c2.kl.n c2.kl.c] 1 rfl rfl (by kernel_rfl) K14 fun b7 w15 g11 K15 M15 => ?_)
     have hkids_1 := h3.mv M9 (nrg (by omega))
     have hkids_2 := hkids_1.mv M13 quiet
     have hkids_3 := hkids_2.mv M14 (neq (by omega))
     have hkids_4 := hkids_3.mv M15 quiet
     refine W.op (O.append (f := PlC.cells) 64 [c2] (by kernel_rfl) rfl rfl (by kernel_rfl) El109 rfl rfl hkids_4 rfl (src1 (K15.nth 0 rfl) rfl) (fun _ => rfl) (by simp only [List.length_append, List.length_cons, List.length_nil]; omega) (by simp only [List.length_append, List.length_cons, List.length_nil]; omega) fun s1 w16 g12 hG2 M16 => ?_)
     have K16 := K15.step M16 (eq_lo (by omega)) (neq (by omega))
     have n4 := hG2.len
     refine Zb 65 (.pointer (some ⟨b4, 7, none⟩)) ?_
     refine W.op (O.st 2 (.slice s1.a s1.n s1.c) rfl rfl rfl rfl rfl Ty107 rfl rfl rfl (Nat.le_of_ble_eq_true rfl) K16 fun w17 K17 M17 => ?_)
     refine wpList_nil (block_normal (hk8 _ _ (wp_region_lit ?_)))
     refine Zc 66 (.int .i64 ((k + 1 : Nat) : Int)) (okv (v := .int .i64 (IntKind.i64.wrap (((k : Nat) : Int) + 1))) (by kernel_rfl) (wrapn (by omega) (by omega))) ?_
     refine Zb 28 (.int .i64 ((k + 1 : Nat) : Int)) ?_
     refine wpList_nil ?_
     have hf1_1 := hq5.mv M13 quiet
     have hf1_2 := hf1_1.mv M14 (neq (by omega))
     have hf1_3 := hf1_2.mv M15 quiet
     have hf1_4 := hf1_3.mv M16 (neq (by omega))
     have hf1_5 := hf1_4.mv M17 (neq (by omega))
     have hst9 : P9.stays = true := by rw [← PlM.stays hf1_5]; exact t2
     have ha9 := KA.add_stay (a := a) (d := k) hst9
     rw [← ha9.1] at K17
     have hkids2_1 := hG2.mv M17 (neq (by omega))
     have hpm_1 := h4.mv M9 (nrg (by omega))
     have hpm_2 := hpm_1.mv M13 quiet
     have hpm_3 := hpm_2.mv M14 (neq (by omega))
     have hpm_4 := hpm_3.mv M15 quiet
     have hpm_5 := hpm_4.mv M16 (neq (by omega))
     have hpm_6 := hpm_5.mv M17 (neq (by omega))
     have hhM_10 := hq4.mv M13 quiet quiet quiet quiet quiet quiet
     have hhM_11 := hhM_10.mv M14 (neq (by omega)) (neq (by omega)) (neq (by omega)) (neq (by omega)) (neq (by omega)) (neq (by omega))
     have hhM_12 := hhM_11.mv M15 quiet quiet quiet quiet quiet quiet
     have hhM_13 := hhM_12.mv M16 (neq (by omega)) (neq (by omega)) (neq (by omega)) (neq (by omega)) (neq (by omega)) (neq (by omega))
     have hhM_14 := hhM_13.mv M17 (neq (by omega)) (neq (by omega)) (neq (by omega)) (neq (by omega)) (neq (by omega)) (neq (by omega))
     have hhpp_1 := h2.mv M9 (nrg (by omega))
     have hhpp_2 := hhpp_1.mv M13 quiet
     have hhpp_3 := hhpp_2.mv M14 (neq (by omega))
     have hhpp_4 := hhpp_3.mv M15 quiet
     have hhpp_5 := hhpp_4.mv M16 (neq (by omega))
     have hhpp_6 := hhpp_5.mv M17 (neq (by omega))
     exact ⟨16 - (k + 1), _, by omega, ((((((((((look_eq (t := 0) (v := .pointer (some ⟨q, 0, none⟩)) rfl).trans (look_eq (t := 3) (v := .int .i64 gt) rfl)).trans (look_eq (t := 4) (v := .int .i64 ↑l) rfl)).trans (look_eq (t := 7) (v := .pointer (some ⟨b1, 0, none⟩)) rfl)).trans (look_eq (t := 8) (v := .pointer (some ⟨b2, 0, none⟩)) rfl)).trans (look_eq (t := 12) (v := .pointer (some ⟨b3, 0, none⟩)) rfl)).trans (look_eq (t := 14) (v := .pointer (some ⟨b4, 0, none⟩)) rfl)).trans (look_eq (t := 15) (v := .bool (a.add k P9).ch) (by rw [ha9.2]; rfl))).trans (look_eq (t := 27) (v := .agg (psCells ps).toArray) rfl)).trans (look_eq (t := 28) (v := .int .i64 (((k + 1) : Nat) : Int)) rfl)), ⟨(k + 1), (a.add k P9), (cs ++ [c2]), s1, S2, _, _, rfl, rfl, K17.tail.tail, ((((((M7.trans (M9.mono (le_lo (rg_rg (by omega) (by omega))))).trans (M13.mono nt_le)).trans (M14.mono (le_lo (eq_rg (by omega))))).trans (M15.mono nt_le)).trans (M16.mono (eq_lo (by omega)))).trans (M17.mono (le_lo (eq_rg (by omega))))), by omega, by rw [List.length_append, p2]; rfl, hF2, hf2, hgr2, hhM_14, hhpp_6, hkids2_1, (by rw [KA.add_kid]; exact hpm_6.add hf1_5 p2)⟩⟩
    ·refine Zc 49 (.bool false) (okv (exec_load rfl rfl Ty4 ((K14.nth 0 rfl).cell 0)) (congrArg Value.bool t2)) ?_
     refine Zb 50 (.bool true) ?_
     refine wpList_nil (hk17 _ _ (W.cond true rfl (wp_seq_k fun k18 hk18 => (wp_region_lit ?_))))
     refine Zb 15 (.bool true) ?_
     refine wpList_nil (hk18 _ _ (wp_region_lit ?_))
     refine Zb 51 (.pointer (some ⟨b4, 4, none⟩)) ?_
     refine Zc 52 (.int .i64 a.cnt) (exec_load rfl rfl Ty3 ((K14.nth 1 rfl).cell 4)) ?_
     refine Zb 53 (.pointer (some ⟨b6, 4, none⟩)) ?_
     refine Zc 54 (.int .i64 c2.cnt) (exec_load rfl rfl Ty3 ((K14.nth 0 rfl).cell 4)) ?_
     refine Zb 55 (.pointer (some ⟨b6, 3, none⟩)) ?_
     refine Zc 56 (.int .i64 c2.had) (exec_load rfl rfl Ty3 ((K14.nth 0 rfl).cell 3)) ?_
     refine Zb 57 (.int .i64 (IntKind.i64.wrap (c2.cnt - c2.had))) ?_
     refine Zb 58 (.int .i64 (IntKind.i64.wrap (a.cnt + (IntKind.i64.wrap (c2.cnt - c2.had))))) ?_
     refine Zb 59 (.pointer (some ⟨b4, 4, none⟩)) ?_
     refine W.op (O.st 1 (.int .i64 (IntKind.i64.wrap (a.cnt + (IntKind.i64.wrap (c2.cnt - c2.had))))) rfl rfl rfl rfl rfl Ty3 rfl rfl rfl (Nat.le_of_ble_eq_true rfl) K14 fun w18 K18 M18 => ?_)
     refine wpList_nil (hk16 _ _ (wp_region_lit ?_))
     refine Zb 60 (.pointer (some ⟨b4, 7, none⟩)) ?_
     refine Zc 61 (.slice kl.a kl.n kl.c) (exec_load rfl rfl Ty107 ((K18.nth 1 rfl).cell 7)) ?_
     refine Zc 62 (.agg c2.cells.toArray) (exec_loads (cs := c2.cells) rfl rfl Ty109 rfl ((K18.nth 0 rfl).all 8)) ?_
     refine W.op (O.lit 63 109 [.bool c2.stays, .int .i64 c2.ref.num, .int .i64 c2.ref.gen, .int .i64 c2.had, .int .i64 c2.cnt, .bool c2.leaf, .slice c2.sl.a c2.sl.n c2.sl.c, .slice c2.kl.a c2.kl.n c2.kl.c] 1 rfl rfl (by kernel_rfl) K18 fun b8 w19 g13 K19 M19 => ?_)
     have hkids_5 := h3.mv M9 (nrg (by omega))
     have hkids_6 := hkids_5.mv M13 quiet
     have hkids_7 := hkids_6.mv M14 (neq (by omega))
     have hkids_8 := hkids_7.mv M18 (neq (by omega))
     have hkids_9 := hkids_8.mv M19 quiet
     refine W.op (O.append (f := PlC.cells) 64 [c2] (by kernel_rfl) rfl rfl (by kernel_rfl) El109 rfl rfl hkids_9 rfl (src1 (K19.nth 0 rfl) rfl) (fun _ => rfl) (by simp only [List.length_append, List.length_cons, List.length_nil]; omega) (by simp only [List.length_append, List.length_cons, List.length_nil]; omega) fun s2 w20 g14 hG3 M20 => ?_)
     have K20 := K19.step M20 (eq_lo (by omega)) (neq (by omega))
     have n5 := hG3.len
     refine Zb 65 (.pointer (some ⟨b4, 7, none⟩)) ?_
     refine W.op (O.st 2 (.slice s2.a s2.n s2.c) rfl rfl rfl rfl rfl Ty107 rfl rfl rfl (Nat.le_of_ble_eq_true rfl) K20 fun w21 K21 M21 => ?_)
     refine wpList_nil (block_normal (hk8 _ _ (wp_region_lit ?_)))
     refine Zc 66 (.int .i64 ((k + 1 : Nat) : Int)) (okv (v := .int .i64 (IntKind.i64.wrap (((k : Nat) : Int) + 1))) (by kernel_rfl) (wrapn (by omega) (by omega))) ?_
     refine Zb 28 (.int .i64 ((k + 1 : Nat) : Int)) ?_
     refine wpList_nil ?_
     have hf1_6 := hq5.mv M13 quiet
     have hf1_7 := hf1_6.mv M14 (neq (by omega))
     have hf1_8 := hf1_7.mv M18 (neq (by omega))
     have hf1_9 := hf1_8.mv M19 quiet
     have hf1_10 := hf1_9.mv M20 (neq (by omega))
     have hf1_11 := hf1_10.mv M21 (neq (by omega))
     have hst9 : P9.stays = false := by rw [← PlM.stays hf1_11]; exact t2
     have ha9 := KA.add_new (a := a) (d := k) hst9
     have hcc := PlM.cnt hf1_11
     rw [hcc.1, hcc.2, ← ha9.1] at K21
     have hkids2_2 := hG3.mv M21 (neq (by omega))
     have hpm_7 := h4.mv M9 (nrg (by omega))
     have hpm_8 := hpm_7.mv M13 quiet
     have hpm_9 := hpm_8.mv M14 (neq (by omega))
     have hpm_10 := hpm_9.mv M18 (neq (by omega))
     have hpm_11 := hpm_10.mv M19 quiet
     have hpm_12 := hpm_11.mv M20 (neq (by omega))
     have hpm_13 := hpm_12.mv M21 (neq (by omega))
     have hhM_15 := hq4.mv M13 quiet quiet quiet quiet quiet quiet
     have hhM_16 := hhM_15.mv M14 (neq (by omega)) (neq (by omega)) (neq (by omega)) (neq (by omega)) (neq (by omega)) (neq (by omega))
     have hhM_17 := hhM_16.mv M18 (neq (by omega)) (neq (by omega)) (neq (by omega)) (neq (by omega)) (neq (by omega)) (neq (by omega))
     have hhM_18 := hhM_17.mv M19 quiet quiet quiet quiet quiet quiet
     have hhM_19 := hhM_18.mv M20 (neq (by omega)) (neq (by omega)) (neq (by omega)) (neq (by omega)) (neq (by omega)) (neq (by omega))
     have hhM_20 := hhM_19.mv M21 (neq (by omega)) (neq (by omega)) (neq (by omega)) (neq (by omega)) (neq (by omega)) (neq (by omega))
     have hhpp_7 := h2.mv M9 (nrg (by omega))
     have hhpp_8 := hhpp_7.mv M13 quiet
     have hhpp_9 := hhpp_8.mv M14 (neq (by omega))
     have hhpp_10 := hhpp_9.mv M18 (neq (by omega))
     have hhpp_11 := hhpp_10.mv M19 quiet
     have hhpp_12 := hhpp_11.mv M20 (neq (by omega))
     have hhpp_13 := hhpp_12.mv M21 (neq (by omega))
     exact ⟨16 - (k + 1), _, by omega, ((((((((((look_eq (t := 0) (v := .pointer (some ⟨q, 0, none⟩)) rfl).trans (look_eq (t := 3) (v := .int .i64 gt) rfl)).trans (look_eq (t := 4) (v := .int .i64 ↑l) rfl)).trans (look_eq (t := 7) (v := .pointer (some ⟨b1, 0, none⟩)) rfl)).trans (look_eq (t := 8) (v := .pointer (some ⟨b2, 0, none⟩)) rfl)).trans (look_eq (t := 12) (v := .pointer (some ⟨b3, 0, none⟩)) rfl)).trans (look_eq (t := 14) (v := .pointer (some ⟨b4, 0, none⟩)) rfl)).trans (look_eq (t := 15) (v := .bool (a.add k P9).ch) (by rw [ha9.2]; rfl))).trans (look_eq (t := 27) (v := .agg (psCells ps).toArray) rfl)).trans (look_eq (t := 28) (v := .int .i64 (((k + 1) : Nat) : Int)) rfl)), ⟨(k + 1), (a.add k P9), (cs ++ [c2]), s2, S2, _, _, rfl, rfl, K21.tail.tail, (((((((M7.trans (M9.mono (le_lo (rg_rg (by omega) (by omega))))).trans (M13.mono nt_le)).trans (M14.mono (le_lo (eq_rg (by omega))))).trans (M18.mono (le_lo (eq_rg (by omega))))).trans (M19.mono nt_le)).trans (M20.mono (eq_lo (by omega)))).trans (M21.mono (le_lo (eq_rg (by omega))))), by omega, by rw [List.length_append, p2]; rfl, hF2, hf2, hgr2, hhM_20, hhpp_13, hkids2_2, (by rw [KA.add_kid]; exact hpm_13.add hf1_11 p2)⟩⟩
  ·refine Zc 29 (.bool false) (okv (by kernel_rfl) (congrArg Value.bool (decide_eq_false t1))) ?_
   refine wpList_nil (hk6 _ _ (wp_seq_k fun k19 hk19 => (W.cond false rfl (wp_exit (then_exit ?_)))))
   have hk9 : k = 16 := by omega
   have hFe := p3
   rw [hk9] at hFe
   have hFe2 : (some a, S1) = F := hFe
   have hfe := p4
   rw [hk9] at hfe
   have hfe2 : fitDone (l + 1) r gt a S1 := hfe
   have hst := hok.at p5
   refine then_exit (block_exit (hk4 _ _ (wp_seq_k fun k20 hk20 => (wp_seq_k fun k21 hk21 => (wp_region_lit ?_)))))
   rcases bsplit (a.ch) with t3 | t3
   ·refine Zc 67 (.bool true) (okv (by kernel_rfl) (congrArg Value.bool t3)) ?_
    refine Zb 68 (.bool false) ?_
    refine wpList_nil (hk21 _ _ (W.cond false rfl (wp_skip (hk20 _ _ (wp_seq_k fun k22 hk22 => (wp_region_lit ?_))))))
    refine Zb 71 (.pointer (some ⟨q, 0, none⟩)) ?_
    refine Zc 72 (.agg r.cells.toArray) (exec_loads (cs := r.cells) rfl rfl Ty31 rfl ((K7.nth 2 rfl).all 2)) ?_
    refine Zb 73 (.int .i64 gt) ?_
    refine W.op (O.call 74 66 #[.pointer (some ⟨q, 0, none⟩), .agg r.cells.toArray, .int .i64 gt] (by kernel_rfl) rfl (by kernel_rfl) ((retire_c τ q p S1 r gt w7 g6 h1 (by omega) hst.2.2.2.1).mono ?_))
    rintro e4 w22 ⟨g15, rfl, M22, hq6⟩
    have K22 := K7.step M22 (le_lo (fun _ h => h)) (nrg (by omega))
    refine ⟨_, rfl, ?_⟩
    refine wpList_nil (hk22 _ _ (wp_seq_k fun k23 hk23 => (wp_seq_k fun k24 hk24 => (wp_region_lit ?_))))
    refine Zb 75 (.pointer (some ⟨b4, 4, none⟩)) ?_
    refine Zc 76 (.int .i64 a.cnt) (exec_load rfl rfl Ty3 ((K22.nth 0 rfl).cell 4)) ?_
    by_cases t4 : a.cnt > 4
    ·refine Zc 77 (.bool true) (okv (by kernel_rfl) (congrArg Value.bool (decide_eq_true t4))) ?_
     refine wpList_nil (hk24 _ _ (W.cond true rfl (wp_seq_k fun k25 hk25 => (wp_region_lit ?_))))
     refine Zc 78 (.agg #[.bool false, .int .i64 0, .int .i64 0, .int .i64 nd.cnt, .int .i64 a.cnt, .bool false, .slice none 0 0, .slice kl.a kl.n kl.c]) (exec_loads (cs := [.bool false, .int .i64 0, .int .i64 0, .int .i64 nd.cnt, .int .i64 a.cnt, .bool false, .slice none 0 0, .slice kl.a kl.n kl.c]) rfl rfl Ty109 rfl ((K22.nth 0 rfl).all 8)) ?_
     refine W.op (O.sta 1 [.bool false, .int .i64 0, .int .i64 0, .int .i64 nd.cnt, .int .i64 a.cnt, .bool false, .slice none 0 0, .slice kl.a kl.n kl.c] rfl rfl rfl rfl rfl Ty109 rfl rfl rfl rfl K22 fun w23 K23 M23 => ?_)
     refine Zb 13 (.int .i64 0) ?_
     refine wpList_nil (hk25 _ _ (wp_ret (then_ret (W.rets (vs := [.agg #[.bool false, .int .i64 0, .int .i64 0, .int .i64 nd.cnt, .int .i64 a.cnt, .bool false, .slice none 0 0, .slice kl.a kl.n kl.c], .int .i64 0]) rfl (.agg (cs := [.bool false, .int .i64 0, .int .i64 0, .int .i64 nd.cnt, .int .i64 a.cnt, .bool false, .slice none 0 0, .slice kl.a kl.n kl.c]) rfl Ty109 rfl ((K23.nth 1 rfl).all 8) (.tmp rfl .nil)) (by simp) ?_))))
     have hhM_21 := hq6.mv M23 (neq (by omega)) (neq (by omega)) (neq (by omega)) (neq (by omega)) (neq (by omega)) (neq (by omega))
     subst hFe2
     have e9 : doneM (l + 1) r gt nd.cnt (some a, S1) = (some (.branch nd.cnt a.cnt a.kid), S1.ret r gt) := by show doneA _ _ _ _ _ _ = _; unfold doneA; rw [t3, decide_eq_true t4]; rfl
     have hkids_10 := h3.mv M22 (nrg (by omega))
     have hkids_11 := hkids_10.mv M23 (neq (by omega))
     have M24 := Mv.recol w23 g15 t0 0
     have K24 := K23.step M24 (eq_lo (by omega)) (neq (by omega))
     have h5 := hkids_11.ice
     rw [e9]
     have hhM_22 := hhM_21.mv M24 (neq (by omega)) (neq (by omega)) (neq (by omega)) (neq (by omega)) (neq (by omega)) (neq (by omega))
     have hpm_14 := h4.mv M22 (nrg (by omega))
     have hpm_15 := hpm_14.mv M23 (neq (by omega))
     have hpm_16 := hpm_15.mv M24 (neq (by omega))
     exact ⟨_, ⟨false, ⟨0, 0⟩, nd.cnt, a.cnt, false, nilS, kl⟩, rfl, (K24.mv.shut hf0), hhM_22, (hpm_16.branch (by omega) h5)⟩
    ·refine Zc 77 (.bool false) (okv (by kernel_rfl) (congrArg Value.bool (decide_eq_false t4))) ?_
     refine wpList_nil (hk24 _ _ (W.cond false rfl (wp_skip (hk23 _ _ (wp_seq_k fun k26 hk26 => (wp_region_lit ?_))))))
     refine Zb 79 (.pointer (some ⟨q, 0, none⟩)) ?_
     refine Zc 80 (.agg #[.bool false, .int .i64 0, .int .i64 0, .int .i64 nd.cnt, .int .i64 a.cnt, .bool false, .slice none 0 0, .slice kl.a kl.n kl.c]) (exec_loads (cs := [.bool false, .int .i64 0, .int .i64 0, .int .i64 nd.cnt, .int .i64 a.cnt, .bool false, .slice none 0 0, .slice kl.a kl.n kl.c]) rfl rfl Ty109 rfl ((K22.nth 0 rfl).all 8)) ?_
     refine Zb 81 (.int .i64 ↑l) ?_
     have hch : a.ch = true := t3
     have hcn : decide (a.cnt > 4) = false := decide_eq_false (by omega)
     have hok2 : StOk (S1.ret r gt) := hret S1 p5
     have hkids_12 := h3.mv M22 (nrg (by omega))
     have M25 := Mv.recol w22 g15 t0 0
     have K25 := K22.step M25 (eq_lo (by omega)) (neq (by omega))
     have h6 := hkids_12.ice
     have n6 := h6.len
     have hhM_23 := hq6.mv M25 (neq (by omega)) (neq (by omega)) (neq (by omega)) (neq (by omega)) (neq (by omega)) (neq (by omega))
     have hpm_17 := h4.mv M22 (nrg (by omega))
     have hpm_18 := hpm_17.mv M25 (neq (by omega))
     refine W.op (O.call 82 85 #[.pointer (some ⟨q, 0, none⟩), .agg #[.bool false, .int .i64 0, .int .i64 0, .int .i64 nd.cnt, .int .i64 a.cnt, .bool false, .slice none 0 0, .slice kl.a kl.n kl.c], .int .i64 ↑l] (by kernel_rfl) rfl (by kernel_rfl) ((fallen_c τ q p ({ S1 with rs := S1.rs ++ [⟨r.num, r.gen, gt⟩] }) nd.cnt a.cnt kl cs a.kid l (fallKids a.kid (l + 1) 16 0 [] (S1.ret r gt)) w22 (recol g15 t0 0) hhM_23 (by omega) hok2 h6 (by omega) hpm_18 (hfe2 hch hcn) rfl (by omega)).mono ?_))
     rintro e5 w24 ⟨g16, c3, rfl, M26, hq7, hq8⟩
     have K26 := K25.step M26 (le_lo (fun _ h => h)) (nrg (by omega))
     refine ⟨_, rfl, ?_⟩
     refine Zb 83 (.agg c3.cells.toArray) ?_
     refine Zb 84 (.int .i64 (errO (fallKids a.kid (l + 1) 16 0 [] (S1.ret r gt)).1)) ?_
     refine W.op (O.sta 1 c3.cells rfl rfl rfl rfl rfl Ty109 rfl rfl rfl rfl K26 fun w25 K27 M27 => ?_)
     refine Zb 13 (.int .i64 (errO (fallKids a.kid (l + 1) 16 0 [] (S1.ret r gt)).1)) ?_
     refine wpList_nil (hk26 _ _ (wp_ret (W.rets (vs := [.agg c3.cells.toArray, .int .i64 (errO (fallKids a.kid (l + 1) 16 0 [] (S1.ret r gt)).1)]) rfl (.agg (cs := c3.cells) rfl Ty109 rfl ((K27.nth 1 rfl).all 8) (.tmp rfl .nil)) (by simp) ?_)))
     have hhM_24 := hq7.mv M27 (neq (by omega)) (neq (by omega)) (neq (by omega)) (neq (by omega)) (neq (by omega)) (neq (by omega))
     subst hFe2
     have e9 : doneM (l + 1) r gt nd.cnt (some a, S1) = fallEnd nd.cnt (fallKids a.kid (l + 1) 16 0 [] (S1.ret r gt)) := by show doneA _ _ _ _ _ _ = _; unfold doneA; rw [hch, hcn]; rfl
     rw [e9]
     have hf2_1 := hq8.mv M27 (neq (by omega))
     exact ⟨_, c3, by rw [fallEnd_err], (K27.mv.shut hf0), hhM_24, hf2_1⟩
   ·refine Zc 67 (.bool false) (okv (by kernel_rfl) (congrArg Value.bool t3)) ?_
    refine Zb 68 (.bool true) ?_
    refine wpList_nil (hk21 _ _ (W.cond true rfl (wp_seq_k fun k27 hk27 => (wp_region_lit ?_))))
    refine Zc 69 (.agg r.cells.toArray) (exec_loads (cs := r.cells) rfl rfl Ty31 rfl ((K7.nth 2 rfl).all 2)) ?_
    refine W.op (O.call 70 63 #[.agg r.cells.toArray] (by kernel_rfl) rfl (by kernel_rfl) ((kept_c r w7 g6).mono ?_))
    rintro e6 w26 ⟨g17, rfl, M28⟩
    have K28 := K7.step M28 nt_le quiet
    refine ⟨_, rfl, ?_⟩
    refine W.op (O.sta 1 [.bool true, .int .i64 r.num, .int .i64 r.gen, .int .i64 0, .int .i64 0, .bool false, .slice none 0 0, .slice none 0 0] rfl rfl rfl rfl rfl Ty109 rfl rfl rfl rfl K28 fun w27 K29 M29 => ?_)
    refine Zb 13 (.int .i64 0) ?_
    refine wpList_nil (hk27 _ _ (wp_ret (then_ret (W.rets (vs := [.agg #[.bool true, .int .i64 r.num, .int .i64 r.gen, .int .i64 0, .int .i64 0, .bool false, .slice none 0 0, .slice none 0 0], .int .i64 0]) rfl (.agg (cs := [.bool true, .int .i64 r.num, .int .i64 r.gen, .int .i64 0, .int .i64 0, .bool false, .slice none 0 0, .slice none 0 0]) rfl Ty109 rfl ((K29.nth 1 rfl).all 8) (.tmp rfl .nil)) (by simp) ?_))))
    have hhM_25 := h1.mv M28 quiet quiet quiet quiet quiet quiet
    have hhM_26 := hhM_25.mv M29 (neq (by omega)) (neq (by omega)) (neq (by omega)) (neq (by omega)) (neq (by omega)) (neq (by omega))
    subst hFe2
    have e9 : doneM (l + 1) r gt nd.cnt (some a, S1) = (some (.stay r), S1) := by show doneA _ _ _ _ _ _ = _; unfold doneA; rw [t3]; rfl
    rw [e9]
    exact ⟨_, ⟨true, r, 0, 0, false, nilS, nilS⟩, rfl, (K29.mv.shut hf0), hhM_26, rfl⟩

set_option maxRecDepth 100000 in
set_option maxHeartbeats 1000000 in
theorem becomes_step (τ : Nat) (q : Nat) (p : Nat) (S : St) (r : Ref) (l : Nat) (s : Sli) (es : List Edit) (n : Nat) (w : World) (γ : Tg) (hM : SM τ w γ q p S) (hτ : 2 ≤ τ) (hok : StOk S) (hes : Ls 8 Edit.cells w γ s es) (hel : es.length ≤ 50000) (hky : ∀ e ∈ es, e.it.key.size < 9223372036854775807) (hl16 : l + n = 16) (hlf : ∀ nd, es.length ≠ 0 → r.none = false → S.node r l = some nd → nd.leaf = true → nd.its.length ≤ 50000 ∧ kOk nd.its) (hbr : ∀ (nd9 : Nd) (sx : Sli) (v : World) (g : Tg), es.length ≠ 0 → r.none = false → nd9.leaf = false → S.node r l = some nd9 → SM τ v g q p (S.seen r) → Ls 8 Edit.cells v g s es → Calls Try.prog 67 #[.pointer (some ⟨q, 0, none⟩), .agg (nd9.at sx).cells.toArray, .agg r.cells.toArray, .int .i64 (S.seen r).got, .int .i64 ((l : Nat) : Int), .slice s.a s.n s.c] v fun ε v' => ∃ (g' : Tg) (c' : PlC), ε = .returned (.tuple #[.agg c'.cells.toArray, .int .i64 (errO (doneM (l + 1) r (S.seen r).got nd9.cnt (becKids (fun d S => becM n S (nd9.kid d) (es.filter fun e => digitOf e.it.key l == d)) 16 0 ⟨fun _ => .stay ⟨0, 0⟩, nd9.cnt, false⟩ (S.seen r))).1)]) ∧ Mv (Rg τ (τ + 5)) v g v' g' ∧ SM τ v' g' q p (doneM (l + 1) r (S.seen r).got nd9.cnt (becKids (fun d S => becM n S (nd9.kid d) (es.filter fun e => digitOf e.it.key l == d)) 16 0 ⟨fun _ => .stay ⟨0, 0⟩, nd9.cnt, false⟩ (S.seen r))).2 ∧ PlR (doneM (l + 1) r (S.seen r).got nd9.cnt (becKids (fun d S => becM n S (nd9.kid d) (es.filter fun e => digitOf e.it.key l == d)) 16 0 ⟨fun _ => .stay ⟨0, 0⟩, nd9.cnt, false⟩ (S.seen r))).1 v' g' c') :
    Calls Try.prog 45 #[.pointer (some ⟨q, 0, none⟩), .agg r.cells.toArray, .int .i64 ((l : Nat) : Int), .slice s.a s.n s.c] w fun ε w' => ∃ (γ' : Tg) (c' : PlC), ε = .returned (.tuple #[.agg c'.cells.toArray, .int .i64 (errO (becM (n + 1) S r es).1)]) ∧ Mv (Rg τ (τ + 5)) w γ w' γ' ∧ SM τ w' γ' q p ((becM (n + 1) S r es).2) ∧ PlR ((becM (n + 1) S r es).1) w' γ' c' := by
 have hl15 : 16 - n = l := by omega
 have hl17 : 17 - n = l + 1 := by omega
 have hB := becM_succ n S r es
 rw [hl15, hl17] at hB
 generalize becM (n + 1) S r es = FF at hB ⊢
 obtain ⟨t0, ht0, hf0⟩ := fresh_tag w γ (τ + 5)
 have K0 := Kn.start (Lo (Rg τ (τ + 5)) t0) w γ
 refine W.enter (ws := [(3, .slice s.a s.n s.c), (2, .int .i64 ↑l), (1, .agg r.cells.toArray), (0, .pointer (some ⟨q, 0, none⟩))]) 80 Try.func45 rfl (by kernel_rfl) ?_
 have n1 := hes.len
 refine wp_seq_k fun k1 hk1 => (wp_region_lit ?_)
 refine W.op (O.new 5 31 r.cells rfl rfl (by kernel_rfl) K0 fun b1 w1 g1 K1 M1 => ?_)
 refine W.op (O.new 8 109 [.bool false, .int .i64 0, .int .i64 0, .int .i64 0, .int .i64 0, .bool false, .slice none 0 0, .slice none 0 0] rfl rfl (by kernel_rfl) K1 fun b2 w2 g2 K2 M2 => ?_)
 refine Zb 9 (.int .i64 0) ?_
 refine wpList_nil (hk1 _ _ (wp_seq_k fun k2 hk2 => (wp_seq_k fun k3 hk3 => (wp_region_lit ?_))))
 refine Zb 17 (.slice s.a s.n s.c) ?_
 refine Zb 18 (.int .i64 (s.n : Int)) ?_
 by_cases t1 : (s.n : Int) = 0
 ·refine Zc 19 (.bool true) (okv (by kernel_rfl) (congrArg Value.bool (beq_iff_eq.2 t1))) ?_
  refine wpList_nil (hk3 _ _ (W.cond true rfl (wp_seq_k fun k4 hk4 => (wp_region_lit ?_))))
  refine Zc 20 (.agg r.cells.toArray) (exec_loads (cs := r.cells) rfl rfl Ty31 rfl ((K2.nth 1 rfl).all 2)) ?_
  refine W.op (O.call 21 63 #[.agg r.cells.toArray] (by kernel_rfl) rfl (by kernel_rfl) ((kept_c r w2 g2).mono ?_))
  rintro e1 w3 ⟨g3, rfl, M3⟩
  have K3 := K2.step M3 nt_le quiet
  refine ⟨_, rfl, ?_⟩
  refine W.op (O.sta 0 [.bool true, .int .i64 r.num, .int .i64 r.gen, .int .i64 0, .int .i64 0, .bool false, .slice none 0 0, .slice none 0 0] rfl rfl rfl rfl rfl Ty109 rfl rfl rfl rfl K3 fun w4 K4 M4 => ?_)
  refine Zb 9 (.int .i64 0) ?_
  refine wpList_nil (hk4 _ _ (wp_ret (then_ret (W.rets (vs := [.agg #[.bool true, .int .i64 r.num, .int .i64 r.gen, .int .i64 0, .int .i64 0, .bool false, .slice none 0 0, .slice none 0 0], .int .i64 0]) rfl (.agg (cs := [.bool true, .int .i64 r.num, .int .i64 r.gen, .int .i64 0, .int .i64 0, .bool false, .slice none 0 0, .slice none 0 0]) rfl Ty109 rfl ((K4.nth 0 rfl).all 8) (.tmp rfl .nil)) (by simp) ?_))))
  have hhM_1 := hM.mv M1 quiet quiet quiet quiet quiet quiet
  have hhM_2 := hhM_1.mv M2 quiet quiet quiet quiet quiet quiet
  have hhM_3 := hhM_2.mv M3 quiet quiet quiet quiet quiet quiet
  have hhM_4 := hhM_3.mv M4 (neq (by omega)) (neq (by omega)) (neq (by omega)) (neq (by omega)) (neq (by omega)) (neq (by omega))
  have h1 : (es.length == 0) = true := by rw [beq_iff_eq]; omega
  simp only [h1, cond_true, cond_false] at hB
  subst hB
  exact ⟨_, ⟨true, r, 0, 0, false, nilS, nilS⟩, rfl, (K4.mv.shut hf0), hhM_4, rfl⟩
 ·refine Zc 19 (.bool false) (okv (by kernel_rfl) (congrArg Value.bool (beq_eq_false_iff_ne.2 t1))) ?_
  refine wpList_nil (hk3 _ _ (W.cond false rfl (wp_skip (hk2 _ _ (wp_seq_k fun k5 hk5 => (wp_seq_k fun k6 hk6 => ?_))))))
  refine wp_region_lit ?_
  refine Zc 22 (.agg r.cells.toArray) (exec_loads (cs := r.cells) rfl rfl Ty31 rfl ((K2.nth 1 rfl).all 2)) ?_
  refine W.op (O.call 23 35 #[.agg r.cells.toArray] (by kernel_rfl) rfl (by kernel_rfl) ((none_c r.num r.gen w2 g2).mono ?_))
  rintro e2 w5 ⟨g4, rfl, M5⟩
  have K5 := K2.step M5 nt_le quiet
  rcases bsplit (r.num == 0 && r.gen == 0) with t2 | t2
  ·refine ⟨_, congrArg Ending.returned (congrArg Value.bool t2), ?_⟩
   refine wpList_nil (hk6 _ _ (W.cond true rfl (wp_seq_k fun k7 hk7 => (wp_region_lit ?_))))
   refine Zb 25 (.slice s.a s.n s.c) ?_
   have hhes_1 := hes.mv M1 quiet
   have hhes_2 := hhes_1.mv M2 quiet
   have hhes_3 := hhes_2.mv M5 quiet
   refine W.op (O.call 26 64 #[.slice none 0 0, .slice s.a s.n s.c] (by kernel_rfl) rfl (by kernel_rfl) ((edited_c nilS [] s es (t0 + 31) w5 g4 (Ls.void _ _ Item.size) hhes_3 (by simp only [List.length_nil]; omega)).mono ?_))
   rintro e3 w6 ⟨g5, s1, rfl, M6, hq1⟩
   have K6 := K5.step M6 nt_le quiet
   have n2 := hq1.len
   refine ⟨_, rfl, ?_⟩
   refine Zb 24 (.tuple #[.slice s1.a s1.n s1.c, .bool ((edAll [] es).2)]) ?_
   refine Zb 27 (.slice s1.a s1.n s1.c) ?_
   refine Zb 28 (.bool ((edAll [] es).2)) ?_
   refine Zb 10 (.slice s1.a s1.n s1.c) ?_
   refine Zb 11 (.bool ((edAll [] es).2)) ?_
   refine wpList_nil (hk7 _ _ (wp_seq_k fun k8 hk8 => (wp_seq_k fun k9 hk9 => (wp_region_lit ?_))))
   refine Zb 29 (.slice s1.a s1.n s1.c) ?_
   refine Zb 30 (.int .i64 (s1.n : Int)) ?_
   by_cases t3 : (s1.n : Int) = 0
   ·refine Zc 31 (.bool true) (okv (by kernel_rfl) (congrArg Value.bool (beq_iff_eq.2 t3))) ?_
    refine wpList_nil (hk9 _ _ (W.cond true rfl (wp_seq_k fun k10 hk10 => (wp_region_lit ?_))))
    refine Zc 32 (.agg r.cells.toArray) (exec_loads (cs := r.cells) rfl rfl Ty31 rfl ((K6.nth 1 rfl).all 2)) ?_
    refine W.op (O.call 33 63 #[.agg r.cells.toArray] (by kernel_rfl) rfl (by kernel_rfl) ((kept_c r w6 g5).mono ?_))
    rintro e4 w7 ⟨g6, rfl, M7⟩
    have K7 := K6.step M7 nt_le quiet
    refine ⟨_, rfl, ?_⟩
    refine W.op (O.sta 0 [.bool true, .int .i64 r.num, .int .i64 r.gen, .int .i64 0, .int .i64 0, .bool false, .slice none 0 0, .slice none 0 0] rfl rfl rfl rfl rfl Ty109 rfl rfl rfl rfl K7 fun w8 K8 M8 => ?_)
    refine Zb 9 (.int .i64 0) ?_
    refine wpList_nil (hk10 _ _ (wp_ret (then_ret (then_ret (W.rets (vs := [.agg #[.bool true, .int .i64 r.num, .int .i64 r.gen, .int .i64 0, .int .i64 0, .bool false, .slice none 0 0, .slice none 0 0], .int .i64 0]) rfl (.agg (cs := [.bool true, .int .i64 r.num, .int .i64 r.gen, .int .i64 0, .int .i64 0, .bool false, .slice none 0 0, .slice none 0 0]) rfl Ty109 rfl ((K8.nth 0 rfl).all 8) (.tmp rfl .nil)) (by simp) ?_)))))
    have hhM_5 := hM.mv M1 quiet quiet quiet quiet quiet quiet
    have hhM_6 := hhM_5.mv M2 quiet quiet quiet quiet quiet quiet
    have hhM_7 := hhM_6.mv M5 quiet quiet quiet quiet quiet quiet
    have hhM_8 := hhM_7.mv M6 quiet quiet quiet quiet quiet quiet
    have hhM_9 := hhM_8.mv M7 quiet quiet quiet quiet quiet quiet
    have hhM_10 := hhM_9.mv M8 (neq (by omega)) (neq (by omega)) (neq (by omega)) (neq (by omega)) (neq (by omega)) (neq (by omega))
    have h1 : (es.length == 0) = false := by rw [beq_eq_false_iff_ne]; omega
    have h2 : r.none = true := t2
    have h3 : ((isort ltItem (edAll [] es).1).length == 0) = true := by rw [beq_iff_eq]; omega
    simp only [h1, h2, h3, cond_true, cond_false] at hB
    subst hB
    exact ⟨_, ⟨true, r, 0, 0, false, nilS, nilS⟩, rfl, (K8.mv.shut hf0), hhM_10, rfl⟩
   ·refine Zc 31 (.bool false) (okv (by kernel_rfl) (congrArg Value.bool (beq_eq_false_iff_ne.2 t3))) ?_
    refine wpList_nil (hk9 _ _ (W.cond false rfl (wp_skip (hk8 _ _ (wp_seq_k fun k11 hk11 => (wp_region_lit ?_))))))
    refine Zb 34 (.slice s1.a s1.n s1.c) ?_
    refine Zb 35 (.int .i64 ↑l) ?_
    have M9 := Mv.recol w6 g5 (t0 + 31) 0
    have K9 := K6.step M9 (eq_lo (by omega)) (neq (by omega))
    have h1 := hq1.ice
    have n3 := h1.len
    refine W.op (O.call 36 65 #[.slice s1.a s1.n s1.c, .int .i64 ↑l, .int .i64 0] (by kernel_rfl) rfl (by kernel_rfl) ((built_c n s1 (isort ltItem (edAll [] es).1) l 0 w6 (recol g5 (t0 + 31) 0) hl16 h1 (by rw [isort_length]; have h9 := edAll_len [] es; simp only [List.length_nil] at h9; omega) (kOk.ed (fun x hx => by cases hx) hky)).mono ?_))
    rintro e5 w9 ⟨g7, c1, rfl, M10, hq2⟩
    have K10 := K9.step M10 nt_le quiet
    refine ⟨_, rfl, ?_⟩
    refine W.op (O.sta 0 c1.cells rfl rfl rfl rfl rfl Ty109 rfl rfl rfl rfl K10 fun w10 K11 M11 => ?_)
    refine Zb 9 (.int .i64 0) ?_
    refine wpList_nil (hk11 _ _ (wp_ret (then_ret (W.rets (vs := [.agg c1.cells.toArray, .int .i64 0]) rfl (.agg (cs := c1.cells) rfl Ty109 rfl ((K11.nth 0 rfl).all 8) (.tmp rfl .nil)) (by simp) ?_))))
    have hhM_11 := hM.mv M1 quiet quiet quiet quiet quiet quiet
    have hhM_12 := hhM_11.mv M2 quiet quiet quiet quiet quiet quiet
    have hhM_13 := hhM_12.mv M5 quiet quiet quiet quiet quiet quiet
    have hhM_14 := hhM_13.mv M6 quiet quiet quiet quiet quiet quiet
    have hhM_15 := hhM_14.mv M9 (neq (by omega)) (neq (by omega)) (neq (by omega)) (neq (by omega)) (neq (by omega)) (neq (by omega))
    have hhM_16 := hhM_15.mv M10 quiet quiet quiet quiet quiet quiet
    have hhM_17 := hhM_16.mv M11 (neq (by omega)) (neq (by omega)) (neq (by omega)) (neq (by omega)) (neq (by omega)) (neq (by omega))
    have h1 : (es.length == 0) = false := by rw [beq_eq_false_iff_ne]; omega
    have h2 : r.none = true := t2
    have h3 : ((isort ltItem (edAll [] es).1).length == 0) = false := by rw [beq_eq_false_iff_ne]; omega
    have hf2_1 := hq2.mv M11 (neq (by omega))
    simp only [h1, h2, h3, cond_true, cond_false] at hB
    subst hB
    exact ⟨_, c1, rfl, (K11.mv.shut hf0), hhM_17, hf2_1⟩
  ·refine ⟨_, congrArg Ending.returned (congrArg Value.bool t2), ?_⟩
   refine wpList_nil (hk6 _ _ (W.cond false rfl (wp_skip (hk5 _ _ (wp_seq_k fun k12 hk12 => (wp_region_lit ?_))))))
   refine Zb 38 (.pointer (some ⟨q, 0, none⟩)) ?_
   refine Zc 39 (.agg r.cells.toArray) (exec_loads (cs := r.cells) rfl rfl Ty31 rfl ((K5.nth 1 rfl).all 2)) ?_
   refine Zb 40 (.int .i64 ↑l) ?_
   have hhM_18 := hM.mv M1 quiet quiet quiet quiet quiet quiet
   have hhM_19 := hhM_18.mv M2 quiet quiet quiet quiet quiet quiet
   have hhM_20 := hhM_19.mv M5 quiet quiet quiet quiet quiet quiet
   rcases hnd : (S).node r l with _ | nd9
   ·refine W.op (O.call 41 36 #[.pointer (some ⟨q, 0, none⟩), .agg r.cells.toArray, .int .i64 ↑l] (by kernel_rfl) rfl (by kernel_rfl) ((nodeN_c τ q p S r l w5 g4 hhM_20 (by omega) ((hok.at (Gr.refl S)).1) ((hok.at (Gr.refl S)).2.1) ((hok.at (Gr.refl S)).2.2.1) hnd).mono ?_))
    rintro e6 w11 ⟨g8, s2, rfl, M12, hq3⟩
    have K12 := K5.step M12 (le_lo (fun _ h => h)) (nrg (by omega))
    refine ⟨_, rfl, ?_⟩
    refine Zb 37 (.tuple #[.agg ((Nd.zero.at s2).cells).toArray, .int .i64 ((S.seen r).got), .int .i64 130]) ?_
    refine Zb 42 (.agg ((Nd.zero.at s2).cells).toArray) ?_
    refine Zb 43 (.int .i64 ((S.seen r).got)) ?_
    refine Zb 44 (.int .i64 130) ?_
    refine W.op (O.new 12 66 Z66 rfl rfl (by kernel_rfl) K12 fun b3 w12 g10 K13 M14 => ?_)
    refine W.op (O.sta 0 (Nd.zero.at s2).cells rfl rfl rfl rfl rfl Ty66 rfl rfl rfl rfl K13 fun w13 K14 M15 => ?_)
    refine Zb 13 (.int .i64 ((S.seen r).got)) ?_
    refine Zb 14 (.int .i64 130) ?_
    refine wpList_nil (hk12 _ _ (wp_seq_k fun k13 hk13 => (wp_seq_k fun k14 hk14 => (wp_region_lit ?_))))
    refine Zb 45 (.int .i64 130) ?_
    refine Zb 46 (.bool true) ?_
    refine wpList_nil (hk14 _ _ (W.cond true rfl (wp_seq_k fun k15 hk15 => (wp_region_lit ?_))))
    refine Zb 47 (.agg #[.bool false, .int .i64 0, .int .i64 0, .int .i64 0, .int .i64 0, .bool false, .slice none 0 0, .slice none 0 0]) ?_
    refine Zb 48 (.int .i64 130) ?_
    refine W.op (O.sta 1 [.bool false, .int .i64 0, .int .i64 0, .int .i64 0, .int .i64 0, .bool false, .slice none 0 0, .slice none 0 0] rfl rfl rfl rfl rfl Ty109 rfl rfl rfl rfl K14 fun w14 K15 M16 => ?_)
    refine Zb 9 (.int .i64 130) ?_
    refine wpList_nil (hk15 _ _ (wp_ret (then_ret (W.rets (vs := [.agg #[.bool false, .int .i64 0, .int .i64 0, .int .i64 0, .int .i64 0, .bool false, .slice none 0 0, .slice none 0 0], .int .i64 130]) rfl (.agg (cs := [.bool false, .int .i64 0, .int .i64 0, .int .i64 0, .int .i64 0, .bool false, .slice none 0 0, .slice none 0 0]) rfl Ty109 rfl ((K15.nth 1 rfl).all 8) (.tmp rfl .nil)) (by simp) ?_))))
    have hhM_21 := hq3.mv M14 quiet quiet quiet quiet quiet quiet
    have hhM_22 := hhM_21.mv M15 (neq (by omega)) (neq (by omega)) (neq (by omega)) (neq (by omega)) (neq (by omega)) (neq (by omega))
    have hhM_23 := hhM_22.mv M16 (neq (by omega)) (neq (by omega)) (neq (by omega)) (neq (by omega)) (neq (by omega)) (neq (by omega))
    have h1 : (es.length == 0) = false := by rw [beq_eq_false_iff_ne]; omega
    have h2 : r.none = false := t2
    simp only [h1, h2, hnd, cond_true, cond_false] at hB
    subst hB
    exact ⟨_, zeroPl, rfl, (K15.mv.shut hf0), hhM_23, rfl⟩
   ·refine W.op (O.call 41 36 #[.pointer (some ⟨q, 0, none⟩), .agg r.cells.toArray, .int .i64 ↑l] (by kernel_rfl) rfl (by kernel_rfl) ((nodeS_c τ q p S r l nd9 w5 g4 hhM_20 (by omega) ((hok.at (Gr.refl S)).1) ((hok.at (Gr.refl S)).2.1) ((hok.at (Gr.refl S)).2.2.1) hnd).mono ?_))
    rintro e7 w15 ⟨g9, s3, rfl, M13, hq4, hq5, hq6⟩
    have K16 := K5.step M13 (le_lo (fun _ h => h)) (nrg (by omega))
    have n4 := hq5.len
    refine ⟨_, rfl, ?_⟩
    refine Zb 37 (.tuple #[.agg ((nd9.at s3).cells).toArray, .int .i64 ((S.seen r).got), .int .i64 0]) ?_
    refine Zb 42 (.agg ((nd9.at s3).cells).toArray) ?_
    refine Zb 43 (.int .i64 ((S.seen r).got)) ?_
    refine Zb 44 (.int .i64 0) ?_
    refine W.op (O.new 12 66 Z66 rfl rfl (by kernel_rfl) K16 fun b4 w16 g11 K17 M17 => ?_)
    refine W.op (O.sta 0 (nd9.at s3).cells rfl rfl rfl rfl rfl Ty66 rfl rfl rfl rfl K17 fun w17 K18 M18 => ?_)
    refine Zb 13 (.int .i64 ((S.seen r).got)) ?_
    refine Zb 14 (.int .i64 0) ?_
    refine wpList_nil (hk12 _ _ (wp_seq_k fun k16 hk16 => (wp_seq_k fun k17 hk17 => (wp_region_lit ?_))))
    refine Zb 45 (.int .i64 0) ?_
    refine Zb 46 (.bool false) ?_
    refine wpList_nil (hk17 _ _ (W.cond false rfl (wp_skip (hk16 _ _ (wp_seq_k fun k18 hk18 => (wp_seq_k fun k19 hk19 => ?_))))))
    refine wp_region_lit ?_
    refine Zb 49 (.pointer (some ⟨b4, 0, none⟩)) ?_
    rcases bsplit (nd9.leaf) with t4 | t4
    ·refine Zc 50 (.bool true) (okv (exec_load rfl rfl Ty4 ((K18.nth 0 rfl).cell 0)) (congrArg Value.bool t4)) ?_
     refine wpList_nil (hk19 _ _ (W.cond true rfl (wp_seq_k fun k20 hk20 => (wp_region_lit ?_))))
     refine Zb 52 (.pointer (some ⟨b4, 2, none⟩)) ?_
     refine Zc 53 (.slice s3.a s3.n s3.c) (exec_load rfl rfl Ty37 ((K18.nth 0 rfl).cell 2)) ?_
     refine Zb 54 (.slice s.a s.n s.c) ?_
     have hlf9 := hlf nd9 (by omega) t2 hnd t4
     have hf3_1 := hq5.mv M17 quiet
     have hf3_2 := hf3_1.mv M18 (neq (by omega))
     have hhes_4 := hes.mv M1 quiet
     have hhes_5 := hhes_4.mv M2 quiet
     have hhes_6 := hhes_5.mv M5 quiet
     have hhes_7 := hhes_6.mv M13 (nrg (by omega))
     have hhes_8 := hhes_7.mv M17 quiet
     have hhes_9 := hhes_8.mv M18 (neq (by omega))
     refine W.op (O.call 55 64 #[.slice s3.a s3.n s3.c, .slice s.a s.n s.c] (by kernel_rfl) rfl (by kernel_rfl) ((edited_c s3 nd9.its s es (t0 + 32) w17 g11 hf3_2 hhes_9 (by have := hlf9.1; omega)).mono ?_))
     rintro e8 w18 ⟨g12, s4, rfl, M19, hq7⟩
     have K19 := K18.step M19 nt_le quiet
     have n5 := hq7.len
     refine ⟨_, rfl, ?_⟩
     refine Zb 51 (.tuple #[.slice s4.a s4.n s4.c, .bool ((edAll nd9.its es).2)]) ?_
     refine Zb 56 (.slice s4.a s4.n s4.c) ?_
     rcases bsplit ((edAll nd9.its es).2) with t5 | t5
     ·refine Zc 57 (.bool true) (okv (by kernel_rfl) (congrArg Value.bool t5)) ?_
      refine Zb 15 (.slice s4.a s4.n s4.c) ?_
      refine Zb 16 (.bool true) ?_
      refine wpList_nil (hk20 _ _ (wp_seq_k fun k21 hk21 => (wp_seq_k fun k22 hk22 => (wp_region_lit ?_))))
      refine Zb 58 (.bool true) ?_
      refine Zb 59 (.bool false) ?_
      refine wpList_nil (hk22 _ _ (W.cond false rfl (wp_skip (hk21 _ _ (wp_seq_k fun k23 hk23 => (wp_region_lit ?_))))))
      refine Zb 62 (.pointer (some ⟨q, 0, none⟩)) ?_
      refine Zc 63 (.agg r.cells.toArray) (exec_loads (cs := r.cells) rfl rfl Ty31 rfl ((K19.nth 2 rfl).all 2)) ?_
      refine Zb 64 (.int .i64 ((S.seen r).got)) ?_
      have hhM_24 := hq4.mv M17 quiet quiet quiet quiet quiet quiet
      have hhM_25 := hhM_24.mv M18 (neq (by omega)) (neq (by omega)) (neq (by omega)) (neq (by omega)) (neq (by omega)) (neq (by omega))
      have hhM_26 := hhM_25.mv M19 quiet quiet quiet quiet quiet quiet
      refine W.op (O.call 65 66 #[.pointer (some ⟨q, 0, none⟩), .agg r.cells.toArray, .int .i64 ((S.seen r).got)] (by kernel_rfl) rfl (by kernel_rfl) ((retire_c τ q p (S.seen r) r ((S.seen r).got) w18 g12 hhM_26 (by omega) ((hok.at (Gr.seen S r)).2.2.2.1)).mono ?_))
      rintro e9 w19 ⟨g13, rfl, M20, hq8⟩
      have K20 := K19.step M20 (le_lo (fun _ h => h)) (nrg (by omega))
      refine ⟨_, rfl, ?_⟩
      refine wpList_nil (hk23 _ _ (wp_seq_k fun k24 hk24 => (wp_region_lit ?_)))
      refine Zb 66 (.slice s4.a s4.n s4.c) ?_
      refine Zb 67 (.int .i64 ↑l) ?_
      refine Zb 68 (.pointer (some ⟨b4, 1, none⟩)) ?_
      refine Zc 69 (.int .i64 nd9.cnt) (exec_load rfl rfl Ty3 ((K20.nth 0 rfl).cell 1)) ?_
      have hf4_1 := hq7.mv M20 (nrg (by omega))
      have M21 := Mv.recol w19 g13 (t0 + 32) 0
      have K21 := K20.step M21 (eq_lo (by omega)) (neq (by omega))
      have h2 := hf4_1.ice
      have n6 := h2.len
      refine W.op (O.call 70 65 #[.slice s4.a s4.n s4.c, .int .i64 ↑l, .int .i64 nd9.cnt] (by kernel_rfl) rfl (by kernel_rfl) ((built_c n s4 (isort ltItem (edAll nd9.its es).1) l nd9.cnt w19 (recol g13 (t0 + 32) 0) hl16 h2 (by rw [isort_length]; have h9 := edAll_len nd9.its es; have := hlf9.1; omega) (kOk.ed hlf9.2 hky)).mono ?_))
      rintro e10 w20 ⟨g14, c2, rfl, M22, hq9⟩
      have K22 := K21.step M22 nt_le quiet
      refine ⟨_, rfl, ?_⟩
      refine W.op (O.sta 1 c2.cells rfl rfl rfl rfl rfl Ty109 rfl rfl rfl rfl K22 fun w21 K23 M23 => ?_)
      refine Zb 9 (.int .i64 0) ?_
      refine wpList_nil (hk24 _ _ (wp_ret (then_ret (W.rets (vs := [.agg c2.cells.toArray, .int .i64 0]) rfl (.agg (cs := c2.cells) rfl Ty109 rfl ((K23.nth 1 rfl).all 8) (.tmp rfl .nil)) (by simp) ?_))))
      have hhM_27 := hq8.mv M21 (neq (by omega)) (neq (by omega)) (neq (by omega)) (neq (by omega)) (neq (by omega)) (neq (by omega))
      have hhM_28 := hhM_27.mv M22 quiet quiet quiet quiet quiet quiet
      have hhM_29 := hhM_28.mv M23 (neq (by omega)) (neq (by omega)) (neq (by omega)) (neq (by omega)) (neq (by omega)) (neq (by omega))
      have h1 : (es.length == 0) = false := by rw [beq_eq_false_iff_ne]; omega
      have h2 : r.none = false := t2
      have hf5_1 := hq9.mv M23 (neq (by omega))
      simp only [h1, h2, hnd, t4, t5, cond_true, cond_false] at hB
      subst hB
      exact ⟨_, c2, rfl, (K23.mv.shut hf0), hhM_29, hf5_1⟩
     ·refine Zc 57 (.bool false) (okv (by kernel_rfl) (congrArg Value.bool t5)) ?_
      refine Zb 15 (.slice s4.a s4.n s4.c) ?_
      refine Zb 16 (.bool false) ?_
      refine wpList_nil (hk20 _ _ (wp_seq_k fun k25 hk25 => (wp_seq_k fun k26 hk26 => (wp_region_lit ?_))))
      refine Zb 58 (.bool false) ?_
      refine Zb 59 (.bool true) ?_
      refine wpList_nil (hk26 _ _ (W.cond true rfl (wp_seq_k fun k27 hk27 => (wp_region_lit ?_))))
      refine Zc 60 (.agg r.cells.toArray) (exec_loads (cs := r.cells) rfl rfl Ty31 rfl ((K19.nth 2 rfl).all 2)) ?_
      refine W.op (O.call 61 63 #[.agg r.cells.toArray] (by kernel_rfl) rfl (by kernel_rfl) ((kept_c r w18 g12).mono ?_))
      rintro e11 w22 ⟨g15, rfl, M24⟩
      have K24 := K19.step M24 nt_le quiet
      refine ⟨_, rfl, ?_⟩
      refine W.op (O.sta 1 [.bool true, .int .i64 r.num, .int .i64 r.gen, .int .i64 0, .int .i64 0, .bool false, .slice none 0 0, .slice none 0 0] rfl rfl rfl rfl rfl Ty109 rfl rfl rfl rfl K24 fun w23 K25 M25 => ?_)
      refine Zb 9 (.int .i64 0) ?_
      refine wpList_nil (hk27 _ _ (wp_ret (then_ret (then_ret (W.rets (vs := [.agg #[.bool true, .int .i64 r.num, .int .i64 r.gen, .int .i64 0, .int .i64 0, .bool false, .slice none 0 0, .slice none 0 0], .int .i64 0]) rfl (.agg (cs := [.bool true, .int .i64 r.num, .int .i64 r.gen, .int .i64 0, .int .i64 0, .bool false, .slice none 0 0, .slice none 0 0]) rfl Ty109 rfl ((K25.nth 1 rfl).all 8) (.tmp rfl .nil)) (by simp) ?_)))))
      have hhM_30 := hq4.mv M17 quiet quiet quiet quiet quiet quiet
      have hhM_31 := hhM_30.mv M18 (neq (by omega)) (neq (by omega)) (neq (by omega)) (neq (by omega)) (neq (by omega)) (neq (by omega))
      have hhM_32 := hhM_31.mv M19 quiet quiet quiet quiet quiet quiet
      have hhM_33 := hhM_32.mv M24 quiet quiet quiet quiet quiet quiet
      have hhM_34 := hhM_33.mv M25 (neq (by omega)) (neq (by omega)) (neq (by omega)) (neq (by omega)) (neq (by omega)) (neq (by omega))
      have h1 : (es.length == 0) = false := by rw [beq_eq_false_iff_ne]; omega
      have h2 : r.none = false := t2
      simp only [h1, h2, hnd, t4, t5, cond_true, cond_false] at hB
      subst hB
      exact ⟨_, ⟨true, r, 0, 0, false, nilS, nilS⟩, rfl, (K25.mv.shut hf0), hhM_34, rfl⟩
    ·refine Zc 50 (.bool false) (okv (exec_load rfl rfl Ty4 ((K18.nth 0 rfl).cell 0)) (congrArg Value.bool t4)) ?_
     refine wpList_nil (hk19 _ _ (W.cond false rfl (wp_skip (hk18 _ _ (wp_seq_k fun k28 hk28 => (wp_region_lit ?_))))))
     refine Zb 71 (.pointer (some ⟨q, 0, none⟩)) ?_
     refine Zc 72 (.agg ((nd9.at s3).cells).toArray) (exec_loads (cs := (nd9.at s3).cells) rfl rfl Ty66 rfl ((K18.nth 0 rfl).all 35)) ?_
     refine Zc 73 (.agg r.cells.toArray) (exec_loads (cs := r.cells) rfl rfl Ty31 rfl ((K18.nth 2 rfl).all 2)) ?_
     refine Zb 74 (.int .i64 ((S.seen r).got)) ?_
     refine Zb 75 (.int .i64 ↑l) ?_
     refine Zb 76 (.slice s.a s.n s.c) ?_
     have hhM_35 := hq4.mv M17 quiet quiet quiet quiet quiet quiet
     have hhM_36 := hhM_35.mv M18 (neq (by omega)) (neq (by omega)) (neq (by omega)) (neq (by omega)) (neq (by omega)) (neq (by omega))
     have hhes_10 := hes.mv M1 quiet
     have hhes_11 := hhes_10.mv M2 quiet
     have hhes_12 := hhes_11.mv M5 quiet
     have hhes_13 := hhes_12.mv M13 (nrg (by omega))
     have hhes_14 := hhes_13.mv M17 quiet
     have hhes_15 := hhes_14.mv M18 (neq (by omega))
     refine W.op (O.call 77 67 #[.pointer (some ⟨q, 0, none⟩), .agg ((nd9.at s3).cells).toArray, .agg r.cells.toArray, .int .i64 ((S.seen r).got), .int .i64 ↑l, .slice s.a s.n s.c] (by kernel_rfl) rfl (by kernel_rfl) ((hbr nd9 s3 w17 g11 (by omega) t2 t4 hnd hhM_36 hhes_15).mono ?_))
     rintro e12 w24 ⟨g16, c3, rfl, M26, hq10, hq11⟩
     have K26 := K18.step M26 (le_lo (fun _ h => h)) (nrg (by omega))
     refine ⟨_, rfl, ?_⟩
     refine Zb 78 (.agg c3.cells.toArray) ?_
     refine Zb 79 (.int .i64 (errO (doneM (l + 1) r (S.seen r).got nd9.cnt (becKids (fun d S => becM n S (nd9.kid d) (es.filter fun e => digitOf e.it.key l == d)) 16 0 ⟨fun _ => .stay ⟨0, 0⟩, nd9.cnt, false⟩ (S.seen r))).1)) ?_
     refine W.op (O.sta 1 c3.cells rfl rfl rfl rfl rfl Ty109 rfl rfl rfl rfl K26 fun w25 K27 M27 => ?_)
     refine Zb 9 (.int .i64 (errO (doneM (l + 1) r (S.seen r).got nd9.cnt (becKids (fun d S => becM n S (nd9.kid d) (es.filter fun e => digitOf e.it.key l == d)) 16 0 ⟨fun _ => .stay ⟨0, 0⟩, nd9.cnt, false⟩ (S.seen r))).1)) ?_
     refine wpList_nil (hk28 _ _ (wp_ret (W.rets (vs := [.agg c3.cells.toArray, .int .i64 (errO (doneM (l + 1) r (S.seen r).got nd9.cnt (becKids (fun d S => becM n S (nd9.kid d) (es.filter fun e => digitOf e.it.key l == d)) 16 0 ⟨fun _ => .stay ⟨0, 0⟩, nd9.cnt, false⟩ (S.seen r))).1)]) rfl (.agg (cs := c3.cells) rfl Ty109 rfl ((K27.nth 1 rfl).all 8) (.tmp rfl .nil)) (by simp) ?_)))
     have hhM_37 := hq10.mv M27 (neq (by omega)) (neq (by omega)) (neq (by omega)) (neq (by omega)) (neq (by omega)) (neq (by omega))
     have h1 : (es.length == 0) = false := by rw [beq_eq_false_iff_ne]; omega
     have h2 : r.none = false := t2
     have hf6_1 := hq11.mv M27 (neq (by omega))
     simp only [h1, h2, hnd, t4, cond_true, cond_false] at hB
     subst hB
     exact ⟨_, c3, rfl, (K27.mv.shut hf0), hhM_37, hf6_1⟩

structure StB (S : St) : Prop where
  nodes : S.σ.nodes.length ≤ 5000000
  log : S.σ.log.length ≤ 5000000
  got0 : 0 ≤ S.got
  got1 : S.got ≤ 1048576
  rs : S.rs.length ≤ 5000000
theorem StB.ok {S S1 : St} (h : StB S) (g : Gr S S1) : StOk S1 := by
  have h1 := h.nodes; have h2 := h.log; have h3 := h.got0; have h4 := h.got1; have h5 := h.rs
  have k1 := g.nodes; have k2 := g.log; have k3 := g.got; have k4 := g.cap h4; have k5 := g.rs
  exact ⟨by rw [k1]; omega, by omega, by omega, k4, by omega⟩
theorem becomes_c (n : Nat) : ∀ (l τ q p : Nat) (S0 S : St) (r : Ref) (s : Sli) (es : List Edit) (w : World) (γ : Tg), l + n = 16 → SM τ w γ q p S → 2 ≤ τ → StB S0 → Gr S0 S → Ls 8 Edit.cells w γ s es → fitM (n + 1) S r es →
    Calls Try.prog 45 #[.pointer (some ⟨q, 0, none⟩), .agg r.cells.toArray, .int .i64 ((l : Nat) : Int), .slice s.a s.n s.c] w fun ε w' => ∃ (γ' : Tg) (c' : PlC), ε = .returned (.tuple #[.agg c'.cells.toArray, .int .i64 (errO (becM (n + 1) S r es).1)]) ∧ Mv (Rg τ (τ + 5)) w γ w' γ' ∧ SM τ w' γ' q p (becM (n + 1) S r es).2 ∧ PlR (becM (n + 1) S r es).1 w' γ' c' := by
  induction n with
  | zero =>
    intro l τ q p S0 S r s es w γ hl hM hτ hb hg hes hfit
    have hl15 : 16 - 0 = l := by omega
    unfold fitM at hfit
    rw [hl15] at hfit
    exact becomes_step τ q p S r l s es 0 w γ hM hτ (hb.ok hg) hes hfit.1 hfit.2.1 hl (fun nd h1 h2 h3 h4 => (hfit.2.2 h1 h2 nd h3).1 h4) (fun nd sx v g _ _ h1 h2 => by have := St.node_lt h2 h1; omega)
  | succ n ih =>
    intro l τ q p S0 S r s es w γ hl hM hτ hb hg hes hfit
    have hl15 : 16 - (n + 1) = l := by omega
    have hl17 : 17 - (n + 1) = l + 1 := by omega
    unfold fitM at hfit
    rw [hl15, hl17] at hfit
    refine becomes_step τ q p S r l s es (n + 1) w γ hM hτ (hb.ok hg) hes hfit.1 hfit.2.1 hl (fun nd h1 h2 h3 h4 => (hfit.2.2 h1 h2 nd h3).1 h4) (fun nd sx v g h51 h52 h1 h2 h3 h4 => ?_)
    · refine branch_step τ q p (S.seen r) (nd.at sx) r (S.seen r).got l s es (fun d S => becM (n + 1) S (nd.kid d) (es.filter fun e => digitOf e.it.key l == d)) (fun d S => fitM (n + 1) S (nd.kid d) (es.filter fun e => digitOf e.it.key l == d)) _ v g h3 hτ (hb.ok (hg.trans (Gr.seen S r))) h4 hfit.1 hfit.2.1 (St.node_lt h2 h1) (fun d S => becM_gr _ _ _ _)
        (fun S1 hS1 => hb.ok (hg.trans (Gr.ret h2 hS1 _ _))) ((hfit.2.2 h51 h52 nd h2).2 h1) rfl ?_
      intro j hj S1 sj v1 g1 k1 k2 k3 k4
      exact ih (l + 1) τ q p S0 S1 (nd.kid j) sj _ v1 g1 (by omega) k1 hτ hb ((hg.trans (Gr.seen S r)).trans k2) k4 k3

end Go.Proofs.Ytlfanphdnjoofaa
