/- Walks: All, Refs. -/
import Derived.Test.YtlfanphdnjoofaaT18
import Derived.Test.YtlfanphdnjoofaaM3
namespace Go.Proofs.Ytlfanphdnjoofaa
open Go.RowKit
set_option linter.unusedSimpArgs false
set_option linter.unusedVariables false
attribute [local irreducible] wpList Code.wp Calls OpS wpG

theorem seqKids_step {α : Type} {f : Nat → St → Option (List α) × St} {n d : Nat} {acc l : List α} {S S2 : St} (h : f d S = (some l, S2)) : seqKids f (n + 1) d acc S = seqKids f n (d + 1) (acc ++ l) S2 := by
  rw [seqKids, h]
theorem seqKids_lost {α : Type} {f : Nat → St → Option (List α) × St} {n d : Nat} {acc : List α} {S S2 : St} (h : f d S = (none, S2)) : seqKids f (n + 1) d acc S = (none, S2) := by
  rw [seqKids, h]
/-- What comes ahead stays ahead. -/
theorem seqKids_acc {α : Type} (f : Nat → St → Option (List α) × St) : ∀ (n d : Nat) (acc : List α) (S : St), seqKids f n d acc S = ((seqKids f n d [] S).1.map (acc ++ ·), (seqKids f n d [] S).2)
  | 0, d, acc, S => by simp [seqKids]
  | n + 1, d, acc, S => by
    unfold seqKids
    rcases f d S with ⟨_ | l, S2⟩
    · rfl
    · simp only
      rw [seqKids_acc f n (d + 1) (acc ++ l) S2, seqKids_acc f n (d + 1) ([] ++ l) S2]
      rcases seqKids f n (d + 1) [] S2 with ⟨_ | l2, S3⟩
      · rfl
      · simp
theorem kids_part (x : Nd) (k : Nat) (hk : k < 16) : (((x.cells.drop 3).take 32).drop (k * 2)).take 2 = (x.kid k).cells := by
  match k, hk with
  | 0, _ => rfl | 1, _ => rfl | 2, _ => rfl | 3, _ => rfl | 4, _ => rfl | 5, _ => rfl | 6, _ => rfl | 7, _ => rfl
  | 8, _ => rfl | 9, _ => rfl | 10, _ => rfl | 11, _ => rfl | 12, _ => rfl | 13, _ => rfl | 14, _ => rfl | 15, _ => rfl
  | n + 16, h => exact absurd h (by omega)
def allL (o : Option (List Item)) : List Item := match o with
  | none => []
  | some l => isort ltItem l
def refsL (o : Option (List Ref)) : List Ref := match o with
  | none => []
  | some l => l
/-- The list that a walk grows: in a cell at b. -/
structure Lc {α : Type} (κ : Nat) (T E z : Nat) (f : α → List Value) (w : World) (g : Tg) (b : Nat) (xs : List α) : Prop where
  ex : ∃ s : Sli, Bt κ w g b T [.slice s.a s.n s.c] ∧ Gs (κ + 1) E z f w g s xs
theorem Lc.mv {α : Type} {κ T E z : Nat} {f : α → List Value} {U : Nat → Prop} {w w' : World} {g g' : Tg} {b : Nat} {xs : List α} (h : Lc κ T E z f w g b xs) (m : Mv U w g w' g') (h1 : ¬ U κ) (h2 : ¬ U (κ + 1)) : Lc κ T E z f w' g' b xs :=
  ⟨let ⟨s, a, c⟩ := h.ex; ⟨s, a.mv m h1, c.mv m h2⟩⟩

set_option maxRecDepth 100000 in
set_option maxHeartbeats 1000000 in
theorem All_step (τ : Nat) (q : Nat) (p : Nat) (S : St) (S0 : St) (r : Ref) (l : Nat) (bc : Nat) (bl : Nat) (bd : Nat) (acc : List Item) (n : Nat) (w : World) (γ : Tg) (hM : SM τ w γ q p S) (hL : Lc (τ + 5) 37 50 7 Item.cells w γ bl acc) (hc2 : Bt 0 w γ bc 89 [.pointer (some ⟨q, 0, none⟩)]) (hc4 : Bt 0 w γ bd 93 [.func (.func 34) #[] #[.pointer (some ⟨bc, 0, none⟩), .pointer (some ⟨bl, 0, none⟩), .pointer (some ⟨bd, 0, none⟩)]]) (hτ : 2 ≤ τ) (hb : StB S0) (hg : Gr S0 S) (hl16 : l + n = 16) (hfit : fitA (n + 1) S r acc.length) (hrec : ∀ (nd9 : Nd) (k : Nat), k < 16 → ∀ (S1 : St) (acc1 : List Item) (v : World) (g : Tg), nd9.leaf = false → S.node r l = some nd9 → SM τ v g q p S1 → Lc (τ + 5) 37 50 7 Item.cells v g bl acc1 → Bt 0 v g bc 89 [.pointer (some ⟨q, 0, none⟩)] → Bt 0 v g bd 93 [.func (.func 34) #[] #[.pointer (some ⟨bc, 0, none⟩), .pointer (some ⟨bl, 0, none⟩), .pointer (some ⟨bd, 0, none⟩)]] → Gr (S.seen r) S1 → fitA n S1 (nd9.kid k) acc1.length → Calls Try.prog 34 #[.agg (nd9.kid k).cells.toArray, .int .i64 ((l + 1 : Nat) : Int), .pointer (some ⟨bc, 0, none⟩), .pointer (some ⟨bl, 0, none⟩), .pointer (some ⟨bd, 0, none⟩)] v fun ε v' => ∃ (g' : Tg) (acc' : List Item), ε = .returned (.int .i64 (errO (allM n S1 (nd9.kid k)).1)) ∧ Mv (Rg τ (τ + 7)) v g v' g' ∧ SM τ v' g' q p (allM n S1 (nd9.kid k)).2 ∧ Lc (τ + 5) 37 50 7 Item.cells v' g' bl acc' ∧ (∀ its, (allM n S1 (nd9.kid k)).1 = some its → acc' = acc1 ++ its)) :
    Calls Try.prog 34 #[.agg r.cells.toArray, .int .i64 ((l : Nat) : Int), .pointer (some ⟨bc, 0, none⟩), .pointer (some ⟨bl, 0, none⟩), .pointer (some ⟨bd, 0, none⟩)] w fun ε w' => ∃ (γ' : Tg) (acc' : List Item), ε = .returned (.int .i64 (errO (allM (n + 1) S r).1)) ∧ Mv (Rg τ (τ + 7)) w γ w' γ' ∧ SM τ w' γ' q p (allM (n + 1) S r).2 ∧ Lc (τ + 5) 37 50 7 Item.cells w' γ' bl acc' ∧ (∀ its, (allM (n + 1) S r).1 = some its → acc' = acc ++ its) := by
 have hl15 : 16 - n = l := by omega
 have hB := allM_succ n S r
 rw [hl15] at hB
 generalize allM (n + 1) S r = FF at hB ⊢
 have K0 := Kn.start (Rg τ (τ + 7)) w γ
 refine W.enter (ws := [(4, .pointer (some ⟨bd, 0, none⟩)), (3, .pointer (some ⟨bl, 0, none⟩)), (2, .pointer (some ⟨bc, 0, none⟩)), (1, .int .i64 ↑l), (0, .agg r.cells.toArray)]) 47 Try.func34 rfl (by kernel_rfl) ?_
 have hfa := hfit
 unfold fitA at hfa
 rw [hl15] at hfa
 obtain ⟨⟨sl, hb3, hl3⟩⟩ := hL
 have n1 := hl3.len
 refine wp_seq_k fun k1 hk1 => (wp_region_lit ?_)
 refine W.op (O.new 5 31 r.cells rfl rfl (by kernel_rfl) K0 fun b1 w1 g1 K1 M1 => ?_)
 refine Zb 7 (.int .i64 0) ?_
 refine wpList_nil (hk1 _ _ (wp_seq_k fun k2 hk2 => (wp_seq_k fun k3 hk3 => (wp_region_lit ?_))))
 refine Zc 14 (.agg r.cells.toArray) (exec_loads (cs := r.cells) rfl rfl Ty31 rfl ((K1.nth 0 rfl).all 2)) ?_
 refine W.op (O.call 15 35 #[.agg r.cells.toArray] (by kernel_rfl) rfl (by kernel_rfl) ((none_c r.num r.gen w1 g1).mono ?_))
 rintro e1 w2 ⟨g2, rfl, M2⟩
 have K2 := K1.step M2 nt_le quiet
 rcases bsplit (r.num == 0 && r.gen == 0) with t1 | t1
 ·refine ⟨_, congrArg Ending.returned (congrArg Value.bool t1), ?_⟩
  refine wpList_nil (hk3 _ _ (W.cond true rfl (wp_seq_k fun k4 hk4 => (wp_region_lit ?_))))
  refine Zb 7 (.int .i64 0) ?_
  refine wpList_nil (hk4 _ _ (wp_ret (then_ret (W.ret1 (v := .int .i64 0) rfl (.tmp rfl .nil) ?_))))
  have hhM_1 := hM.mv M1 quiet quiet quiet quiet quiet quiet
  have hhM_2 := hhM_1.mv M2 quiet quiet quiet quiet quiet quiet
  have hN2 : r.none = true := t1
  have hlc_1 := hb3.mv M1 quiet
  have hlc_2 := hlc_1.mv M2 quiet
  have hlg_1 := hl3.mv M1 quiet
  have hlg_2 := hlg_1.mv M2 quiet
  simp only [hN2, cond_true, cond_false] at hB
  subst hB
  exact ⟨_, acc, rfl, K2.mv, hhM_2, ⟨⟨sl, hlc_2, hlg_2⟩⟩, (fun its h => by injection h with h; subst h; simp)⟩
 ·refine ⟨_, congrArg Ending.returned (congrArg Value.bool t1), ?_⟩
  refine wpList_nil (hk3 _ _ (W.cond false rfl (wp_skip (hk2 _ _ (wp_seq_k fun k5 hk5 => (wp_region_lit ?_))))))
  have hhc2_1 := hc2.mv M1 quiet
  have hhc2_2 := hhc2_1.mv M2 quiet
  refine Zc 17 (.pointer (some ⟨q, 0, none⟩)) (exec_load rfl rfl Ty89 ((hhc2_2.1).cell 0)) ?_
  refine Zc 18 (.agg r.cells.toArray) (exec_loads (cs := r.cells) rfl rfl Ty31 rfl ((K2.nth 0 rfl).all 2)) ?_
  refine Zb 19 (.int .i64 ↑l) ?_
  have hhM_3 := hM.mv M1 quiet quiet quiet quiet quiet quiet
  have hhM_4 := hhM_3.mv M2 quiet quiet quiet quiet quiet quiet
  rcases hnd : (S).node r l with _ | nd9
  ·refine W.op (O.call 20 36 #[.pointer (some ⟨q, 0, none⟩), .agg r.cells.toArray, .int .i64 ↑l] (by kernel_rfl) rfl (by kernel_rfl) ((nodeN_c τ q p S r l w2 g2 hhM_4 (by omega) (((hb.ok hg).at (Gr.refl S)).1) (((hb.ok hg).at (Gr.refl S)).2.1) (((hb.ok hg).at (Gr.refl S)).2.2.1) hnd).mono ?_))
   rintro e2 w3 ⟨g3, s1, rfl, M3, hq1⟩
   have K3 := K2.step M3 (rg_rg (by omega) (by omega)) (nrg (by omega))
   refine ⟨_, rfl, ?_⟩
   refine Zb 16 (.tuple #[.agg ((Nd.zero.at s1).cells).toArray, .int .i64 ((S.seen r).got), .int .i64 130]) ?_
   refine Zb 21 (.agg ((Nd.zero.at s1).cells).toArray) ?_
   refine Zb 22 (.int .i64 ((S.seen r).got)) ?_
   refine Zb 23 (.int .i64 130) ?_
   refine W.op (O.new 8 66 Z66 rfl rfl (by kernel_rfl) K3 fun b2 w4 g5 K4 M5 => ?_)
   refine W.op (O.sta 0 (Nd.zero.at s1).cells rfl rfl rfl rfl rfl Ty66 rfl rfl rfl rfl K4 fun w5 K5 M6 => ?_)
   refine Zb 9 (.int .i64 ((S.seen r).got)) ?_
   refine Zb 10 (.int .i64 130) ?_
   refine wpList_nil (hk5 _ _ (wp_seq_k fun k6 hk6 => (wp_seq_k fun k7 hk7 => (wp_region_lit ?_))))
   refine Zb 24 (.int .i64 130) ?_
   refine Zb 25 (.bool true) ?_
   refine wpList_nil (hk7 _ _ (W.cond true rfl (wp_seq_k fun k8 hk8 => (wp_region_lit ?_))))
   refine Zb 26 (.int .i64 130) ?_
   refine Zb 7 (.int .i64 130) ?_
   refine wpList_nil (hk8 _ _ (wp_ret (then_ret (W.ret1 (v := .int .i64 130) rfl (.tmp rfl .nil) ?_))))
   have hhM_5 := hq1.mv M5 quiet quiet quiet quiet quiet quiet
   have hhM_6 := hhM_5.mv M6 (neq (by omega)) (neq (by omega)) (neq (by omega)) (neq (by omega)) (neq (by omega)) (neq (by omega))
   have hN2 : r.none = false := t1
   have hlc_3 := hb3.mv M1 quiet
   have hlc_4 := hlc_3.mv M2 quiet
   have hlc_5 := hlc_4.mv M3 (nrg (by omega))
   have hlc_6 := hlc_5.mv M5 quiet
   have hlc_7 := hlc_6.mv M6 (neq (by omega))
   have hlg_3 := hl3.mv M1 quiet
   have hlg_4 := hlg_3.mv M2 quiet
   have hlg_5 := hlg_4.mv M3 (nrg (by omega))
   have hlg_6 := hlg_5.mv M5 quiet
   have hlg_7 := hlg_6.mv M6 (neq (by omega))
   simp only [hN2, hnd, cond_true, cond_false] at hB
   subst hB
   exact ⟨_, acc, rfl, K5.mv, hhM_6, ⟨⟨sl, hlc_7, hlg_7⟩⟩, (fun _ h => by cases h)⟩
  ·refine W.op (O.call 20 36 #[.pointer (some ⟨q, 0, none⟩), .agg r.cells.toArray, .int .i64 ↑l] (by kernel_rfl) rfl (by kernel_rfl) ((nodeS_c τ q p S r l nd9 w2 g2 hhM_4 (by omega) (((hb.ok hg).at (Gr.refl S)).1) (((hb.ok hg).at (Gr.refl S)).2.1) (((hb.ok hg).at (Gr.refl S)).2.2.1) hnd).mono ?_))
   rintro e3 w6 ⟨g4, s2, rfl, M4, hq2, hq3, hq4⟩
   have K6 := K2.step M4 (rg_rg (by omega) (by omega)) (nrg (by omega))
   have n2 := hq3.len
   refine ⟨_, rfl, ?_⟩
   refine Zb 16 (.tuple #[.agg ((nd9.at s2).cells).toArray, .int .i64 ((S.seen r).got), .int .i64 0]) ?_
   refine Zb 21 (.agg ((nd9.at s2).cells).toArray) ?_
   refine Zb 22 (.int .i64 ((S.seen r).got)) ?_
   refine Zb 23 (.int .i64 0) ?_
   refine W.op (O.new 8 66 Z66 rfl rfl (by kernel_rfl) K6 fun b3 w7 g6 K7 M7 => ?_)
   refine W.op (O.sta 0 (nd9.at s2).cells rfl rfl rfl rfl rfl Ty66 rfl rfl rfl rfl K7 fun w8 K8 M8 => ?_)
   refine Zb 9 (.int .i64 ((S.seen r).got)) ?_
   refine Zb 10 (.int .i64 0) ?_
   refine wpList_nil (hk5 _ _ (wp_seq_k fun k9 hk9 => (wp_seq_k fun k10 hk10 => (wp_region_lit ?_))))
   refine Zb 24 (.int .i64 0) ?_
   refine Zb 25 (.bool false) ?_
   refine wpList_nil (hk10 _ _ (W.cond false rfl (wp_skip (hk9 _ _ (wp_seq_k fun k11 hk11 => (wp_seq_k fun k12 hk12 => ?_))))))
   refine wp_region_lit ?_
   refine Zb 27 (.pointer (some ⟨b3, 0, none⟩)) ?_
   rcases bsplit (nd9.leaf) with t2 | t2
   ·refine Zc 28 (.bool true) (okv (exec_load rfl rfl Ty4 ((K8.nth 0 rfl).cell 0)) (congrArg Value.bool t2)) ?_
    refine wpList_nil (hk12 _ _ (W.cond true rfl (wp_seq_k fun k13 hk13 => (wp_region_lit ?_))))
    have hlc_8 := hb3.mv M1 quiet
    have hlc_9 := hlc_8.mv M2 quiet
    have hlc_10 := hlc_9.mv M4 (nrg (by omega))
    have hlc_11 := hlc_10.mv M7 quiet
    have hlc_12 := hlc_11.mv M8 (neq (by omega))
    refine Zc 29 (.slice sl.a sl.n sl.c) (exec_load rfl rfl Ty37 ((hlc_12.1).cell 0)) ?_
    refine Zb 30 (.pointer (some ⟨b3, 2, none⟩)) ?_
    refine Zc 31 (.slice s2.a s2.n s2.c) (exec_load rfl rfl Ty37 ((K8.nth 0 rfl).cell 2)) ?_
    have hll := (hfa.2 t1 nd9 hnd).1 t2
    have hf1_1 := hq3.mv M7 quiet
    have hf1_2 := hf1_1.mv M8 (neq (by omega))
    have hlg_8 := hl3.mv M1 quiet
    have hlg_9 := hlg_8.mv M2 quiet
    have hlg_10 := hlg_9.mv M4 (nrg (by omega))
    have hlg_11 := hlg_10.mv M7 quiet
    have hlg_12 := hlg_11.mv M8 (neq (by omega))
    refine W.op (O.append (f := Item.cells) 32 nd9.its (by kernel_rfl) rfl rfl (by kernel_rfl) El50 rfl rfl hlg_12 hf1_2.len hf1_2.src (fun _ => rfl) (by omega) (by omega) fun s3 w9 g7 hG1 M9 => ?_)
    have K9 := K8.step M9 (eq_rg (by omega)) (neq (by omega))
    have n3 := hG1.len
    have hlc_13 := hlc_12.mv M9 (neq (by omega))
    refine W.op (O.bst (.slice s3.a s3.n s3.c) (by kernel_rfl) rfl rfl rfl rfl Ty37 rfl rfl hlc_13 (Nat.le_of_ble_eq_true rfl) fun w10 hb1 M10 => ?_)
    have K10 := K9.step M10 (eq_rg (by omega)) (neq (by omega))
    refine wpList_nil (hk13 _ _ (wp_seq_k fun k14 hk14 => (wp_region_lit ?_)))
    refine Zb 7 (.int .i64 0) ?_
    refine wpList_nil (hk14 _ _ (wp_ret (then_ret (W.ret1 (v := .int .i64 0) rfl (.tmp rfl .nil) ?_))))
    have hhM_7 := hq2.mv M7 quiet quiet quiet quiet quiet quiet
    have hhM_8 := hhM_7.mv M8 (neq (by omega)) (neq (by omega)) (neq (by omega)) (neq (by omega)) (neq (by omega)) (neq (by omega))
    have hhM_9 := hhM_8.mv M9 (neq (by omega)) (neq (by omega)) (neq (by omega)) (neq (by omega)) (neq (by omega)) (neq (by omega))
    have hhM_10 := hhM_9.mv M10 (neq (by omega)) (neq (by omega)) (neq (by omega)) (neq (by omega)) (neq (by omega)) (neq (by omega))
    have hN2 : r.none = false := t1
    have hlg2_1 := hG1.mv M10 (neq (by omega))
    simp only [hN2, hnd, t2, cond_true, cond_false] at hB
    subst hB
    exact ⟨_, (acc ++ nd9.its), rfl, K10.mv, hhM_10, ⟨⟨s3, hb1, hlg2_1⟩⟩, (fun its h => by injection h with h; subst h; rfl)⟩
   ·refine Zc 28 (.bool false) (okv (exec_load rfl rfl Ty4 ((K8.nth 0 rfl).cell 0)) (congrArg Value.bool t2)) ?_
    refine wpList_nil (hk12 _ _ (W.cond false rfl (wp_skip (hk11 _ _ (wp_seq_k fun k15 hk15 => (wp_seq_k fun k16 hk16 => ?_))))))
    refine wp_region_lit ?_
    refine Zb 33 (.pointer (some ⟨b3, 3, none⟩)) ?_
    refine Zc 34 (.agg #[.int .i64 ((nd9.kid 0).num), .int .i64 ((nd9.kid 0).gen), .int .i64 ((nd9.kid 1).num), .int .i64 ((nd9.kid 1).gen), .int .i64 ((nd9.kid 2).num), .int .i64 ((nd9.kid 2).gen), .int .i64 ((nd9.kid 3).num), .int .i64 ((nd9.kid 3).gen), .int .i64 ((nd9.kid 4).num), .int .i64 ((nd9.kid 4).gen), .int .i64 ((nd9.kid 5).num), .int .i64 ((nd9.kid 5).gen), .int .i64 ((nd9.kid 6).num), .int .i64 ((nd9.kid 6).gen), .int .i64 ((nd9.kid 7).num), .int .i64 ((nd9.kid 7).gen), .int .i64 ((nd9.kid 8).num), .int .i64 ((nd9.kid 8).gen), .int .i64 ((nd9.kid 9).num), .int .i64 ((nd9.kid 9).gen), .int .i64 ((nd9.kid 10).num), .int .i64 ((nd9.kid 10).gen), .int .i64 ((nd9.kid 11).num), .int .i64 ((nd9.kid 11).gen), .int .i64 ((nd9.kid 12).num), .int .i64 ((nd9.kid 12).gen), .int .i64 ((nd9.kid 13).num), .int .i64 ((nd9.kid 13).gen), .int .i64 ((nd9.kid 14).num), .int .i64 ((nd9.kid 14).gen), .int .i64 ((nd9.kid 15).num), .int .i64 ((nd9.kid 15).gen)]) (exec_loads (cs := [.int .i64 ((nd9.kid 0).num), .int .i64 ((nd9.kid 0).gen), .int .i64 ((nd9.kid 1).num), .int .i64 ((nd9.kid 1).gen), .int .i64 ((nd9.kid 2).num), .int .i64 ((nd9.kid 2).gen), .int .i64 ((nd9.kid 3).num), .int .i64 ((nd9.kid 3).gen), .int .i64 ((nd9.kid 4).num), .int .i64 ((nd9.kid 4).gen), .int .i64 ((nd9.kid 5).num), .int .i64 ((nd9.kid 5).gen), .int .i64 ((nd9.kid 6).num), .int .i64 ((nd9.kid 6).gen), .int .i64 ((nd9.kid 7).num), .int .i64 ((nd9.kid 7).gen), .int .i64 ((nd9.kid 8).num), .int .i64 ((nd9.kid 8).gen), .int .i64 ((nd9.kid 9).num), .int .i64 ((nd9.kid 9).gen), .int .i64 ((nd9.kid 10).num), .int .i64 ((nd9.kid 10).gen), .int .i64 ((nd9.kid 11).num), .int .i64 ((nd9.kid 11).gen), .int .i64 ((nd9.kid 12).num), .int .i64 ((nd9.kid 12).gen), .int .i64 ((nd9.kid 13).num), .int .i64 ((nd9.kid 13).gen), .int .i64 ((nd9.kid 14).num), .int .i64 ((nd9.kid 14).gen), .int .i64 ((nd9.kid 15).num), .int .i64 ((nd9.kid 15).gen)]) rfl rfl Ty64 rfl ((K8.nth 0 rfl).part 3 32)) ?_
    refine Zb 35 (.int .i64 0) ?_
    refine wpList_nil (hk16 _ _ (wp_block ?_))
    have hlc_14 := hb3.mv M1 quiet
    have hlc_15 := hlc_14.mv M2 quiet
    have hlc_16 := hlc_15.mv M4 (nrg (by omega))
    have hlc_17 := hlc_16.mv M7 quiet
    have hlc_18 := hlc_17.mv M8 (neq (by omega))
    have hlg_13 := hl3.mv M1 quiet
    have hlg_14 := hlg_13.mv M2 quiet
    have hlg_15 := hlg_14.mv M4 (nrg (by omega))
    have hlg_16 := hlg_15.mv M7 quiet
    have hlg_17 := hlg_16.mv M8 (neq (by omega))
    have hL1 : Lc (τ + 5) 37 50 7 Item.cells w8 g6 bl acc := ⟨⟨sl, hlc_18, hlg_17⟩⟩
    have hfk := (hfa.2 t1 nd9 hnd).2 t2
    generalize hFF : seqKids (fun d S => allM n S (nd9.kid d)) 16 0 acc (S.seen r) = F
    have hhM_11 := hq2.mv M7 quiet quiet quiet quiet quiet quiet
    have hhM_12 := hhM_11.mv M8 (neq (by omega)) (neq (by omega)) (neq (by omega)) (neq (by omega)) (neq (by omega)) (neq (by omega))
    have hhc2_3 := hhc2_2.mv M4 (nrg (by omega))
    have hhc2_4 := hhc2_3.mv M7 quiet
    have hhc2_5 := hhc2_4.mv M8 (neq (by omega))
    have hhc4_1 := hc4.mv M1 quiet
    have hhc4_2 := hhc4_1.mv M2 quiet
    have hhc4_3 := hhc4_2.mv M4 (nrg (by omega))
    have hhc4_4 := hhc4_3.mv M7 quiet
    have hhc4_5 := hhc4_4.mv M8 (neq (by omega))
    refine W.loop (fun (μ0 : Nat) (ws : List (Nat × Value)) (w' : World) => ∃ (k : Nat) (acc1 : List Item) (S1 : St) (γ' : Tg) (ρ0 : List (Nat × Value)), μ0 = 16 - k ∧ ws = ((35, .int .i64 ↑k) :: (34, .agg #[.int .i64 ((nd9.kid 0).num), .int .i64 ((nd9.kid 0).gen), .int .i64 ((nd9.kid 1).num), .int .i64 ((nd9.kid 1).gen), .int .i64 ((nd9.kid 2).num), .int .i64 ((nd9.kid 2).gen), .int .i64 ((nd9.kid 3).num), .int .i64 ((nd9.kid 3).gen), .int .i64 ((nd9.kid 4).num), .int .i64 ((nd9.kid 4).gen), .int .i64 ((nd9.kid 5).num), .int .i64 ((nd9.kid 5).gen), .int .i64 ((nd9.kid 6).num), .int .i64 ((nd9.kid 6).gen), .int .i64 ((nd9.kid 7).num), .int .i64 ((nd9.kid 7).gen), .int .i64 ((nd9.kid 8).num), .int .i64 ((nd9.kid 8).gen), .int .i64 ((nd9.kid 9).num), .int .i64 ((nd9.kid 9).gen), .int .i64 ((nd9.kid 10).num), .int .i64 ((nd9.kid 10).gen), .int .i64 ((nd9.kid 11).num), .int .i64 ((nd9.kid 11).gen), .int .i64 ((nd9.kid 12).num), .int .i64 ((nd9.kid 12).gen), .int .i64 ((nd9.kid 13).num), .int .i64 ((nd9.kid 13).gen), .int .i64 ((nd9.kid 14).num), .int .i64 ((nd9.kid 14).gen), .int .i64 ((nd9.kid 15).num), .int .i64 ((nd9.kid 15).gen)]) :: (4, .pointer (some ⟨bd, 0, none⟩)) :: (1, .int .i64 ↑l) :: ρ0) ∧ Kn (Rg τ (τ + 7)) w γ [(b3, 66, (nd9.at s2).cells), (b1, 31, r.cells)] w' γ' ∧ Mv (Rg 1 (τ + 7)) w8 g6 w' γ' ∧ (k ≤ 16) ∧ (seqKids (fun d S => allM n S (nd9.kid d)) (16 - k) k acc1 S1 = F) ∧ (fitSeq (fun d S => allM n S (nd9.kid d)) (fun d S k => fitA n S (nd9.kid d) k) (16 - k) k acc1.length S1) ∧ (Gr (S.seen r) S1) ∧ SM τ w' γ' q p S1 ∧ Lc (τ + 5) 37 50 7 Item.cells w' γ' bl acc1 ∧ Bt 0 w' γ' bc 89 [.pointer (some ⟨q, 0, none⟩)] ∧ Bt 0 w' γ' bd 93 [.func (.func 34) #[] #[.pointer (some ⟨bc, 0, none⟩), .pointer (some ⟨bl, 0, none⟩), .pointer (some ⟨bd, 0, none⟩)]]) (16 - 0) ((((look_eq (t := 1) (v := .int .i64 ↑l) rfl).trans (look_eq (t := 4) (v := .pointer (some ⟨bd, 0, none⟩)) rfl)).trans (look_eq (t := 34) (v := .agg #[.int .i64 ((nd9.kid 0).num), .int .i64 ((nd9.kid 0).gen), .int .i64 ((nd9.kid 1).num), .int .i64 ((nd9.kid 1).gen), .int .i64 ((nd9.kid 2).num), .int .i64 ((nd9.kid 2).gen), .int .i64 ((nd9.kid 3).num), .int .i64 ((nd9.kid 3).gen), .int .i64 ((nd9.kid 4).num), .int .i64 ((nd9.kid 4).gen), .int .i64 ((nd9.kid 5).num), .int .i64 ((nd9.kid 5).gen), .int .i64 ((nd9.kid 6).num), .int .i64 ((nd9.kid 6).gen), .int .i64 ((nd9.kid 7).num), .int .i64 ((nd9.kid 7).gen), .int .i64 ((nd9.kid 8).num), .int .i64 ((nd9.kid 8).gen), .int .i64 ((nd9.kid 9).num), .int .i64 ((nd9.kid 9).gen), .int .i64 ((nd9.kid 10).num), .int .i64 ((nd9.kid 10).gen), .int .i64 ((nd9.kid 11).num), .int .i64 ((nd9.kid 11).gen), .int .i64 ((nd9.kid 12).num), .int .i64 ((nd9.kid 12).gen), .int .i64 ((nd9.kid 13).num), .int .i64 ((nd9.kid 13).gen), .int .i64 ((nd9.kid 14).num), .int .i64 ((nd9.kid 14).gen), .int .i64 ((nd9.kid 15).num), .int .i64 ((nd9.kid 15).gen)]) rfl)).trans (look_eq (t := 35) (v := .int .i64 ↑0) rfl)) ?_ ?_
    ·exact ⟨0, acc, (S.seen r), _, _, rfl, rfl, K8, Mv.refl _ _ _, Nat.zero_le _, hFF, (by first | exact hfk | (rw [List.length_append]; exact hfk)), Gr.refl _, hhM_12, hL1, hhc2_5, hhc4_5⟩
    ·rintro _ _ w11 ⟨k, acc1, S1, g8, r1, rfl, rfl, K11, M11, p1, p2, p3, p4, h1, h2, h3, h4⟩
     refine wp_seq_k fun k17 hk17 => (wp_region_lit ?_)
     by_cases t3 : ((k : Nat) : Int) < 16
     ·refine Zc 36 (.bool true) (okv (by kernel_rfl) (congrArg Value.bool (decide_eq_true t3))) ?_
      refine wpList_nil (hk17 _ _ (wp_seq_k fun k18 hk18 => (W.cond true rfl (wp_skip (hk18 _ _ (wp_seq_k fun k19 hk19 => ?_))))))
      refine wp_block (wp_seq_k fun k20 hk20 => (wp_region_lit ?_))
      refine Zc 37 (.agg ((nd9.kid k).cells).toArray) (exec_indexAn (P := Try.prog) (E := 31) (cs := ((nd9.at s2).cells.drop 3).take 32) (m := 16) (k := k) rfl (by kernel_rfl) Ty31 rfl rfl (by omega) (kids_part (nd9.at s2) k (by omega))) ?_
      refine W.op (O.new 12 31 [.int .i64 0, .int .i64 0] rfl rfl (by kernel_rfl) K11 fun b4 w12 g9 K12 M12 => ?_)
      refine W.op (O.sta 0 (nd9.kid k).cells rfl rfl rfl rfl rfl Ty31 rfl rfl rfl rfl K12 fun w13 K13 M13 => ?_)
      refine wpList_nil (hk20 _ _ (wp_seq_k fun k21 hk21 => (wp_region_lit ?_)))
      have hhc4_6 := h4.mv M12 quiet
      have hhc4_7 := hhc4_6.mv M13 (neq (by omega))
      refine Zc 38 (.func (.func 34) #[] #[.pointer (some ⟨bc, 0, none⟩), .pointer (some ⟨bl, 0, none⟩), .pointer (some ⟨bd, 0, none⟩)]) (exec_load rfl rfl Ty93 ((hhc4_7.1).cell 0)) ?_
      refine Zc 39 (.agg ((nd9.kid k).cells).toArray) (exec_loads (cs := (nd9.kid k).cells) rfl rfl Ty31 rfl ((K13.nth 0 rfl).all 2)) ?_
      refine Zb 40 (.int .i64 ↑l) ?_
      refine Zc 41 (.int .i64 ((l + 1 : Nat) : Int)) (okv (v := .int .i64 (IntKind.i64.wrap (((l : Nat) : Int) + 1))) (by kernel_rfl) (wrapn (by omega) (by omega))) ?_
      have hF1 := p2
      have hf1 := p3
      rw [show 16 - k = (16 - (k + 1)) + 1 by omega] at hF1 hf1
      have hhM_13 := h1.mv M12 quiet quiet quiet quiet quiet quiet
      have hhM_14 := hhM_13.mv M13 (neq (by omega)) (neq (by omega)) (neq (by omega)) (neq (by omega)) (neq (by omega)) (neq (by omega))
      have hhL_1 := h2.mv M12 quiet quiet
      have hhL_2 := hhL_1.mv M13 (neq (by omega)) (neq (by omega))
      have hhc2_6 := h3.mv M12 quiet
      have hhc2_7 := hhc2_6.mv M13 (neq (by omega))
      rcases hbk : allM n S1 (nd9.kid k) with ⟨_ | l9, S2⟩
      ·have hr9 := hrec nd9 k (by omega) S1 acc1 w13 g9 t2 hnd hhM_14 hhL_2 hhc2_7 hhc4_7 p4 hf1.2.1
       rw [hbk] at hr9
       refine W.op (O.call 42 34 #[.agg ((nd9.kid k).cells).toArray, .int .i64 ((l + 1 : Nat) : Int), .pointer (some ⟨bc, 0, none⟩), .pointer (some ⟨bl, 0, none⟩), .pointer (some ⟨bd, 0, none⟩)] (by kernel_rfl) rfl (by kernel_rfl) ((hr9).mono ?_))
       rintro e4 w14 ⟨g10, acc1, rfl, M14, hq5, hq6, hq7⟩
       have K14 := K13.step M14 (fun _ h => h) (nrg (by omega))
       refine ⟨_, rfl, ?_⟩
       refine Zb 13 (.int .i64 130) ?_
       refine wpList_nil (hk21 _ _ (wp_seq_k fun k22 hk22 => (wp_region_lit ?_)))
       refine Zb 43 (.int .i64 130) ?_
       refine Zb 44 (.bool true) ?_
       refine wpList_nil (hk22 _ _ (W.cond true rfl (wp_seq_k fun k23 hk23 => (wp_region_lit ?_))))
       refine Zb 45 (.int .i64 130) ?_
       refine Zb 7 (.int .i64 130) ?_
       refine wpList_nil (hk23 _ _ (wp_ret (block_ret (then_ret (then_ret (block_ret ?_))))))
       refine then_ret (W.ret1 (v := .int .i64 130) rfl (.tmp rfl .nil) ?_)
       have hN2 : r.none = false := t1
       simp only [hN2, hnd, t2, cond_true, cond_false] at hB
       have hac := seqKids_acc (fun d S => allM n S (nd9.kid d)) 16 0 acc (S.seen r)
       rw [hFF] at hac
       generalize seqKids (fun d S => allM n S (nd9.kid d)) 16 0 [] (S.seen r) = G at hac hB
       have hF2 : (none, S2) = F := (seqKids_lost hbk).symm.trans hF1
       rw [hac] at hF2
       rcases G with ⟨_ | G1, G2⟩
       ·injection hF2 with h91 h92
        subst h92
        subst hB
        exact ⟨_, acc1, rfl, K14.mv, hq5, hq6, (fun _ h => by cases h)⟩
       ·injection hF2 with h91
        cases h91
      ·have hr9 := hrec nd9 k (by omega) S1 acc1 w13 g9 t2 hnd hhM_14 hhL_2 hhc2_7 hhc4_7 p4 hf1.2.1
       rw [hbk] at hr9
       refine W.op (O.call 42 34 #[.agg ((nd9.kid k).cells).toArray, .int .i64 ((l + 1 : Nat) : Int), .pointer (some ⟨bc, 0, none⟩), .pointer (some ⟨bl, 0, none⟩), .pointer (some ⟨bd, 0, none⟩)] (by kernel_rfl) rfl (by kernel_rfl) ((hr9).mono ?_))
       rintro e5 w15 ⟨g11, acc2, rfl, M15, hq8, hq9, hq10⟩
       have K15 := K13.step M15 (fun _ h => h) (nrg (by omega))
       rw [hq10 l9 rfl] at hq9
       refine ⟨_, rfl, ?_⟩
       refine Zb 13 (.int .i64 0) ?_
       refine wpList_nil (hk21 _ _ (wp_seq_k fun k24 hk24 => (wp_region_lit ?_)))
       refine Zb 43 (.int .i64 0) ?_
       refine Zb 44 (.bool false) ?_
       refine wpList_nil (hk24 _ _ (W.cond false rfl (wp_skip (block_normal (hk19 _ _ (wp_region_lit ?_))))))
       refine Zc 46 (.int .i64 ((k + 1 : Nat) : Int)) (okv (v := .int .i64 (IntKind.i64.wrap (((k : Nat) : Int) + 1))) (by kernel_rfl) (wrapn (by omega) (by omega))) ?_
       refine Zb 35 (.int .i64 ((k + 1 : Nat) : Int)) ?_
       refine wpList_nil ?_
       have hhc2_8 := hhc2_7.mv M15 (nrg (by omega))
       have hhc4_8 := hhc4_7.mv M15 (nrg (by omega))
       exact ⟨16 - (k + 1), _, by omega, ((((look_eq (t := 1) (v := .int .i64 ↑l) rfl).trans (look_eq (t := 4) (v := .pointer (some ⟨bd, 0, none⟩)) rfl)).trans (look_eq (t := 34) (v := .agg #[.int .i64 ((nd9.kid 0).num), .int .i64 ((nd9.kid 0).gen), .int .i64 ((nd9.kid 1).num), .int .i64 ((nd9.kid 1).gen), .int .i64 ((nd9.kid 2).num), .int .i64 ((nd9.kid 2).gen), .int .i64 ((nd9.kid 3).num), .int .i64 ((nd9.kid 3).gen), .int .i64 ((nd9.kid 4).num), .int .i64 ((nd9.kid 4).gen), .int .i64 ((nd9.kid 5).num), .int .i64 ((nd9.kid 5).gen), .int .i64 ((nd9.kid 6).num), .int .i64 ((nd9.kid 6).gen), .int .i64 ((nd9.kid 7).num), .int .i64 ((nd9.kid 7).gen), .int .i64 ((nd9.kid 8).num), .int .i64 ((nd9.kid 8).gen), .int .i64 ((nd9.kid 9).num), .int .i64 ((nd9.kid 9).gen), .int .i64 ((nd9.kid 10).num), .int .i64 ((nd9.kid 10).gen), .int .i64 ((nd9.kid 11).num), .int .i64 ((nd9.kid 11).gen), .int .i64 ((nd9.kid 12).num), .int .i64 ((nd9.kid 12).gen), .int .i64 ((nd9.kid 13).num), .int .i64 ((nd9.kid 13).gen), .int .i64 ((nd9.kid 14).num), .int .i64 ((nd9.kid 14).gen), .int .i64 ((nd9.kid 15).num), .int .i64 ((nd9.kid 15).gen)]) rfl)).trans (look_eq (t := 35) (v := .int .i64 (((k + 1) : Nat) : Int)) rfl)), ⟨(k + 1), (acc1 ++ l9), S2, _, _, rfl, rfl, K15.tail, (((M11.trans (M12.mono nt_le)).trans (M13.mono (eq_rg (by omega)))).trans (M15.mono (rg_rg (by omega) (by omega)))), by omega, (seqKids_step hbk).symm.trans hF1, (by have h9 := hf1.2.2 l9 S2 hbk; rw [← List.length_append] at h9; exact h9), p4.trans (by have h9 := allM_gr n S1 (nd9.kid k); rw [hbk] at h9; exact h9), hq8, hq9, hhc2_8, hhc4_8⟩⟩
     ·refine Zc 36 (.bool false) (okv (by kernel_rfl) (congrArg Value.bool (decide_eq_false t3))) ?_
      refine wpList_nil (hk17 _ _ (wp_seq_k fun k25 hk25 => (W.cond false rfl (wp_exit (then_exit ?_)))))
      have hk9 : k = 16 := by omega
      have hFe := p2
      rw [hk9] at hFe
      have hFe2 : (some acc1, S1) = F := hFe
      refine then_exit (block_exit (hk15 _ _ (wp_seq_k fun k26 hk26 => (wp_region_lit ?_))))
      refine Zb 7 (.int .i64 0) ?_
      refine wpList_nil (hk26 _ _ (wp_ret (W.ret1 (v := .int .i64 0) rfl (.tmp rfl .nil) ?_)))
      have hN2 : r.none = false := t1
      simp only [hN2, hnd, t2, cond_true, cond_false] at hB
      have hac := seqKids_acc (fun d S => allM n S (nd9.kid d)) 16 0 acc (S.seen r)
      rw [hFF] at hac
      generalize seqKids (fun d S => allM n S (nd9.kid d)) 16 0 [] (S.seen r) = G at hac hB
      rw [hac] at hFe2
      rcases G with ⟨_ | G1, G2⟩
      ·injection hFe2 with h91
       cases h91
      ·injection hFe2 with h91 h92
       injection h91 with h91
       subst h92
       subst hB
       exact ⟨_, acc1, rfl, K11.mv, h1, h2, (fun its h => by injection h with h; subst h; first | exact h91 | exact h91.symm | simpa using h91 | simpa using h91.symm)⟩

theorem All_rec (n : Nat) : ∀ (τ : Nat) (q : Nat) (p : Nat) (S : St) (S0 : St) (r : Ref) (l : Nat) (bc : Nat) (bl : Nat) (bd : Nat) (acc : List Item) (w : World) (γ : Tg) (hM : SM τ w γ q p S) (hL : Lc (τ + 5) 37 50 7 Item.cells w γ bl acc) (hc2 : Bt 0 w γ bc 89 [.pointer (some ⟨q, 0, none⟩)]) (hc4 : Bt 0 w γ bd 93 [.func (.func 34) #[] #[.pointer (some ⟨bc, 0, none⟩), .pointer (some ⟨bl, 0, none⟩), .pointer (some ⟨bd, 0, none⟩)]]) (hτ : 2 ≤ τ) (hb : StB S0) (hg : Gr S0 S) (hl16 : l + n = 16) (hfit : fitA (n + 1) S r acc.length),
    Calls Try.prog 34 #[.agg r.cells.toArray, .int .i64 ((l : Nat) : Int), .pointer (some ⟨bc, 0, none⟩), .pointer (some ⟨bl, 0, none⟩), .pointer (some ⟨bd, 0, none⟩)] w fun ε w' => ∃ (γ' : Tg) (acc' : List Item), ε = .returned (.int .i64 (errO (allM (n + 1) S r).1)) ∧ Mv (Rg τ (τ + 7)) w γ w' γ' ∧ SM τ w' γ' q p (allM (n + 1) S r).2 ∧ Lc (τ + 5) 37 50 7 Item.cells w' γ' bl acc' ∧ (∀ its, (allM (n + 1) S r).1 = some its → acc' = acc ++ its) := by
  induction n with
  | zero =>
    intro τ q p S S0 r l bc bl bd acc w γ hM hL hc2 hc4 hτ hb hg hl16 hfit
    exact All_step τ q p S S0 r l bc bl bd acc 0 w γ hM hL hc2 hc4 hτ hb hg hl16 hfit (fun nd9 k hk S1 acc1 v g h1 h2 => by have := St.node_lt h2 h1; omega)
  | succ n ih =>
    intro τ q p S S0 r l bc bl bd acc w γ hM hL hc2 hc4 hτ hb hg hl16 hfit
    exact All_step τ q p S S0 r l bc bl bd acc (n + 1) w γ hM hL hc2 hc4 hτ hb hg hl16 hfit (fun nd9 k hk S1 acc1 v g h1 h2 k1 k2 k3 k4 k5 k6 =>
      ih τ q p S1 S0 (nd9.kid k) (l + 1) bc bl bd acc1 v g k1 k2 k3 k4 hτ hb ((hg.trans (Gr.seen S r)).trans k5) (by omega) k6)

set_option maxRecDepth 100000 in
set_option maxHeartbeats 1000000 in
theorem Refs_step (τ : Nat) (q : Nat) (p : Nat) (S : St) (S0 : St) (r : Ref) (l : Nat) (bc : Nat) (bl : Nat) (bd : Nat) (acc : List Ref) (n : Nat) (w : World) (γ : Tg) (hM : SM τ w γ q p S) (hL : Lc (τ + 5) 34 31 2 Ref.cells w γ bl acc) (hc2 : Bt 0 w γ bc 89 [.pointer (some ⟨q, 0, none⟩)]) (hc4 : Bt 0 w γ bd 93 [.func (.func 48) #[] #[.pointer (some ⟨bc, 0, none⟩), .pointer (some ⟨bl, 0, none⟩), .pointer (some ⟨bd, 0, none⟩)]]) (hτ : 2 ≤ τ) (hb : StB S0) (hg : Gr S0 S) (hl16 : l + n = 16) (hfit : fitR (n + 1) S r acc.length) (hrec : ∀ (nd9 : Nd) (k : Nat), k < 16 → ∀ (S1 : St) (acc1 : List Ref) (v : World) (g : Tg), nd9.leaf = false → S.node r l = some nd9 → SM τ v g q p S1 → Lc (τ + 5) 34 31 2 Ref.cells v g bl acc1 → Bt 0 v g bc 89 [.pointer (some ⟨q, 0, none⟩)] → Bt 0 v g bd 93 [.func (.func 48) #[] #[.pointer (some ⟨bc, 0, none⟩), .pointer (some ⟨bl, 0, none⟩), .pointer (some ⟨bd, 0, none⟩)]] → Gr (S.seen r) S1 → fitR n S1 (nd9.kid k) acc1.length → Calls Try.prog 48 #[.agg (nd9.kid k).cells.toArray, .int .i64 ((l + 1 : Nat) : Int), .pointer (some ⟨bc, 0, none⟩), .pointer (some ⟨bl, 0, none⟩), .pointer (some ⟨bd, 0, none⟩)] v fun ε v' => ∃ (g' : Tg) (acc' : List Ref), ε = .returned (.int .i64 (errO (refsM n S1 (nd9.kid k)).1)) ∧ Mv (Rg τ (τ + 7)) v g v' g' ∧ SM τ v' g' q p (refsM n S1 (nd9.kid k)).2 ∧ Lc (τ + 5) 34 31 2 Ref.cells v' g' bl acc' ∧ (∀ its, (refsM n S1 (nd9.kid k)).1 = some its → acc' = acc1 ++ its)) :
    Calls Try.prog 48 #[.agg r.cells.toArray, .int .i64 ((l : Nat) : Int), .pointer (some ⟨bc, 0, none⟩), .pointer (some ⟨bl, 0, none⟩), .pointer (some ⟨bd, 0, none⟩)] w fun ε w' => ∃ (γ' : Tg) (acc' : List Ref), ε = .returned (.int .i64 (errO (refsM (n + 1) S r).1)) ∧ Mv (Rg τ (τ + 7)) w γ w' γ' ∧ SM τ w' γ' q p (refsM (n + 1) S r).2 ∧ Lc (τ + 5) 34 31 2 Ref.cells w' γ' bl acc' ∧ (∀ its, (refsM (n + 1) S r).1 = some its → acc' = acc ++ its) := by
 have hl15 : 16 - n = l := by omega
 have hB := refsM_succ n S r
 rw [hl15] at hB
 generalize refsM (n + 1) S r = FF at hB ⊢
 have K0 := Kn.start (Rg τ (τ + 7)) w γ
 refine W.enter (ws := [(4, .pointer (some ⟨bd, 0, none⟩)), (3, .pointer (some ⟨bl, 0, none⟩)), (2, .pointer (some ⟨bc, 0, none⟩)), (1, .int .i64 ↑l), (0, .agg r.cells.toArray)]) 47 Try.func48 rfl (by kernel_rfl) ?_
 have hfa := hfit
 unfold fitR at hfa
 rw [hl15] at hfa
 obtain ⟨⟨sl, hb3, hl3⟩⟩ := hL
 have n1 := hl3.len
 refine wp_seq_k fun k1 hk1 => (wp_region_lit ?_)
 refine W.op (O.new 5 31 r.cells rfl rfl (by kernel_rfl) K0 fun b1 w1 g1 K1 M1 => ?_)
 refine Zb 7 (.int .i64 0) ?_
 refine wpList_nil (hk1 _ _ (wp_seq_k fun k2 hk2 => (wp_seq_k fun k3 hk3 => (wp_region_lit ?_))))
 refine Zc 14 (.agg r.cells.toArray) (exec_loads (cs := r.cells) rfl rfl Ty31 rfl ((K1.nth 0 rfl).all 2)) ?_
 refine W.op (O.call 15 35 #[.agg r.cells.toArray] (by kernel_rfl) rfl (by kernel_rfl) ((none_c r.num r.gen w1 g1).mono ?_))
 rintro e1 w2 ⟨g2, rfl, M2⟩
 have K2 := K1.step M2 nt_le quiet
 rcases bsplit (r.num == 0 && r.gen == 0) with t1 | t1
 ·refine ⟨_, congrArg Ending.returned (congrArg Value.bool t1), ?_⟩
  refine wpList_nil (hk3 _ _ (W.cond true rfl (wp_seq_k fun k4 hk4 => (wp_region_lit ?_))))
  refine Zb 7 (.int .i64 0) ?_
  refine wpList_nil (hk4 _ _ (wp_ret (then_ret (W.ret1 (v := .int .i64 0) rfl (.tmp rfl .nil) ?_))))
  have hhM_1 := hM.mv M1 quiet quiet quiet quiet quiet quiet
  have hhM_2 := hhM_1.mv M2 quiet quiet quiet quiet quiet quiet
  have hN2 : r.none = true := t1
  have hlc_1 := hb3.mv M1 quiet
  have hlc_2 := hlc_1.mv M2 quiet
  have hlg_1 := hl3.mv M1 quiet
  have hlg_2 := hlg_1.mv M2 quiet
  simp only [hN2, cond_true, cond_false] at hB
  subst hB
  exact ⟨_, acc, rfl, K2.mv, hhM_2, ⟨⟨sl, hlc_2, hlg_2⟩⟩, (fun its h => by injection h with h; subst h; simp)⟩
 ·refine ⟨_, congrArg Ending.returned (congrArg Value.bool t1), ?_⟩
  refine wpList_nil (hk3 _ _ (W.cond false rfl (wp_skip (hk2 _ _ (wp_seq_k fun k5 hk5 => (wp_region_lit ?_))))))
  have hhc2_1 := hc2.mv M1 quiet
  have hhc2_2 := hhc2_1.mv M2 quiet
  refine Zc 17 (.pointer (some ⟨q, 0, none⟩)) (exec_load rfl rfl Ty89 ((hhc2_2.1).cell 0)) ?_
  refine Zc 18 (.agg r.cells.toArray) (exec_loads (cs := r.cells) rfl rfl Ty31 rfl ((K2.nth 0 rfl).all 2)) ?_
  refine Zb 19 (.int .i64 ↑l) ?_
  have hhM_3 := hM.mv M1 quiet quiet quiet quiet quiet quiet
  have hhM_4 := hhM_3.mv M2 quiet quiet quiet quiet quiet quiet
  rcases hnd : (S).node r l with _ | nd9
  ·refine W.op (O.call 20 36 #[.pointer (some ⟨q, 0, none⟩), .agg r.cells.toArray, .int .i64 ↑l] (by kernel_rfl) rfl (by kernel_rfl) ((nodeN_c τ q p S r l w2 g2 hhM_4 (by omega) (((hb.ok hg).at (Gr.refl S)).1) (((hb.ok hg).at (Gr.refl S)).2.1) (((hb.ok hg).at (Gr.refl S)).2.2.1) hnd).mono ?_))
   rintro e2 w3 ⟨g3, s1, rfl, M3, hq1⟩
   have K3 := K2.step M3 (rg_rg (by omega) (by omega)) (nrg (by omega))
   refine ⟨_, rfl, ?_⟩
   refine Zb 16 (.tuple #[.agg ((Nd.zero.at s1).cells).toArray, .int .i64 ((S.seen r).got), .int .i64 130]) ?_
   refine Zb 21 (.agg ((Nd.zero.at s1).cells).toArray) ?_
   refine Zb 22 (.int .i64 ((S.seen r).got)) ?_
   refine Zb 23 (.int .i64 130) ?_
   refine W.op (O.new 8 66 Z66 rfl rfl (by kernel_rfl) K3 fun b2 w4 g5 K4 M5 => ?_)
   refine W.op (O.sta 0 (Nd.zero.at s1).cells rfl rfl rfl rfl rfl Ty66 rfl rfl rfl rfl K4 fun w5 K5 M6 => ?_)
   refine Zb 9 (.int .i64 ((S.seen r).got)) ?_
   refine Zb 10 (.int .i64 130) ?_
   refine wpList_nil (hk5 _ _ (wp_seq_k fun k6 hk6 => (wp_seq_k fun k7 hk7 => (wp_region_lit ?_))))
   refine Zb 24 (.int .i64 130) ?_
   refine Zb 25 (.bool true) ?_
   refine wpList_nil (hk7 _ _ (W.cond true rfl (wp_seq_k fun k8 hk8 => (wp_region_lit ?_))))
   refine Zb 26 (.int .i64 130) ?_
   refine Zb 7 (.int .i64 130) ?_
   refine wpList_nil (hk8 _ _ (wp_ret (then_ret (W.ret1 (v := .int .i64 130) rfl (.tmp rfl .nil) ?_))))
   have hhM_5 := hq1.mv M5 quiet quiet quiet quiet quiet quiet
   have hhM_6 := hhM_5.mv M6 (neq (by omega)) (neq (by omega)) (neq (by omega)) (neq (by omega)) (neq (by omega)) (neq (by omega))
   have hN2 : r.none = false := t1
   have hlc_3 := hb3.mv M1 quiet
   have hlc_4 := hlc_3.mv M2 quiet
   have hlc_5 := hlc_4.mv M3 (nrg (by omega))
   have hlc_6 := hlc_5.mv M5 quiet
   have hlc_7 := hlc_6.mv M6 (neq (by omega))
   have hlg_3 := hl3.mv M1 quiet
   have hlg_4 := hlg_3.mv M2 quiet
   have hlg_5 := hlg_4.mv M3 (nrg (by omega))
   have hlg_6 := hlg_5.mv M5 quiet
   have hlg_7 := hlg_6.mv M6 (neq (by omega))
   simp only [hN2, hnd, cond_true, cond_false] at hB
   subst hB
   exact ⟨_, acc, rfl, K5.mv, hhM_6, ⟨⟨sl, hlc_7, hlg_7⟩⟩, (fun _ h => by cases h)⟩
  ·refine W.op (O.call 20 36 #[.pointer (some ⟨q, 0, none⟩), .agg r.cells.toArray, .int .i64 ↑l] (by kernel_rfl) rfl (by kernel_rfl) ((nodeS_c τ q p S r l nd9 w2 g2 hhM_4 (by omega) (((hb.ok hg).at (Gr.refl S)).1) (((hb.ok hg).at (Gr.refl S)).2.1) (((hb.ok hg).at (Gr.refl S)).2.2.1) hnd).mono ?_))
   rintro e3 w6 ⟨g4, s2, rfl, M4, hq2, hq3, hq4⟩
   have K6 := K2.step M4 (rg_rg (by omega) (by omega)) (nrg (by omega))
   have n2 := hq3.len
   refine ⟨_, rfl, ?_⟩
   refine Zb 16 (.tuple #[.agg ((nd9.at s2).cells).toArray, .int .i64 ((S.seen r).got), .int .i64 0]) ?_
   refine Zb 21 (.agg ((nd9.at s2).cells).toArray) ?_
   refine Zb 22 (.int .i64 ((S.seen r).got)) ?_
   refine Zb 23 (.int .i64 0) ?_
   refine W.op (O.new 8 66 Z66 rfl rfl (by kernel_rfl) K6 fun b3 w7 g6 K7 M7 => ?_)
   refine W.op (O.sta 0 (nd9.at s2).cells rfl rfl rfl rfl rfl Ty66 rfl rfl rfl rfl K7 fun w8 K8 M8 => ?_)
   refine Zb 9 (.int .i64 ((S.seen r).got)) ?_
   refine Zb 10 (.int .i64 0) ?_
   refine wpList_nil (hk5 _ _ (wp_seq_k fun k9 hk9 => (wp_seq_k fun k10 hk10 => (wp_region_lit ?_))))
   refine Zb 24 (.int .i64 0) ?_
   refine Zb 25 (.bool false) ?_
   refine wpList_nil (hk10 _ _ (W.cond false rfl (wp_skip (hk9 _ _ (wp_seq_k fun k11 hk11 => (wp_region_lit ?_))))))
   have hlc_8 := hb3.mv M1 quiet
   have hlc_9 := hlc_8.mv M2 quiet
   have hlc_10 := hlc_9.mv M4 (nrg (by omega))
   have hlc_11 := hlc_10.mv M7 quiet
   have hlc_12 := hlc_11.mv M8 (neq (by omega))
   refine Zc 27 (.slice sl.a sl.n sl.c) (exec_load rfl rfl Ty34 ((hlc_12.1).cell 0)) ?_
   refine Zc 28 (.agg r.cells.toArray) (exec_loads (cs := r.cells) rfl rfl Ty31 rfl ((K8.nth 1 rfl).all 2)) ?_
   refine W.op (O.lit 29 31 [.int .i64 r.num, .int .i64 r.gen] 1 rfl rfl (by kernel_rfl) K8 fun b4 w9 g7 K9 M9 => ?_)
   have hlg_8 := hl3.mv M1 quiet
   have hlg_9 := hlg_8.mv M2 quiet
   have hlg_10 := hlg_9.mv M4 (nrg (by omega))
   have hlg_11 := hlg_10.mv M7 quiet
   have hlg_12 := hlg_11.mv M8 (neq (by omega))
   have hlg_13 := hlg_12.mv M9 quiet
   refine W.op (O.append (f := Ref.cells) 30 [r] (by kernel_rfl) rfl rfl (by kernel_rfl) El31 rfl rfl hlg_13 rfl (src1 (K9.nth 0 rfl) rfl) (fun _ => rfl) (by have := hfa.1; simp only [List.length_cons, List.length_nil]; omega) (by have := hfa.1; simp only [List.length_cons, List.length_nil]; omega) fun s3 w10 g8 hG1 M10 => ?_)
   have K10 := K9.step M10 (eq_rg (by omega)) (neq (by omega))
   have n3 := hG1.len
   have hlc_13 := hlc_12.mv M9 quiet
   have hlc_14 := hlc_13.mv M10 (neq (by omega))
   refine W.op (O.bst (.slice s3.a s3.n s3.c) (by kernel_rfl) rfl rfl rfl rfl Ty34 rfl rfl hlc_14 (Nat.le_of_ble_eq_true rfl) fun w11 hb1 M11 => ?_)
   have K11 := K10.step M11 (eq_rg (by omega)) (neq (by omega))
   refine wpList_nil (hk11 _ _ (wp_seq_k fun k12 hk12 => (wp_seq_k fun k13 hk13 => (wp_region_lit ?_))))
   refine Zb 31 (.pointer (some ⟨b3, 0, none⟩)) ?_
   rcases bsplit (nd9.leaf) with t2 | t2
   ·refine Zc 32 (.bool true) (okv (exec_load rfl rfl Ty4 ((K11.nth 1 rfl).cell 0)) (congrArg Value.bool t2)) ?_
    refine wpList_nil (hk13 _ _ (W.cond true rfl (wp_seq_k fun k14 hk14 => (wp_region_lit ?_))))
    refine Zb 7 (.int .i64 0) ?_
    refine wpList_nil (hk14 _ _ (wp_ret (then_ret (W.ret1 (v := .int .i64 0) rfl (.tmp rfl .nil) ?_))))
    have hhM_7 := hq2.mv M7 quiet quiet quiet quiet quiet quiet
    have hhM_8 := hhM_7.mv M8 (neq (by omega)) (neq (by omega)) (neq (by omega)) (neq (by omega)) (neq (by omega)) (neq (by omega))
    have hhM_9 := hhM_8.mv M9 quiet quiet quiet quiet quiet quiet
    have hhM_10 := hhM_9.mv M10 (neq (by omega)) (neq (by omega)) (neq (by omega)) (neq (by omega)) (neq (by omega)) (neq (by omega))
    have hhM_11 := hhM_10.mv M11 (neq (by omega)) (neq (by omega)) (neq (by omega)) (neq (by omega)) (neq (by omega)) (neq (by omega))
    have hN2 : r.none = false := t1
    have hlg2_1 := hG1.mv M11 (neq (by omega))
    simp only [hN2, hnd, t2, cond_true, cond_false] at hB
    subst hB
    exact ⟨_, (acc ++ [r]), rfl, K11.mv, hhM_11, ⟨⟨s3, hb1, hlg2_1⟩⟩, (fun its h => by injection h with h; subst h; rfl)⟩
   ·refine Zc 32 (.bool false) (okv (exec_load rfl rfl Ty4 ((K11.nth 1 rfl).cell 0)) (congrArg Value.bool t2)) ?_
    refine wpList_nil (hk13 _ _ (W.cond false rfl (wp_skip (hk12 _ _ (wp_seq_k fun k15 hk15 => (wp_seq_k fun k16 hk16 => ?_))))))
    refine wp_region_lit ?_
    refine Zb 33 (.pointer (some ⟨b3, 3, none⟩)) ?_
    refine Zc 34 (.agg #[.int .i64 ((nd9.kid 0).num), .int .i64 ((nd9.kid 0).gen), .int .i64 ((nd9.kid 1).num), .int .i64 ((nd9.kid 1).gen), .int .i64 ((nd9.kid 2).num), .int .i64 ((nd9.kid 2).gen), .int .i64 ((nd9.kid 3).num), .int .i64 ((nd9.kid 3).gen), .int .i64 ((nd9.kid 4).num), .int .i64 ((nd9.kid 4).gen), .int .i64 ((nd9.kid 5).num), .int .i64 ((nd9.kid 5).gen), .int .i64 ((nd9.kid 6).num), .int .i64 ((nd9.kid 6).gen), .int .i64 ((nd9.kid 7).num), .int .i64 ((nd9.kid 7).gen), .int .i64 ((nd9.kid 8).num), .int .i64 ((nd9.kid 8).gen), .int .i64 ((nd9.kid 9).num), .int .i64 ((nd9.kid 9).gen), .int .i64 ((nd9.kid 10).num), .int .i64 ((nd9.kid 10).gen), .int .i64 ((nd9.kid 11).num), .int .i64 ((nd9.kid 11).gen), .int .i64 ((nd9.kid 12).num), .int .i64 ((nd9.kid 12).gen), .int .i64 ((nd9.kid 13).num), .int .i64 ((nd9.kid 13).gen), .int .i64 ((nd9.kid 14).num), .int .i64 ((nd9.kid 14).gen), .int .i64 ((nd9.kid 15).num), .int .i64 ((nd9.kid 15).gen)]) (exec_loads (cs := [.int .i64 ((nd9.kid 0).num), .int .i64 ((nd9.kid 0).gen), .int .i64 ((nd9.kid 1).num), .int .i64 ((nd9.kid 1).gen), .int .i64 ((nd9.kid 2).num), .int .i64 ((nd9.kid 2).gen), .int .i64 ((nd9.kid 3).num), .int .i64 ((nd9.kid 3).gen), .int .i64 ((nd9.kid 4).num), .int .i64 ((nd9.kid 4).gen), .int .i64 ((nd9.kid 5).num), .int .i64 ((nd9.kid 5).gen), .int .i64 ((nd9.kid 6).num), .int .i64 ((nd9.kid 6).gen), .int .i64 ((nd9.kid 7).num), .int .i64 ((nd9.kid 7).gen), .int .i64 ((nd9.kid 8).num), .int .i64 ((nd9.kid 8).gen), .int .i64 ((nd9.kid 9).num), .int .i64 ((nd9.kid 9).gen), .int .i64 ((nd9.kid 10).num), .int .i64 ((nd9.kid 10).gen), .int .i64 ((nd9.kid 11).num), .int .i64 ((nd9.kid 11).gen), .int .i64 ((nd9.kid 12).num), .int .i64 ((nd9.kid 12).gen), .int .i64 ((nd9.kid 13).num), .int .i64 ((nd9.kid 13).gen), .int .i64 ((nd9.kid 14).num), .int .i64 ((nd9.kid 14).gen), .int .i64 ((nd9.kid 15).num), .int .i64 ((nd9.kid 15).gen)]) rfl rfl Ty64 rfl ((K11.nth 1 rfl).part 3 32)) ?_
    refine Zb 35 (.int .i64 0) ?_
    refine wpList_nil (hk16 _ _ (wp_block ?_))
    have hlg2_2 := hG1.mv M11 (neq (by omega))
    have hL1 : Lc (τ + 5) 34 31 2 Ref.cells w11 g8 bl (acc ++ [r]) := ⟨⟨s3, hb1, hlg2_2⟩⟩
    have hfk := (hfa.2 t1 nd9 hnd) t2
    generalize hFF : seqKids (fun d S => refsM n S (nd9.kid d)) 16 0 (acc ++ [r]) (S.seen r) = F
    have hhM_12 := hq2.mv M7 quiet quiet quiet quiet quiet quiet
    have hhM_13 := hhM_12.mv M8 (neq (by omega)) (neq (by omega)) (neq (by omega)) (neq (by omega)) (neq (by omega)) (neq (by omega))
    have hhM_14 := hhM_13.mv M9 quiet quiet quiet quiet quiet quiet
    have hhM_15 := hhM_14.mv M10 (neq (by omega)) (neq (by omega)) (neq (by omega)) (neq (by omega)) (neq (by omega)) (neq (by omega))
    have hhM_16 := hhM_15.mv M11 (neq (by omega)) (neq (by omega)) (neq (by omega)) (neq (by omega)) (neq (by omega)) (neq (by omega))
    have hhc2_3 := hhc2_2.mv M4 (nrg (by omega))
    have hhc2_4 := hhc2_3.mv M7 quiet
    have hhc2_5 := hhc2_4.mv M8 (neq (by omega))
    have hhc2_6 := hhc2_5.mv M9 quiet
    have hhc2_7 := hhc2_6.mv M10 (neq (by omega))
    have hhc2_8 := hhc2_7.mv M11 (neq (by omega))
    have hhc4_1 := hc4.mv M1 quiet
    have hhc4_2 := hhc4_1.mv M2 quiet
    have hhc4_3 := hhc4_2.mv M4 (nrg (by omega))
    have hhc4_4 := hhc4_3.mv M7 quiet
    have hhc4_5 := hhc4_4.mv M8 (neq (by omega))
    have hhc4_6 := hhc4_5.mv M9 quiet
    have hhc4_7 := hhc4_6.mv M10 (neq (by omega))
    have hhc4_8 := hhc4_7.mv M11 (neq (by omega))
    refine W.loop (fun (μ0 : Nat) (ws : List (Nat × Value)) (w' : World) => ∃ (k : Nat) (acc1 : List Ref) (S1 : St) (γ' : Tg) (ρ0 : List (Nat × Value)), μ0 = 16 - k ∧ ws = ((35, .int .i64 ↑k) :: (34, .agg #[.int .i64 ((nd9.kid 0).num), .int .i64 ((nd9.kid 0).gen), .int .i64 ((nd9.kid 1).num), .int .i64 ((nd9.kid 1).gen), .int .i64 ((nd9.kid 2).num), .int .i64 ((nd9.kid 2).gen), .int .i64 ((nd9.kid 3).num), .int .i64 ((nd9.kid 3).gen), .int .i64 ((nd9.kid 4).num), .int .i64 ((nd9.kid 4).gen), .int .i64 ((nd9.kid 5).num), .int .i64 ((nd9.kid 5).gen), .int .i64 ((nd9.kid 6).num), .int .i64 ((nd9.kid 6).gen), .int .i64 ((nd9.kid 7).num), .int .i64 ((nd9.kid 7).gen), .int .i64 ((nd9.kid 8).num), .int .i64 ((nd9.kid 8).gen), .int .i64 ((nd9.kid 9).num), .int .i64 ((nd9.kid 9).gen), .int .i64 ((nd9.kid 10).num), .int .i64 ((nd9.kid 10).gen), .int .i64 ((nd9.kid 11).num), .int .i64 ((nd9.kid 11).gen), .int .i64 ((nd9.kid 12).num), .int .i64 ((nd9.kid 12).gen), .int .i64 ((nd9.kid 13).num), .int .i64 ((nd9.kid 13).gen), .int .i64 ((nd9.kid 14).num), .int .i64 ((nd9.kid 14).gen), .int .i64 ((nd9.kid 15).num), .int .i64 ((nd9.kid 15).gen)]) :: (4, .pointer (some ⟨bd, 0, none⟩)) :: (1, .int .i64 ↑l) :: ρ0) ∧ Kn (Rg τ (τ + 7)) w γ [(b4, 31, [.int .i64 r.num, .int .i64 r.gen]), (b3, 66, (nd9.at s2).cells), (b1, 31, r.cells)] w' γ' ∧ Mv (Rg 1 (τ + 7)) w11 g8 w' γ' ∧ (k ≤ 16) ∧ (seqKids (fun d S => refsM n S (nd9.kid d)) (16 - k) k acc1 S1 = F) ∧ (fitSeq (fun d S => refsM n S (nd9.kid d)) (fun d S k => fitR n S (nd9.kid d) k) (16 - k) k acc1.length S1) ∧ (Gr (S.seen r) S1) ∧ SM τ w' γ' q p S1 ∧ Lc (τ + 5) 34 31 2 Ref.cells w' γ' bl acc1 ∧ Bt 0 w' γ' bc 89 [.pointer (some ⟨q, 0, none⟩)] ∧ Bt 0 w' γ' bd 93 [.func (.func 48) #[] #[.pointer (some ⟨bc, 0, none⟩), .pointer (some ⟨bl, 0, none⟩), .pointer (some ⟨bd, 0, none⟩)]]) (16 - 0) ((((look_eq (t := 1) (v := .int .i64 ↑l) rfl).trans (look_eq (t := 4) (v := .pointer (some ⟨bd, 0, none⟩)) rfl)).trans (look_eq (t := 34) (v := .agg #[.int .i64 ((nd9.kid 0).num), .int .i64 ((nd9.kid 0).gen), .int .i64 ((nd9.kid 1).num), .int .i64 ((nd9.kid 1).gen), .int .i64 ((nd9.kid 2).num), .int .i64 ((nd9.kid 2).gen), .int .i64 ((nd9.kid 3).num), .int .i64 ((nd9.kid 3).gen), .int .i64 ((nd9.kid 4).num), .int .i64 ((nd9.kid 4).gen), .int .i64 ((nd9.kid 5).num), .int .i64 ((nd9.kid 5).gen), .int .i64 ((nd9.kid 6).num), .int .i64 ((nd9.kid 6).gen), .int .i64 ((nd9.kid 7).num), .int .i64 ((nd9.kid 7).gen), .int .i64 ((nd9.kid 8).num), .int .i64 ((nd9.kid 8).gen), .int .i64 ((nd9.kid 9).num), .int .i64 ((nd9.kid 9).gen), .int .i64 ((nd9.kid 10).num), .int .i64 ((nd9.kid 10).gen), .int .i64 ((nd9.kid 11).num), .int .i64 ((nd9.kid 11).gen), .int .i64 ((nd9.kid 12).num), .int .i64 ((nd9.kid 12).gen), .int .i64 ((nd9.kid 13).num), .int .i64 ((nd9.kid 13).gen), .int .i64 ((nd9.kid 14).num), .int .i64 ((nd9.kid 14).gen), .int .i64 ((nd9.kid 15).num), .int .i64 ((nd9.kid 15).gen)]) rfl)).trans (look_eq (t := 35) (v := .int .i64 ↑0) rfl)) ?_ ?_
    ·exact ⟨0, (acc ++ [r]), (S.seen r), _, _, rfl, rfl, K11, Mv.refl _ _ _, Nat.zero_le _, hFF, (by first | exact hfk | (rw [List.length_append]; exact hfk)), Gr.refl _, hhM_16, hL1, hhc2_8, hhc4_8⟩
    ·rintro _ _ w12 ⟨k, acc1, S1, g9, r1, rfl, rfl, K12, M12, p1, p2, p3, p4, h1, h2, h3, h4⟩
     refine wp_seq_k fun k17 hk17 => (wp_region_lit ?_)
     by_cases t3 : ((k : Nat) : Int) < 16
     ·refine Zc 36 (.bool true) (okv (by kernel_rfl) (congrArg Value.bool (decide_eq_true t3))) ?_
      refine wpList_nil (hk17 _ _ (wp_seq_k fun k18 hk18 => (W.cond true rfl (wp_skip (hk18 _ _ (wp_seq_k fun k19 hk19 => ?_))))))
      refine wp_block (wp_seq_k fun k20 hk20 => (wp_region_lit ?_))
      refine Zc 37 (.agg ((nd9.kid k).cells).toArray) (exec_indexAn (P := Try.prog) (E := 31) (cs := ((nd9.at s2).cells.drop 3).take 32) (m := 16) (k := k) rfl (by kernel_rfl) Ty31 rfl rfl (by omega) (kids_part (nd9.at s2) k (by omega))) ?_
      refine W.op (O.new 12 31 [.int .i64 0, .int .i64 0] rfl rfl (by kernel_rfl) K12 fun b5 w13 g10 K13 M13 => ?_)
      refine W.op (O.sta 0 (nd9.kid k).cells rfl rfl rfl rfl rfl Ty31 rfl rfl rfl rfl K13 fun w14 K14 M14 => ?_)
      refine wpList_nil (hk20 _ _ (wp_seq_k fun k21 hk21 => (wp_region_lit ?_)))
      have hhc4_9 := h4.mv M13 quiet
      have hhc4_10 := hhc4_9.mv M14 (neq (by omega))
      refine Zc 38 (.func (.func 48) #[] #[.pointer (some ⟨bc, 0, none⟩), .pointer (some ⟨bl, 0, none⟩), .pointer (some ⟨bd, 0, none⟩)]) (exec_load rfl rfl Ty93 ((hhc4_10.1).cell 0)) ?_
      refine Zc 39 (.agg ((nd9.kid k).cells).toArray) (exec_loads (cs := (nd9.kid k).cells) rfl rfl Ty31 rfl ((K14.nth 0 rfl).all 2)) ?_
      refine Zb 40 (.int .i64 ↑l) ?_
      refine Zc 41 (.int .i64 ((l + 1 : Nat) : Int)) (okv (v := .int .i64 (IntKind.i64.wrap (((l : Nat) : Int) + 1))) (by kernel_rfl) (wrapn (by omega) (by omega))) ?_
      have hF1 := p2
      have hf1 := p3
      rw [show 16 - k = (16 - (k + 1)) + 1 by omega] at hF1 hf1
      have hhM_17 := h1.mv M13 quiet quiet quiet quiet quiet quiet
      have hhM_18 := hhM_17.mv M14 (neq (by omega)) (neq (by omega)) (neq (by omega)) (neq (by omega)) (neq (by omega)) (neq (by omega))
      have hhL_1 := h2.mv M13 quiet quiet
      have hhL_2 := hhL_1.mv M14 (neq (by omega)) (neq (by omega))
      have hhc2_9 := h3.mv M13 quiet
      have hhc2_10 := hhc2_9.mv M14 (neq (by omega))
      rcases hbk : refsM n S1 (nd9.kid k) with ⟨_ | l9, S2⟩
      ·have hr9 := hrec nd9 k (by omega) S1 acc1 w14 g10 t2 hnd hhM_18 hhL_2 hhc2_10 hhc4_10 p4 hf1.2.1
       rw [hbk] at hr9
       refine W.op (O.call 42 48 #[.agg ((nd9.kid k).cells).toArray, .int .i64 ((l + 1 : Nat) : Int), .pointer (some ⟨bc, 0, none⟩), .pointer (some ⟨bl, 0, none⟩), .pointer (some ⟨bd, 0, none⟩)] (by kernel_rfl) rfl (by kernel_rfl) ((hr9).mono ?_))
       rintro e4 w15 ⟨g11, acc1, rfl, M15, hq5, hq6, hq7⟩
       have K15 := K14.step M15 (fun _ h => h) (nrg (by omega))
       refine ⟨_, rfl, ?_⟩
       refine Zb 13 (.int .i64 130) ?_
       refine wpList_nil (hk21 _ _ (wp_seq_k fun k22 hk22 => (wp_region_lit ?_)))
       refine Zb 43 (.int .i64 130) ?_
       refine Zb 44 (.bool true) ?_
       refine wpList_nil (hk22 _ _ (W.cond true rfl (wp_seq_k fun k23 hk23 => (wp_region_lit ?_))))
       refine Zb 45 (.int .i64 130) ?_
       refine Zb 7 (.int .i64 130) ?_
       refine wpList_nil (hk23 _ _ (wp_ret (block_ret (then_ret (then_ret (block_ret ?_))))))
       refine then_ret (W.ret1 (v := .int .i64 130) rfl (.tmp rfl .nil) ?_)
       have hN2 : r.none = false := t1
       simp only [hN2, hnd, t2, cond_true, cond_false] at hB
       have hac := seqKids_acc (fun d S => refsM n S (nd9.kid d)) 16 0 (acc ++ [r]) (S.seen r)
       rw [hFF] at hac
       have hac2 := seqKids_acc (fun d S => refsM n S (nd9.kid d)) 16 0 [r] (S.seen r)
       rw [hac2] at hB
       generalize seqKids (fun d S => refsM n S (nd9.kid d)) 16 0 [] (S.seen r) = G at hac hB
       have hF2 : (none, S2) = F := (seqKids_lost hbk).symm.trans hF1
       rw [hac] at hF2
       rcases G with ⟨_ | G1, G2⟩
       ·injection hF2 with h91 h92
        subst h92
        subst hB
        exact ⟨_, acc1, rfl, K15.mv, hq5, hq6, (fun _ h => by cases h)⟩
       ·injection hF2 with h91
        cases h91
      ·have hr9 := hrec nd9 k (by omega) S1 acc1 w14 g10 t2 hnd hhM_18 hhL_2 hhc2_10 hhc4_10 p4 hf1.2.1
       rw [hbk] at hr9
       refine W.op (O.call 42 48 #[.agg ((nd9.kid k).cells).toArray, .int .i64 ((l + 1 : Nat) : Int), .pointer (some ⟨bc, 0, none⟩), .pointer (some ⟨bl, 0, none⟩), .pointer (some ⟨bd, 0, none⟩)] (by kernel_rfl) rfl (by kernel_rfl) ((hr9).mono ?_))
       rintro e5 w16 ⟨g12, acc2, rfl, M16, hq8, hq9, hq10⟩
       have K16 := K14.step M16 (fun _ h => h) (nrg (by omega))
       rw [hq10 l9 rfl] at hq9
       refine ⟨_, rfl, ?_⟩
       refine Zb 13 (.int .i64 0) ?_
       refine wpList_nil (hk21 _ _ (wp_seq_k fun k24 hk24 => (wp_region_lit ?_)))
       refine Zb 43 (.int .i64 0) ?_
       refine Zb 44 (.bool false) ?_
       refine wpList_nil (hk24 _ _ (W.cond false rfl (wp_skip (block_normal (hk19 _ _ (wp_region_lit ?_))))))
       refine Zc 46 (.int .i64 ((k + 1 : Nat) : Int)) (okv (v := .int .i64 (IntKind.i64.wrap (((k : Nat) : Int) + 1))) (by kernel_rfl) (wrapn (by omega) (by omega))) ?_
       refine Zb 35 (.int .i64 ((k + 1 : Nat) : Int)) ?_
       refine wpList_nil ?_
       have hhc2_11 := hhc2_10.mv M16 (nrg (by omega))
       have hhc4_11 := hhc4_10.mv M16 (nrg (by omega))
       exact ⟨16 - (k + 1), _, by omega, ((((look_eq (t := 1) (v := .int .i64 ↑l) rfl).trans (look_eq (t := 4) (v := .pointer (some ⟨bd, 0, none⟩)) rfl)).trans (look_eq (t := 34) (v := .agg #[.int .i64 ((nd9.kid 0).num), .int .i64 ((nd9.kid 0).gen), .int .i64 ((nd9.kid 1).num), .int .i64 ((nd9.kid 1).gen), .int .i64 ((nd9.kid 2).num), .int .i64 ((nd9.kid 2).gen), .int .i64 ((nd9.kid 3).num), .int .i64 ((nd9.kid 3).gen), .int .i64 ((nd9.kid 4).num), .int .i64 ((nd9.kid 4).gen), .int .i64 ((nd9.kid 5).num), .int .i64 ((nd9.kid 5).gen), .int .i64 ((nd9.kid 6).num), .int .i64 ((nd9.kid 6).gen), .int .i64 ((nd9.kid 7).num), .int .i64 ((nd9.kid 7).gen), .int .i64 ((nd9.kid 8).num), .int .i64 ((nd9.kid 8).gen), .int .i64 ((nd9.kid 9).num), .int .i64 ((nd9.kid 9).gen), .int .i64 ((nd9.kid 10).num), .int .i64 ((nd9.kid 10).gen), .int .i64 ((nd9.kid 11).num), .int .i64 ((nd9.kid 11).gen), .int .i64 ((nd9.kid 12).num), .int .i64 ((nd9.kid 12).gen), .int .i64 ((nd9.kid 13).num), .int .i64 ((nd9.kid 13).gen), .int .i64 ((nd9.kid 14).num), .int .i64 ((nd9.kid 14).gen), .int .i64 ((nd9.kid 15).num), .int .i64 ((nd9.kid 15).gen)]) rfl)).trans (look_eq (t := 35) (v := .int .i64 (((k + 1) : Nat) : Int)) rfl)), ⟨(k + 1), (acc1 ++ l9), S2, _, _, rfl, rfl, K16.tail, (((M12.trans (M13.mono nt_le)).trans (M14.mono (eq_rg (by omega)))).trans (M16.mono (rg_rg (by omega) (by omega)))), by omega, (seqKids_step hbk).symm.trans hF1, (by have h9 := hf1.2.2 l9 S2 hbk; rw [← List.length_append] at h9; exact h9), p4.trans (by have h9 := refsM_gr n S1 (nd9.kid k); rw [hbk] at h9; exact h9), hq8, hq9, hhc2_11, hhc4_11⟩⟩
     ·refine Zc 36 (.bool false) (okv (by kernel_rfl) (congrArg Value.bool (decide_eq_false t3))) ?_
      refine wpList_nil (hk17 _ _ (wp_seq_k fun k25 hk25 => (W.cond false rfl (wp_exit (then_exit ?_)))))
      have hk9 : k = 16 := by omega
      have hFe := p2
      rw [hk9] at hFe
      have hFe2 : (some acc1, S1) = F := hFe
      refine then_exit (block_exit (hk15 _ _ (wp_seq_k fun k26 hk26 => (wp_region_lit ?_))))
      refine Zb 7 (.int .i64 0) ?_
      refine wpList_nil (hk26 _ _ (wp_ret (W.ret1 (v := .int .i64 0) rfl (.tmp rfl .nil) ?_)))
      have hN2 : r.none = false := t1
      simp only [hN2, hnd, t2, cond_true, cond_false] at hB
      have hac := seqKids_acc (fun d S => refsM n S (nd9.kid d)) 16 0 (acc ++ [r]) (S.seen r)
      rw [hFF] at hac
      have hac2 := seqKids_acc (fun d S => refsM n S (nd9.kid d)) 16 0 [r] (S.seen r)
      rw [hac2] at hB
      generalize seqKids (fun d S => refsM n S (nd9.kid d)) 16 0 [] (S.seen r) = G at hac hB
      rw [hac] at hFe2
      rcases G with ⟨_ | G1, G2⟩
      ·injection hFe2 with h91
       cases h91
      ·injection hFe2 with h91 h92
       injection h91 with h91
       subst h92
       subst hB
       exact ⟨_, acc1, rfl, K12.mv, h1, h2, (fun its h => by injection h with h; subst h; first | exact h91 | exact h91.symm | simpa using h91 | simpa using h91.symm)⟩

theorem Refs_rec (n : Nat) : ∀ (τ : Nat) (q : Nat) (p : Nat) (S : St) (S0 : St) (r : Ref) (l : Nat) (bc : Nat) (bl : Nat) (bd : Nat) (acc : List Ref) (w : World) (γ : Tg) (hM : SM τ w γ q p S) (hL : Lc (τ + 5) 34 31 2 Ref.cells w γ bl acc) (hc2 : Bt 0 w γ bc 89 [.pointer (some ⟨q, 0, none⟩)]) (hc4 : Bt 0 w γ bd 93 [.func (.func 48) #[] #[.pointer (some ⟨bc, 0, none⟩), .pointer (some ⟨bl, 0, none⟩), .pointer (some ⟨bd, 0, none⟩)]]) (hτ : 2 ≤ τ) (hb : StB S0) (hg : Gr S0 S) (hl16 : l + n = 16) (hfit : fitR (n + 1) S r acc.length),
    Calls Try.prog 48 #[.agg r.cells.toArray, .int .i64 ((l : Nat) : Int), .pointer (some ⟨bc, 0, none⟩), .pointer (some ⟨bl, 0, none⟩), .pointer (some ⟨bd, 0, none⟩)] w fun ε w' => ∃ (γ' : Tg) (acc' : List Ref), ε = .returned (.int .i64 (errO (refsM (n + 1) S r).1)) ∧ Mv (Rg τ (τ + 7)) w γ w' γ' ∧ SM τ w' γ' q p (refsM (n + 1) S r).2 ∧ Lc (τ + 5) 34 31 2 Ref.cells w' γ' bl acc' ∧ (∀ its, (refsM (n + 1) S r).1 = some its → acc' = acc ++ its) := by
  induction n with
  | zero =>
    intro τ q p S S0 r l bc bl bd acc w γ hM hL hc2 hc4 hτ hb hg hl16 hfit
    exact Refs_step τ q p S S0 r l bc bl bd acc 0 w γ hM hL hc2 hc4 hτ hb hg hl16 hfit (fun nd9 k hk S1 acc1 v g h1 h2 => by have := St.node_lt h2 h1; omega)
  | succ n ih =>
    intro τ q p S S0 r l bc bl bd acc w γ hM hL hc2 hc4 hτ hb hg hl16 hfit
    exact Refs_step τ q p S S0 r l bc bl bd acc (n + 1) w γ hM hL hc2 hc4 hτ hb hg hl16 hfit (fun nd9 k hk S1 acc1 v g h1 h2 k1 k2 k3 k4 k5 k6 =>
      ih τ q p S1 S0 (nd9.kid k) (l + 1) bc bl bd acc1 v g k1 k2 k3 k4 hτ hb ((hg.trans (Gr.seen S r)).trans k5) (by omega) k6)

set_option maxRecDepth 100000 in
set_option maxHeartbeats 1000000 in
theorem All_c (τ : Nat) (p : Nat) (σ : TapeS) (top : Ref) (t : Nat) (w : World) (γ : Tg) (hT : Tp τ w γ p σ) (hτ : 2 ≤ τ) (h1 : σ.nodes.length ≤ 4000000) (h2 : σ.log.length ≤ 3000000) (hfit : fitA 17 ⟨σ, 0, []⟩ top 0) (hlen : ∀ l S, allM (16 + 1) ⟨σ, 0, []⟩ top = (some l, S) → l.length ≤ 100000) :
    Calls Try.prog 16 #[.iface 29 (.pointer (some ⟨p, 0, none⟩)), .agg top.cells.toArray] w fun ε w' => ∃ (γ' : Tg) (s' : Sli), ε = .returned (.tuple #[.slice s'.a s'.n s'.c, .int .i64 (errO (allM 17 ⟨σ, 0, []⟩ top).1)]) ∧ Mv (Rg τ (τ + 7)) w γ w' γ' ∧ Tp τ w' γ' p ((allM 17 ⟨σ, 0, []⟩ top).2.σ) ∧ Gs t 50 7 Item.cells w' γ' s' (allL (allM 17 ⟨σ, 0, []⟩ top).1) := by
 obtain ⟨t0, ht0, hf0⟩ := fresh_tag w γ (τ + 7)
 have K0 := Kn.start (Lo (Rg τ (τ + 7)) t0) w γ
 refine W.enter (ws := [(1, .agg top.cells.toArray), (0, .iface 29 (.pointer (some ⟨p, 0, none⟩)))]) 22 Try.func16 rfl (by kernel_rfl) ?_
 refine wp_seq_k fun k1 hk1 => (wp_region_lit ?_)
 refine W.op (O.new 3 31 top.cells rfl rfl (by kernel_rfl) K0 fun b1 w1 g1 K1 M1 => ?_)
 refine Zb 4 (.slice none 0 0) ?_
 refine Zb 5 (.int .i64 0) ?_
 refine wpList_nil (hk1 _ _ (wp_seq_k fun k2 hk2 => (wp_region_lit ?_)))
 refine Zb 10 (.iface 29 (.pointer (some ⟨p, 0, none⟩))) ?_
 refine Zb 11 (.agg #[.iface 29 (.pointer (some ⟨p, 0, none⟩)), .int .i64 0, .slice none 0 0]) ?_
 refine W.op (O.newt (τ + 3) 12 92 [.iface 29 (.pointer (some ⟨p, 0, none⟩)), .int .i64 0, .slice none 0 0] rfl rfl (by kernel_rfl) K1 fun b2 w2 g2 K2 hb1 M2 => ?_)
 refine W.op (O.newt t0 6 89 [.pointer none] rfl rfl (by kernel_rfl) K2 fun b3 w3 g3 K3 hb2 M3 => ?_)
 refine W.op (O.bst (.pointer (some ⟨b2, 0, none⟩)) (by kernel_rfl) rfl rfl rfl rfl Ty89 rfl rfl hb2 (Nat.le_of_ble_eq_true rfl) fun w4 hb3 M4 => ?_)
 have K4 := K3.step M4 (eq_lo (by omega)) (neq (by omega))
 refine wpList_nil (hk2 _ _ (wp_seq_k fun k3 hk3 => (wp_region_lit ?_)))
 refine W.op (O.newt (τ + 5) 7 37 [.slice none 0 0] rfl rfl (by kernel_rfl) K4 fun b4 w5 g4 K5 hb4 M5 => ?_)
 refine wpList_nil (hk3 _ _ (wp_seq_k fun k4 hk4 => (wp_region_lit ?_)))
 refine W.op (O.newt (t0 + 1) 8 93 [.nilFunc] rfl rfl (by kernel_rfl) K5 fun b5 w6 g5 K6 hb5 M6 => ?_)
 refine wpList_nil (hk4 _ _ (wp_seq_k fun k5 hk5 => (wp_region_lit ?_)))
 refine Zb 13 (.func (.func 34) #[] #[.pointer (some ⟨b3, 0, none⟩), .pointer (some ⟨b4, 0, none⟩), .pointer (some ⟨b5, 0, none⟩)]) ?_
 refine W.op (O.bst (.func (.func 34) #[] #[.pointer (some ⟨b3, 0, none⟩), .pointer (some ⟨b4, 0, none⟩), .pointer (some ⟨b5, 0, none⟩)]) (by kernel_rfl) rfl rfl rfl rfl Ty93 rfl rfl hb5 (Nat.le_of_ble_eq_true rfl) fun w7 hb6 M7 => ?_)
 have K7 := K6.step M7 (eq_lo (by omega)) (neq (by omega))
 refine wpList_nil (hk5 _ _ (wp_seq_k fun k6 hk6 => (wp_seq_k fun k7 hk7 => (wp_region_lit ?_))))
 refine Zc 14 (.func (.func 34) #[] #[.pointer (some ⟨b3, 0, none⟩), .pointer (some ⟨b4, 0, none⟩), .pointer (some ⟨b5, 0, none⟩)]) (exec_load rfl rfl Ty93 ((hb6.1).cell 0)) ?_
 refine Zc 15 (.agg top.cells.toArray) (exec_loads (cs := top.cells) rfl rfl Ty31 rfl ((K7.nth 0 rfl).all 2)) ?_
 have hhT_1 := hT.mv M1 quiet quiet quiet quiet
 have hhT_2 := hhT_1.mv M2 quiet quiet quiet quiet
 have hhT_3 := hhT_2.mv M3 quiet quiet quiet quiet
 have hhT_4 := hhT_3.mv M4 (neq (by omega)) (neq (by omega)) (neq (by omega)) (neq (by omega))
 have hhT_5 := hhT_4.mv M5 quiet quiet quiet quiet
 have hhT_6 := hhT_5.mv M6 quiet quiet quiet quiet
 have hhT_7 := hhT_6.mv M7 (neq (by omega)) (neq (by omega)) (neq (by omega)) (neq (by omega))
 have hQ_1 := hb1.mv M3 quiet
 have hQ_2 := hQ_1.mv M4 (neq (by omega))
 have hQ_3 := hQ_2.mv M5 quiet
 have hQ_4 := hQ_3.mv M6 quiet
 have hQ_5 := hQ_4.mv M7 (neq (by omega))
 have hM0 : SM τ w7 g5 b2 p (⟨σ, 0, []⟩ : St) := ⟨hhT_7, ⟨⟨⟨none, 0, 0⟩, hQ_5, Gs.nil _ _ _ _ (fun _ => rfl)⟩⟩⟩
 have hc7_1 := hb4.mv M6 quiet
 have hc7_2 := hc7_1.mv M7 (neq (by omega))
 have hL1 : Lc (τ + 5) 37 50 7 Item.cells w7 g5 b4 [] := ⟨⟨nilS, hc7_2, Gs.nil _ _ _ _ Item.size⟩⟩
 have hc6_1 := hb3.mv M5 quiet
 have hc6_2 := hc6_1.mv M6 quiet
 have hc6_3 := hc6_2.mv M7 (neq (by omega))
 have M8 := Mv.recol w7 g5 t0 0
 have K8 := K7.step M8 (eq_lo (by omega)) (neq (by omega))
 have h1 := hc6_3.recol 0
 have hc8_1 := hb6.mv M8 (neq (by omega))
 have M9 := Mv.recol w7 (recol g5 t0 0) (t0 + 1) 0
 have K9 := K8.step M9 (eq_lo (by omega)) (neq (by omega))
 have h2 := hc8_1.recol 0
 have hhM_1 := hM0.mv M8 (neq (by omega)) (neq (by omega)) (neq (by omega)) (neq (by omega)) (neq (by omega)) (neq (by omega))
 have hhM_2 := hhM_1.mv M9 (neq (by omega)) (neq (by omega)) (neq (by omega)) (neq (by omega)) (neq (by omega)) (neq (by omega))
 have hhL_1 := hL1.mv M8 (neq (by omega)) (neq (by omega))
 have hhL_2 := hhL_1.mv M9 (neq (by omega)) (neq (by omega))
 have hc6_4 := h1.mv M9 (neq (by omega))
 rcases hbk : allM (16 + 1) (⟨σ, 0, []⟩ : St) top with ⟨_ | l9, S2⟩
 ·have hr9 := All_rec 16 τ b2 p (⟨σ, 0, []⟩ : St) (⟨σ, 0, []⟩ : St) top 0 b3 b4 b5 [] w7 (recol (recol g5 t0 0) (t0 + 1) 0) hhM_2 hhL_2 hc6_4 h2 (by omega) ⟨by show σ.nodes.length ≤ _; omega, by show σ.log.length ≤ _; omega, Int.le_refl 0, (by show (0 : Int) ≤ _; decide), (by show (0 : Nat) ≤ _; omega)⟩ (Gr.refl _) rfl hfit
  rw [hbk] at hr9
  refine W.op (O.call 16 34 #[.agg top.cells.toArray, .int .i64 0, .pointer (some ⟨b3, 0, none⟩), .pointer (some ⟨b4, 0, none⟩), .pointer (some ⟨b5, 0, none⟩)] (by kernel_rfl) rfl (by kernel_rfl) ((hr9).mono ?_))
  rintro e1 w8 ⟨g6, acc1, rfl, M10, hq1, hq2, hq3⟩
  have K10 := K9.step M10 (le_lo (fun _ h => h)) (nrg (by omega))
  refine ⟨_, rfl, ?_⟩
  refine Zb 9 (.int .i64 130) ?_
  refine wpList_nil (hk7 _ _ (wp_seq_k fun k8 hk8 => (wp_region_lit ?_)))
  refine Zb 17 (.int .i64 130) ?_
  refine Zb 18 (.bool true) ?_
  refine wpList_nil (hk8 _ _ (W.cond true rfl (wp_seq_k fun k9 hk9 => (wp_region_lit ?_))))
  refine Zb 19 (.int .i64 130) ?_
  refine Zb 4 (.slice none 0 0) ?_
  refine Zb 5 (.int .i64 130) ?_
  refine wpList_nil (hk9 _ _ (wp_ret (then_ret (W.rets (vs := [.slice none 0 0, .int .i64 130]) rfl (.tmp rfl (.tmp rfl .nil)) (by simp) ?_))))
  have e9 : allM 17 (⟨σ, 0, []⟩ : St) top = _ := hbk
  rw [e9]
  exact ⟨_, nilS, rfl, (K10.mv.shut hf0), (hq1).tp, Gs.nil _ _ _ _ Item.size⟩
 ·have hr9 := All_rec 16 τ b2 p (⟨σ, 0, []⟩ : St) (⟨σ, 0, []⟩ : St) top 0 b3 b4 b5 [] w7 (recol (recol g5 t0 0) (t0 + 1) 0) hhM_2 hhL_2 hc6_4 h2 (by omega) ⟨by show σ.nodes.length ≤ _; omega, by show σ.log.length ≤ _; omega, Int.le_refl 0, (by show (0 : Int) ≤ _; decide), (by show (0 : Nat) ≤ _; omega)⟩ (Gr.refl _) rfl hfit
  rw [hbk] at hr9
  refine W.op (O.call 16 34 #[.agg top.cells.toArray, .int .i64 0, .pointer (some ⟨b3, 0, none⟩), .pointer (some ⟨b4, 0, none⟩), .pointer (some ⟨b5, 0, none⟩)] (by kernel_rfl) rfl (by kernel_rfl) ((hr9).mono ?_))
  rintro e2 w9 ⟨g7, acc2, rfl, M11, hq4, hq5, hq6⟩
  have K11 := K9.step M11 (le_lo (fun _ h => h)) (nrg (by omega))
  rw [hq6 l9 rfl] at hq5
  obtain ⟨⟨sl, hb9, hl9⟩⟩ := hq5
  rw [List.nil_append] at hl9
  have n1 := hl9.len
  refine ⟨_, rfl, ?_⟩
  refine Zb 9 (.int .i64 0) ?_
  refine wpList_nil (hk7 _ _ (wp_seq_k fun k10 hk10 => (wp_region_lit ?_)))
  refine Zb 17 (.int .i64 0) ?_
  refine Zb 18 (.bool false) ?_
  refine wpList_nil (hk10 _ _ (W.cond false rfl (wp_skip (hk6 _ _ (wp_seq_k fun k11 hk11 => (wp_region_lit ?_))))))
  refine Zc 20 (.slice sl.a sl.n sl.c) (exec_load rfl rfl Ty37 ((hb9.1).cell 0)) ?_
  refine W.op (O.call 21 37 #[.slice sl.a sl.n sl.c] (by kernel_rfl) rfl (by kernel_rfl) ((byKeyAll_c sl l9 (τ + 6) w9 g7 hl9 (by omega) (hlen _ _ hbk)).mono ?_))
  rintro e3 w10 ⟨g8, rfl, M12, hq7⟩
  have K12 := K11.step M12 (le_lo (eq_rg (by omega))) (neq (by omega))
  have n2 := hq7.len
  refine ⟨_, rfl, ?_⟩
  refine Zb 4 (.slice sl.a sl.n sl.c) ?_
  refine Zb 5 (.int .i64 0) ?_
  refine wpList_nil (hk11 _ _ (wp_ret (W.rets (vs := [.slice sl.a sl.n sl.c, .int .i64 0]) rfl (.tmp rfl (.tmp rfl .nil)) (by simp) ?_)))
  have hhM_3 := hq4.mv M12 (neq (by omega)) (neq (by omega)) (neq (by omega)) (neq (by omega)) (neq (by omega)) (neq (by omega))
  have e9 : allM 17 (⟨σ, 0, []⟩ : St) top = _ := hbk
  rw [e9]
  have M13 := Mv.recol w10 g8 (τ + 6) t
  have K13 := K12.step M13 (le_lo (eq_rg (by omega))) (neq (by omega))
  have h3 := hq7.recol t
  have hhM_4 := hhM_3.mv M13 (neq (by omega)) (neq (by omega)) (neq (by omega)) (neq (by omega)) (neq (by omega)) (neq (by omega))
  exact ⟨_, _, rfl, (K13.mv.shut hf0), (hhM_4).tp, h3⟩

set_option maxRecDepth 100000 in
set_option maxHeartbeats 1000000 in
theorem Refs_c (τ : Nat) (p : Nat) (σ : TapeS) (top : Ref) (t : Nat) (w : World) (γ : Tg) (hT : Tp τ w γ p σ) (hτ : 2 ≤ τ) (h1 : σ.nodes.length ≤ 4000000) (h2 : σ.log.length ≤ 3000000) (hfit : fitR 17 ⟨σ, 0, []⟩ top 0) :
    Calls Try.prog 25 #[.iface 29 (.pointer (some ⟨p, 0, none⟩)), .agg top.cells.toArray] w fun ε w' => ∃ (γ' : Tg) (s' : Sli), ε = .returned (.tuple #[.slice s'.a s'.n s'.c, .int .i64 (errO (refsM 17 ⟨σ, 0, []⟩ top).1)]) ∧ Mv (Rg τ (τ + 7)) w γ w' γ' ∧ Tp τ w' γ' p ((refsM 17 ⟨σ, 0, []⟩ top).2.σ) ∧ Gs t 31 2 Ref.cells w' γ' s' (refsL (refsM 17 ⟨σ, 0, []⟩ top).1) := by
 obtain ⟨t0, ht0, hf0⟩ := fresh_tag w γ (τ + 7)
 have K0 := Kn.start (Lo (Rg τ (τ + 7)) t0) w γ
 refine W.enter (ws := [(1, .agg top.cells.toArray), (0, .iface 29 (.pointer (some ⟨p, 0, none⟩)))]) 21 Try.func25 rfl (by kernel_rfl) ?_
 refine wp_seq_k fun k1 hk1 => (wp_region_lit ?_)
 refine W.op (O.new 3 31 top.cells rfl rfl (by kernel_rfl) K0 fun b1 w1 g1 K1 M1 => ?_)
 refine Zb 4 (.slice none 0 0) ?_
 refine Zb 5 (.int .i64 0) ?_
 refine wpList_nil (hk1 _ _ (wp_seq_k fun k2 hk2 => (wp_region_lit ?_)))
 refine Zb 10 (.iface 29 (.pointer (some ⟨p, 0, none⟩))) ?_
 refine Zb 11 (.agg #[.iface 29 (.pointer (some ⟨p, 0, none⟩)), .int .i64 0, .slice none 0 0]) ?_
 refine W.op (O.newt (τ + 3) 12 92 [.iface 29 (.pointer (some ⟨p, 0, none⟩)), .int .i64 0, .slice none 0 0] rfl rfl (by kernel_rfl) K1 fun b2 w2 g2 K2 hb1 M2 => ?_)
 refine W.op (O.newt t0 6 89 [.pointer none] rfl rfl (by kernel_rfl) K2 fun b3 w3 g3 K3 hb2 M3 => ?_)
 refine W.op (O.bst (.pointer (some ⟨b2, 0, none⟩)) (by kernel_rfl) rfl rfl rfl rfl Ty89 rfl rfl hb2 (Nat.le_of_ble_eq_true rfl) fun w4 hb3 M4 => ?_)
 have K4 := K3.step M4 (eq_lo (by omega)) (neq (by omega))
 refine wpList_nil (hk2 _ _ (wp_seq_k fun k3 hk3 => (wp_region_lit ?_)))
 refine W.op (O.newt (τ + 5) 7 34 [.slice none 0 0] rfl rfl (by kernel_rfl) K4 fun b4 w5 g4 K5 hb4 M5 => ?_)
 refine wpList_nil (hk3 _ _ (wp_seq_k fun k4 hk4 => (wp_region_lit ?_)))
 refine W.op (O.newt (t0 + 1) 8 93 [.nilFunc] rfl rfl (by kernel_rfl) K5 fun b5 w6 g5 K6 hb5 M6 => ?_)
 refine wpList_nil (hk4 _ _ (wp_seq_k fun k5 hk5 => (wp_region_lit ?_)))
 refine Zb 13 (.func (.func 48) #[] #[.pointer (some ⟨b3, 0, none⟩), .pointer (some ⟨b4, 0, none⟩), .pointer (some ⟨b5, 0, none⟩)]) ?_
 refine W.op (O.bst (.func (.func 48) #[] #[.pointer (some ⟨b3, 0, none⟩), .pointer (some ⟨b4, 0, none⟩), .pointer (some ⟨b5, 0, none⟩)]) (by kernel_rfl) rfl rfl rfl rfl Ty93 rfl rfl hb5 (Nat.le_of_ble_eq_true rfl) fun w7 hb6 M7 => ?_)
 have K7 := K6.step M7 (eq_lo (by omega)) (neq (by omega))
 refine wpList_nil (hk5 _ _ (wp_seq_k fun k6 hk6 => (wp_seq_k fun k7 hk7 => (wp_region_lit ?_))))
 refine Zc 14 (.func (.func 48) #[] #[.pointer (some ⟨b3, 0, none⟩), .pointer (some ⟨b4, 0, none⟩), .pointer (some ⟨b5, 0, none⟩)]) (exec_load rfl rfl Ty93 ((hb6.1).cell 0)) ?_
 refine Zc 15 (.agg top.cells.toArray) (exec_loads (cs := top.cells) rfl rfl Ty31 rfl ((K7.nth 0 rfl).all 2)) ?_
 have hhT_1 := hT.mv M1 quiet quiet quiet quiet
 have hhT_2 := hhT_1.mv M2 quiet quiet quiet quiet
 have hhT_3 := hhT_2.mv M3 quiet quiet quiet quiet
 have hhT_4 := hhT_3.mv M4 (neq (by omega)) (neq (by omega)) (neq (by omega)) (neq (by omega))
 have hhT_5 := hhT_4.mv M5 quiet quiet quiet quiet
 have hhT_6 := hhT_5.mv M6 quiet quiet quiet quiet
 have hhT_7 := hhT_6.mv M7 (neq (by omega)) (neq (by omega)) (neq (by omega)) (neq (by omega))
 have hQ_1 := hb1.mv M3 quiet
 have hQ_2 := hQ_1.mv M4 (neq (by omega))
 have hQ_3 := hQ_2.mv M5 quiet
 have hQ_4 := hQ_3.mv M6 quiet
 have hQ_5 := hQ_4.mv M7 (neq (by omega))
 have hM0 : SM τ w7 g5 b2 p (⟨σ, 0, []⟩ : St) := ⟨hhT_7, ⟨⟨⟨none, 0, 0⟩, hQ_5, Gs.nil _ _ _ _ (fun _ => rfl)⟩⟩⟩
 have hc7_1 := hb4.mv M6 quiet
 have hc7_2 := hc7_1.mv M7 (neq (by omega))
 have hL1 : Lc (τ + 5) 34 31 2 Ref.cells w7 g5 b4 [] := ⟨⟨nilS, hc7_2, Gs.nil _ _ _ _ (fun _ => rfl)⟩⟩
 have hc6_1 := hb3.mv M5 quiet
 have hc6_2 := hc6_1.mv M6 quiet
 have hc6_3 := hc6_2.mv M7 (neq (by omega))
 have M8 := Mv.recol w7 g5 t0 0
 have K8 := K7.step M8 (eq_lo (by omega)) (neq (by omega))
 have h1 := hc6_3.recol 0
 have hc8_1 := hb6.mv M8 (neq (by omega))
 have M9 := Mv.recol w7 (recol g5 t0 0) (t0 + 1) 0
 have K9 := K8.step M9 (eq_lo (by omega)) (neq (by omega))
 have h2 := hc8_1.recol 0
 have hhM_1 := hM0.mv M8 (neq (by omega)) (neq (by omega)) (neq (by omega)) (neq (by omega)) (neq (by omega)) (neq (by omega))
 have hhM_2 := hhM_1.mv M9 (neq (by omega)) (neq (by omega)) (neq (by omega)) (neq (by omega)) (neq (by omega)) (neq (by omega))
 have hhL_1 := hL1.mv M8 (neq (by omega)) (neq (by omega))
 have hhL_2 := hhL_1.mv M9 (neq (by omega)) (neq (by omega))
 have hc6_4 := h1.mv M9 (neq (by omega))
 rcases hbk : refsM (16 + 1) (⟨σ, 0, []⟩ : St) top with ⟨_ | l9, S2⟩
 ·have hr9 := Refs_rec 16 τ b2 p (⟨σ, 0, []⟩ : St) (⟨σ, 0, []⟩ : St) top 0 b3 b4 b5 [] w7 (recol (recol g5 t0 0) (t0 + 1) 0) hhM_2 hhL_2 hc6_4 h2 (by omega) ⟨by show σ.nodes.length ≤ _; omega, by show σ.log.length ≤ _; omega, Int.le_refl 0, (by show (0 : Int) ≤ _; decide), (by show (0 : Nat) ≤ _; omega)⟩ (Gr.refl _) rfl hfit
  rw [hbk] at hr9
  refine W.op (O.call 16 48 #[.agg top.cells.toArray, .int .i64 0, .pointer (some ⟨b3, 0, none⟩), .pointer (some ⟨b4, 0, none⟩), .pointer (some ⟨b5, 0, none⟩)] (by kernel_rfl) rfl (by kernel_rfl) ((hr9).mono ?_))
  rintro e1 w8 ⟨g6, acc1, rfl, M10, hq1, hq2, hq3⟩
  have K10 := K9.step M10 (le_lo (fun _ h => h)) (nrg (by omega))
  refine ⟨_, rfl, ?_⟩
  refine Zb 9 (.int .i64 130) ?_
  refine wpList_nil (hk7 _ _ (wp_seq_k fun k8 hk8 => (wp_region_lit ?_)))
  refine Zb 17 (.int .i64 130) ?_
  refine Zb 18 (.bool true) ?_
  refine wpList_nil (hk8 _ _ (W.cond true rfl (wp_seq_k fun k9 hk9 => (wp_region_lit ?_))))
  refine Zb 19 (.int .i64 130) ?_
  refine Zb 4 (.slice none 0 0) ?_
  refine Zb 5 (.int .i64 130) ?_
  refine wpList_nil (hk9 _ _ (wp_ret (then_ret (W.rets (vs := [.slice none 0 0, .int .i64 130]) rfl (.tmp rfl (.tmp rfl .nil)) (by simp) ?_))))
  have e9 : refsM 17 (⟨σ, 0, []⟩ : St) top = _ := hbk
  rw [e9]
  exact ⟨_, nilS, rfl, (K10.mv.shut hf0), (hq1).tp, Gs.nil _ _ _ _ (fun _ => rfl)⟩
 ·have hr9 := Refs_rec 16 τ b2 p (⟨σ, 0, []⟩ : St) (⟨σ, 0, []⟩ : St) top 0 b3 b4 b5 [] w7 (recol (recol g5 t0 0) (t0 + 1) 0) hhM_2 hhL_2 hc6_4 h2 (by omega) ⟨by show σ.nodes.length ≤ _; omega, by show σ.log.length ≤ _; omega, Int.le_refl 0, (by show (0 : Int) ≤ _; decide), (by show (0 : Nat) ≤ _; omega)⟩ (Gr.refl _) rfl hfit
  rw [hbk] at hr9
  refine W.op (O.call 16 48 #[.agg top.cells.toArray, .int .i64 0, .pointer (some ⟨b3, 0, none⟩), .pointer (some ⟨b4, 0, none⟩), .pointer (some ⟨b5, 0, none⟩)] (by kernel_rfl) rfl (by kernel_rfl) ((hr9).mono ?_))
  rintro e2 w9 ⟨g7, acc2, rfl, M11, hq4, hq5, hq6⟩
  have K11 := K9.step M11 (le_lo (fun _ h => h)) (nrg (by omega))
  rw [hq6 l9 rfl] at hq5
  obtain ⟨⟨sl, hb9, hl9⟩⟩ := hq5
  rw [List.nil_append] at hl9
  have n1 := hl9.len
  refine ⟨_, rfl, ?_⟩
  refine Zb 9 (.int .i64 0) ?_
  refine wpList_nil (hk7 _ _ (wp_seq_k fun k10 hk10 => (wp_region_lit ?_)))
  refine Zb 17 (.int .i64 0) ?_
  refine Zb 18 (.bool false) ?_
  refine wpList_nil (hk10 _ _ (W.cond false rfl (wp_skip (hk6 _ _ (wp_seq_k fun k11 hk11 => (wp_region_lit ?_))))))
  refine Zc 20 (.slice sl.a sl.n sl.c) (exec_load rfl rfl Ty34 ((hb9.1).cell 0)) ?_
  refine Zb 4 (.slice sl.a sl.n sl.c) ?_
  refine Zb 5 (.int .i64 0) ?_
  refine wpList_nil (hk11 _ _ (wp_ret (W.rets (vs := [.slice sl.a sl.n sl.c, .int .i64 0]) rfl (.tmp rfl (.tmp rfl .nil)) (by simp) ?_)))
  have e9 : refsM 17 (⟨σ, 0, []⟩ : St) top = _ := hbk
  rw [e9]
  have M12 := Mv.recol w9 g7 (τ + 6) t
  have K12 := K11.step M12 (le_lo (eq_rg (by omega))) (neq (by omega))
  have h3 := hl9.recol t
  have hhM_3 := hq4.mv M12 (neq (by omega)) (neq (by omega)) (neq (by omega)) (neq (by omega)) (neq (by omega)) (neq (by omega))
  exact ⟨_, _, rfl, (K12.mv.shut hf0), (hhM_3).tp, h3⟩

end Go.Proofs.Ytlfanphdnjoofaa
