/- Walks: Find. -/
import Derived.Test.YtlfanphdnjoofaaT5
namespace Go.Proofs.Ytlfanphdnjoofaa
open Go.RowKit
set_option linter.unusedSimpArgs false
set_option linter.unusedVariables false
attribute [local irreducible] wpList Code.wp Calls OpS wpG

set_option maxRecDepth 100000 in
set_option maxHeartbeats 1000000 in
theorem find_c (τ p : Nat) (σ : TapeS) (top : Ref) (key : ByteArray) (w : World) (γ : Tg) (hT : Tp τ w γ p σ) (hτ : 2 ≤ τ) (h1 : σ.nodes.length ≤ 10000000) (h2 : σ.log.length ≤ 10000000) (hkey : key.size < 9223372036854775807) :
    Calls Try.prog 20 #[.iface 29 (.pointer (some ⟨p, 0, none⟩)), .agg top.cells.toArray, .string key] w fun ε w' => ∃ γ', ε = .returned (.tuple #[.agg (findM key 17 ⟨σ, 0, []⟩ top 0).1.item.cells.toArray, .bool (findM key 17 ⟨σ, 0, []⟩ top 0).1.has, .int .i64 (findM key 17 ⟨σ, 0, []⟩ top 0).1.err]) ∧ Mv (Rg τ (τ + 5)) w γ w' γ' ∧ Tp τ w' γ' p (findM key 17 ⟨σ, 0, []⟩ top 0).2.σ := by
 generalize hF : findM key 17 ⟨σ, 0, []⟩ top 0 = F
 have K0 := Kn.start (Rg τ (τ + 5)) w γ
 refine W.enter (ws := [(2, .string key), (1, .agg top.cells.toArray), (0, .iface 29 (.pointer (some ⟨p, 0, none⟩)))]) 55 Try.func20 rfl (by kernel_rfl) ?_
 refine wp_seq_k fun k1 hk1 => (wp_region_lit ?_)
 refine W.op (O.new 4 31 top.cells rfl rfl (by kernel_rfl) K0 fun b1 w1 g1 K1 M1 => ?_)
 refine W.op (O.new 5 9 [.string key] rfl rfl (by kernel_rfl) K1 fun b2 w2 g2 K2 M2 => ?_)
 refine W.op (O.new 6 50 [.string ByteArray.empty, .int .i64 0, .int .i64 0, .int .i64 0, .string ByteArray.empty, .slice none 0 0, .slice none 0 0] rfl rfl (by kernel_rfl) K2 fun b3 w3 g3 K3 M3 => ?_)
 refine Zb 7 (.bool false) ?_
 refine Zb 8 (.int .i64 0) ?_
 refine wpList_nil (hk1 _ _ (wp_seq_k fun k2 hk2 => (wp_region_lit ?_)))
 refine Zb 15 (.iface 29 (.pointer (some ⟨p, 0, none⟩))) ?_
 refine Zb 16 (.agg #[.iface 29 (.pointer (some ⟨p, 0, none⟩)), .int .i64 0, .slice none 0 0]) ?_
 refine W.op (O.newt (τ + 3) 17 92 [.iface 29 (.pointer (some ⟨p, 0, none⟩)), .int .i64 0, .slice none 0 0] rfl rfl (by kernel_rfl) K3 fun b4 w4 g4 K4 hb1 M4 => ?_)
 refine Zb 9 (.pointer (some ⟨b4, 0, none⟩)) ?_
 refine wpList_nil (hk2 _ _ (wp_seq_k fun k3 hk3 => (wp_seq_k fun k4 hk4 => (wp_region_lit ?_))))
 refine Zb 10 (.int .i64 0) ?_
 refine wpList_nil (hk4 _ _ (wp_block ?_))
 obtain ⟨q, hq⟩ : ∃ q, q = b4 := ⟨_, rfl⟩
 have hT_1 := hT.mv M1 quiet quiet quiet quiet
 have hT_2 := hT_1.mv M2 quiet quiet quiet quiet
 have hT_3 := hT_2.mv M3 quiet quiet quiet quiet
 have hT_4 := hT_3.mv M4 quiet quiet quiet quiet
 have hM1 : SM τ w4 g4 b4 p ⟨σ, 0, []⟩ := ⟨hT_4, ⟨⟨⟨none, 0, 0⟩, hb1, Gs.nil _ _ _ _ (fun _ => rfl)⟩⟩⟩
 refine W.loop (fun (μ0 : Nat) (ws : List (Nat × Value)) (w' : World) => ∃ (k : Nat) (rr : Ref) (S1 : St) (γ' : Tg) (ρ0 : List (Nat × Value)), μ0 = 17 - k ∧ ws = ((10, .int .i64 ↑k) :: (9, .pointer (some ⟨b4, 0, none⟩)) :: (6, .pointer (some ⟨b3, 0, none⟩)) :: (5, .pointer (some ⟨b2, 0, none⟩)) :: (4, .pointer (some ⟨b1, 0, none⟩)) :: ρ0) ∧ Kn (Rg τ (τ + 5)) w γ [(b3, 50, [.string ByteArray.empty, .int .i64 0, .int .i64 0, .int .i64 0, .string ByteArray.empty, .slice none 0 0, .slice none 0 0]), (b2, 9, [.string key]), (b1, 31, rr.cells)] w' γ' ∧ Mv (Rg 1 (τ + 5)) w4 g4 w' γ' ∧ (k ≤ 16) ∧ (findM key (17 - k) S1 rr k = F) ∧ (S1.σ.nodes = σ.nodes) ∧ (S1.σ.log.length ≤ σ.log.length + k) ∧ (0 ≤ S1.got) ∧ SM τ w' γ' b4 p S1) (17 - 0) (((((look_eq (t := 4) (v := .pointer (some ⟨b1, 0, none⟩)) rfl).trans (look_eq (t := 5) (v := .pointer (some ⟨b2, 0, none⟩)) rfl)).trans (look_eq (t := 6) (v := .pointer (some ⟨b3, 0, none⟩)) rfl)).trans (look_eq (t := 9) (v := .pointer (some ⟨b4, 0, none⟩)) rfl)).trans (look_eq (t := 10) (v := .int .i64 ↑0) rfl)) ?_ ?_
 ·exact ⟨0, top, ⟨σ, 0, []⟩, _, _, rfl, rfl, K4, Mv.refl _ _ _, Nat.zero_le _, hF, rfl, Nat.le_refl _, Int.le_refl 0, hM1⟩
 ·rintro _ _ w5 ⟨k, rr, S1, g5, r1, rfl, rfl, K5, M5, p1, p2, p3, p4, p5, h1⟩
  refine wp_seq_k fun k5 hk5 => (wp_seq_k fun k6 hk6 => (wp_region_lit ?_))
  refine Zc 18 (.agg rr.cells.toArray) (exec_loads (cs := rr.cells) rfl rfl Ty31 rfl ((K5.nth 2 rfl).all 2)) ?_
  refine W.op (O.call 19 35 #[.agg rr.cells.toArray] (by kernel_rfl) rfl (by kernel_rfl) ((none_c rr.num rr.gen w5 g5).mono ?_))
  rintro e1 w6 ⟨g6, rfl, M6⟩
  have K6 := K5.step M6 nt_le quiet
  rcases bsplit (rr.num == 0 && rr.gen == 0) with t1 | t1
  ·refine ⟨_, congrArg Ending.returned (congrArg Value.bool t1), ?_⟩
   refine Zb 20 (.bool false) ?_
   refine wpList_nil (hk6 _ _ (W.cond false rfl (wp_exit (then_exit (then_exit (block_exit ?_))))))
   refine hk3 _ _ (wp_seq_k fun k7 hk7 => (wp_region_lit ?_))
   refine Zb 54 (.agg #[.string ByteArray.empty, .int .i64 0, .int .i64 0, .int .i64 0, .string ByteArray.empty, .slice none 0 0, .slice none 0 0]) ?_
   refine W.op (O.sta 0 [.string ByteArray.empty, .int .i64 0, .int .i64 0, .int .i64 0, .string ByteArray.empty, .slice none 0 0, .slice none 0 0] rfl rfl rfl rfl rfl Ty50 rfl rfl rfl rfl K6 fun w7 K7 M7 => ?_)
   refine Zb 7 (.bool false) ?_
   refine Zb 8 (.int .i64 0) ?_
   refine wpList_nil (hk7 _ _ (wp_ret (W.rets (vs := [.agg #[.string ByteArray.empty, .int .i64 0, .int .i64 0, .int .i64 0, .string ByteArray.empty, .slice none 0 0, .slice none 0 0], .bool false, .int .i64 0]) rfl (.agg (cs := [.string ByteArray.empty, .int .i64 0, .int .i64 0, .int .i64 0, .string ByteArray.empty, .slice none 0 0, .slice none 0 0]) rfl Ty50 rfl ((K7.nth 0 rfl).all 7) (.tmp rfl (.tmp rfl .nil))) (by simp) ?_)))
   have hM_1 := h1.mv M6 quiet quiet quiet quiet quiet quiet
   have hM_2 := hM_1.mv M7 (neq (by omega)) (neq (by omega)) (neq (by omega)) (neq (by omega)) (neq (by omega)) (neq (by omega))
   have e := p2
   rw [show 17 - k = (16 - k) + 1 by omega] at e
   simp only [findM, hitOf, t1, cond_false, cond_true] at e
   rewrite [← e]
   first | exact ⟨_, rfl, K7.mv, hM_2.tp⟩ | (exfalso; omega)
  ·refine ⟨_, congrArg Ending.returned (congrArg Value.bool t1), ?_⟩
   refine Zb 20 (.bool true) ?_
   refine wpList_nil (hk6 _ _ (W.cond true rfl (wp_skip (hk5 _ _ (wp_seq_k fun k8 hk8 => (wp_block ?_))))))
   refine wp_seq_k fun k9 hk9 => (wp_region_lit ?_)
   refine Zb 24 (.pointer (some ⟨b4, 0, none⟩)) ?_
   refine Zc 25 (.agg rr.cells.toArray) (exec_loads (cs := rr.cells) rfl rfl Ty31 rfl ((K6.nth 2 rfl).all 2)) ?_
   refine Zb 26 (.int .i64 ↑k) ?_
   have hM_3 := h1.mv M6 quiet quiet quiet quiet quiet quiet
   rcases hlk : S1.node rr k with _ | nd
   ·have hnc := node_c τ b4 p S1 rr k w6 g6 hM_3 hτ (by rw [p3]; omega) (by omega) p5
    rewrite [hlk] at hnc
    refine W.op (O.call 27 36 #[.pointer (some ⟨b4, 0, none⟩), .agg rr.cells.toArray, .int .i64 ↑k] (by kernel_rfl) rfl (by kernel_rfl) ((hnc).mono ?_))
    rintro e2 w8 ⟨g7, s1, rfl, M8, hM2, hs1, hl1⟩
    have K8 := K6.step M8 (fun _ h => h) (nrg (by omega))
    refine ⟨_, rfl, ?_⟩
    refine Zb 23 (.tuple #[.agg ((Nd.zero.at s1).cells).toArray, .int .i64 ((S1.seen rr).got), .int .i64 130]) ?_
    refine Zb 28 (.agg ((Nd.zero.at s1).cells).toArray) ?_
    refine Zb 29 (.int .i64 ((S1.seen rr).got)) ?_
    refine Zb 30 (.int .i64 130) ?_
    refine W.op (O.new 11 66 Z66 rfl rfl (by kernel_rfl) K8 fun b5 w9 g8 K9 M9 => ?_)
    refine W.op (O.sta 0 (Nd.zero.at s1).cells rfl rfl rfl rfl rfl Ty66 rfl rfl rfl rfl K9 fun w10 K10 M10 => ?_)
    refine Zb 12 (.int .i64 ((S1.seen rr).got)) ?_
    refine Zb 13 (.int .i64 130) ?_
    refine wpList_nil (hk9 _ _ (wp_seq_k fun k10 hk10 => (wp_seq_k fun k11 hk11 => (wp_region_lit ?_))))
    refine Zb 31 (.int .i64 130) ?_
    refine Zb 32 (.bool true) ?_
    refine wpList_nil (hk11 _ _ (W.cond true rfl (wp_seq_k fun k12 hk12 => (wp_region_lit ?_))))
    refine Zb 33 (.agg #[.string ByteArray.empty, .int .i64 0, .int .i64 0, .int .i64 0, .string ByteArray.empty, .slice none 0 0, .slice none 0 0]) ?_
    refine Zb 34 (.int .i64 130) ?_
    refine W.op (O.sta 1 [.string ByteArray.empty, .int .i64 0, .int .i64 0, .int .i64 0, .string ByteArray.empty, .slice none 0 0, .slice none 0 0] rfl rfl rfl rfl rfl Ty50 rfl rfl rfl rfl K10 fun w11 K11 M11 => ?_)
    refine Zb 7 (.bool false) ?_
    refine Zb 8 (.int .i64 130) ?_
    refine wpList_nil (hk12 _ _ (wp_ret (then_ret (block_ret (then_ret (then_ret ?_))))))
    refine block_ret (then_ret (W.rets (vs := [.agg #[.string ByteArray.empty, .int .i64 0, .int .i64 0, .int .i64 0, .string ByteArray.empty, .slice none 0 0, .slice none 0 0], .bool false, .int .i64 130]) rfl (.agg (cs := [.string ByteArray.empty, .int .i64 0, .int .i64 0, .int .i64 0, .string ByteArray.empty, .slice none 0 0, .slice none 0 0]) rfl Ty50 rfl ((K11.nth 1 rfl).all 7) (.tmp rfl (.tmp rfl .nil))) (by simp) ?_))
    have hM_4 := hM2.mv M9 quiet quiet quiet quiet quiet quiet
    have hM_5 := hM_4.mv M10 (neq (by omega)) (neq (by omega)) (neq (by omega)) (neq (by omega)) (neq (by omega)) (neq (by omega))
    have hM_6 := hM_5.mv M11 (neq (by omega)) (neq (by omega)) (neq (by omega)) (neq (by omega)) (neq (by omega)) (neq (by omega))
    have e := p2
    rw [show 17 - k = (16 - k) + 1 by omega] at e
    simp only [findM, hitOf, t1, hlk, cond_false, cond_true] at e
    rewrite [← e]
    first | exact ⟨_, rfl, K11.mv, hM_6.tp⟩ | (exfalso; omega)
   ·have hnc := node_c τ b4 p S1 rr k w6 g6 hM_3 hτ (by rw [p3]; omega) (by omega) p5
    rewrite [hlk] at hnc
    refine W.op (O.call 27 36 #[.pointer (some ⟨b4, 0, none⟩), .agg rr.cells.toArray, .int .i64 ↑k] (by kernel_rfl) rfl (by kernel_rfl) ((hnc).mono ?_))
    rintro e3 w12 ⟨g7, s1, rfl, M8, hM2, hs1, hl1⟩
    have K12 := K6.step M8 (fun _ h => h) (nrg (by omega))
    have n1 := hs1.len
    refine ⟨_, rfl, ?_⟩
    refine Zb 23 (.tuple #[.agg ((nd.at s1).cells).toArray, .int .i64 ((S1.seen rr).got), .int .i64 0]) ?_
    refine Zb 28 (.agg ((nd.at s1).cells).toArray) ?_
    refine Zb 29 (.int .i64 ((S1.seen rr).got)) ?_
    refine Zb 30 (.int .i64 0) ?_
    refine W.op (O.new 11 66 Z66 rfl rfl (by kernel_rfl) K12 fun b6 w13 g9 K13 M12 => ?_)
    refine W.op (O.sta 0 (nd.at s1).cells rfl rfl rfl rfl rfl Ty66 rfl rfl rfl rfl K13 fun w14 K14 M13 => ?_)
    refine Zb 12 (.int .i64 ((S1.seen rr).got)) ?_
    refine Zb 13 (.int .i64 0) ?_
    refine wpList_nil (hk9 _ _ (wp_seq_k fun k13 hk13 => (wp_seq_k fun k14 hk14 => (wp_region_lit ?_))))
    refine Zb 31 (.int .i64 0) ?_
    refine Zb 32 (.bool false) ?_
    refine wpList_nil (hk14 _ _ (W.cond false rfl (wp_skip (hk13 _ _ (wp_seq_k fun k15 hk15 => (wp_seq_k fun k16 hk16 => ?_))))))
    refine wp_region_lit ?_
    refine Zb 35 (.pointer (some ⟨b6, 0, none⟩)) ?_
    rcases bsplit (nd.leaf) with t2 | t2
    ·refine Zc 36 (.bool true) (okv (exec_load rfl rfl Ty4 ((K14.nth 0 rfl).cell 0)) (congrArg Value.bool t2)) ?_
     refine wpList_nil (hk16 _ _ (W.cond true rfl (wp_seq_k fun k17 hk17 => (wp_region_lit ?_))))
     refine Zb 37 (.pointer (some ⟨b6, 2, none⟩)) ?_
     refine Zc 38 (.slice s1.a s1.n s1.c) (exec_load rfl rfl Ty37 ((K14.nth 0 rfl).cell 2)) ?_
     refine Zb 39 (.func (.func 43) #[] #[.pointer (some ⟨b2, 0, none⟩)]) ?_
     have hits_1 := hs1.mv M12 quiet
     have hits_2 := hits_1.mv M13 (neq (by omega))
     rcases idxI_cases (fun x : Item => x.key.toList == key.toList) nd.its with ⟨hi, hfi⟩ | ⟨j, x, hi, hx, hfi⟩
     ·refine W.op (O.call 40 42 #[.slice s1.a s1.n s1.c, .func (.func 43) #[] #[.pointer (some ⟨b2, 0, none⟩)]] (by kernel_rfl) rfl (by kernel_rfl) ((indexFind_c s1 nd.its b2 1 key w14 g9 hits_2 hl1 ⟨(K14.nth 2 rfl).cell 0, K14.tag 2 rfl⟩).mono ?_))
      rintro e4 w15 ⟨g10, rfl, M14⟩
      have K15 := K14.step M14 nt_le quiet
      refine ⟨_, congrArg (fun z => Ending.returned (Value.int .i64 z)) hi, ?_⟩
      refine Zb 14 (.int .i64 (-1)) ?_
      refine wpList_nil (hk17 _ _ (wp_seq_k fun k18 hk18 => (wp_seq_k fun k19 hk19 => (wp_region_lit ?_))))
      refine Zb 41 (.int .i64 (-1)) ?_
      refine Zb 42 (.bool true) ?_
      refine wpList_nil (hk19 _ _ (W.cond true rfl (wp_exit (then_exit (then_exit (block_other (by decide) ?_))))))
      refine then_exit (then_exit (block_exit (hk3 _ _ (wp_seq_k fun k20 hk20 => (wp_region_lit ?_)))))
      refine Zb 54 (.agg #[.string ByteArray.empty, .int .i64 0, .int .i64 0, .int .i64 0, .string ByteArray.empty, .slice none 0 0, .slice none 0 0]) ?_
      refine W.op (O.sta 1 [.string ByteArray.empty, .int .i64 0, .int .i64 0, .int .i64 0, .string ByteArray.empty, .slice none 0 0, .slice none 0 0] rfl rfl rfl rfl rfl Ty50 rfl rfl rfl rfl K15 fun w16 K16 M16 => ?_)
      refine Zb 7 (.bool false) ?_
      refine Zb 8 (.int .i64 0) ?_
      refine wpList_nil (hk20 _ _ (wp_ret (W.rets (vs := [.agg #[.string ByteArray.empty, .int .i64 0, .int .i64 0, .int .i64 0, .string ByteArray.empty, .slice none 0 0, .slice none 0 0], .bool false, .int .i64 0]) rfl (.agg (cs := [.string ByteArray.empty, .int .i64 0, .int .i64 0, .int .i64 0, .string ByteArray.empty, .slice none 0 0, .slice none 0 0]) rfl Ty50 rfl ((K16.nth 1 rfl).all 7) (.tmp rfl (.tmp rfl .nil))) (by simp) ?_)))
      have hM_7 := hM2.mv M12 quiet quiet quiet quiet quiet quiet
      have hM_8 := hM_7.mv M13 (neq (by omega)) (neq (by omega)) (neq (by omega)) (neq (by omega)) (neq (by omega)) (neq (by omega))
      have hM_9 := hM_8.mv M14 quiet quiet quiet quiet quiet quiet
      have hM_10 := hM_9.mv M16 (neq (by omega)) (neq (by omega)) (neq (by omega)) (neq (by omega)) (neq (by omega)) (neq (by omega))
      have e := p2
      rw [show 17 - k = (16 - k) + 1 by omega] at e
      simp only [findM, hitOf, t1, t2, hlk, hfi, cond_false, cond_true] at e
      rewrite [← e]
      first | exact ⟨_, rfl, K16.mv, hM_10.tp⟩ | (exfalso; omega)
     ·refine W.op (O.call 40 42 #[.slice s1.a s1.n s1.c, .func (.func 43) #[] #[.pointer (some ⟨b2, 0, none⟩)]] (by kernel_rfl) rfl (by kernel_rfl) ((indexFind_c s1 nd.its b2 1 key w14 g9 hits_2 hl1 ⟨(K14.nth 2 rfl).cell 0, K14.tag 2 rfl⟩).mono ?_))
      rintro e5 w17 ⟨g11, rfl, M15⟩
      have K17 := K14.step M15 nt_le quiet
      refine ⟨_, congrArg (fun z => Ending.returned (Value.int .i64 z)) hi, ?_⟩
      refine Zb 14 (.int .i64 ↑j) ?_
      refine wpList_nil (hk17 _ _ (wp_seq_k fun k21 hk21 => (wp_seq_k fun k22 hk22 => (wp_region_lit ?_))))
      refine Zb 41 (.int .i64 ↑j) ?_
      by_cases t3 : ((j : Nat) : Int) < 0
      ·refine Zc 42 (.bool true) (okv (by kernel_rfl) (congrArg Value.bool (decide_eq_true t3))) ?_
       refine wpList_nil (hk22 _ _ (W.cond true rfl (wp_exit (then_exit (then_exit (block_other (by decide) ?_))))))
       refine then_exit (then_exit (block_exit (hk3 _ _ (wp_seq_k fun k23 hk23 => (wp_region_lit ?_)))))
       refine Zb 54 (.agg #[.string ByteArray.empty, .int .i64 0, .int .i64 0, .int .i64 0, .string ByteArray.empty, .slice none 0 0, .slice none 0 0]) ?_
       refine W.op (O.sta 1 [.string ByteArray.empty, .int .i64 0, .int .i64 0, .int .i64 0, .string ByteArray.empty, .slice none 0 0, .slice none 0 0] rfl rfl rfl rfl rfl Ty50 rfl rfl rfl rfl K17 fun w18 K18 M17 => ?_)
       refine Zb 7 (.bool false) ?_
       refine Zb 8 (.int .i64 0) ?_
       refine wpList_nil (hk23 _ _ (wp_ret (W.rets (vs := [.agg #[.string ByteArray.empty, .int .i64 0, .int .i64 0, .int .i64 0, .string ByteArray.empty, .slice none 0 0, .slice none 0 0], .bool false, .int .i64 0]) rfl (.agg (cs := [.string ByteArray.empty, .int .i64 0, .int .i64 0, .int .i64 0, .string ByteArray.empty, .slice none 0 0, .slice none 0 0]) rfl Ty50 rfl ((K18.nth 1 rfl).all 7) (.tmp rfl (.tmp rfl .nil))) (by simp) ?_)))
       have hM_11 := hM2.mv M12 quiet quiet quiet quiet quiet quiet
       have hM_12 := hM_11.mv M13 (neq (by omega)) (neq (by omega)) (neq (by omega)) (neq (by omega)) (neq (by omega)) (neq (by omega))
       have hM_13 := hM_12.mv M15 quiet quiet quiet quiet quiet quiet
       have hM_14 := hM_13.mv M17 (neq (by omega)) (neq (by omega)) (neq (by omega)) (neq (by omega)) (neq (by omega)) (neq (by omega))
       have e := p2
       rw [show 17 - k = (16 - k) + 1 by omega] at e
       simp only [findM, hitOf, t1, t2, t3, hlk, hfi, cond_false, cond_true] at e
       rewrite [← e]
       first | exact ⟨_, rfl, K18.mv, hM_14.tp⟩ | (exfalso; omega)
      ·refine Zc 42 (.bool false) (okv (by kernel_rfl) (congrArg Value.bool (decide_eq_false t3))) ?_
       refine wpList_nil (hk22 _ _ (W.cond false rfl (wp_skip (hk21 _ _ (wp_seq_k fun k24 hk24 => (wp_region_lit ?_))))))
       refine Zb 43 (.pointer (some ⟨b6, 2, none⟩)) ?_
       refine Zc 44 (.slice s1.a s1.n s1.c) (exec_load rfl rfl Ty37 ((K17.nth 0 rfl).cell 2)) ?_
       refine Zb 45 (.int .i64 ↑j) ?_
       have hits_3 := hits_2.mv M15 quiet
       obtain ⟨b7, o1, ha1, hib1, hr1⟩ := hits_3.elt hx
       refine Zc 46 (.pointer (some ⟨b7, o1 + j * 7, none⟩)) (exec_index (E := 50) (k := j) rfl (by kernel_rfl) (by kernel_rfl) rfl ha1 rfl hib1) ?_
       refine Zc 47 (.agg x.cells.toArray) (exec_loads (cs := x.cells) rfl rfl Ty50 rfl hr1.2.2) ?_
       refine W.op (O.sta 1 x.cells rfl rfl rfl rfl rfl Ty50 rfl rfl rfl rfl K17 fun w19 K19 M18 => ?_)
       refine Zb 7 (.bool true) ?_
       refine Zb 8 (.int .i64 0) ?_
       refine wpList_nil (hk24 _ _ (wp_ret (then_ret (block_ret (then_ret (then_ret ?_))))))
       refine block_ret (then_ret (W.rets (vs := [.agg x.cells.toArray, .bool true, .int .i64 0]) rfl (.agg (cs := x.cells) rfl Ty50 rfl ((K19.nth 1 rfl).all 7) (.tmp rfl (.tmp rfl .nil))) (by simp) ?_))
       have hM_15 := hM2.mv M12 quiet quiet quiet quiet quiet quiet
       have hM_16 := hM_15.mv M13 (neq (by omega)) (neq (by omega)) (neq (by omega)) (neq (by omega)) (neq (by omega)) (neq (by omega))
       have hM_17 := hM_16.mv M15 quiet quiet quiet quiet quiet quiet
       have hM_18 := hM_17.mv M18 (neq (by omega)) (neq (by omega)) (neq (by omega)) (neq (by omega)) (neq (by omega)) (neq (by omega))
       have e := p2
       rw [show 17 - k = (16 - k) + 1 by omega] at e
       simp only [findM, hitOf, t1, t2, t3, hlk, hfi, cond_false, cond_true] at e
       rewrite [← e]
       first | exact ⟨_, rfl, K19.mv, hM_18.tp⟩ | (exfalso; omega)
    ·refine Zc 36 (.bool false) (okv (exec_load rfl rfl Ty4 ((K14.nth 0 rfl).cell 0)) (congrArg Value.bool t2)) ?_
     refine wpList_nil (hk16 _ _ (W.cond false rfl (wp_skip (hk15 _ _ (wp_region_lit ?_)))))
     refine Zc 48 (.string key) (exec_load rfl rfl Ty9 ((K14.nth 2 rfl).cell 0)) ?_
     refine Zb 49 (.int .i64 ↑k) ?_
     refine W.op (O.call 50 44 #[.string key, .int .i64 ↑k] (by kernel_rfl) rfl (by kernel_rfl) ((digit_c key k hkey w14 g9).mono ?_))
     rintro e6 w20 ⟨g12, rfl, M19⟩
     have K20 := K14.step M19 nt_le quiet
     refine ⟨_, rfl, ?_⟩
     refine Zb 51 (.pointer (some ⟨b6, 3, none⟩)) ?_
     refine Zc 52 (.pointer (some ⟨b6, 3 + (digitOf key k) * 2, none⟩)) (exec_indexA (P := Try.prog) (E := 31) (m := 16) (k := digitOf key k) rfl (by kernel_rfl) (by kernel_rfl) rfl rfl (digitOf_lt key k)) ?_
     refine Zc 53 (.agg ((nd.kid (digitOf key k)).cells).toArray) (exec_loads (cs := (nd.kid (digitOf key k)).cells) rfl rfl Ty31 rfl (fun j hj => ((K20.nth 0 rfl).part (3 + digitOf key k * 2) 2 j hj).trans (congrArg (fun l : List Value => l[j]?) (Nd.kid_cells (nd.at s1) _ (digitOf_lt key k))))) ?_
     refine W.op (O.sta 3 (nd.kid (digitOf key k)).cells rfl rfl rfl rfl rfl Ty31 rfl rfl rfl rfl K20 fun w21 K21 M20 => ?_)
     refine wpList_nil (block_normal (hk8 _ _ (wp_region_lit ?_)))
     refine Zb 21 (.int .i64 ↑k) ?_
     refine Zc 22 (.int .i64 ((k + 1 : Nat) : Int)) (okv (v := .int .i64 (IntKind.i64.wrap (((k : Nat) : Int) + 1))) (by kernel_rfl) (wrapn (by omega) (by omega))) ?_
     refine Zb 10 (.int .i64 ((k + 1 : Nat) : Int)) ?_
     refine wpList_nil ?_
     have hM_19 := hM2.mv M12 quiet quiet quiet quiet quiet quiet
     have hM_20 := hM_19.mv M13 (neq (by omega)) (neq (by omega)) (neq (by omega)) (neq (by omega)) (neq (by omega)) (neq (by omega))
     have hM_21 := hM_20.mv M19 quiet quiet quiet quiet quiet quiet
     have hM_22 := hM_21.mv M20 (neq (by omega)) (neq (by omega)) (neq (by omega)) (neq (by omega)) (neq (by omega)) (neq (by omega))
     exact ⟨17 - (k + 1), _, by omega, (((((look_eq (t := 4) (v := .pointer (some ⟨b1, 0, none⟩)) rfl).trans (look_eq (t := 5) (v := .pointer (some ⟨b2, 0, none⟩)) rfl)).trans (look_eq (t := 6) (v := .pointer (some ⟨b3, 0, none⟩)) rfl)).trans (look_eq (t := 9) (v := .pointer (some ⟨b4, 0, none⟩)) rfl)).trans (look_eq (t := 10) (v := .int .i64 (((k + 1) : Nat) : Int)) rfl)), ⟨(k + 1), (nd.kid (digitOf key k)), (S1.seen rr), _, _, rfl, rfl, K21.tail, ((((((M5.trans (M6.mono nt_le)).trans (M8.mono (rg_rg (by omega) (by omega)))).trans (M12.mono nt_le)).trans (M13.mono (eq_rg (by omega)))).trans (M19.mono nt_le)).trans (M20.mono (eq_rg (by omega)))), (by have := St.node_lt hlk (by first | exact t1 | exact t2); omega), (by have e := p2; rw [show 17 - k = (17 - (k + 1)) + 1 by omega] at e; simp only [findM, hlk, t1, t2, cond_false, cond_true] at e; exact e), (St.seen_nodes _ _).trans p3, by have := St.seen_log S1 rr; omega, St.seen_got _ _ p5, hM_22⟩⟩

end Go.Proofs.Ytlfanphdnjoofaa
