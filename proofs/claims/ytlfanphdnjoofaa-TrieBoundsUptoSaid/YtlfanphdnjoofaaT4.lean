/- Walks: tapes. -/
import Derived.Test.YtlfanphdnjoofaaT3
namespace Go.Proofs.Ytlfanphdnjoofaa
open Go.RowKit
set_option linter.unusedSimpArgs false
set_option linter.unusedVariables false
attribute [local irreducible] wpList Code.wp Calls OpS wpG

set_option maxRecDepth 100000 in
set_option maxHeartbeats 1000000 in
theorem twin_c (n : Nd) (w : World) (γ : Tg) (hs : Ls 7 Item.cells w γ n.sl n.its) (hl : n.its.length ≤ 100000) :
    Calls Try.prog 58 #[.agg n.cells.toArray] w fun ε w' => ∃ γ' s', ε = .returned (.agg (n.at s').cells.toArray) ∧ Mv Nt w γ w' γ' ∧ Ls 7 Item.cells w' γ' s' n.its := by
 obtain ⟨t0, ht0, hf0⟩ := fresh_tag w γ 2
 have K0 := Kn.start (Lo Nt t0) w γ
 refine W.enter (ws := [(0, .agg n.cells.toArray)]) 9 Try.func58 rfl (by kernel_rfl) ?_
 have n1 := hs.len
 refine wp_seq_k fun k1 hk1 => (wp_region_lit ?_)
 refine W.op (O.new 1 66 n.cells rfl rfl (by kernel_rfl) K0 fun b1 w1 g1 K1 M1 => ?_)
 refine W.op (O.new 2 66 Z66 rfl rfl (by kernel_rfl) K1 fun b2 w2 g2 K2 M2 => ?_)
 refine wpList_nil (hk1 _ _ (wp_seq_k fun k2 hk2 => (wp_region_lit ?_)))
 refine W.op (O.lit0 (E := 50) (f := Item.cells) t0 3 Item.size rfl rfl (by kernel_rfl) K2 fun s1 w3 g3 K3 hG1 M3 => ?_)
 have n2 := hG1.len
 refine Zb 4 (.pointer (some ⟨b1, 2, none⟩)) ?_
 refine Zc 5 (.slice n.sl.a n.sl.n n.sl.c) (exec_load rfl rfl Ty37 ((K3.nth 1 rfl).cell 2)) ?_
 have hs_1 := hs.mv M1 quiet
 have hs_2 := hs_1.mv M2 quiet
 have hs_3 := hs_2.mv M3 quiet
 refine W.op (O.append (f := Item.cells) 6 n.its (by kernel_rfl) rfl rfl (by kernel_rfl) El50 rfl rfl hG1 hs.len hs_3.src (fun _ => rfl) (by simp only [List.length_nil]; omega) (by simp only [List.length_nil]; omega) fun s2 w4 g4 hG2 M4 => ?_)
 have K4 := K3.step M4 (eq_lo (by omega)) (neq (by omega))
 rw [List.nil_append] at hG2
 have n3 := hG2.len
 refine Zb 7 (.pointer (some ⟨b1, 2, none⟩)) ?_
 refine W.op (O.st 1 (.slice s2.a s2.n s2.c) rfl rfl rfl rfl rfl Ty37 rfl rfl rfl (Nat.le_of_ble_eq_true rfl) K4 fun w5 K5 M5 => ?_)
 refine wpList_nil (hk2 _ _ (wp_seq_k fun k3 hk3 => (wp_region_lit ?_)))
 refine Zc 8 (.agg #[.bool n.leaf, .int .i64 n.cnt, .slice s2.a s2.n s2.c, .int .i64 ((n.kid 0).num), .int .i64 ((n.kid 0).gen), .int .i64 ((n.kid 1).num), .int .i64 ((n.kid 1).gen), .int .i64 ((n.kid 2).num), .int .i64 ((n.kid 2).gen), .int .i64 ((n.kid 3).num), .int .i64 ((n.kid 3).gen), .int .i64 ((n.kid 4).num), .int .i64 ((n.kid 4).gen), .int .i64 ((n.kid 5).num), .int .i64 ((n.kid 5).gen), .int .i64 ((n.kid 6).num), .int .i64 ((n.kid 6).gen), .int .i64 ((n.kid 7).num), .int .i64 ((n.kid 7).gen), .int .i64 ((n.kid 8).num), .int .i64 ((n.kid 8).gen), .int .i64 ((n.kid 9).num), .int .i64 ((n.kid 9).gen), .int .i64 ((n.kid 10).num), .int .i64 ((n.kid 10).gen), .int .i64 ((n.kid 11).num), .int .i64 ((n.kid 11).gen), .int .i64 ((n.kid 12).num), .int .i64 ((n.kid 12).gen), .int .i64 ((n.kid 13).num), .int .i64 ((n.kid 13).gen), .int .i64 ((n.kid 14).num), .int .i64 ((n.kid 14).gen), .int .i64 ((n.kid 15).num), .int .i64 ((n.kid 15).gen)]) (exec_loads (cs := [.bool n.leaf, .int .i64 n.cnt, .slice s2.a s2.n s2.c, .int .i64 ((n.kid 0).num), .int .i64 ((n.kid 0).gen), .int .i64 ((n.kid 1).num), .int .i64 ((n.kid 1).gen), .int .i64 ((n.kid 2).num), .int .i64 ((n.kid 2).gen), .int .i64 ((n.kid 3).num), .int .i64 ((n.kid 3).gen), .int .i64 ((n.kid 4).num), .int .i64 ((n.kid 4).gen), .int .i64 ((n.kid 5).num), .int .i64 ((n.kid 5).gen), .int .i64 ((n.kid 6).num), .int .i64 ((n.kid 6).gen), .int .i64 ((n.kid 7).num), .int .i64 ((n.kid 7).gen), .int .i64 ((n.kid 8).num), .int .i64 ((n.kid 8).gen), .int .i64 ((n.kid 9).num), .int .i64 ((n.kid 9).gen), .int .i64 ((n.kid 10).num), .int .i64 ((n.kid 10).gen), .int .i64 ((n.kid 11).num), .int .i64 ((n.kid 11).gen), .int .i64 ((n.kid 12).num), .int .i64 ((n.kid 12).gen), .int .i64 ((n.kid 13).num), .int .i64 ((n.kid 13).gen), .int .i64 ((n.kid 14).num), .int .i64 ((n.kid 14).gen), .int .i64 ((n.kid 15).num), .int .i64 ((n.kid 15).gen)]) rfl rfl Ty66 rfl ((K5.nth 1 rfl).all 35)) ?_
 refine W.op (O.sta 0 [.bool n.leaf, .int .i64 n.cnt, .slice s2.a s2.n s2.c, .int .i64 ((n.kid 0).num), .int .i64 ((n.kid 0).gen), .int .i64 ((n.kid 1).num), .int .i64 ((n.kid 1).gen), .int .i64 ((n.kid 2).num), .int .i64 ((n.kid 2).gen), .int .i64 ((n.kid 3).num), .int .i64 ((n.kid 3).gen), .int .i64 ((n.kid 4).num), .int .i64 ((n.kid 4).gen), .int .i64 ((n.kid 5).num), .int .i64 ((n.kid 5).gen), .int .i64 ((n.kid 6).num), .int .i64 ((n.kid 6).gen), .int .i64 ((n.kid 7).num), .int .i64 ((n.kid 7).gen), .int .i64 ((n.kid 8).num), .int .i64 ((n.kid 8).gen), .int .i64 ((n.kid 9).num), .int .i64 ((n.kid 9).gen), .int .i64 ((n.kid 10).num), .int .i64 ((n.kid 10).gen), .int .i64 ((n.kid 11).num), .int .i64 ((n.kid 11).gen), .int .i64 ((n.kid 12).num), .int .i64 ((n.kid 12).gen), .int .i64 ((n.kid 13).num), .int .i64 ((n.kid 13).gen), .int .i64 ((n.kid 14).num), .int .i64 ((n.kid 14).gen), .int .i64 ((n.kid 15).num), .int .i64 ((n.kid 15).gen)] rfl rfl rfl rfl rfl Ty66 rfl rfl rfl rfl K5 fun w6 K6 M6 => ?_)
 refine wpList_nil (hk3 _ _ (wp_ret (W.ret1 (v := .agg #[.bool n.leaf, .int .i64 n.cnt, .slice s2.a s2.n s2.c, .int .i64 ((n.kid 0).num), .int .i64 ((n.kid 0).gen), .int .i64 ((n.kid 1).num), .int .i64 ((n.kid 1).gen), .int .i64 ((n.kid 2).num), .int .i64 ((n.kid 2).gen), .int .i64 ((n.kid 3).num), .int .i64 ((n.kid 3).gen), .int .i64 ((n.kid 4).num), .int .i64 ((n.kid 4).gen), .int .i64 ((n.kid 5).num), .int .i64 ((n.kid 5).gen), .int .i64 ((n.kid 6).num), .int .i64 ((n.kid 6).gen), .int .i64 ((n.kid 7).num), .int .i64 ((n.kid 7).gen), .int .i64 ((n.kid 8).num), .int .i64 ((n.kid 8).gen), .int .i64 ((n.kid 9).num), .int .i64 ((n.kid 9).gen), .int .i64 ((n.kid 10).num), .int .i64 ((n.kid 10).gen), .int .i64 ((n.kid 11).num), .int .i64 ((n.kid 11).gen), .int .i64 ((n.kid 12).num), .int .i64 ((n.kid 12).gen), .int .i64 ((n.kid 13).num), .int .i64 ((n.kid 13).gen), .int .i64 ((n.kid 14).num), .int .i64 ((n.kid 14).gen), .int .i64 ((n.kid 15).num), .int .i64 ((n.kid 15).gen)]) rfl (.agg (cs := [.bool n.leaf, .int .i64 n.cnt, .slice s2.a s2.n s2.c, .int .i64 ((n.kid 0).num), .int .i64 ((n.kid 0).gen), .int .i64 ((n.kid 1).num), .int .i64 ((n.kid 1).gen), .int .i64 ((n.kid 2).num), .int .i64 ((n.kid 2).gen), .int .i64 ((n.kid 3).num), .int .i64 ((n.kid 3).gen), .int .i64 ((n.kid 4).num), .int .i64 ((n.kid 4).gen), .int .i64 ((n.kid 5).num), .int .i64 ((n.kid 5).gen), .int .i64 ((n.kid 6).num), .int .i64 ((n.kid 6).gen), .int .i64 ((n.kid 7).num), .int .i64 ((n.kid 7).gen), .int .i64 ((n.kid 8).num), .int .i64 ((n.kid 8).gen), .int .i64 ((n.kid 9).num), .int .i64 ((n.kid 9).gen), .int .i64 ((n.kid 10).num), .int .i64 ((n.kid 10).gen), .int .i64 ((n.kid 11).num), .int .i64 ((n.kid 11).gen), .int .i64 ((n.kid 12).num), .int .i64 ((n.kid 12).gen), .int .i64 ((n.kid 13).num), .int .i64 ((n.kid 13).gen), .int .i64 ((n.kid 14).num), .int .i64 ((n.kid 14).gen), .int .i64 ((n.kid 15).num), .int .i64 ((n.kid 15).gen)]) rfl Ty66 rfl ((K6.nth 0 rfl).all 35) .nil) ?_)))
 have hgs2_1 := hG2.mv M5 (neq (by omega))
 have hgs2_2 := hgs2_1.mv M6 (neq (by omega))
 have M7 := Mv.recol w6 g4 t0 0
 have K7 := K6.step M7 (eq_lo (by omega)) (neq (by omega))
 have h1 := hgs2_2.ice
 exact ⟨_, _, rfl, (K7.mv.shut hf0), h1⟩

set_option maxRecDepth 100000 in
set_option maxHeartbeats 1000000 in
theorem tapeGet_c (τ p : Nat) (σ : TapeS) (r : Ref) (w : World) (γ : Tg) (hT : Tp τ w γ p σ) (hτ : 2 ≤ τ) (h1 : σ.nodes.length ≤ 100000000) (h2 : σ.log.length ≤ 100000000) :
    Calls Try.prog 39 #[.pointer (some ⟨p, 0, none⟩), .agg r.cells.toArray] w fun ε w' => ∃ γ' s', ε = .returned (.tuple #[.agg ((σ.node r).at s').cells.toArray, .bool (σ.look r).isSome]) ∧ Mv (Rg τ (τ + 3)) w γ w' γ' ∧ Tp τ w' γ' p (σ.saw r) ∧ Ls 7 Item.cells w' γ' s' ((σ.node r).its) ∧ (σ.node r).its.length ≤ 100000 := by
 have K0 := Kn.start (Rg τ (τ + 3)) w γ
 refine W.enter (ws := [(1, .agg r.cells.toArray), (0, .pointer (some ⟨p, 0, none⟩))]) 88 Try.func39 rfl (by kernel_rfl) ?_
 obtain ⟨⟨sn, sl, hp, hn, hl⟩, hnl, hll⟩ := hT
 have n1 := hn.len
 have n2 := hl.len
 refine wp_seq_k fun k1 hk1 => (wp_region_lit ?_)
 refine W.op (O.new 3 31 r.cells rfl rfl (by kernel_rfl) K0 fun b1 w1 g1 K1 M1 => ?_)
 refine W.op (O.new 4 66 Z66 rfl rfl (by kernel_rfl) K1 fun b2 w2 g2 K2 M2 => ?_)
 refine Zb 5 (.bool false) ?_
 refine wpList_nil (hk1 _ _ (wp_seq_k fun k2 hk2 => (wp_region_G (SmL [(4, Nt), (5, Nt)] w2 g2) (by kernel_rfl) ?_)))
 have K3 := K2.drew
 have M3 : Mv Nt w2 g2 w2.drew g2 := (Mv.refl _ _ _).drew
 refine Yb 0 8 (.pointer (some ⟨p, 0, none⟩)) rfl (fun u => by kernel_rfl) ?_
 refine Yb 1 9 (.pointer (some ⟨p, 0, none⟩)) rfl (fun u => by kernel_rfl) ?_
 refine Yb 2 10 (.pointer (some ⟨p, 0, none⟩)) rfl (fun u => by kernel_rfl) ?_
 refine Yb 3 11 (.pointer (some ⟨p, 3, none⟩)) rfl (fun u => by kernel_rfl) ?_
 have htp_1 := hp.mv M1 quiet
 have htp_2 := htp_1.mv M2 quiet
 refine G.take 4 12 (.slice sl.a sl.n sl.c) rfl (by kernel_rfl) rfl (fun _ _ _ h => h) ((Mv.refl _ _ _).trans (M3.mono (fun _ h => h))).self (by kernel_rfl) (fun u hm => exec_load rfl rfl Ty57 (((htp_2.mv hm quiet).1).cell 3)) ?_
 refine G.take 5 13 (.agg r.cells.toArray) rfl (by kernel_rfl) rfl (fun _ _ _ h => h) ((Mv.refl _ _ _).trans (M3.mono (fun _ h => h))).self (by kernel_rfl) (fun u hm => exec_loads (cs := r.cells) rfl rfl Ty31 rfl ((K2.later 1 rfl hm quiet).all 2)) ?_
 refine Yb 6 14 (.agg #[.bool false, .int .i64 r.num, .int .i64 r.gen, .bool false, .int .i64 0, .slice none 0 0, .int .i64 0, .int .i64 0, .int .i64 0, .int .i64 0, .int .i64 0, .int .i64 0, .int .i64 0, .int .i64 0, .int .i64 0, .int .i64 0, .int .i64 0, .int .i64 0, .int .i64 0, .int .i64 0, .int .i64 0, .int .i64 0, .int .i64 0, .int .i64 0, .int .i64 0, .int .i64 0, .int .i64 0, .int .i64 0, .int .i64 0, .int .i64 0, .int .i64 0, .int .i64 0, .int .i64 0, .int .i64 0, .int .i64 0, .int .i64 0, .int .i64 0, .int .i64 0]) rfl (fun u => by kernel_rfl) ?_
 refine G.op 7 (by kernel_rfl) rfl (O.lit 15 68 [.bool false, .int .i64 r.num, .int .i64 r.gen, .bool false, .int .i64 0, .slice none 0 0, .int .i64 0, .int .i64 0, .int .i64 0, .int .i64 0, .int .i64 0, .int .i64 0, .int .i64 0, .int .i64 0, .int .i64 0, .int .i64 0, .int .i64 0, .int .i64 0, .int .i64 0, .int .i64 0, .int .i64 0, .int .i64 0, .int .i64 0, .int .i64 0, .int .i64 0, .int .i64 0, .int .i64 0, .int .i64 0, .int .i64 0, .int .i64 0, .int .i64 0, .int .i64 0, .int .i64 0, .int .i64 0, .int .i64 0, .int .i64 0, .int .i64 0, .int .i64 0] 1 rfl rfl (by kernel_rfl) K3 fun b3 w3 g3 K4 M4 => ⟨kp_nt ((Mv.refl _ _ _).trans M4) _, ?_⟩)
 have htl_1 := hl.mv M1 quiet
 have htl_2 := htl_1.mv M2 quiet
 have htl_3 := htl_2.mv M3 quiet
 have htl_4 := htl_3.mv M4 quiet
 refine G.op 8 (by kernel_rfl) rfl (O.append (f := Dd.cells) 16 [(⟨false, r, Nd.zero⟩ : Dd)] (by kernel_rfl) rfl rfl (by kernel_rfl) El68 rfl rfl htl_4 rfl (src1 (K4.nth 0 rfl) rfl) (fun _ => rfl) (by simp only [List.length_append, List.length_cons, List.length_nil]; omega) (by simp only [List.length_append, List.length_cons, List.length_nil]; omega) fun s1 w4 g4 hG1 M5 => ⟨(kp_skip (by kernel_rfl) (kp_skip (by kernel_rfl) kp_nil)), ?_⟩)
 have K5 := K4.step M5 (eq_rg (by omega)) (neq (by omega))
 have n3 := hG1.len
 refine Yb 9 17 (.pointer (some ⟨p, 0, none⟩)) rfl (fun u => by kernel_rfl) ?_
 refine Yb 10 18 (.pointer (some ⟨p, 3, none⟩)) rfl (fun u => by kernel_rfl) ?_
 have htp_3 := hp.mv M1 quiet
 have htp_4 := htp_3.mv M2 quiet
 have htp_5 := htp_4.mv M3 quiet
 have htp_6 := htp_5.mv M4 quiet
 have htp_7 := htp_6.mv M5 (neq (by omega))
 refine G.op 11 (by kernel_rfl) rfl (O.bst (.slice s1.a s1.n s1.c) (by kernel_rfl) rfl rfl rfl rfl Ty57 rfl rfl htp_7 (Nat.le_of_ble_eq_true rfl) fun w5 hb1 M6 => ⟨(kp_skip (by kernel_rfl) (kp_skip (by kernel_rfl) kp_nil)), ?_⟩)
 have K6 := K5.step M6 (eq_rg (by omega)) (neq (by omega))
 refine G.fin (by kernel_rfl) ?_
 refine hk2 _ _ (wp_seq_k fun k3 hk3 => (wp_seq_k fun k4 hk4 => (wp_region_lit ?_)))
 refine Zb 19 (.pointer (some ⟨p, 0, none⟩)) ?_
 refine Zb 20 (.pointer (some ⟨p, 0, none⟩)) ?_
 refine Zb 21 (.pointer (some ⟨p, 5, none⟩)) ?_
 refine Zc 22 (.pointer none) (exec_load rfl rfl Ty58 ((hb1.1).cell 5)) ?_
 refine Zb 23 (.bool false) ?_
 refine wpList_nil (hk4 _ _ (W.cond false rfl (wp_skip (hk3 _ _ (wp_seq_k fun k5 hk5 => (wp_seq_k fun k6 hk6 => ?_))))))
 refine wp_region_G (SmL [(1, Nt), (5, Nt), (10, Nt), (14, Nt), (20, Nt), (24, Nt)] w5 g4) (by kernel_rfl) ?_
 have K7 := K6.drew
 have M7 : Mv Nt w5 g4 w5.drew g4 := (Mv.refl _ _ _).drew
 refine Yb 0 50 (.pointer (some ⟨b1, 1, none⟩)) rfl (fun u => by kernel_rfl) ?_
 refine G.take 1 51 (.int .i64 r.gen) rfl (by kernel_rfl) rfl (fun _ _ _ h => h) ((Mv.refl _ _ _).trans (M7.mono (fun _ h => h))).self (by kernel_rfl) (fun u hm => exec_load rfl rfl Ty3 ((K6.later 2 rfl hm quiet).cell 1)) ?_
 by_cases t1 : r.gen = 1
 ·refine Yb 2 52 (.bool false) rfl (fun u => okv ((fun u => by kernel_rfl) u) (congrArg Value.bool (bne_eq_false_iff_eq.2 t1))) ?_
  refine Yb 3 53 (.bool false) rfl (fun u => by kernel_rfl) ?_
  refine Yb 4 54 (.pointer (some ⟨b1, 0, none⟩)) rfl (fun u => by kernel_rfl) ?_
  refine G.take 5 55 (.int .i64 r.num) rfl (by kernel_rfl) rfl (fun _ _ _ h => h) ((Mv.refl _ _ _).trans (M7.mono (fun _ h => h))).self (by kernel_rfl) (fun u hm => exec_load rfl rfl Ty3 ((K6.later 2 rfl hm quiet).cell 0)) ?_
  by_cases t2 : r.num < 1
  ·refine Yb 6 56 (.bool true) rfl (fun u => okv ((fun u => by kernel_rfl) u) (congrArg Value.bool (decide_eq_true t2))) ?_
   refine Yb 7 57 (.bool true) rfl (fun u => by kernel_rfl) ?_
   refine Yb 8 58 (.bool true) rfl (fun u => by kernel_rfl) ?_
   refine Ya 9 59 rfl ?_
   refine Ya 10 60 rfl ?_
   refine Ya 11 61 rfl ?_
   refine Ya 12 62 rfl ?_
   refine Ya 13 63 rfl ?_
   refine Ya 14 64 rfl ?_
   refine Ya 15 65 rfl ?_
   refine Ya 16 66 rfl ?_
   refine Yb 17 67 (.bool true) rfl (fun u => by kernel_rfl) ?_
   refine Yb 18 68 (.bool true) rfl (fun u => by kernel_rfl) ?_
   refine Ya 19 69 rfl ?_
   refine Ya 20 70 rfl ?_
   refine Ya 21 71 rfl ?_
   refine Ya 22 72 rfl ?_
   refine Ya 23 73 rfl ?_
   refine Ya 24 74 rfl ?_
   refine Ya 25 75 rfl ?_
   refine Yb 26 76 (.bool true) rfl (fun u => by kernel_rfl) ?_
   refine G.fin (by kernel_rfl) ?_
   refine hk6 _ _ (W.cond true rfl (wp_seq_k fun k7 hk7 => (wp_region_lit ?_)))
   refine Zb 77 (.agg #[.bool false, .int .i64 0, .slice none 0 0, .int .i64 0, .int .i64 0, .int .i64 0, .int .i64 0, .int .i64 0, .int .i64 0, .int .i64 0, .int .i64 0, .int .i64 0, .int .i64 0, .int .i64 0, .int .i64 0, .int .i64 0, .int .i64 0, .int .i64 0, .int .i64 0, .int .i64 0, .int .i64 0, .int .i64 0, .int .i64 0, .int .i64 0, .int .i64 0, .int .i64 0, .int .i64 0, .int .i64 0, .int .i64 0, .int .i64 0, .int .i64 0, .int .i64 0, .int .i64 0, .int .i64 0, .int .i64 0]) ?_
   refine W.op (O.sta 1 [.bool false, .int .i64 0, .slice none 0 0, .int .i64 0, .int .i64 0, .int .i64 0, .int .i64 0, .int .i64 0, .int .i64 0, .int .i64 0, .int .i64 0, .int .i64 0, .int .i64 0, .int .i64 0, .int .i64 0, .int .i64 0, .int .i64 0, .int .i64 0, .int .i64 0, .int .i64 0, .int .i64 0, .int .i64 0, .int .i64 0, .int .i64 0, .int .i64 0, .int .i64 0, .int .i64 0, .int .i64 0, .int .i64 0, .int .i64 0, .int .i64 0, .int .i64 0, .int .i64 0, .int .i64 0, .int .i64 0] rfl rfl rfl rfl rfl Ty66 rfl rfl rfl rfl K7 fun w6 K8 M8 => ?_)
   refine Zb 5 (.bool false) ?_
   refine wpList_nil (hk7 _ _ (wp_ret (then_ret (W.rets (vs := [.agg #[.bool false, .int .i64 0, .slice none 0 0, .int .i64 0, .int .i64 0, .int .i64 0, .int .i64 0, .int .i64 0, .int .i64 0, .int .i64 0, .int .i64 0, .int .i64 0, .int .i64 0, .int .i64 0, .int .i64 0, .int .i64 0, .int .i64 0, .int .i64 0, .int .i64 0, .int .i64 0, .int .i64 0, .int .i64 0, .int .i64 0, .int .i64 0, .int .i64 0, .int .i64 0, .int .i64 0, .int .i64 0, .int .i64 0, .int .i64 0, .int .i64 0, .int .i64 0, .int .i64 0, .int .i64 0, .int .i64 0], .bool false]) rfl (.agg (cs := [.bool false, .int .i64 0, .slice none 0 0, .int .i64 0, .int .i64 0, .int .i64 0, .int .i64 0, .int .i64 0, .int .i64 0, .int .i64 0, .int .i64 0, .int .i64 0, .int .i64 0, .int .i64 0, .int .i64 0, .int .i64 0, .int .i64 0, .int .i64 0, .int .i64 0, .int .i64 0, .int .i64 0, .int .i64 0, .int .i64 0, .int .i64 0, .int .i64 0, .int .i64 0, .int .i64 0, .int .i64 0, .int .i64 0, .int .i64 0, .int .i64 0, .int .i64 0, .int .i64 0, .int .i64 0, .int .i64 0]) rfl Ty66 rfl ((K8.nth 1 rfl).all 35) (.tmp rfl .nil)) (by simp) ?_))))
   have e : σ.look r = none := look_none (by omega)
   simp only [TapeS.node, e, Option.getD_none, Option.isSome_none]
   have htp_8 := hb1.mv M7 quiet
   have htp_9 := htp_8.mv M8 (neq (by omega))
   have htn_1 := hn.mv M1 quiet
   have htn_2 := htn_1.mv M2 quiet
   have htn_3 := htn_2.mv M3 quiet
   have htn_4 := htn_3.mv M4 quiet
   have htn_5 := htn_4.mv M5 (neq (by omega))
   have htn_6 := htn_5.mv M6 (neq (by omega))
   have htn_7 := htn_6.mv M7 quiet
   have htn_8 := htn_7.mv M8 (neq (by omega))
   have htl2_1 := hG1.mv M6 (neq (by omega))
   have htl2_2 := htl2_1.mv M7 quiet
   have htl2_3 := htl2_2.mv M8 (neq (by omega))
   exact ⟨_, ⟨none, 0, 0⟩, rfl, K8.mv, ⟨⟨sn, s1, htp_9, htn_8, htl2_3⟩, (fun n hn => ⟨((hnl n hn).1.mv K8.mv (nrg (by omega))), (hnl n hn).2⟩), (all_snoc (fun d hd => ⟨((hll d hd).1.mv K8.mv (nrg (by omega))), (hll d hd).2⟩) ⟨Ls.void _ _ Item.size, Nat.zero_le _⟩)⟩, Ls.void _ _ Item.size, Nat.zero_le _⟩
  ·refine Yb 6 56 (.bool false) rfl (fun u => okv ((fun u => by kernel_rfl) u) (congrArg Value.bool (decide_eq_false t2))) ?_
   refine Yb 7 57 (.bool false) rfl (fun u => by kernel_rfl) ?_
   refine Yb 8 58 (.bool false) rfl (fun u => by kernel_rfl) ?_
   refine Yb 9 59 (.pointer (some ⟨b1, 0, none⟩)) rfl (fun u => by kernel_rfl) ?_
   refine G.take 10 60 (.int .i64 r.num) rfl (by kernel_rfl) rfl (fun _ _ _ h => h) ((Mv.refl _ _ _).trans (M7.mono (fun _ h => h))).self (by kernel_rfl) (fun u hm => exec_load rfl rfl Ty3 ((K6.later 2 rfl hm quiet).cell 0)) ?_
   refine Yb 11 61 (.pointer (some ⟨p, 0, none⟩)) rfl (fun u => by kernel_rfl) ?_
   refine Yb 12 62 (.pointer (some ⟨p, 0, none⟩)) rfl (fun u => by kernel_rfl) ?_
   refine Yb 13 63 (.pointer (some ⟨p, 0, none⟩)) rfl (fun u => by kernel_rfl) ?_
   refine G.take 14 64 (.slice sn.a sn.n sn.c) rfl (by kernel_rfl) rfl (fun _ _ _ h => h) ((Mv.refl _ _ _).trans (M7.mono (fun _ h => h))).self (by kernel_rfl) (fun u hm => exec_load rfl rfl Ty56 (((hb1.mv hm quiet).1).cell 0)) ?_
   refine Yb 15 65 (.int .i64 (sn.n : Int)) rfl (fun u => by kernel_rfl) ?_
   by_cases t3 : r.num > (sn.n : Int)
   ·refine Yb 16 66 (.bool true) rfl (fun u => okv ((fun u => by kernel_rfl) u) (congrArg Value.bool (decide_eq_true t3))) ?_
    refine Yb 17 67 (.bool true) rfl (fun u => by kernel_rfl) ?_
    refine Yb 18 68 (.bool true) rfl (fun u => by kernel_rfl) ?_
    refine Ya 19 69 rfl ?_
    refine Ya 20 70 rfl ?_
    refine Ya 21 71 rfl ?_
    refine Ya 22 72 rfl ?_
    refine Ya 23 73 rfl ?_
    refine Ya 24 74 rfl ?_
    refine Ya 25 75 rfl ?_
    refine Yb 26 76 (.bool true) rfl (fun u => by kernel_rfl) ?_
    refine G.fin (by kernel_rfl) ?_
    refine hk6 _ _ (W.cond true rfl (wp_seq_k fun k8 hk8 => (wp_region_lit ?_)))
    refine Zb 77 (.agg #[.bool false, .int .i64 0, .slice none 0 0, .int .i64 0, .int .i64 0, .int .i64 0, .int .i64 0, .int .i64 0, .int .i64 0, .int .i64 0, .int .i64 0, .int .i64 0, .int .i64 0, .int .i64 0, .int .i64 0, .int .i64 0, .int .i64 0, .int .i64 0, .int .i64 0, .int .i64 0, .int .i64 0, .int .i64 0, .int .i64 0, .int .i64 0, .int .i64 0, .int .i64 0, .int .i64 0, .int .i64 0, .int .i64 0, .int .i64 0, .int .i64 0, .int .i64 0, .int .i64 0, .int .i64 0, .int .i64 0]) ?_
    refine W.op (O.sta 1 [.bool false, .int .i64 0, .slice none 0 0, .int .i64 0, .int .i64 0, .int .i64 0, .int .i64 0, .int .i64 0, .int .i64 0, .int .i64 0, .int .i64 0, .int .i64 0, .int .i64 0, .int .i64 0, .int .i64 0, .int .i64 0, .int .i64 0, .int .i64 0, .int .i64 0, .int .i64 0, .int .i64 0, .int .i64 0, .int .i64 0, .int .i64 0, .int .i64 0, .int .i64 0, .int .i64 0, .int .i64 0, .int .i64 0, .int .i64 0, .int .i64 0, .int .i64 0, .int .i64 0, .int .i64 0, .int .i64 0] rfl rfl rfl rfl rfl Ty66 rfl rfl rfl rfl K7 fun w7 K9 M9 => ?_)
    refine Zb 5 (.bool false) ?_
    refine wpList_nil (hk8 _ _ (wp_ret (then_ret (W.rets (vs := [.agg #[.bool false, .int .i64 0, .slice none 0 0, .int .i64 0, .int .i64 0, .int .i64 0, .int .i64 0, .int .i64 0, .int .i64 0, .int .i64 0, .int .i64 0, .int .i64 0, .int .i64 0, .int .i64 0, .int .i64 0, .int .i64 0, .int .i64 0, .int .i64 0, .int .i64 0, .int .i64 0, .int .i64 0, .int .i64 0, .int .i64 0, .int .i64 0, .int .i64 0, .int .i64 0, .int .i64 0, .int .i64 0, .int .i64 0, .int .i64 0, .int .i64 0, .int .i64 0, .int .i64 0, .int .i64 0, .int .i64 0], .bool false]) rfl (.agg (cs := [.bool false, .int .i64 0, .slice none 0 0, .int .i64 0, .int .i64 0, .int .i64 0, .int .i64 0, .int .i64 0, .int .i64 0, .int .i64 0, .int .i64 0, .int .i64 0, .int .i64 0, .int .i64 0, .int .i64 0, .int .i64 0, .int .i64 0, .int .i64 0, .int .i64 0, .int .i64 0, .int .i64 0, .int .i64 0, .int .i64 0, .int .i64 0, .int .i64 0, .int .i64 0, .int .i64 0, .int .i64 0, .int .i64 0, .int .i64 0, .int .i64 0, .int .i64 0, .int .i64 0, .int .i64 0, .int .i64 0]) rfl Ty66 rfl ((K9.nth 1 rfl).all 35) (.tmp rfl .nil)) (by simp) ?_))))
    have e : σ.look r = none := look_none (by omega)
    simp only [TapeS.node, e, Option.getD_none, Option.isSome_none]
    have htp_10 := hb1.mv M7 quiet
    have htp_11 := htp_10.mv M9 (neq (by omega))
    have htn_9 := hn.mv M1 quiet
    have htn_10 := htn_9.mv M2 quiet
    have htn_11 := htn_10.mv M3 quiet
    have htn_12 := htn_11.mv M4 quiet
    have htn_13 := htn_12.mv M5 (neq (by omega))
    have htn_14 := htn_13.mv M6 (neq (by omega))
    have htn_15 := htn_14.mv M7 quiet
    have htn_16 := htn_15.mv M9 (neq (by omega))
    have htl2_4 := hG1.mv M6 (neq (by omega))
    have htl2_5 := htl2_4.mv M7 quiet
    have htl2_6 := htl2_5.mv M9 (neq (by omega))
    exact ⟨_, ⟨none, 0, 0⟩, rfl, K9.mv, ⟨⟨sn, s1, htp_11, htn_16, htl2_6⟩, (fun n hn => ⟨((hnl n hn).1.mv K9.mv (nrg (by omega))), (hnl n hn).2⟩), (all_snoc (fun d hd => ⟨((hll d hd).1.mv K9.mv (nrg (by omega))), (hll d hd).2⟩) ⟨Ls.void _ _ Item.size, Nat.zero_le _⟩)⟩, Ls.void _ _ Item.size, Nat.zero_le _⟩
   ·refine Yb 16 66 (.bool false) rfl (fun u => okv ((fun u => by kernel_rfl) u) (congrArg Value.bool (decide_eq_false t3))) ?_
    refine Yb 17 67 (.bool false) rfl (fun u => by kernel_rfl) ?_
    refine Yb 18 68 (.bool false) rfl (fun u => by kernel_rfl) ?_
    refine Yb 19 69 (.pointer (some ⟨b1, 0, none⟩)) rfl (fun u => by kernel_rfl) ?_
    refine G.take 20 70 (.int .i64 r.num) rfl (by kernel_rfl) rfl (fun _ _ _ h => h) ((Mv.refl _ _ _).trans (M7.mono (fun _ h => h))).self (by kernel_rfl) (fun u hm => exec_load rfl rfl Ty3 ((K6.later 2 rfl hm quiet).cell 0)) ?_
    refine Yb 21 71 (.pointer (some ⟨p, 0, none⟩)) rfl (fun u => by kernel_rfl) ?_
    refine Yb 22 72 (.pointer (some ⟨p, 0, none⟩)) rfl (fun u => by kernel_rfl) ?_
    refine Yb 23 73 (.pointer (some ⟨p, 2, none⟩)) rfl (fun u => by kernel_rfl) ?_
    refine G.take 24 74 (.int .i64 σ.lost) rfl (by kernel_rfl) rfl (fun _ _ _ h => h) ((Mv.refl _ _ _).trans (M7.mono (fun _ h => h))).self (by kernel_rfl) (fun u hm => exec_load rfl rfl Ty3 (((hb1.mv hm quiet).1).cell 2)) ?_
    by_cases t4 : r.num = σ.lost
    ·refine Yb 25 75 (.bool true) rfl (fun u => okv ((fun u => by kernel_rfl) u) (congrArg Value.bool (beq_iff_eq.2 t4))) ?_
     refine Yb 26 76 (.bool true) rfl (fun u => by kernel_rfl) ?_
     refine G.fin (by kernel_rfl) ?_
     refine hk6 _ _ (W.cond true rfl (wp_seq_k fun k9 hk9 => (wp_region_lit ?_)))
     refine Zb 77 (.agg #[.bool false, .int .i64 0, .slice none 0 0, .int .i64 0, .int .i64 0, .int .i64 0, .int .i64 0, .int .i64 0, .int .i64 0, .int .i64 0, .int .i64 0, .int .i64 0, .int .i64 0, .int .i64 0, .int .i64 0, .int .i64 0, .int .i64 0, .int .i64 0, .int .i64 0, .int .i64 0, .int .i64 0, .int .i64 0, .int .i64 0, .int .i64 0, .int .i64 0, .int .i64 0, .int .i64 0, .int .i64 0, .int .i64 0, .int .i64 0, .int .i64 0, .int .i64 0, .int .i64 0, .int .i64 0, .int .i64 0]) ?_
     refine W.op (O.sta 1 [.bool false, .int .i64 0, .slice none 0 0, .int .i64 0, .int .i64 0, .int .i64 0, .int .i64 0, .int .i64 0, .int .i64 0, .int .i64 0, .int .i64 0, .int .i64 0, .int .i64 0, .int .i64 0, .int .i64 0, .int .i64 0, .int .i64 0, .int .i64 0, .int .i64 0, .int .i64 0, .int .i64 0, .int .i64 0, .int .i64 0, .int .i64 0, .int .i64 0, .int .i64 0, .int .i64 0, .int .i64 0, .int .i64 0, .int .i64 0, .int .i64 0, .int .i64 0, .int .i64 0, .int .i64 0, .int .i64 0] rfl rfl rfl rfl rfl Ty66 rfl rfl rfl rfl K7 fun w8 K10 M10 => ?_)
     refine Zb 5 (.bool false) ?_
     refine wpList_nil (hk9 _ _ (wp_ret (then_ret (W.rets (vs := [.agg #[.bool false, .int .i64 0, .slice none 0 0, .int .i64 0, .int .i64 0, .int .i64 0, .int .i64 0, .int .i64 0, .int .i64 0, .int .i64 0, .int .i64 0, .int .i64 0, .int .i64 0, .int .i64 0, .int .i64 0, .int .i64 0, .int .i64 0, .int .i64 0, .int .i64 0, .int .i64 0, .int .i64 0, .int .i64 0, .int .i64 0, .int .i64 0, .int .i64 0, .int .i64 0, .int .i64 0, .int .i64 0, .int .i64 0, .int .i64 0, .int .i64 0, .int .i64 0, .int .i64 0, .int .i64 0, .int .i64 0], .bool false]) rfl (.agg (cs := [.bool false, .int .i64 0, .slice none 0 0, .int .i64 0, .int .i64 0, .int .i64 0, .int .i64 0, .int .i64 0, .int .i64 0, .int .i64 0, .int .i64 0, .int .i64 0, .int .i64 0, .int .i64 0, .int .i64 0, .int .i64 0, .int .i64 0, .int .i64 0, .int .i64 0, .int .i64 0, .int .i64 0, .int .i64 0, .int .i64 0, .int .i64 0, .int .i64 0, .int .i64 0, .int .i64 0, .int .i64 0, .int .i64 0, .int .i64 0, .int .i64 0, .int .i64 0, .int .i64 0, .int .i64 0, .int .i64 0]) rfl Ty66 rfl ((K10.nth 1 rfl).all 35) (.tmp rfl .nil)) (by simp) ?_))))
     have e : σ.look r = none := look_none (by omega)
     simp only [TapeS.node, e, Option.getD_none, Option.isSome_none]
     have htp_12 := hb1.mv M7 quiet
     have htp_13 := htp_12.mv M10 (neq (by omega))
     have htn_17 := hn.mv M1 quiet
     have htn_18 := htn_17.mv M2 quiet
     have htn_19 := htn_18.mv M3 quiet
     have htn_20 := htn_19.mv M4 quiet
     have htn_21 := htn_20.mv M5 (neq (by omega))
     have htn_22 := htn_21.mv M6 (neq (by omega))
     have htn_23 := htn_22.mv M7 quiet
     have htn_24 := htn_23.mv M10 (neq (by omega))
     have htl2_7 := hG1.mv M6 (neq (by omega))
     have htl2_8 := htl2_7.mv M7 quiet
     have htl2_9 := htl2_8.mv M10 (neq (by omega))
     exact ⟨_, ⟨none, 0, 0⟩, rfl, K10.mv, ⟨⟨sn, s1, htp_13, htn_24, htl2_9⟩, (fun n hn => ⟨((hnl n hn).1.mv K10.mv (nrg (by omega))), (hnl n hn).2⟩), (all_snoc (fun d hd => ⟨((hll d hd).1.mv K10.mv (nrg (by omega))), (hll d hd).2⟩) ⟨Ls.void _ _ Item.size, Nat.zero_le _⟩)⟩, Ls.void _ _ Item.size, Nat.zero_le _⟩
    ·refine Yb 25 75 (.bool false) rfl (fun u => okv ((fun u => by kernel_rfl) u) (congrArg Value.bool (beq_eq_false_iff_ne.2 t4))) ?_
     refine Yb 26 76 (.bool false) rfl (fun u => by kernel_rfl) ?_
     refine G.fin (by kernel_rfl) ?_
     refine hk6 _ _ (W.cond false rfl (wp_skip (hk5 _ _ (wp_seq_k fun k10 hk10 => (wp_region_G (SmL [(3, Nt), (5, Nt), (8, Nt)] w5.drew g4) (by kernel_rfl) ?_)))))
     have K11 := K7.drew
     have M11 : Mv Nt w5.drew g4 w5.drew.drew g4 := (Mv.refl _ _ _).drew
     refine Yb 0 78 (.pointer (some ⟨p, 0, none⟩)) rfl (fun u => by kernel_rfl) ?_
     refine Yb 1 79 (.pointer (some ⟨p, 0, none⟩)) rfl (fun u => by kernel_rfl) ?_
     refine Yb 2 80 (.pointer (some ⟨p, 0, none⟩)) rfl (fun u => by kernel_rfl) ?_
     have htp_14 := hb1.mv M7 quiet
     refine G.take 3 81 (.slice sn.a sn.n sn.c) rfl (by kernel_rfl) rfl (fun _ _ _ h => h) ((Mv.refl _ _ _).trans (M11.mono (fun _ h => h))).self (by kernel_rfl) (fun u hm => exec_load rfl rfl Ty56 (((htp_14.mv hm quiet).1).cell 0)) ?_
     refine Yb 4 82 (.pointer (some ⟨b1, 0, none⟩)) rfl (fun u => by kernel_rfl) ?_
     refine G.take 5 83 (.int .i64 r.num) rfl (by kernel_rfl) rfl (fun _ _ _ h => h) ((Mv.refl _ _ _).trans (M11.mono (fun _ h => h))).self (by kernel_rfl) (fun u hm => exec_load rfl rfl Ty3 ((K7.later 2 rfl hm quiet).cell 0)) ?_
     obtain ⟨k, hk⟩ : ∃ k : Nat, r.num = (k : Int) + 1 := ⟨(r.num - 1).toNat, by omega⟩
     refine Yb 6 84 (.int .i64 ↑k) rfl (fun u => okv (v := .int .i64 (IntKind.i64.wrap (r.num - 1))) ((fun u => by kernel_rfl) u) (wrapn (by omega) (by omega))) ?_
     obtain ⟨x1, hx1⟩ := get_some (xs := σ.nodes) (i := k) (by omega)
     have htn_25 := hn.mv M1 quiet
     have htn_26 := htn_25.mv M2 quiet
     have htn_27 := htn_26.mv M3 quiet
     have htn_28 := htn_27.mv M4 quiet
     have htn_29 := htn_28.mv M5 (neq (by omega))
     have htn_30 := htn_29.mv M6 (neq (by omega))
     have htn_31 := htn_30.mv M7 quiet
     obtain ⟨b4, ha1, hib1, hr1⟩ := htn_31.elt hx1
     refine Yb 7 85 (.pointer (some ⟨b4, 0 + k * 35, none⟩)) rfl (fun u => (exec_index (E := 66) (k := k) rfl (by kernel_rfl) (by kernel_rfl) rfl ha1 rfl hib1)) ?_
     refine G.take 8 86 (.agg x1.cells.toArray) rfl (by kernel_rfl) rfl (fun _ _ _ h => h) ((Mv.refl _ _ _).trans (M11.mono (fun _ h => h))).self (by kernel_rfl) (fun u hm => exec_loads (cs := x1.cells) rfl rfl Ty66 rfl (hr1.mv hm quiet).2.2) ?_
     refine G.op 9 (by kernel_rfl) rfl (O.call 87 58 #[.agg x1.cells.toArray] (by kernel_rfl) rfl (by kernel_rfl) ((twin_c x1 w5.drew.drew g4 ((hnl x1 (List.mem_of_getElem? hx1)).1.mv K11.mv (nrg (by omega))) (hnl x1 (List.mem_of_getElem? hx1)).2).mono ?_))
     rintro e1 w9 ⟨g5, s2, rfl, M12, hs1⟩
     have K12 := K11.step M12 nt_le quiet
     refine ⟨_, rfl, ⟨kp_nt ((Mv.refl _ _ _).trans M12) _, ?_⟩⟩
     refine G.op 10 (by kernel_rfl) rfl (O.sta 1 (x1.at s2).cells rfl rfl rfl rfl rfl Ty66 rfl rfl rfl rfl K12 fun w10 K13 M13 => ⟨(kp_skip (by kernel_rfl) (kp_skip (by kernel_rfl) (kp_skip (by kernel_rfl) kp_nil))), ?_⟩)
     refine Yb 11 5 (.bool true) rfl (fun u => by kernel_rfl) ?_
     refine G.fin (by kernel_rfl) ?_
     refine hk10 _ _ (wp_ret (W.rets (vs := [.agg ((x1.at s2).cells).toArray, .bool true]) rfl (.agg (cs := (x1.at s2).cells) rfl Ty66 rfl ((K13.nth 1 rfl).all 35) (.tmp rfl .nil)) (by simp) ?_))
     have e : σ.look r = some x1 := look_some (by omega) (by omega) (by omega) (by omega) hk hx1
     simp only [TapeS.node, e, Option.getD_some, Option.isSome_some]
     have htp_15 := hb1.mv M7 quiet
     have htp_16 := htp_15.mv M11 quiet
     have htp_17 := htp_16.mv M12 quiet
     have htp_18 := htp_17.mv M13 (neq (by omega))
     have htn_32 := hn.mv M1 quiet
     have htn_33 := htn_32.mv M2 quiet
     have htn_34 := htn_33.mv M3 quiet
     have htn_35 := htn_34.mv M4 quiet
     have htn_36 := htn_35.mv M5 (neq (by omega))
     have htn_37 := htn_36.mv M6 (neq (by omega))
     have htn_38 := htn_37.mv M7 quiet
     have htn_39 := htn_38.mv M11 quiet
     have htn_40 := htn_39.mv M12 quiet
     have htn_41 := htn_40.mv M13 (neq (by omega))
     have htl2_10 := hG1.mv M6 (neq (by omega))
     have htl2_11 := htl2_10.mv M7 quiet
     have htl2_12 := htl2_11.mv M11 quiet
     have htl2_13 := htl2_12.mv M12 quiet
     have htl2_14 := htl2_13.mv M13 (neq (by omega))
     have htwin_1 := hs1.mv M13 (neq (by omega))
     exact ⟨_, s2, rfl, K13.mv, ⟨⟨sn, s1, htp_18, htn_41, htl2_14⟩, (fun n hn => ⟨((hnl n hn).1.mv K13.mv (nrg (by omega))), (hnl n hn).2⟩), (all_snoc (fun d hd => ⟨((hll d hd).1.mv K13.mv (nrg (by omega))), (hll d hd).2⟩) ⟨Ls.void _ _ Item.size, Nat.zero_le _⟩)⟩, htwin_1, (hnl x1 (List.mem_of_getElem? hx1)).2⟩
 ·refine Yb 2 52 (.bool true) rfl (fun u => okv ((fun u => by kernel_rfl) u) (congrArg Value.bool (bne_iff_ne.2 t1))) ?_
  refine Yb 3 53 (.bool true) rfl (fun u => by kernel_rfl) ?_
  refine Ya 4 54 rfl ?_
  refine Ya 5 55 rfl ?_
  refine Ya 6 56 rfl ?_
  refine Yb 7 57 (.bool true) rfl (fun u => by kernel_rfl) ?_
  refine Yb 8 58 (.bool true) rfl (fun u => by kernel_rfl) ?_
  refine Ya 9 59 rfl ?_
  refine Ya 10 60 rfl ?_
  refine Ya 11 61 rfl ?_
  refine Ya 12 62 rfl ?_
  refine Ya 13 63 rfl ?_
  refine Ya 14 64 rfl ?_
  refine Ya 15 65 rfl ?_
  refine Ya 16 66 rfl ?_
  refine Yb 17 67 (.bool true) rfl (fun u => by kernel_rfl) ?_
  refine Yb 18 68 (.bool true) rfl (fun u => by kernel_rfl) ?_
  refine Ya 19 69 rfl ?_
  refine Ya 20 70 rfl ?_
  refine Ya 21 71 rfl ?_
  refine Ya 22 72 rfl ?_
  refine Ya 23 73 rfl ?_
  refine Ya 24 74 rfl ?_
  refine Ya 25 75 rfl ?_
  refine Yb 26 76 (.bool true) rfl (fun u => by kernel_rfl) ?_
  refine G.fin (by kernel_rfl) ?_
  refine hk6 _ _ (W.cond true rfl (wp_seq_k fun k11 hk11 => (wp_region_lit ?_)))
  refine Zb 77 (.agg #[.bool false, .int .i64 0, .slice none 0 0, .int .i64 0, .int .i64 0, .int .i64 0, .int .i64 0, .int .i64 0, .int .i64 0, .int .i64 0, .int .i64 0, .int .i64 0, .int .i64 0, .int .i64 0, .int .i64 0, .int .i64 0, .int .i64 0, .int .i64 0, .int .i64 0, .int .i64 0, .int .i64 0, .int .i64 0, .int .i64 0, .int .i64 0, .int .i64 0, .int .i64 0, .int .i64 0, .int .i64 0, .int .i64 0, .int .i64 0, .int .i64 0, .int .i64 0, .int .i64 0, .int .i64 0, .int .i64 0]) ?_
  refine W.op (O.sta 1 [.bool false, .int .i64 0, .slice none 0 0, .int .i64 0, .int .i64 0, .int .i64 0, .int .i64 0, .int .i64 0, .int .i64 0, .int .i64 0, .int .i64 0, .int .i64 0, .int .i64 0, .int .i64 0, .int .i64 0, .int .i64 0, .int .i64 0, .int .i64 0, .int .i64 0, .int .i64 0, .int .i64 0, .int .i64 0, .int .i64 0, .int .i64 0, .int .i64 0, .int .i64 0, .int .i64 0, .int .i64 0, .int .i64 0, .int .i64 0, .int .i64 0, .int .i64 0, .int .i64 0, .int .i64 0, .int .i64 0] rfl rfl rfl rfl rfl Ty66 rfl rfl rfl rfl K7 fun w11 K14 M14 => ?_)
  refine Zb 5 (.bool false) ?_
  refine wpList_nil (hk11 _ _ (wp_ret (then_ret (W.rets (vs := [.agg #[.bool false, .int .i64 0, .slice none 0 0, .int .i64 0, .int .i64 0, .int .i64 0, .int .i64 0, .int .i64 0, .int .i64 0, .int .i64 0, .int .i64 0, .int .i64 0, .int .i64 0, .int .i64 0, .int .i64 0, .int .i64 0, .int .i64 0, .int .i64 0, .int .i64 0, .int .i64 0, .int .i64 0, .int .i64 0, .int .i64 0, .int .i64 0, .int .i64 0, .int .i64 0, .int .i64 0, .int .i64 0, .int .i64 0, .int .i64 0, .int .i64 0, .int .i64 0, .int .i64 0, .int .i64 0, .int .i64 0], .bool false]) rfl (.agg (cs := [.bool false, .int .i64 0, .slice none 0 0, .int .i64 0, .int .i64 0, .int .i64 0, .int .i64 0, .int .i64 0, .int .i64 0, .int .i64 0, .int .i64 0, .int .i64 0, .int .i64 0, .int .i64 0, .int .i64 0, .int .i64 0, .int .i64 0, .int .i64 0, .int .i64 0, .int .i64 0, .int .i64 0, .int .i64 0, .int .i64 0, .int .i64 0, .int .i64 0, .int .i64 0, .int .i64 0, .int .i64 0, .int .i64 0, .int .i64 0, .int .i64 0, .int .i64 0, .int .i64 0, .int .i64 0, .int .i64 0]) rfl Ty66 rfl ((K14.nth 1 rfl).all 35) (.tmp rfl .nil)) (by simp) ?_))))
  have e : σ.look r = none := look_none (by omega)
  simp only [TapeS.node, e, Option.getD_none, Option.isSome_none]
  have htp_19 := hb1.mv M7 quiet
  have htp_20 := htp_19.mv M14 (neq (by omega))
  have htn_42 := hn.mv M1 quiet
  have htn_43 := htn_42.mv M2 quiet
  have htn_44 := htn_43.mv M3 quiet
  have htn_45 := htn_44.mv M4 quiet
  have htn_46 := htn_45.mv M5 (neq (by omega))
  have htn_47 := htn_46.mv M6 (neq (by omega))
  have htn_48 := htn_47.mv M7 quiet
  have htn_49 := htn_48.mv M14 (neq (by omega))
  have htl2_15 := hG1.mv M6 (neq (by omega))
  have htl2_16 := htl2_15.mv M7 quiet
  have htl2_17 := htl2_16.mv M14 (neq (by omega))
  exact ⟨_, ⟨none, 0, 0⟩, rfl, K14.mv, ⟨⟨sn, s1, htp_20, htn_49, htl2_17⟩, (fun n hn => ⟨((hnl n hn).1.mv K14.mv (nrg (by omega))), (hnl n hn).2⟩), (all_snoc (fun d hd => ⟨((hll d hd).1.mv K14.mv (nrg (by omega))), (hll d hd).2⟩) ⟨Ls.void _ _ Item.size, Nat.zero_le _⟩)⟩, Ls.void _ _ Item.size, Nat.zero_le _⟩

set_option maxRecDepth 100000 in
set_option maxHeartbeats 1000000 in
theorem tapeAlloc_c (τ p : Nat) (σ : TapeS) (n : Nd) (w : World) (γ : Tg) (hT : Tp τ w γ p σ) (hs : Ls 7 Item.cells w γ n.sl n.its) (hsl : n.its.length ≤ 100000) (hτ : 2 ≤ τ) (h1 : σ.nodes.length ≤ 100000000) (h2 : σ.log.length ≤ 100000000) :
    Calls Try.prog 75 #[.pointer (some ⟨p, 0, none⟩), .agg n.cells.toArray] w fun ε w' => ∃ γ' s1 s2, ε = .returned (.tuple #[.agg σ.newRef.cells.toArray, .int .i64 σ.newErr]) ∧ Mv (Rg τ (τ + 3)) w γ w' γ' ∧ Tp τ w' γ' p (σ.laid n s1 s2) := by
 have K0 := Kn.start (Rg τ (τ + 3)) w γ
 refine W.enter (ws := [(1, .agg n.cells.toArray), (0, .pointer (some ⟨p, 0, none⟩))]) 82 Try.func75 rfl (by kernel_rfl) ?_
 obtain ⟨⟨sn, sl, hp, hn, hl⟩, hnl, hll⟩ := hT
 have n1 := hn.len
 have n2 := hl.len
 have n3 := hs.len
 refine wp_seq_k fun k1 hk1 => (wp_region_lit ?_)
 refine W.op (O.new 3 66 n.cells rfl rfl (by kernel_rfl) K0 fun b1 w1 g1 K1 M1 => ?_)
 refine W.op (O.new 4 31 [.int .i64 0, .int .i64 0] rfl rfl (by kernel_rfl) K1 fun b2 w2 g2 K2 M2 => ?_)
 refine Zb 5 (.int .i64 0) ?_
 refine wpList_nil (hk1 _ _ (wp_seq_k fun k2 hk2 => (wp_region_G (SmL [(4, Nt), (5, Nt)] w2 g2) (by kernel_rfl) ?_)))
 have K3 := K2.drew
 have M3 : Mv Nt w2 g2 w2.drew g2 := (Mv.refl _ _ _).drew
 refine Yb 0 7 (.pointer (some ⟨p, 0, none⟩)) rfl (fun u => by kernel_rfl) ?_
 refine Yb 1 8 (.pointer (some ⟨p, 0, none⟩)) rfl (fun u => by kernel_rfl) ?_
 refine Yb 2 9 (.pointer (some ⟨p, 0, none⟩)) rfl (fun u => by kernel_rfl) ?_
 refine Yb 3 10 (.pointer (some ⟨p, 3, none⟩)) rfl (fun u => by kernel_rfl) ?_
 have htp_1 := hp.mv M1 quiet
 have htp_2 := htp_1.mv M2 quiet
 refine G.take 4 11 (.slice sl.a sl.n sl.c) rfl (by kernel_rfl) rfl (fun _ _ _ h => h) ((Mv.refl _ _ _).trans (M3.mono (fun _ h => h))).self (by kernel_rfl) (fun u hm => exec_load rfl rfl Ty57 (((htp_2.mv hm quiet).1).cell 3)) ?_
 refine G.take 5 12 (.agg n.cells.toArray) rfl (by kernel_rfl) rfl (fun _ _ _ h => h) ((Mv.refl _ _ _).trans (M3.mono (fun _ h => h))).self (by kernel_rfl) (fun u hm => exec_loads (cs := n.cells) rfl rfl Ty66 rfl ((K2.later 1 rfl hm quiet).all 35)) ?_
 have hn_1 := hs.mv M1 quiet
 have hn_2 := hn_1.mv M2 quiet
 have hn_3 := hn_2.mv M3 quiet
 refine G.op 6 (by kernel_rfl) rfl (O.call 13 58 #[.agg n.cells.toArray] (by kernel_rfl) rfl (by kernel_rfl) ((twin_c n w2.drew g2 hn_3 hsl).mono ?_))
 rintro e1 w3 ⟨g3, s1, rfl, M4, hs1⟩
 have K4 := K3.step M4 nt_le quiet
 refine ⟨_, rfl, ⟨kp_nt ((Mv.refl _ _ _).trans M4) _, ?_⟩⟩
 refine Yb 7 14 (.agg #[.bool true, .int .i64 0, .int .i64 0, .bool ((n.at s1).leaf), .int .i64 ((n.at s1).cnt), .slice ((n.at s1).sl.a) ((n.at s1).sl.n) ((n.at s1).sl.c), .int .i64 (((n.at s1).kid 0).num), .int .i64 (((n.at s1).kid 0).gen), .int .i64 (((n.at s1).kid 1).num), .int .i64 (((n.at s1).kid 1).gen), .int .i64 (((n.at s1).kid 2).num), .int .i64 (((n.at s1).kid 2).gen), .int .i64 (((n.at s1).kid 3).num), .int .i64 (((n.at s1).kid 3).gen), .int .i64 (((n.at s1).kid 4).num), .int .i64 (((n.at s1).kid 4).gen), .int .i64 (((n.at s1).kid 5).num), .int .i64 (((n.at s1).kid 5).gen), .int .i64 (((n.at s1).kid 6).num), .int .i64 (((n.at s1).kid 6).gen), .int .i64 (((n.at s1).kid 7).num), .int .i64 (((n.at s1).kid 7).gen), .int .i64 (((n.at s1).kid 8).num), .int .i64 (((n.at s1).kid 8).gen), .int .i64 (((n.at s1).kid 9).num), .int .i64 (((n.at s1).kid 9).gen), .int .i64 (((n.at s1).kid 10).num), .int .i64 (((n.at s1).kid 10).gen), .int .i64 (((n.at s1).kid 11).num), .int .i64 (((n.at s1).kid 11).gen), .int .i64 (((n.at s1).kid 12).num), .int .i64 (((n.at s1).kid 12).gen), .int .i64 (((n.at s1).kid 13).num), .int .i64 (((n.at s1).kid 13).gen), .int .i64 (((n.at s1).kid 14).num), .int .i64 (((n.at s1).kid 14).gen), .int .i64 (((n.at s1).kid 15).num), .int .i64 (((n.at s1).kid 15).gen)]) rfl (fun u => by kernel_rfl) ?_
 refine G.op 8 (by kernel_rfl) rfl (O.lit 15 68 [.bool true, .int .i64 0, .int .i64 0, .bool ((n.at s1).leaf), .int .i64 ((n.at s1).cnt), .slice ((n.at s1).sl.a) ((n.at s1).sl.n) ((n.at s1).sl.c), .int .i64 (((n.at s1).kid 0).num), .int .i64 (((n.at s1).kid 0).gen), .int .i64 (((n.at s1).kid 1).num), .int .i64 (((n.at s1).kid 1).gen), .int .i64 (((n.at s1).kid 2).num), .int .i64 (((n.at s1).kid 2).gen), .int .i64 (((n.at s1).kid 3).num), .int .i64 (((n.at s1).kid 3).gen), .int .i64 (((n.at s1).kid 4).num), .int .i64 (((n.at s1).kid 4).gen), .int .i64 (((n.at s1).kid 5).num), .int .i64 (((n.at s1).kid 5).gen), .int .i64 (((n.at s1).kid 6).num), .int .i64 (((n.at s1).kid 6).gen), .int .i64 (((n.at s1).kid 7).num), .int .i64 (((n.at s1).kid 7).gen), .int .i64 (((n.at s1).kid 8).num), .int .i64 (((n.at s1).kid 8).gen), .int .i64 (((n.at s1).kid 9).num), .int .i64 (((n.at s1).kid 9).gen), .int .i64 (((n.at s1).kid 10).num), .int .i64 (((n.at s1).kid 10).gen), .int .i64 (((n.at s1).kid 11).num), .int .i64 (((n.at s1).kid 11).gen), .int .i64 (((n.at s1).kid 12).num), .int .i64 (((n.at s1).kid 12).gen), .int .i64 (((n.at s1).kid 13).num), .int .i64 (((n.at s1).kid 13).gen), .int .i64 (((n.at s1).kid 14).num), .int .i64 (((n.at s1).kid 14).gen), .int .i64 (((n.at s1).kid 15).num), .int .i64 (((n.at s1).kid 15).gen)] 1 rfl rfl (by kernel_rfl) K4 fun b3 w4 g4 K5 M5 => ⟨kp_nt ((Mv.refl _ _ _).trans M5) _, ?_⟩)
 have htl_1 := hl.mv M1 quiet
 have htl_2 := htl_1.mv M2 quiet
 have htl_3 := htl_2.mv M3 quiet
 have htl_4 := htl_3.mv M4 quiet
 have htl_5 := htl_4.mv M5 quiet
 refine G.op 9 (by kernel_rfl) rfl (O.append (f := Dd.cells) 16 [(⟨true, ⟨0, 0⟩, n.at s1⟩ : Dd)] (by kernel_rfl) rfl rfl (by kernel_rfl) El68 rfl rfl htl_5 rfl (src1 (K5.nth 0 rfl) rfl) (fun _ => rfl) (by simp only [List.length_append, List.length_cons, List.length_nil]; omega) (by simp only [List.length_append, List.length_cons, List.length_nil]; omega) fun s2 w5 g5 hG1 M6 => ⟨(kp_skip (by kernel_rfl) (kp_skip (by kernel_rfl) kp_nil)), ?_⟩)
 have K6 := K5.step M6 (eq_rg (by omega)) (neq (by omega))
 have n4 := hG1.len
 refine Yb 10 17 (.pointer (some ⟨p, 0, none⟩)) rfl (fun u => by kernel_rfl) ?_
 refine Yb 11 18 (.pointer (some ⟨p, 3, none⟩)) rfl (fun u => by kernel_rfl) ?_
 have htp_3 := hp.mv M1 quiet
 have htp_4 := htp_3.mv M2 quiet
 have htp_5 := htp_4.mv M3 quiet
 have htp_6 := htp_5.mv M4 quiet
 have htp_7 := htp_6.mv M5 quiet
 have htp_8 := htp_7.mv M6 (neq (by omega))
 refine G.op 12 (by kernel_rfl) rfl (O.bst (.slice s2.a s2.n s2.c) (by kernel_rfl) rfl rfl rfl rfl Ty57 rfl rfl htp_8 (Nat.le_of_ble_eq_true rfl) fun w6 hb1 M7 => ⟨(kp_skip (by kernel_rfl) (kp_skip (by kernel_rfl) kp_nil)), ?_⟩)
 have K7 := K6.step M7 (eq_rg (by omega)) (neq (by omega))
 refine G.fin (by kernel_rfl) ?_
 refine hk2 _ _ (wp_seq_k fun k3 hk3 => (wp_seq_k fun k4 hk4 => (wp_region_lit ?_)))
 refine Zb 19 (.pointer (some ⟨p, 0, none⟩)) ?_
 refine Zb 20 (.pointer (some ⟨p, 0, none⟩)) ?_
 refine Zb 21 (.pointer (some ⟨p, 5, none⟩)) ?_
 refine Zc 22 (.pointer none) (exec_load rfl rfl Ty58 ((hb1.1).cell 5)) ?_
 refine Zb 23 (.bool false) ?_
 refine wpList_nil (hk4 _ _ (W.cond false rfl (wp_skip (hk3 _ _ (wp_seq_k fun k5 hk5 => (wp_seq_k fun k6 hk6 => ?_))))))
 refine wp_region_G (SmL [(3, Nt), (8, Nt)] w6 g5) (by kernel_rfl) ?_
 have K8 := K7.drew
 have M8 : Mv Nt w6 g5 w6.drew g5 := (Mv.refl _ _ _).drew
 refine Yb 0 54 (.pointer (some ⟨p, 0, none⟩)) rfl (fun u => by kernel_rfl) ?_
 refine Yb 1 55 (.pointer (some ⟨p, 0, none⟩)) rfl (fun u => by kernel_rfl) ?_
 refine Yb 2 56 (.pointer (some ⟨p, 0, none⟩)) rfl (fun u => by kernel_rfl) ?_
 refine G.take 3 57 (.slice sn.a sn.n sn.c) rfl (by kernel_rfl) rfl (fun _ _ _ h => h) ((Mv.refl _ _ _).trans (M8.mono (fun _ h => h))).self (by kernel_rfl) (fun u hm => exec_load rfl rfl Ty56 (((hb1.mv hm quiet).1).cell 0)) ?_
 refine Yb 4 58 (.int .i64 (sn.n : Int)) rfl (fun u => by kernel_rfl) ?_
 refine Yb 5 59 (.pointer (some ⟨p, 0, none⟩)) rfl (fun u => by kernel_rfl) ?_
 refine Yb 6 60 (.pointer (some ⟨p, 0, none⟩)) rfl (fun u => by kernel_rfl) ?_
 refine Yb 7 61 (.pointer (some ⟨p, 1, none⟩)) rfl (fun u => by kernel_rfl) ?_
 refine G.take 8 62 (.int .i64 σ.most) rfl (by kernel_rfl) rfl (fun _ _ _ h => h) ((Mv.refl _ _ _).trans (M8.mono (fun _ h => h))).self (by kernel_rfl) (fun u hm => exec_load rfl rfl Ty3 (((hb1.mv hm quiet).1).cell 1)) ?_
 by_cases t1 : (sn.n : Int) ≥ σ.most
 ·refine Yb 9 63 (.bool true) rfl (fun u => okv ((fun u => by kernel_rfl) u) (congrArg Value.bool (decide_eq_true t1))) ?_
  refine G.fin (by kernel_rfl) ?_
  refine hk6 _ _ (W.cond true rfl (wp_seq_k fun k7 hk7 => (wp_region_lit ?_)))
  refine Zb 64 (.agg #[.int .i64 0, .int .i64 0]) ?_
  refine W.op (O.sta 1 [.int .i64 0, .int .i64 0] rfl rfl rfl rfl rfl Ty31 rfl rfl rfl rfl K8 fun w7 K9 M9 => ?_)
  refine Zb 5 (.int .i64 5) ?_
  refine wpList_nil (hk7 _ _ (wp_ret (then_ret (W.rets (vs := [.agg #[.int .i64 0, .int .i64 0], .int .i64 5]) rfl (.agg (cs := [.int .i64 0, .int .i64 0]) rfl Ty31 rfl ((K9.nth 1 rfl).all 2) (.tmp rfl .nil)) (by simp) ?_))))
  have e : σ.full = true := decide_eq_true (by omega)
  unfold TapeS.newRef TapeS.newErr TapeS.laid
  rewrite [e]
  have htws1_1 := hs1.mv M5 quiet
  have htws1_2 := htws1_1.mv M6 (neq (by omega))
  have htws1_3 := htws1_2.mv M7 (neq (by omega))
  have htws1_4 := htws1_3.mv M8 quiet
  have htws1_5 := htws1_4.mv M9 (neq (by omega))
  have htp_9 := hb1.mv M8 quiet
  have htp_10 := htp_9.mv M9 (neq (by omega))
  have htn_1 := hn.mv M1 quiet
  have htn_2 := htn_1.mv M2 quiet
  have htn_3 := htn_2.mv M3 quiet
  have htn_4 := htn_3.mv M4 quiet
  have htn_5 := htn_4.mv M5 quiet
  have htn_6 := htn_5.mv M6 (neq (by omega))
  have htn_7 := htn_6.mv M7 (neq (by omega))
  have htn_8 := htn_7.mv M8 quiet
  have htn_9 := htn_8.mv M9 (neq (by omega))
  have htl2_1 := hG1.mv M7 (neq (by omega))
  have htl2_2 := htl2_1.mv M8 quiet
  have htl2_3 := htl2_2.mv M9 (neq (by omega))
  exact ⟨_, s1, ⟨none, 0, 0⟩, rfl, K9.mv, ⟨⟨sn, s2, htp_10, htn_9, htl2_3⟩, (fun n hn => ⟨((hnl n hn).1.mv K9.mv (nrg (by omega))), (hnl n hn).2⟩), (all_snoc (fun d hd => ⟨((hll d hd).1.mv K9.mv (nrg (by omega))), (hll d hd).2⟩) ⟨htws1_5, hsl⟩)⟩⟩
 ·refine Yb 9 63 (.bool false) rfl (fun u => okv ((fun u => by kernel_rfl) u) (congrArg Value.bool (decide_eq_false t1))) ?_
  refine G.fin (by kernel_rfl) ?_
  refine hk6 _ _ (W.cond false rfl (wp_skip (hk5 _ _ (wp_seq_k fun k8 hk8 => (wp_region_G (SmL [(4, Nt), (5, Nt)] w6.drew g5) (by kernel_rfl) ?_)))))
  have K10 := K8.drew
  have M10 : Mv Nt w6.drew g5 w6.drew.drew g5 := (Mv.refl _ _ _).drew
  refine Yb 0 65 (.pointer (some ⟨p, 0, none⟩)) rfl (fun u => by kernel_rfl) ?_
  refine Yb 1 66 (.pointer (some ⟨p, 0, none⟩)) rfl (fun u => by kernel_rfl) ?_
  refine Yb 2 67 (.pointer (some ⟨p, 0, none⟩)) rfl (fun u => by kernel_rfl) ?_
  refine Yb 3 68 (.pointer (some ⟨p, 0, none⟩)) rfl (fun u => by kernel_rfl) ?_
  have htp_11 := hb1.mv M8 quiet
  refine G.take 4 69 (.slice sn.a sn.n sn.c) rfl (by kernel_rfl) rfl (fun _ _ _ h => h) ((Mv.refl _ _ _).trans (M10.mono (fun _ h => h))).self (by kernel_rfl) (fun u hm => exec_load rfl rfl Ty56 (((htp_11.mv hm quiet).1).cell 0)) ?_
  refine G.take 5 70 (.agg n.cells.toArray) rfl (by kernel_rfl) rfl (fun _ _ _ h => h) ((Mv.refl _ _ _).trans (M10.mono (fun _ h => h))).self (by kernel_rfl) (fun u hm => exec_loads (cs := n.cells) rfl rfl Ty66 rfl ((K8.later 2 rfl hm quiet).all 35)) ?_
  have hn_4 := hn_3.mv M4 quiet
  have hn_5 := hn_4.mv M5 quiet
  have hn_6 := hn_5.mv M6 (neq (by omega))
  have hn_7 := hn_6.mv M7 (neq (by omega))
  have hn_8 := hn_7.mv M8 quiet
  have hn_9 := hn_8.mv M10 quiet
  refine G.op 6 (by kernel_rfl) rfl (O.call 71 58 #[.agg n.cells.toArray] (by kernel_rfl) rfl (by kernel_rfl) ((twin_c n w6.drew.drew g5 hn_9 hsl).mono ?_))
  rintro e2 w8 ⟨g6, s3, rfl, M11, hs2⟩
  have K11 := K10.step M11 nt_le quiet
  refine ⟨_, rfl, ⟨kp_nt ((Mv.refl _ _ _).trans M11) _, ?_⟩⟩
  refine G.op 7 (by kernel_rfl) rfl (O.lit 72 66 [.bool ((n.at s3).leaf), .int .i64 ((n.at s3).cnt), .slice ((n.at s3).sl.a) ((n.at s3).sl.n) ((n.at s3).sl.c), .int .i64 (((n.at s3).kid 0).num), .int .i64 (((n.at s3).kid 0).gen), .int .i64 (((n.at s3).kid 1).num), .int .i64 (((n.at s3).kid 1).gen), .int .i64 (((n.at s3).kid 2).num), .int .i64 (((n.at s3).kid 2).gen), .int .i64 (((n.at s3).kid 3).num), .int .i64 (((n.at s3).kid 3).gen), .int .i64 (((n.at s3).kid 4).num), .int .i64 (((n.at s3).kid 4).gen), .int .i64 (((n.at s3).kid 5).num), .int .i64 (((n.at s3).kid 5).gen), .int .i64 (((n.at s3).kid 6).num), .int .i64 (((n.at s3).kid 6).gen), .int .i64 (((n.at s3).kid 7).num), .int .i64 (((n.at s3).kid 7).gen), .int .i64 (((n.at s3).kid 8).num), .int .i64 (((n.at s3).kid 8).gen), .int .i64 (((n.at s3).kid 9).num), .int .i64 (((n.at s3).kid 9).gen), .int .i64 (((n.at s3).kid 10).num), .int .i64 (((n.at s3).kid 10).gen), .int .i64 (((n.at s3).kid 11).num), .int .i64 (((n.at s3).kid 11).gen), .int .i64 (((n.at s3).kid 12).num), .int .i64 (((n.at s3).kid 12).gen), .int .i64 (((n.at s3).kid 13).num), .int .i64 (((n.at s3).kid 13).gen), .int .i64 (((n.at s3).kid 14).num), .int .i64 (((n.at s3).kid 14).gen), .int .i64 (((n.at s3).kid 15).num), .int .i64 (((n.at s3).kid 15).gen)] 1 rfl rfl (by kernel_rfl) K11 fun b4 w9 g7 K12 M12 => ⟨kp_nt ((Mv.refl _ _ _).trans M12) _, ?_⟩)
  have htn_10 := hn.mv M1 quiet
  have htn_11 := htn_10.mv M2 quiet
  have htn_12 := htn_11.mv M3 quiet
  have htn_13 := htn_12.mv M4 quiet
  have htn_14 := htn_13.mv M5 quiet
  have htn_15 := htn_14.mv M6 (neq (by omega))
  have htn_16 := htn_15.mv M7 (neq (by omega))
  have htn_17 := htn_16.mv M8 quiet
  have htn_18 := htn_17.mv M10 quiet
  have htn_19 := htn_18.mv M11 quiet
  have htn_20 := htn_19.mv M12 quiet
  refine G.op 8 (by kernel_rfl) rfl (O.append (f := Nd.cells) 73 [n.at s3] (by kernel_rfl) rfl rfl (by kernel_rfl) El66 rfl rfl htn_20 rfl (src1 (K12.nth 0 rfl) rfl) (fun _ => rfl) (by simp only [List.length_append, List.length_cons, List.length_nil]; omega) (by simp only [List.length_append, List.length_cons, List.length_nil]; omega) fun s4 w10 g8 hG2 M13 => ⟨(kp_skip (by kernel_rfl) (kp_skip (by kernel_rfl) kp_nil)), ?_⟩)
  have K13 := K12.step M13 (eq_rg (by omega)) (neq (by omega))
  have n5 := hG2.len
  refine Yb 9 74 (.pointer (some ⟨p, 0, none⟩)) rfl (fun u => by kernel_rfl) ?_
  refine Yb 10 75 (.pointer (some ⟨p, 0, none⟩)) rfl (fun u => by kernel_rfl) ?_
  have htp_12 := hb1.mv M8 quiet
  have htp_13 := htp_12.mv M10 quiet
  have htp_14 := htp_13.mv M11 quiet
  have htp_15 := htp_14.mv M12 quiet
  have htp_16 := htp_15.mv M13 (neq (by omega))
  refine G.op 11 (by kernel_rfl) rfl (O.bst (.slice s4.a s4.n s4.c) (by kernel_rfl) rfl rfl rfl rfl Ty56 rfl rfl htp_16 (Nat.le_of_ble_eq_true rfl) fun w11 hb2 M14 => ⟨(kp_skip (by kernel_rfl) (kp_skip (by kernel_rfl) kp_nil)), ?_⟩)
  have K14 := K13.step M14 (eq_rg (by omega)) (neq (by omega))
  refine G.fin (by kernel_rfl) ?_
  refine hk8 _ _ (wp_seq_k fun k9 hk9 => (wp_region_lit ?_))
  refine Zb 76 (.pointer (some ⟨p, 0, none⟩)) ?_
  refine Zb 77 (.pointer (some ⟨p, 0, none⟩)) ?_
  refine Zb 78 (.pointer (some ⟨p, 0, none⟩)) ?_
  refine Zc 79 (.slice s4.a s4.n s4.c) (exec_load rfl rfl Ty56 ((hb2.1).cell 0)) ?_
  refine Zb 80 (.int .i64 (s4.n : Int)) ?_
  refine Zb 81 (.agg #[.int .i64 (s4.n : Int), .int .i64 1]) ?_
  refine W.op (O.sta 2 [.int .i64 (s4.n : Int), .int .i64 1] rfl rfl rfl rfl rfl Ty31 rfl rfl rfl rfl K14 fun w12 K15 M15 => ?_)
  refine Zb 5 (.int .i64 0) ?_
  refine wpList_nil (hk9 _ _ (wp_ret (W.rets (vs := [.agg #[.int .i64 (s4.n : Int), .int .i64 1], .int .i64 0]) rfl (.agg (cs := [.int .i64 (s4.n : Int), .int .i64 1]) rfl Ty31 rfl ((K15.nth 2 rfl).all 2) (.tmp rfl .nil)) (by simp) ?_)))
  have e : σ.full = false := decide_eq_false (by omega)
  unfold TapeS.newRef TapeS.newErr TapeS.laid
  rewrite [e]
  have e2 : ((s4.n : Int) : Int) = (σ.nodes.length : Int) + 1 := by simp only [List.length_append, List.length_cons, List.length_nil] at *; omega
  have htws3_1 := hs2.mv M12 quiet
  have htws3_2 := htws3_1.mv M13 (neq (by omega))
  have htws3_3 := htws3_2.mv M14 (neq (by omega))
  have htws3_4 := htws3_3.mv M15 (neq (by omega))
  have htws1_6 := hs1.mv M5 quiet
  have htws1_7 := htws1_6.mv M6 (neq (by omega))
  have htws1_8 := htws1_7.mv M7 (neq (by omega))
  have htws1_9 := htws1_8.mv M8 quiet
  have htws1_10 := htws1_9.mv M10 quiet
  have htws1_11 := htws1_10.mv M11 quiet
  have htws1_12 := htws1_11.mv M12 quiet
  have htws1_13 := htws1_12.mv M13 (neq (by omega))
  have htws1_14 := htws1_13.mv M14 (neq (by omega))
  have htws1_15 := htws1_14.mv M15 (neq (by omega))
  have htp_17 := hb2.mv M15 (neq (by omega))
  have htn2_1 := hG2.mv M14 (neq (by omega))
  have htn2_2 := htn2_1.mv M15 (neq (by omega))
  have htl2_4 := hG1.mv M7 (neq (by omega))
  have htl2_5 := htl2_4.mv M8 quiet
  have htl2_6 := htl2_5.mv M10 quiet
  have htl2_7 := htl2_6.mv M11 quiet
  have htl2_8 := htl2_7.mv M12 quiet
  have htl2_9 := htl2_8.mv M13 (neq (by omega))
  have htl2_10 := htl2_9.mv M14 (neq (by omega))
  have htl2_11 := htl2_10.mv M15 (neq (by omega))
  exact ⟨_, s1, s3, by rewrite [e2]; rfl, K15.mv, ⟨⟨s4, s2, htp_17, htn2_2, htl2_11⟩, (all_snoc (fun n hn => ⟨((hnl n hn).1.mv K15.mv (nrg (by omega))), (hnl n hn).2⟩) ⟨htws3_4, hsl⟩), (all_snoc (fun d hd => ⟨((hll d hd).1.mv K15.mv (nrg (by omega))), (hll d hd).2⟩) ⟨htws1_15, hsl⟩)⟩⟩

theorem tapeGetSome_c (τ p : Nat) (σ : TapeS) (r : Ref) (n : Nd) (w : World) (γ : Tg) (hT : Tp τ w γ p σ) (hτ : 2 ≤ τ) (h1 : σ.nodes.length ≤ 100000000) (h2 : σ.log.length ≤ 100000000) (hn : σ.look r = some n) :
    Calls Try.prog 39 #[.pointer (some ⟨p, 0, none⟩), .agg r.cells.toArray] w fun ε w' => ∃ γ' s', ε = .returned (.tuple #[.agg (n.at s').cells.toArray, .bool true]) ∧ Mv (Rg τ (τ + 3)) w γ w' γ' ∧ Tp τ w' γ' p (σ.saw r) ∧ Ls 7 Item.cells w' γ' s' n.its ∧ n.its.length ≤ 100000 := by
  have h := tapeGet_c τ p σ r w γ hT hτ h1 h2
  simp only [TapeS.node, hn, Option.getD_some, Option.isSome_some] at h
  exact h
theorem tapeGetNone_c (τ p : Nat) (σ : TapeS) (r : Ref) (w : World) (γ : Tg) (hT : Tp τ w γ p σ) (hτ : 2 ≤ τ) (h1 : σ.nodes.length ≤ 100000000) (h2 : σ.log.length ≤ 100000000) (hn : σ.look r = none) :
    Calls Try.prog 39 #[.pointer (some ⟨p, 0, none⟩), .agg r.cells.toArray] w fun ε w' => ∃ γ' s', ε = .returned (.tuple #[.agg (Nd.zero.at s').cells.toArray, .bool false]) ∧ Mv (Rg τ (τ + 3)) w γ w' γ' ∧ Tp τ w' γ' p (σ.saw r) ∧ Ls 7 Item.cells w' γ' s' Nd.zero.its ∧ Nd.zero.its.length ≤ 100000 := by
  have h := tapeGet_c τ p σ r w γ hT hτ h1 h2
  simp only [TapeS.node, hn, Option.getD_none, Option.isSome_none] at h
  exact h

end Go.Proofs.Ytlfanphdnjoofaa
