/- Walks: a walk over a tree. -/
import Derived.Test.YtlfanphdnjoofaaT4
namespace Go.Proofs.Ytlfanphdnjoofaa
open Go.RowKit
set_option linter.unusedSimpArgs false
set_option linter.unusedVariables false
attribute [local irreducible] wpList Code.wp Calls OpS wpG

set_option maxRecDepth 100000 in
set_option maxHeartbeats 1000000 in
theorem retire_c (τ q p : Nat) (S : St) (r : Ref) (gt : Int) (w : World) (γ : Tg) (hM : SM τ w γ q p S) (hτ : 2 ≤ τ) (h1 : S.rs.length ≤ 100000000) :
    Calls Try.prog 66 #[.pointer (some ⟨q, 0, none⟩), .agg r.cells.toArray, .int .i64 gt] w fun ε w' => ∃ γ', ε = .returned (.tuple #[]) ∧ Mv (Rg τ (τ + 5)) w γ w' γ' ∧ SM τ w' γ' q p { S with rs := S.rs ++ [⟨r.num, r.gen, gt⟩] } := by
 have K0 := Kn.start (Rg τ (τ + 5)) w γ
 refine W.enter (ws := [(2, .int .i64 gt), (1, .agg r.cells.toArray), (0, .pointer (some ⟨q, 0, none⟩))]) 18 Try.func66 rfl (by kernel_rfl) ?_
 obtain ⟨hT, ⟨sr, hq, hr⟩⟩ := hM
 have n1 := hr.len
 refine wp_seq_k fun k1 hk1 => (wp_region_lit ?_)
 refine W.op (O.new 4 31 r.cells rfl rfl (by kernel_rfl) K0 fun b1 w1 g1 K1 M1 => ?_)
 refine wpList_nil (hk1 _ _ (wp_region_G (SmL [(4, Nt), (5, Nt)] w1 g1) (by kernel_rfl) ?_))
 have K2 := K1.drew
 have M2 : Mv Nt w1 g1 w1.drew g1 := (Mv.refl _ _ _).drew
 refine Yb 0 6 (.pointer (some ⟨q, 0, none⟩)) rfl (fun u => by kernel_rfl) ?_
 refine Yb 1 7 (.pointer (some ⟨q, 0, none⟩)) rfl (fun u => by kernel_rfl) ?_
 refine Yb 2 8 (.pointer (some ⟨q, 0, none⟩)) rfl (fun u => by kernel_rfl) ?_
 refine Yb 3 9 (.pointer (some ⟨q, 2, none⟩)) rfl (fun u => by kernel_rfl) ?_
 have hq_1 := hq.mv M1 quiet
 refine G.take 4 10 (.slice sr.a sr.n sr.c) rfl (by kernel_rfl) rfl (fun _ _ _ h => h) ((Mv.refl _ _ _).trans (M2.mono (fun _ h => h))).self (by kernel_rfl) (fun u hm => exec_load rfl rfl Ty90 (((hq_1.mv hm quiet).1).cell 2)) ?_
 refine G.take 5 11 (.agg r.cells.toArray) rfl (by kernel_rfl) rfl (fun _ _ _ h => h) ((Mv.refl _ _ _).trans (M2.mono (fun _ h => h))).self (by kernel_rfl) (fun u hm => exec_loads (cs := r.cells) rfl rfl Ty31 rfl ((K1.later 0 rfl hm quiet).all 2)) ?_
 refine Yb 6 12 (.int .i64 gt) rfl (fun u => by kernel_rfl) ?_
 refine Yb 7 13 (.agg #[.int .i64 r.num, .int .i64 r.gen, .int .i64 gt]) rfl (fun u => by kernel_rfl) ?_
 refine G.op 8 (by kernel_rfl) rfl (O.lit 14 146 [.int .i64 r.num, .int .i64 r.gen, .int .i64 gt] 1 rfl rfl (by kernel_rfl) K2 fun b2 w2 g2 K3 M3 => ⟨kp_nt ((Mv.refl _ _ _).trans M3) _, ?_⟩)
 have hrs_1 := hr.mv M1 quiet
 have hrs_2 := hrs_1.mv M2 quiet
 have hrs_3 := hrs_2.mv M3 quiet
 refine G.op 9 (by kernel_rfl) rfl (O.append (f := Rtd.cells) 15 [(⟨r.num, r.gen, gt⟩ : Rtd)] (by kernel_rfl) rfl rfl (by kernel_rfl) El146 rfl rfl hrs_3 rfl (src1 (K3.nth 0 rfl) rfl) (fun _ => rfl) (by simp only [List.length_append, List.length_cons, List.length_nil]; omega) (by simp only [List.length_append, List.length_cons, List.length_nil]; omega) fun s1 w3 g3 hG1 M4 => ⟨(kp_skip (by kernel_rfl) (kp_skip (by kernel_rfl) kp_nil)), ?_⟩)
 have K4 := K3.step M4 (eq_rg (by omega)) (neq (by omega))
 have n2 := hG1.len
 refine Yb 10 16 (.pointer (some ⟨q, 0, none⟩)) rfl (fun u => by kernel_rfl) ?_
 refine Yb 11 17 (.pointer (some ⟨q, 2, none⟩)) rfl (fun u => by kernel_rfl) ?_
 have hq_2 := hq.mv M1 quiet
 have hq_3 := hq_2.mv M2 quiet
 have hq_4 := hq_3.mv M3 quiet
 have hq_5 := hq_4.mv M4 (neq (by omega))
 refine G.op 12 (by kernel_rfl) rfl (O.bst (.slice s1.a s1.n s1.c) (by kernel_rfl) rfl rfl rfl rfl Ty90 rfl rfl hq_5 (Nat.le_of_ble_eq_true rfl) fun w4 hb1 M5 => ⟨(kp_skip (by kernel_rfl) (kp_skip (by kernel_rfl) kp_nil)), ?_⟩)
 have K5 := K4.step M5 (eq_rg (by omega)) (neq (by omega))
 refine G.fin (by kernel_rfl) ?_
 refine W.end0 rfl ?_
 have hT_1 := hT.mv M1 quiet quiet quiet quiet
 have hT_2 := hT_1.mv M2 quiet quiet quiet quiet
 have hT_3 := hT_2.mv M3 quiet quiet quiet quiet
 have hT_4 := hT_3.mv M4 (neq (by omega)) (neq (by omega)) (neq (by omega)) (neq (by omega))
 have hT_5 := hT_4.mv M5 (neq (by omega)) (neq (by omega)) (neq (by omega)) (neq (by omega))
 have hrs2_1 := hG1.mv M5 (neq (by omega))
 exact ⟨_, rfl, K5.mv, ⟨hT_5, ⟨s1, hb1, hrs2_1⟩⟩⟩

set_option maxRecDepth 100000 in
set_option maxHeartbeats 1000000 in
theorem node_c (τ q p : Nat) (S : St) (r : Ref) (l : Nat) (w : World) (γ : Tg) (hM : SM τ w γ q p S) (hτ : 2 ≤ τ) (h1 : S.σ.nodes.length ≤ 100000000) (h2 : S.σ.log.length ≤ 100000000) (h3 : 0 ≤ S.got) :
    Calls Try.prog 36 #[.pointer (some ⟨q, 0, none⟩), .agg r.cells.toArray, .int .i64 ((l : Nat) : Int)] w fun ε w' => ∃ γ' s', ε = .returned (.tuple #[.agg (((S.node r l).getD Nd.zero).at s').cells.toArray, .int .i64 (S.seen r).got, .int .i64 (lostErr (S.node r l))]) ∧ Mv (Rg τ (τ + 5)) w γ w' γ' ∧ SM τ w' γ' q p (S.seen r) ∧ Ls 7 Item.cells w' γ' s' (((S.node r l).getD Nd.zero).its) ∧ ((S.node r l).getD Nd.zero).its.length ≤ 100000 := by
 have K0 := Kn.start (Rg τ (τ + 5)) w γ
 refine W.enter (ws := [(2, .int .i64 ↑l), (1, .agg r.cells.toArray), (0, .pointer (some ⟨q, 0, none⟩))]) 58 Try.func36 rfl (by kernel_rfl) ?_
 obtain ⟨hT, ⟨sr, hq, hr⟩⟩ := hM
 have n1 := hr.len
 refine wp_seq_k fun k1 hk1 => (wp_region_lit ?_)
 refine W.op (O.new 4 31 r.cells rfl rfl (by kernel_rfl) K0 fun b1 w1 g1 K1 M1 => ?_)
 refine W.op (O.new 6 66 Z66 rfl rfl (by kernel_rfl) K1 fun b2 w2 g2 K2 M2 => ?_)
 refine Zb 7 (.int .i64 0) ?_
 refine Zb 8 (.int .i64 0) ?_
 refine wpList_nil (hk1 _ _ (wp_seq_k fun k2 hk2 => (wp_seq_k fun k3 hk3 => (wp_region_lit ?_))))
 refine Zb 11 (.pointer (some ⟨q, 0, none⟩)) ?_
 refine Zb 12 (.pointer (some ⟨q, 0, none⟩)) ?_
 refine Zb 13 (.pointer (some ⟨q, 1, none⟩)) ?_
 have hq_1 := hq.mv M1 quiet
 have hq_2 := hq_1.mv M2 quiet
 refine Zc 14 (.int .i64 S.got) (exec_load rfl rfl Ty3 ((hq_2.1).cell 1)) ?_
 by_cases t1 : S.got ≥ 1048576
 ·refine Zc 15 (.bool true) (okv (by kernel_rfl) (congrArg Value.bool (decide_eq_true t1))) ?_
  refine wpList_nil (hk3 _ _ (W.cond true rfl (wp_seq_k fun k4 hk4 => (wp_region_G (SmL [(4, (fun ξ => ξ = 1))] w2 g2) (by kernel_rfl) ?_))))
  have K3 := K2.drew
  have M3 : Mv Nt w2 g2 w2.drew g2 := (Mv.refl _ _ _).drew
  refine Yb 0 16 (.agg #[.bool false, .int .i64 0, .slice none 0 0, .int .i64 0, .int .i64 0, .int .i64 0, .int .i64 0, .int .i64 0, .int .i64 0, .int .i64 0, .int .i64 0, .int .i64 0, .int .i64 0, .int .i64 0, .int .i64 0, .int .i64 0, .int .i64 0, .int .i64 0, .int .i64 0, .int .i64 0, .int .i64 0, .int .i64 0, .int .i64 0, .int .i64 0, .int .i64 0, .int .i64 0, .int .i64 0, .int .i64 0, .int .i64 0, .int .i64 0, .int .i64 0, .int .i64 0, .int .i64 0, .int .i64 0, .int .i64 0]) rfl (fun u => by kernel_rfl) ?_
  refine Yb 1 17 (.pointer (some ⟨q, 0, none⟩)) rfl (fun u => by kernel_rfl) ?_
  refine Yb 2 18 (.pointer (some ⟨q, 0, none⟩)) rfl (fun u => by kernel_rfl) ?_
  refine Yb 3 19 (.pointer (some ⟨q, 1, none⟩)) rfl (fun u => by kernel_rfl) ?_
  refine G.take 4 20 (.int .i64 S.got) rfl (by kernel_rfl) rfl (fun _ _ _ h => h) ((Mv.refl _ _ _).trans (M3.mono nt_le)).self (by kernel_rfl) (fun u hm => exec_load rfl rfl Ty3 (((hq_2.mv hm (neq (by omega))).1).cell 1)) ?_
  refine G.op 5 (by kernel_rfl) rfl (O.sta 0 [.bool false, .int .i64 0, .slice none 0 0, .int .i64 0, .int .i64 0, .int .i64 0, .int .i64 0, .int .i64 0, .int .i64 0, .int .i64 0, .int .i64 0, .int .i64 0, .int .i64 0, .int .i64 0, .int .i64 0, .int .i64 0, .int .i64 0, .int .i64 0, .int .i64 0, .int .i64 0, .int .i64 0, .int .i64 0, .int .i64 0, .int .i64 0, .int .i64 0, .int .i64 0, .int .i64 0, .int .i64 0, .int .i64 0, .int .i64 0, .int .i64 0, .int .i64 0, .int .i64 0, .int .i64 0, .int .i64 0] rfl rfl rfl rfl rfl Ty66 rfl rfl rfl rfl K3 fun w3 K4 M4 => ⟨(kp_keep (((Mv.refl _ _ _).trans (M3.mono nt_le)).trans (M4.mono (fun _ h => h))) kp_nil), ?_⟩)
  refine Yb 6 7 (.int .i64 S.got) rfl (fun u => by kernel_rfl) ?_
  refine Yb 7 8 (.int .i64 130) rfl (fun u => by kernel_rfl) ?_
  refine G.fin (by kernel_rfl) ?_
  refine hk4 _ _ (wp_ret (then_ret (W.rets (vs := [.agg #[.bool false, .int .i64 0, .slice none 0 0, .int .i64 0, .int .i64 0, .int .i64 0, .int .i64 0, .int .i64 0, .int .i64 0, .int .i64 0, .int .i64 0, .int .i64 0, .int .i64 0, .int .i64 0, .int .i64 0, .int .i64 0, .int .i64 0, .int .i64 0, .int .i64 0, .int .i64 0, .int .i64 0, .int .i64 0, .int .i64 0, .int .i64 0, .int .i64 0, .int .i64 0, .int .i64 0, .int .i64 0, .int .i64 0, .int .i64 0, .int .i64 0, .int .i64 0, .int .i64 0, .int .i64 0, .int .i64 0], .int .i64 S.got, .int .i64 130]) rfl (.agg (cs := [.bool false, .int .i64 0, .slice none 0 0, .int .i64 0, .int .i64 0, .int .i64 0, .int .i64 0, .int .i64 0, .int .i64 0, .int .i64 0, .int .i64 0, .int .i64 0, .int .i64 0, .int .i64 0, .int .i64 0, .int .i64 0, .int .i64 0, .int .i64 0, .int .i64 0, .int .i64 0, .int .i64 0, .int .i64 0, .int .i64 0, .int .i64 0, .int .i64 0, .int .i64 0, .int .i64 0, .int .i64 0, .int .i64 0, .int .i64 0, .int .i64 0, .int .i64 0, .int .i64 0, .int .i64 0, .int .i64 0]) rfl Ty66 rfl ((K4.nth 0 rfl).all 35) (.tmp rfl (.tmp rfl .nil))) (by simp) ?_)))
  have e : S.node r l = none := if_pos (by omega)
  have e2 : S.seen r = S := if_pos (by omega)
  rewrite [e, e2]
  have hT_1 := hT.mv M1 quiet quiet quiet quiet
  have hT_2 := hT_1.mv M2 quiet quiet quiet quiet
  have hT_3 := hT_2.mv M3 quiet quiet quiet quiet
  have hT_4 := hT_3.mv M4 (neq (by omega)) (neq (by omega)) (neq (by omega)) (neq (by omega))
  have hq_3 := hq_2.mv M3 quiet
  have hq_4 := hq_3.mv M4 (neq (by omega))
  have hrs_1 := hr.mv M1 quiet
  have hrs_2 := hrs_1.mv M2 quiet
  have hrs_3 := hrs_2.mv M3 quiet
  have hrs_4 := hrs_3.mv M4 (neq (by omega))
  exact ⟨_, ⟨none, 0, 0⟩, rfl, K4.mv, ⟨hT_4, ⟨sr, hq_4, hrs_4⟩⟩, Ls.void _ _ Item.size, Nat.zero_le _⟩
 ·refine Zc 15 (.bool false) (okv (by kernel_rfl) (congrArg Value.bool (decide_eq_false t1))) ?_
  refine wpList_nil (hk3 _ _ (W.cond false rfl (wp_skip (hk2 _ _ (wp_seq_k fun k5 hk5 => (wp_region_lit ?_))))))
  refine Zb 21 (.pointer (some ⟨q, 0, none⟩)) ?_
  refine Zb 22 (.pointer (some ⟨q, 0, none⟩)) ?_
  refine Zb 23 (.pointer (some ⟨q, 1, none⟩)) ?_
  refine Zc 24 (.int .i64 S.got) (exec_load rfl rfl Ty3 ((hq_2.1).cell 1)) ?_
  refine Zc 25 (.int .i64 (S.got + 1)) (okv (v := .int .i64 (IntKind.i64.wrap (S.got + 1))) (by kernel_rfl) (wrapi (by omega) (by omega))) ?_
  refine Zb 26 (.pointer (some ⟨q, 0, none⟩)) ?_
  refine Zb 27 (.pointer (some ⟨q, 1, none⟩)) ?_
  refine W.op (O.bst (.int .i64 (S.got + 1)) (by kernel_rfl) rfl rfl rfl rfl Ty3 rfl rfl hq_2 (Nat.le_of_ble_eq_true rfl) fun w4 hb1 M5 => ?_)
  have K5 := K2.step M5 (eq_rg (by omega)) (neq (by omega))
  refine wpList_nil (hk5 _ _ (wp_seq_k fun k6 hk6 => (wp_region_G (SmL [(3, Nt), (4, Nt)] w4 g2) (by kernel_rfl) ?_)))
  have K6 := K5.drew
  have M6 : Mv Nt w4 g2 w4.drew g2 := (Mv.refl _ _ _).drew
  refine Yb 0 29 (.pointer (some ⟨q, 0, none⟩)) rfl (fun u => by kernel_rfl) ?_
  refine Yb 1 30 (.pointer (some ⟨q, 0, none⟩)) rfl (fun u => by kernel_rfl) ?_
  refine Yb 2 31 (.pointer (some ⟨q, 0, none⟩)) rfl (fun u => by kernel_rfl) ?_
  refine G.take 3 32 (.iface 29 (.pointer (some ⟨p, 0, none⟩))) rfl (by kernel_rfl) rfl (fun _ _ _ h => h) ((Mv.refl _ _ _).trans (M6.mono (fun _ h => h))).self (by kernel_rfl) (fun u hm => exec_load rfl rfl Ty88 (((hb1.mv hm quiet).1).cell 0)) ?_
  refine G.take 4 33 (.agg r.cells.toArray) rfl (by kernel_rfl) rfl (fun _ _ _ h => h) ((Mv.refl _ _ _).trans (M6.mono (fun _ h => h))).self (by kernel_rfl) (fun u hm => exec_loads (cs := r.cells) rfl rfl Ty31 rfl ((K5.later 1 rfl hm quiet).all 2)) ?_
  refine G.op2 5 9 (by kernel_rfl) rfl rfl ?_ ?_
  ·have hT_5 := hT.mv M1 quiet quiet quiet quiet
   have hT_6 := hT_5.mv M2 quiet quiet quiet quiet
   have hT_7 := hT_6.mv M5 (neq (by omega)) (neq (by omega)) (neq (by omega)) (neq (by omega))
   have hT_8 := hT_7.mv M6 quiet quiet quiet quiet
   rcases hlk : S.σ.look r with _ | n
   ·refine O.call 34 39 #[.pointer (some ⟨p, 0, none⟩), .agg r.cells.toArray] (by kernel_rfl) rfl (by kernel_rfl) ((tapeGetNone_c τ p S.σ r w4.drew g2 hT_8 hτ h1 h2 hlk).mono ?_)
    rintro e1 w5 ⟨g3, s1, rfl, M7, hT1, hs1, hl1⟩
    have K7 := K6.step M7 (rg_rg (by omega) (by omega)) (nrg (by omega))
    refine ⟨_, rfl, ⟨(kp_skip (by kernel_rfl) (kp_skip (by kernel_rfl) kp_nil)), ?_⟩⟩
    refine Yb 6 28 (.tuple #[.agg ((Nd.zero.at s1).cells).toArray, .bool false]) rfl (fun u => by kernel_rfl) ?_
    refine Yb 7 35 (.agg ((Nd.zero.at s1).cells).toArray) rfl (fun u => by kernel_rfl) ?_
    refine Yb 8 36 (.bool false) rfl (fun u => by kernel_rfl) ?_
    refine G.op 9 (by kernel_rfl) rfl (O.new 9 66 Z66 rfl rfl (by kernel_rfl) K7 fun b3 w6 g5 K8 M9 => ⟨kp_nt ((Mv.refl _ _ _).trans M9) _, ?_⟩)
    refine G.op 10 (by kernel_rfl) rfl (O.sta 0 (Nd.zero.at s1).cells rfl rfl rfl rfl rfl Ty66 rfl rfl rfl rfl K8 fun w7 K9 M10 => ⟨(kp_skip (by kernel_rfl) (kp_skip (by kernel_rfl) kp_nil)), ?_⟩)
    refine Yb 11 10 (.bool false) rfl (fun u => by kernel_rfl) ?_
    refine G.fin (by kernel_rfl) ?_
    refine hk6 _ _ (wp_seq_k fun k7 hk7 => (wp_seq_k fun k8 hk8 => (wp_region_lit ?_)))
    refine Zb 37 (.bool false) ?_
    refine Zb 38 (.bool true) ?_
    refine Zb 39 (.bool true) ?_
    refine Za 40 ?_
    refine Za 41 ?_
    refine Za 42 ?_
    refine Za 43 ?_
    refine Za 44 ?_
    refine Za 45 ?_
    refine Za 46 ?_
    refine Zb 47 (.bool true) ?_
    refine wpList_nil (hk8 _ _ (W.cond true rfl (wp_seq_k fun k9 hk9 => (wp_region_G (SmL [(4, (fun ξ => ξ = 1))] w7 g5) (by kernel_rfl) ?_))))
    have K10 := K9.drew
    have M11 : Mv Nt w7 g5 w7.drew g5 := (Mv.refl _ _ _).drew
    refine Yb 0 48 (.agg #[.bool false, .int .i64 0, .slice none 0 0, .int .i64 0, .int .i64 0, .int .i64 0, .int .i64 0, .int .i64 0, .int .i64 0, .int .i64 0, .int .i64 0, .int .i64 0, .int .i64 0, .int .i64 0, .int .i64 0, .int .i64 0, .int .i64 0, .int .i64 0, .int .i64 0, .int .i64 0, .int .i64 0, .int .i64 0, .int .i64 0, .int .i64 0, .int .i64 0, .int .i64 0, .int .i64 0, .int .i64 0, .int .i64 0, .int .i64 0, .int .i64 0, .int .i64 0, .int .i64 0, .int .i64 0, .int .i64 0]) rfl (fun u => by kernel_rfl) ?_
    refine Yb 1 49 (.pointer (some ⟨q, 0, none⟩)) rfl (fun u => by kernel_rfl) ?_
    refine Yb 2 50 (.pointer (some ⟨q, 0, none⟩)) rfl (fun u => by kernel_rfl) ?_
    refine Yb 3 51 (.pointer (some ⟨q, 1, none⟩)) rfl (fun u => by kernel_rfl) ?_
    have hq_5 := hb1.mv M6 quiet
    have hq_6 := hq_5.mv M7 (nrg (by omega))
    have hq_7 := hq_6.mv M9 quiet
    have hq_8 := hq_7.mv M10 (neq (by omega))
    refine G.take 4 52 (.int .i64 (S.got + 1)) rfl (by kernel_rfl) rfl (fun _ _ _ h => h) ((Mv.refl _ _ _).trans (M11.mono nt_le)).self (by kernel_rfl) (fun u hm => exec_load rfl rfl Ty3 (((hq_8.mv hm (neq (by omega))).1).cell 1)) ?_
    refine G.op 5 (by kernel_rfl) rfl (O.sta 1 [.bool false, .int .i64 0, .slice none 0 0, .int .i64 0, .int .i64 0, .int .i64 0, .int .i64 0, .int .i64 0, .int .i64 0, .int .i64 0, .int .i64 0, .int .i64 0, .int .i64 0, .int .i64 0, .int .i64 0, .int .i64 0, .int .i64 0, .int .i64 0, .int .i64 0, .int .i64 0, .int .i64 0, .int .i64 0, .int .i64 0, .int .i64 0, .int .i64 0, .int .i64 0, .int .i64 0, .int .i64 0, .int .i64 0, .int .i64 0, .int .i64 0, .int .i64 0, .int .i64 0, .int .i64 0, .int .i64 0] rfl rfl rfl rfl rfl Ty66 rfl rfl rfl rfl K10 fun w8 K11 M12 => ⟨(kp_keep (((Mv.refl _ _ _).trans (M11.mono nt_le)).trans (M12.mono (fun _ h => h))) kp_nil), ?_⟩)
    refine Yb 6 7 (.int .i64 (S.got + 1)) rfl (fun u => by kernel_rfl) ?_
    refine Yb 7 8 (.int .i64 130) rfl (fun u => by kernel_rfl) ?_
    refine G.fin (by kernel_rfl) ?_
    refine hk9 _ _ (wp_ret (then_ret (W.rets (vs := [.agg #[.bool false, .int .i64 0, .slice none 0 0, .int .i64 0, .int .i64 0, .int .i64 0, .int .i64 0, .int .i64 0, .int .i64 0, .int .i64 0, .int .i64 0, .int .i64 0, .int .i64 0, .int .i64 0, .int .i64 0, .int .i64 0, .int .i64 0, .int .i64 0, .int .i64 0, .int .i64 0, .int .i64 0, .int .i64 0, .int .i64 0, .int .i64 0, .int .i64 0, .int .i64 0, .int .i64 0, .int .i64 0, .int .i64 0, .int .i64 0, .int .i64 0, .int .i64 0, .int .i64 0, .int .i64 0, .int .i64 0], .int .i64 (S.got + 1), .int .i64 130]) rfl (.agg (cs := [.bool false, .int .i64 0, .slice none 0 0, .int .i64 0, .int .i64 0, .int .i64 0, .int .i64 0, .int .i64 0, .int .i64 0, .int .i64 0, .int .i64 0, .int .i64 0, .int .i64 0, .int .i64 0, .int .i64 0, .int .i64 0, .int .i64 0, .int .i64 0, .int .i64 0, .int .i64 0, .int .i64 0, .int .i64 0, .int .i64 0, .int .i64 0, .int .i64 0, .int .i64 0, .int .i64 0, .int .i64 0, .int .i64 0, .int .i64 0, .int .i64 0, .int .i64 0, .int .i64 0, .int .i64 0, .int .i64 0]) rfl Ty66 rfl ((K11.nth 1 rfl).all 35) (.tmp rfl (.tmp rfl .nil))) (by simp) ?_)))
    have e : S.node r l = none := by unfold St.node; rw [if_neg (by omega), hlk]
    have e2 : S.seen r = { S with σ := S.σ.saw r, got := S.got + 1 } := if_neg (by omega)
    rewrite [e, e2]
    have hT_9 := hT1.mv M9 quiet quiet quiet quiet
    have hT_10 := hT_9.mv M10 (neq (by omega)) (neq (by omega)) (neq (by omega)) (neq (by omega))
    have hT_11 := hT_10.mv M11 quiet quiet quiet quiet
    have hT_12 := hT_11.mv M12 (neq (by omega)) (neq (by omega)) (neq (by omega)) (neq (by omega))
    have hq_9 := hb1.mv M6 quiet
    have hq_10 := hq_9.mv M7 (nrg (by omega))
    have hq_11 := hq_10.mv M9 quiet
    have hq_12 := hq_11.mv M10 (neq (by omega))
    have hq_13 := hq_12.mv M11 quiet
    have hq_14 := hq_13.mv M12 (neq (by omega))
    have hrs_5 := hr.mv M1 quiet
    have hrs_6 := hrs_5.mv M2 quiet
    have hrs_7 := hrs_6.mv M5 (neq (by omega))
    have hrs_8 := hrs_7.mv M6 quiet
    have hrs_9 := hrs_8.mv M7 (nrg (by omega))
    have hrs_10 := hrs_9.mv M9 quiet
    have hrs_11 := hrs_10.mv M10 (neq (by omega))
    have hrs_12 := hrs_11.mv M11 quiet
    have hrs_13 := hrs_12.mv M12 (neq (by omega))
    exact ⟨_, ⟨none, 0, 0⟩, rfl, K11.mv, ⟨hT_12, ⟨sr, hq_14, hrs_13⟩⟩, Ls.void _ _ Item.size, Nat.zero_le _⟩
   ·refine O.call 34 39 #[.pointer (some ⟨p, 0, none⟩), .agg r.cells.toArray] (by kernel_rfl) rfl (by kernel_rfl) ((tapeGetSome_c τ p S.σ r n w4.drew g2 hT_8 hτ h1 h2 hlk).mono ?_)
    rintro e2 w9 ⟨g4, s2, rfl, M8, hT2, hs2, hl2⟩
    have K12 := K6.step M8 (rg_rg (by omega) (by omega)) (nrg (by omega))
    refine ⟨_, rfl, ⟨(kp_skip (by kernel_rfl) (kp_skip (by kernel_rfl) kp_nil)), ?_⟩⟩
    refine Yb 6 28 (.tuple #[.agg ((n.at s2).cells).toArray, .bool true]) rfl (fun u => by kernel_rfl) ?_
    refine Yb 7 35 (.agg ((n.at s2).cells).toArray) rfl (fun u => by kernel_rfl) ?_
    refine Yb 8 36 (.bool true) rfl (fun u => by kernel_rfl) ?_
    refine G.op 9 (by kernel_rfl) rfl (O.new 9 66 Z66 rfl rfl (by kernel_rfl) K12 fun b4 w10 g6 K13 M13 => ⟨kp_nt ((Mv.refl _ _ _).trans M13) _, ?_⟩)
    refine G.op 10 (by kernel_rfl) rfl (O.sta 0 (n.at s2).cells rfl rfl rfl rfl rfl Ty66 rfl rfl rfl rfl K13 fun w11 K14 M14 => ⟨(kp_skip (by kernel_rfl) (kp_skip (by kernel_rfl) kp_nil)), ?_⟩)
    refine Yb 11 10 (.bool true) rfl (fun u => by kernel_rfl) ?_
    refine G.fin (by kernel_rfl) ?_
    refine hk6 _ _ (wp_seq_k fun k10 hk10 => (wp_seq_k fun k11 hk11 => (wp_region_lit ?_)))
    refine Zb 37 (.bool true) ?_
    refine Zb 38 (.bool false) ?_
    refine Zb 39 (.bool false) ?_
    refine Zd 40 (.pointer (some ⟨b4, 0, none⟩)) ?_
    rcases bsplit ((n.at s2).leaf) with t2 | t2
    ·refine W.op (O.gv 41 (.bool true) (by kernel_rfl) rfl (okv (exec_load rfl rfl Ty4 ((K14.nth 0 rfl).cell 0)) (congrArg Value.bool t2)) ?_)
     refine Zd 42 (.bool false) ?_
     refine Zd 43 (.bool false) ?_
     refine Za 44 ?_
     refine Za 45 ?_
     refine Zd 46 (.bool false) ?_
     refine Zb 47 (.bool false) ?_
     refine wpList_nil (hk11 _ _ (W.cond false rfl (wp_skip (hk10 _ _ (wp_seq_k fun k12 hk12 => (wp_region_G (SmL [(0, Nt), (4, (fun ξ => ξ = 1))] w11 g6) (by kernel_rfl) ?_))))))
     have K15 := K14.drew
     have M15 : Mv Nt w11 g6 w11.drew g6 := (Mv.refl _ _ _).drew
     refine G.take 0 53 (.agg ((n.at s2).cells).toArray) rfl (by kernel_rfl) rfl (fun _ _ _ h => h) ((Mv.refl _ _ _).trans (M15.mono (fun _ h => h))).self (by kernel_rfl) (fun u hm => exec_loads (cs := (n.at s2).cells) rfl rfl Ty66 rfl ((K14.later 0 rfl hm quiet).all 35)) ?_
     refine Yb 1 54 (.pointer (some ⟨q, 0, none⟩)) rfl (fun u => by kernel_rfl) ?_
     refine Yb 2 55 (.pointer (some ⟨q, 0, none⟩)) rfl (fun u => by kernel_rfl) ?_
     refine Yb 3 56 (.pointer (some ⟨q, 1, none⟩)) rfl (fun u => by kernel_rfl) ?_
     have hq_15 := hb1.mv M6 quiet
     have hq_16 := hq_15.mv M8 (nrg (by omega))
     have hq_17 := hq_16.mv M13 quiet
     have hq_18 := hq_17.mv M14 (neq (by omega))
     refine G.take 4 57 (.int .i64 (S.got + 1)) rfl (by kernel_rfl) rfl (fun _ _ _ h => h) ((Mv.refl _ _ _).trans (M15.mono nt_le)).self (by kernel_rfl) (fun u hm => exec_load rfl rfl Ty3 (((hq_18.mv hm (neq (by omega))).1).cell 1)) ?_
     refine G.op 5 (by kernel_rfl) rfl (O.sta 1 (n.at s2).cells rfl rfl rfl rfl rfl Ty66 rfl rfl rfl rfl K15 fun w12 K16 M16 => ⟨(kp_skip (by kernel_rfl) (kp_keep (((Mv.refl _ _ _).trans (M15.mono nt_le)).trans (M16.mono (fun _ h => h))) kp_nil)), ?_⟩)
     refine Yb 6 7 (.int .i64 (S.got + 1)) rfl (fun u => by kernel_rfl) ?_
     refine Yb 7 8 (.int .i64 0) rfl (fun u => by kernel_rfl) ?_
     refine G.fin (by kernel_rfl) ?_
     refine hk12 _ _ (wp_ret (W.rets (vs := [.agg ((n.at s2).cells).toArray, .int .i64 (S.got + 1), .int .i64 0]) rfl (.agg (cs := (n.at s2).cells) rfl Ty66 rfl ((K16.nth 1 rfl).all 35) (.tmp rfl (.tmp rfl .nil))) (by simp) ?_))
     have e : S.node r l = some n := by unfold St.node; rw [if_neg (by omega), hlk]; exact if_pos (by first | (left; assumption) | (right; omega))
     have e2 : S.seen r = { S with σ := S.σ.saw r, got := S.got + 1 } := if_neg (by omega)
     rewrite [e, e2]
     have hits_1 := hs2.mv M13 quiet
     have hits_2 := hits_1.mv M14 (neq (by omega))
     have hits_3 := hits_2.mv M15 quiet
     have hits_4 := hits_3.mv M16 (neq (by omega))
     have hT_13 := hT2.mv M13 quiet quiet quiet quiet
     have hT_14 := hT_13.mv M14 (neq (by omega)) (neq (by omega)) (neq (by omega)) (neq (by omega))
     have hT_15 := hT_14.mv M15 quiet quiet quiet quiet
     have hT_16 := hT_15.mv M16 (neq (by omega)) (neq (by omega)) (neq (by omega)) (neq (by omega))
     have hq_19 := hb1.mv M6 quiet
     have hq_20 := hq_19.mv M8 (nrg (by omega))
     have hq_21 := hq_20.mv M13 quiet
     have hq_22 := hq_21.mv M14 (neq (by omega))
     have hq_23 := hq_22.mv M15 quiet
     have hq_24 := hq_23.mv M16 (neq (by omega))
     have hrs_14 := hr.mv M1 quiet
     have hrs_15 := hrs_14.mv M2 quiet
     have hrs_16 := hrs_15.mv M5 (neq (by omega))
     have hrs_17 := hrs_16.mv M6 quiet
     have hrs_18 := hrs_17.mv M8 (nrg (by omega))
     have hrs_19 := hrs_18.mv M13 quiet
     have hrs_20 := hrs_19.mv M14 (neq (by omega))
     have hrs_21 := hrs_20.mv M15 quiet
     have hrs_22 := hrs_21.mv M16 (neq (by omega))
     exact ⟨_, s2, rfl, K16.mv, ⟨hT_16, ⟨sr, hq_24, hrs_22⟩⟩, hits_4, hl2⟩
    ·refine W.op (O.gv 41 (.bool false) (by kernel_rfl) rfl (okv (exec_load rfl rfl Ty4 ((K14.nth 0 rfl).cell 0)) (congrArg Value.bool t2)) ?_)
     refine Zd 42 (.bool true) ?_
     refine Zd 43 (.bool true) ?_
     refine Zd 44 (.int .i64 ↑l) ?_
     by_cases t3 : ((l : Nat) : Int) ≥ 16
     ·refine W.op (O.gv 45 (.bool true) (by kernel_rfl) rfl (okv (by kernel_rfl) (congrArg Value.bool (decide_eq_true t3))) ?_)
      refine Zd 46 (.bool true) ?_
      refine Zb 47 (.bool true) ?_
      refine wpList_nil (hk11 _ _ (W.cond true rfl (wp_seq_k fun k13 hk13 => (wp_region_G (SmL [(4, (fun ξ => ξ = 1))] w11 g6) (by kernel_rfl) ?_))))
      have K17 := K14.drew
      have M17 : Mv Nt w11 g6 w11.drew g6 := (Mv.refl _ _ _).drew
      refine Yb 0 48 (.agg #[.bool false, .int .i64 0, .slice none 0 0, .int .i64 0, .int .i64 0, .int .i64 0, .int .i64 0, .int .i64 0, .int .i64 0, .int .i64 0, .int .i64 0, .int .i64 0, .int .i64 0, .int .i64 0, .int .i64 0, .int .i64 0, .int .i64 0, .int .i64 0, .int .i64 0, .int .i64 0, .int .i64 0, .int .i64 0, .int .i64 0, .int .i64 0, .int .i64 0, .int .i64 0, .int .i64 0, .int .i64 0, .int .i64 0, .int .i64 0, .int .i64 0, .int .i64 0, .int .i64 0, .int .i64 0, .int .i64 0]) rfl (fun u => by kernel_rfl) ?_
      refine Yb 1 49 (.pointer (some ⟨q, 0, none⟩)) rfl (fun u => by kernel_rfl) ?_
      refine Yb 2 50 (.pointer (some ⟨q, 0, none⟩)) rfl (fun u => by kernel_rfl) ?_
      refine Yb 3 51 (.pointer (some ⟨q, 1, none⟩)) rfl (fun u => by kernel_rfl) ?_
      have hq_25 := hb1.mv M6 quiet
      have hq_26 := hq_25.mv M8 (nrg (by omega))
      have hq_27 := hq_26.mv M13 quiet
      have hq_28 := hq_27.mv M14 (neq (by omega))
      refine G.take 4 52 (.int .i64 (S.got + 1)) rfl (by kernel_rfl) rfl (fun _ _ _ h => h) ((Mv.refl _ _ _).trans (M17.mono nt_le)).self (by kernel_rfl) (fun u hm => exec_load rfl rfl Ty3 (((hq_28.mv hm (neq (by omega))).1).cell 1)) ?_
      refine G.op 5 (by kernel_rfl) rfl (O.sta 1 [.bool false, .int .i64 0, .slice none 0 0, .int .i64 0, .int .i64 0, .int .i64 0, .int .i64 0, .int .i64 0, .int .i64 0, .int .i64 0, .int .i64 0, .int .i64 0, .int .i64 0, .int .i64 0, .int .i64 0, .int .i64 0, .int .i64 0, .int .i64 0, .int .i64 0, .int .i64 0, .int .i64 0, .int .i64 0, .int .i64 0, .int .i64 0, .int .i64 0, .int .i64 0, .int .i64 0, .int .i64 0, .int .i64 0, .int .i64 0, .int .i64 0, .int .i64 0, .int .i64 0, .int .i64 0, .int .i64 0] rfl rfl rfl rfl rfl Ty66 rfl rfl rfl rfl K17 fun w13 K18 M18 => ⟨(kp_keep (((Mv.refl _ _ _).trans (M17.mono nt_le)).trans (M18.mono (fun _ h => h))) kp_nil), ?_⟩)
      refine Yb 6 7 (.int .i64 (S.got + 1)) rfl (fun u => by kernel_rfl) ?_
      refine Yb 7 8 (.int .i64 130) rfl (fun u => by kernel_rfl) ?_
      refine G.fin (by kernel_rfl) ?_
      refine hk13 _ _ (wp_ret (then_ret (W.rets (vs := [.agg #[.bool false, .int .i64 0, .slice none 0 0, .int .i64 0, .int .i64 0, .int .i64 0, .int .i64 0, .int .i64 0, .int .i64 0, .int .i64 0, .int .i64 0, .int .i64 0, .int .i64 0, .int .i64 0, .int .i64 0, .int .i64 0, .int .i64 0, .int .i64 0, .int .i64 0, .int .i64 0, .int .i64 0, .int .i64 0, .int .i64 0, .int .i64 0, .int .i64 0, .int .i64 0, .int .i64 0, .int .i64 0, .int .i64 0, .int .i64 0, .int .i64 0, .int .i64 0, .int .i64 0, .int .i64 0, .int .i64 0], .int .i64 (S.got + 1), .int .i64 130]) rfl (.agg (cs := [.bool false, .int .i64 0, .slice none 0 0, .int .i64 0, .int .i64 0, .int .i64 0, .int .i64 0, .int .i64 0, .int .i64 0, .int .i64 0, .int .i64 0, .int .i64 0, .int .i64 0, .int .i64 0, .int .i64 0, .int .i64 0, .int .i64 0, .int .i64 0, .int .i64 0, .int .i64 0, .int .i64 0, .int .i64 0, .int .i64 0, .int .i64 0, .int .i64 0, .int .i64 0, .int .i64 0, .int .i64 0, .int .i64 0, .int .i64 0, .int .i64 0, .int .i64 0, .int .i64 0, .int .i64 0, .int .i64 0]) rfl Ty66 rfl ((K18.nth 1 rfl).all 35) (.tmp rfl (.tmp rfl .nil))) (by simp) ?_)))
      have e : S.node r l = none := by unfold St.node; rw [if_neg (by omega), hlk]; exact if_neg (by rintro (h | h) <;> first | omega | simp_all)
      have e2 : S.seen r = { S with σ := S.σ.saw r, got := S.got + 1 } := if_neg (by omega)
      rewrite [e, e2]
      have hT_17 := hT2.mv M13 quiet quiet quiet quiet
      have hT_18 := hT_17.mv M14 (neq (by omega)) (neq (by omega)) (neq (by omega)) (neq (by omega))
      have hT_19 := hT_18.mv M17 quiet quiet quiet quiet
      have hT_20 := hT_19.mv M18 (neq (by omega)) (neq (by omega)) (neq (by omega)) (neq (by omega))
      have hq_29 := hb1.mv M6 quiet
      have hq_30 := hq_29.mv M8 (nrg (by omega))
      have hq_31 := hq_30.mv M13 quiet
      have hq_32 := hq_31.mv M14 (neq (by omega))
      have hq_33 := hq_32.mv M17 quiet
      have hq_34 := hq_33.mv M18 (neq (by omega))
      have hrs_23 := hr.mv M1 quiet
      have hrs_24 := hrs_23.mv M2 quiet
      have hrs_25 := hrs_24.mv M5 (neq (by omega))
      have hrs_26 := hrs_25.mv M6 quiet
      have hrs_27 := hrs_26.mv M8 (nrg (by omega))
      have hrs_28 := hrs_27.mv M13 quiet
      have hrs_29 := hrs_28.mv M14 (neq (by omega))
      have hrs_30 := hrs_29.mv M17 quiet
      have hrs_31 := hrs_30.mv M18 (neq (by omega))
      exact ⟨_, ⟨none, 0, 0⟩, rfl, K18.mv, ⟨hT_20, ⟨sr, hq_34, hrs_31⟩⟩, Ls.void _ _ Item.size, Nat.zero_le _⟩
     ·refine W.op (O.gv 45 (.bool false) (by kernel_rfl) rfl (okv (by kernel_rfl) (congrArg Value.bool (decide_eq_false t3))) ?_)
      refine Zd 46 (.bool false) ?_
      refine Zb 47 (.bool false) ?_
      refine wpList_nil (hk11 _ _ (W.cond false rfl (wp_skip (hk10 _ _ (wp_seq_k fun k14 hk14 => (wp_region_G (SmL [(0, Nt), (4, (fun ξ => ξ = 1))] w11 g6) (by kernel_rfl) ?_))))))
      have K19 := K14.drew
      have M19 : Mv Nt w11 g6 w11.drew g6 := (Mv.refl _ _ _).drew
      refine G.take 0 53 (.agg ((n.at s2).cells).toArray) rfl (by kernel_rfl) rfl (fun _ _ _ h => h) ((Mv.refl _ _ _).trans (M19.mono (fun _ h => h))).self (by kernel_rfl) (fun u hm => exec_loads (cs := (n.at s2).cells) rfl rfl Ty66 rfl ((K14.later 0 rfl hm quiet).all 35)) ?_
      refine Yb 1 54 (.pointer (some ⟨q, 0, none⟩)) rfl (fun u => by kernel_rfl) ?_
      refine Yb 2 55 (.pointer (some ⟨q, 0, none⟩)) rfl (fun u => by kernel_rfl) ?_
      refine Yb 3 56 (.pointer (some ⟨q, 1, none⟩)) rfl (fun u => by kernel_rfl) ?_
      have hq_35 := hb1.mv M6 quiet
      have hq_36 := hq_35.mv M8 (nrg (by omega))
      have hq_37 := hq_36.mv M13 quiet
      have hq_38 := hq_37.mv M14 (neq (by omega))
      refine G.take 4 57 (.int .i64 (S.got + 1)) rfl (by kernel_rfl) rfl (fun _ _ _ h => h) ((Mv.refl _ _ _).trans (M19.mono nt_le)).self (by kernel_rfl) (fun u hm => exec_load rfl rfl Ty3 (((hq_38.mv hm (neq (by omega))).1).cell 1)) ?_
      refine G.op 5 (by kernel_rfl) rfl (O.sta 1 (n.at s2).cells rfl rfl rfl rfl rfl Ty66 rfl rfl rfl rfl K19 fun w14 K20 M20 => ⟨(kp_skip (by kernel_rfl) (kp_keep (((Mv.refl _ _ _).trans (M19.mono nt_le)).trans (M20.mono (fun _ h => h))) kp_nil)), ?_⟩)
      refine Yb 6 7 (.int .i64 (S.got + 1)) rfl (fun u => by kernel_rfl) ?_
      refine Yb 7 8 (.int .i64 0) rfl (fun u => by kernel_rfl) ?_
      refine G.fin (by kernel_rfl) ?_
      refine hk14 _ _ (wp_ret (W.rets (vs := [.agg ((n.at s2).cells).toArray, .int .i64 (S.got + 1), .int .i64 0]) rfl (.agg (cs := (n.at s2).cells) rfl Ty66 rfl ((K20.nth 1 rfl).all 35) (.tmp rfl (.tmp rfl .nil))) (by simp) ?_))
      have e : S.node r l = some n := by unfold St.node; rw [if_neg (by omega), hlk]; exact if_pos (by first | (left; assumption) | (right; omega))
      have e2 : S.seen r = { S with σ := S.σ.saw r, got := S.got + 1 } := if_neg (by omega)
      rewrite [e, e2]
      have hits_5 := hs2.mv M13 quiet
      have hits_6 := hits_5.mv M14 (neq (by omega))
      have hits_7 := hits_6.mv M19 quiet
      have hits_8 := hits_7.mv M20 (neq (by omega))
      have hT_21 := hT2.mv M13 quiet quiet quiet quiet
      have hT_22 := hT_21.mv M14 (neq (by omega)) (neq (by omega)) (neq (by omega)) (neq (by omega))
      have hT_23 := hT_22.mv M19 quiet quiet quiet quiet
      have hT_24 := hT_23.mv M20 (neq (by omega)) (neq (by omega)) (neq (by omega)) (neq (by omega))
      have hq_39 := hb1.mv M6 quiet
      have hq_40 := hq_39.mv M8 (nrg (by omega))
      have hq_41 := hq_40.mv M13 quiet
      have hq_42 := hq_41.mv M14 (neq (by omega))
      have hq_43 := hq_42.mv M19 quiet
      have hq_44 := hq_43.mv M20 (neq (by omega))
      have hrs_32 := hr.mv M1 quiet
      have hrs_33 := hrs_32.mv M2 quiet
      have hrs_34 := hrs_33.mv M5 (neq (by omega))
      have hrs_35 := hrs_34.mv M6 quiet
      have hrs_36 := hrs_35.mv M8 (nrg (by omega))
      have hrs_37 := hrs_36.mv M13 quiet
      have hrs_38 := hrs_37.mv M14 (neq (by omega))
      have hrs_39 := hrs_38.mv M19 quiet
      have hrs_40 := hrs_39.mv M20 (neq (by omega))
      exact ⟨_, s2, rfl, K20.mv, ⟨hT_24, ⟨sr, hq_44, hrs_40⟩⟩, hits_8, hl2⟩
  ·refine O.new 9 66 Z66 rfl rfl (by kernel_rfl) K6 fun b5 w15 g7 K21 M21 => ⟨kp_nt ((Mv.refl _ _ _).trans M21) _, ?_⟩
   have hT_25 := hT.mv M1 quiet quiet quiet quiet
   have hT_26 := hT_25.mv M2 quiet quiet quiet quiet
   have hT_27 := hT_26.mv M5 (neq (by omega)) (neq (by omega)) (neq (by omega)) (neq (by omega))
   have hT_28 := hT_27.mv M6 quiet quiet quiet quiet
   have hT_29 := hT_28.mv M21 quiet quiet quiet quiet
   rcases hlk : S.σ.look r with _ | n
   ·refine G.op 5 (by kernel_rfl) rfl (O.call 34 39 #[.pointer (some ⟨p, 0, none⟩), .agg r.cells.toArray] (by kernel_rfl) rfl (by kernel_rfl) ((tapeGetNone_c τ p S.σ r w15 g7 hT_29 hτ h1 h2 hlk).mono ?_))
    rintro e3 w16 ⟨g8, s3, rfl, M22, hT3, hs3, hl3⟩
    have K22 := K21.step M22 (rg_rg (by omega) (by omega)) (nrg (by omega))
    refine ⟨_, rfl, ⟨(kp_skip (by kernel_rfl) (kp_skip (by kernel_rfl) kp_nil)), ?_⟩⟩
    refine Yb 6 28 (.tuple #[.agg ((Nd.zero.at s3).cells).toArray, .bool false]) rfl (fun u => by kernel_rfl) ?_
    refine Yb 7 35 (.agg ((Nd.zero.at s3).cells).toArray) rfl (fun u => by kernel_rfl) ?_
    refine Yb 8 36 (.bool false) rfl (fun u => by kernel_rfl) ?_
    refine G.op 10 (by kernel_rfl) rfl (O.sta 0 (Nd.zero.at s3).cells rfl rfl rfl rfl rfl Ty66 rfl rfl rfl rfl K22 fun w17 K23 M24 => ⟨(kp_skip (by kernel_rfl) (kp_skip (by kernel_rfl) kp_nil)), ?_⟩)
    refine Yb 11 10 (.bool false) rfl (fun u => by kernel_rfl) ?_
    refine G.fin (by kernel_rfl) ?_
    refine hk6 _ _ (wp_seq_k fun k15 hk15 => (wp_seq_k fun k16 hk16 => (wp_region_lit ?_)))
    refine Zb 37 (.bool false) ?_
    refine Zb 38 (.bool true) ?_
    refine Zb 39 (.bool true) ?_
    refine Za 40 ?_
    refine Za 41 ?_
    refine Za 42 ?_
    refine Za 43 ?_
    refine Za 44 ?_
    refine Za 45 ?_
    refine Za 46 ?_
    refine Zb 47 (.bool true) ?_
    refine wpList_nil (hk16 _ _ (W.cond true rfl (wp_seq_k fun k17 hk17 => (wp_region_G (SmL [(4, (fun ξ => ξ = 1))] w17 g8) (by kernel_rfl) ?_))))
    have K24 := K23.drew
    have M25 : Mv Nt w17 g8 w17.drew g8 := (Mv.refl _ _ _).drew
    refine Yb 0 48 (.agg #[.bool false, .int .i64 0, .slice none 0 0, .int .i64 0, .int .i64 0, .int .i64 0, .int .i64 0, .int .i64 0, .int .i64 0, .int .i64 0, .int .i64 0, .int .i64 0, .int .i64 0, .int .i64 0, .int .i64 0, .int .i64 0, .int .i64 0, .int .i64 0, .int .i64 0, .int .i64 0, .int .i64 0, .int .i64 0, .int .i64 0, .int .i64 0, .int .i64 0, .int .i64 0, .int .i64 0, .int .i64 0, .int .i64 0, .int .i64 0, .int .i64 0, .int .i64 0, .int .i64 0, .int .i64 0, .int .i64 0]) rfl (fun u => by kernel_rfl) ?_
    refine Yb 1 49 (.pointer (some ⟨q, 0, none⟩)) rfl (fun u => by kernel_rfl) ?_
    refine Yb 2 50 (.pointer (some ⟨q, 0, none⟩)) rfl (fun u => by kernel_rfl) ?_
    refine Yb 3 51 (.pointer (some ⟨q, 1, none⟩)) rfl (fun u => by kernel_rfl) ?_
    have hq_45 := hb1.mv M6 quiet
    have hq_46 := hq_45.mv M21 quiet
    have hq_47 := hq_46.mv M22 (nrg (by omega))
    have hq_48 := hq_47.mv M24 (neq (by omega))
    refine G.take 4 52 (.int .i64 (S.got + 1)) rfl (by kernel_rfl) rfl (fun _ _ _ h => h) ((Mv.refl _ _ _).trans (M25.mono nt_le)).self (by kernel_rfl) (fun u hm => exec_load rfl rfl Ty3 (((hq_48.mv hm (neq (by omega))).1).cell 1)) ?_
    refine G.op 5 (by kernel_rfl) rfl (O.sta 1 [.bool false, .int .i64 0, .slice none 0 0, .int .i64 0, .int .i64 0, .int .i64 0, .int .i64 0, .int .i64 0, .int .i64 0, .int .i64 0, .int .i64 0, .int .i64 0, .int .i64 0, .int .i64 0, .int .i64 0, .int .i64 0, .int .i64 0, .int .i64 0, .int .i64 0, .int .i64 0, .int .i64 0, .int .i64 0, .int .i64 0, .int .i64 0, .int .i64 0, .int .i64 0, .int .i64 0, .int .i64 0, .int .i64 0, .int .i64 0, .int .i64 0, .int .i64 0, .int .i64 0, .int .i64 0, .int .i64 0] rfl rfl rfl rfl rfl Ty66 rfl rfl rfl rfl K24 fun w18 K25 M26 => ⟨(kp_keep (((Mv.refl _ _ _).trans (M25.mono nt_le)).trans (M26.mono (fun _ h => h))) kp_nil), ?_⟩)
    refine Yb 6 7 (.int .i64 (S.got + 1)) rfl (fun u => by kernel_rfl) ?_
    refine Yb 7 8 (.int .i64 130) rfl (fun u => by kernel_rfl) ?_
    refine G.fin (by kernel_rfl) ?_
    refine hk17 _ _ (wp_ret (then_ret (W.rets (vs := [.agg #[.bool false, .int .i64 0, .slice none 0 0, .int .i64 0, .int .i64 0, .int .i64 0, .int .i64 0, .int .i64 0, .int .i64 0, .int .i64 0, .int .i64 0, .int .i64 0, .int .i64 0, .int .i64 0, .int .i64 0, .int .i64 0, .int .i64 0, .int .i64 0, .int .i64 0, .int .i64 0, .int .i64 0, .int .i64 0, .int .i64 0, .int .i64 0, .int .i64 0, .int .i64 0, .int .i64 0, .int .i64 0, .int .i64 0, .int .i64 0, .int .i64 0, .int .i64 0, .int .i64 0, .int .i64 0, .int .i64 0], .int .i64 (S.got + 1), .int .i64 130]) rfl (.agg (cs := [.bool false, .int .i64 0, .slice none 0 0, .int .i64 0, .int .i64 0, .int .i64 0, .int .i64 0, .int .i64 0, .int .i64 0, .int .i64 0, .int .i64 0, .int .i64 0, .int .i64 0, .int .i64 0, .int .i64 0, .int .i64 0, .int .i64 0, .int .i64 0, .int .i64 0, .int .i64 0, .int .i64 0, .int .i64 0, .int .i64 0, .int .i64 0, .int .i64 0, .int .i64 0, .int .i64 0, .int .i64 0, .int .i64 0, .int .i64 0, .int .i64 0, .int .i64 0, .int .i64 0, .int .i64 0, .int .i64 0]) rfl Ty66 rfl ((K25.nth 1 rfl).all 35) (.tmp rfl (.tmp rfl .nil))) (by simp) ?_)))
    have e : S.node r l = none := by unfold St.node; rw [if_neg (by omega), hlk]
    have e2 : S.seen r = { S with σ := S.σ.saw r, got := S.got + 1 } := if_neg (by omega)
    rewrite [e, e2]
    have hT_30 := hT3.mv M24 (neq (by omega)) (neq (by omega)) (neq (by omega)) (neq (by omega))
    have hT_31 := hT_30.mv M25 quiet quiet quiet quiet
    have hT_32 := hT_31.mv M26 (neq (by omega)) (neq (by omega)) (neq (by omega)) (neq (by omega))
    have hq_49 := hb1.mv M6 quiet
    have hq_50 := hq_49.mv M21 quiet
    have hq_51 := hq_50.mv M22 (nrg (by omega))
    have hq_52 := hq_51.mv M24 (neq (by omega))
    have hq_53 := hq_52.mv M25 quiet
    have hq_54 := hq_53.mv M26 (neq (by omega))
    have hrs_41 := hr.mv M1 quiet
    have hrs_42 := hrs_41.mv M2 quiet
    have hrs_43 := hrs_42.mv M5 (neq (by omega))
    have hrs_44 := hrs_43.mv M6 quiet
    have hrs_45 := hrs_44.mv M21 quiet
    have hrs_46 := hrs_45.mv M22 (nrg (by omega))
    have hrs_47 := hrs_46.mv M24 (neq (by omega))
    have hrs_48 := hrs_47.mv M25 quiet
    have hrs_49 := hrs_48.mv M26 (neq (by omega))
    exact ⟨_, ⟨none, 0, 0⟩, rfl, K25.mv, ⟨hT_32, ⟨sr, hq_54, hrs_49⟩⟩, Ls.void _ _ Item.size, Nat.zero_le _⟩
   ·refine G.op 5 (by kernel_rfl) rfl (O.call 34 39 #[.pointer (some ⟨p, 0, none⟩), .agg r.cells.toArray] (by kernel_rfl) rfl (by kernel_rfl) ((tapeGetSome_c τ p S.σ r n w15 g7 hT_29 hτ h1 h2 hlk).mono ?_))
    rintro e4 w19 ⟨g9, s4, rfl, M23, hT4, hs4, hl4⟩
    have K26 := K21.step M23 (rg_rg (by omega) (by omega)) (nrg (by omega))
    refine ⟨_, rfl, ⟨(kp_skip (by kernel_rfl) (kp_skip (by kernel_rfl) kp_nil)), ?_⟩⟩
    refine Yb 6 28 (.tuple #[.agg ((n.at s4).cells).toArray, .bool true]) rfl (fun u => by kernel_rfl) ?_
    refine Yb 7 35 (.agg ((n.at s4).cells).toArray) rfl (fun u => by kernel_rfl) ?_
    refine Yb 8 36 (.bool true) rfl (fun u => by kernel_rfl) ?_
    refine G.op 10 (by kernel_rfl) rfl (O.sta 0 (n.at s4).cells rfl rfl rfl rfl rfl Ty66 rfl rfl rfl rfl K26 fun w20 K27 M27 => ⟨(kp_skip (by kernel_rfl) (kp_skip (by kernel_rfl) kp_nil)), ?_⟩)
    refine Yb 11 10 (.bool true) rfl (fun u => by kernel_rfl) ?_
    refine G.fin (by kernel_rfl) ?_
    refine hk6 _ _ (wp_seq_k fun k18 hk18 => (wp_seq_k fun k19 hk19 => (wp_region_lit ?_)))
    refine Zb 37 (.bool true) ?_
    refine Zb 38 (.bool false) ?_
    refine Zb 39 (.bool false) ?_
    refine Zd 40 (.pointer (some ⟨b5, 0, none⟩)) ?_
    rcases bsplit ((n.at s4).leaf) with t4 | t4
    ·refine W.op (O.gv 41 (.bool true) (by kernel_rfl) rfl (okv (exec_load rfl rfl Ty4 ((K27.nth 0 rfl).cell 0)) (congrArg Value.bool t4)) ?_)
     refine Zd 42 (.bool false) ?_
     refine Zd 43 (.bool false) ?_
     refine Za 44 ?_
     refine Za 45 ?_
     refine Zd 46 (.bool false) ?_
     refine Zb 47 (.bool false) ?_
     refine wpList_nil (hk19 _ _ (W.cond false rfl (wp_skip (hk18 _ _ (wp_seq_k fun k20 hk20 => (wp_region_G (SmL [(0, Nt), (4, (fun ξ => ξ = 1))] w20 g9) (by kernel_rfl) ?_))))))
     have K28 := K27.drew
     have M28 : Mv Nt w20 g9 w20.drew g9 := (Mv.refl _ _ _).drew
     refine G.take 0 53 (.agg ((n.at s4).cells).toArray) rfl (by kernel_rfl) rfl (fun _ _ _ h => h) ((Mv.refl _ _ _).trans (M28.mono (fun _ h => h))).self (by kernel_rfl) (fun u hm => exec_loads (cs := (n.at s4).cells) rfl rfl Ty66 rfl ((K27.later 0 rfl hm quiet).all 35)) ?_
     refine Yb 1 54 (.pointer (some ⟨q, 0, none⟩)) rfl (fun u => by kernel_rfl) ?_
     refine Yb 2 55 (.pointer (some ⟨q, 0, none⟩)) rfl (fun u => by kernel_rfl) ?_
     refine Yb 3 56 (.pointer (some ⟨q, 1, none⟩)) rfl (fun u => by kernel_rfl) ?_
     have hq_55 := hb1.mv M6 quiet
     have hq_56 := hq_55.mv M21 quiet
     have hq_57 := hq_56.mv M23 (nrg (by omega))
     have hq_58 := hq_57.mv M27 (neq (by omega))
     refine G.take 4 57 (.int .i64 (S.got + 1)) rfl (by kernel_rfl) rfl (fun _ _ _ h => h) ((Mv.refl _ _ _).trans (M28.mono nt_le)).self (by kernel_rfl) (fun u hm => exec_load rfl rfl Ty3 (((hq_58.mv hm (neq (by omega))).1).cell 1)) ?_
     refine G.op 5 (by kernel_rfl) rfl (O.sta 1 (n.at s4).cells rfl rfl rfl rfl rfl Ty66 rfl rfl rfl rfl K28 fun w21 K29 M29 => ⟨(kp_skip (by kernel_rfl) (kp_keep (((Mv.refl _ _ _).trans (M28.mono nt_le)).trans (M29.mono (fun _ h => h))) kp_nil)), ?_⟩)
     refine Yb 6 7 (.int .i64 (S.got + 1)) rfl (fun u => by kernel_rfl) ?_
     refine Yb 7 8 (.int .i64 0) rfl (fun u => by kernel_rfl) ?_
     refine G.fin (by kernel_rfl) ?_
     refine hk20 _ _ (wp_ret (W.rets (vs := [.agg ((n.at s4).cells).toArray, .int .i64 (S.got + 1), .int .i64 0]) rfl (.agg (cs := (n.at s4).cells) rfl Ty66 rfl ((K29.nth 1 rfl).all 35) (.tmp rfl (.tmp rfl .nil))) (by simp) ?_))
     have e : S.node r l = some n := by unfold St.node; rw [if_neg (by omega), hlk]; exact if_pos (by first | (left; assumption) | (right; omega))
     have e2 : S.seen r = { S with σ := S.σ.saw r, got := S.got + 1 } := if_neg (by omega)
     rewrite [e, e2]
     have hits_9 := hs4.mv M27 (neq (by omega))
     have hits_10 := hits_9.mv M28 quiet
     have hits_11 := hits_10.mv M29 (neq (by omega))
     have hT_33 := hT4.mv M27 (neq (by omega)) (neq (by omega)) (neq (by omega)) (neq (by omega))
     have hT_34 := hT_33.mv M28 quiet quiet quiet quiet
     have hT_35 := hT_34.mv M29 (neq (by omega)) (neq (by omega)) (neq (by omega)) (neq (by omega))
     have hq_59 := hb1.mv M6 quiet
     have hq_60 := hq_59.mv M21 quiet
     have hq_61 := hq_60.mv M23 (nrg (by omega))
     have hq_62 := hq_61.mv M27 (neq (by omega))
     have hq_63 := hq_62.mv M28 quiet
     have hq_64 := hq_63.mv M29 (neq (by omega))
     have hrs_50 := hr.mv M1 quiet
     have hrs_51 := hrs_50.mv M2 quiet
     have hrs_52 := hrs_51.mv M5 (neq (by omega))
     have hrs_53 := hrs_52.mv M6 quiet
     have hrs_54 := hrs_53.mv M21 quiet
     have hrs_55 := hrs_54.mv M23 (nrg (by omega))
     have hrs_56 := hrs_55.mv M27 (neq (by omega))
     have hrs_57 := hrs_56.mv M28 quiet
     have hrs_58 := hrs_57.mv M29 (neq (by omega))
     exact ⟨_, s4, rfl, K29.mv, ⟨hT_35, ⟨sr, hq_64, hrs_58⟩⟩, hits_11, hl4⟩
    ·refine W.op (O.gv 41 (.bool false) (by kernel_rfl) rfl (okv (exec_load rfl rfl Ty4 ((K27.nth 0 rfl).cell 0)) (congrArg Value.bool t4)) ?_)
     refine Zd 42 (.bool true) ?_
     refine Zd 43 (.bool true) ?_
     refine Zd 44 (.int .i64 ↑l) ?_
     by_cases t5 : ((l : Nat) : Int) ≥ 16
     ·refine W.op (O.gv 45 (.bool true) (by kernel_rfl) rfl (okv (by kernel_rfl) (congrArg Value.bool (decide_eq_true t5))) ?_)
      refine Zd 46 (.bool true) ?_
      refine Zb 47 (.bool true) ?_
      refine wpList_nil (hk19 _ _ (W.cond true rfl (wp_seq_k fun k21 hk21 => (wp_region_G (SmL [(4, (fun ξ => ξ = 1))] w20 g9) (by kernel_rfl) ?_))))
      have K30 := K27.drew
      have M30 : Mv Nt w20 g9 w20.drew g9 := (Mv.refl _ _ _).drew
      refine Yb 0 48 (.agg #[.bool false, .int .i64 0, .slice none 0 0, .int .i64 0, .int .i64 0, .int .i64 0, .int .i64 0, .int .i64 0, .int .i64 0, .int .i64 0, .int .i64 0, .int .i64 0, .int .i64 0, .int .i64 0, .int .i64 0, .int .i64 0, .int .i64 0, .int .i64 0, .int .i64 0, .int .i64 0, .int .i64 0, .int .i64 0, .int .i64 0, .int .i64 0, .int .i64 0, .int .i64 0, .int .i64 0, .int .i64 0, .int .i64 0, .int .i64 0, .int .i64 0, .int .i64 0, .int .i64 0, .int .i64 0, .int .i64 0]) rfl (fun u => by kernel_rfl) ?_
      refine Yb 1 49 (.pointer (some ⟨q, 0, none⟩)) rfl (fun u => by kernel_rfl) ?_
      refine Yb 2 50 (.pointer (some ⟨q, 0, none⟩)) rfl (fun u => by kernel_rfl) ?_
      refine Yb 3 51 (.pointer (some ⟨q, 1, none⟩)) rfl (fun u => by kernel_rfl) ?_
      have hq_65 := hb1.mv M6 quiet
      have hq_66 := hq_65.mv M21 quiet
      have hq_67 := hq_66.mv M23 (nrg (by omega))
      have hq_68 := hq_67.mv M27 (neq (by omega))
      refine G.take 4 52 (.int .i64 (S.got + 1)) rfl (by kernel_rfl) rfl (fun _ _ _ h => h) ((Mv.refl _ _ _).trans (M30.mono nt_le)).self (by kernel_rfl) (fun u hm => exec_load rfl rfl Ty3 (((hq_68.mv hm (neq (by omega))).1).cell 1)) ?_
      refine G.op 5 (by kernel_rfl) rfl (O.sta 1 [.bool false, .int .i64 0, .slice none 0 0, .int .i64 0, .int .i64 0, .int .i64 0, .int .i64 0, .int .i64 0, .int .i64 0, .int .i64 0, .int .i64 0, .int .i64 0, .int .i64 0, .int .i64 0, .int .i64 0, .int .i64 0, .int .i64 0, .int .i64 0, .int .i64 0, .int .i64 0, .int .i64 0, .int .i64 0, .int .i64 0, .int .i64 0, .int .i64 0, .int .i64 0, .int .i64 0, .int .i64 0, .int .i64 0, .int .i64 0, .int .i64 0, .int .i64 0, .int .i64 0, .int .i64 0, .int .i64 0] rfl rfl rfl rfl rfl Ty66 rfl rfl rfl rfl K30 fun w22 K31 M31 => ⟨(kp_keep (((Mv.refl _ _ _).trans (M30.mono nt_le)).trans (M31.mono (fun _ h => h))) kp_nil), ?_⟩)
      refine Yb 6 7 (.int .i64 (S.got + 1)) rfl (fun u => by kernel_rfl) ?_
      refine Yb 7 8 (.int .i64 130) rfl (fun u => by kernel_rfl) ?_
      refine G.fin (by kernel_rfl) ?_
      refine hk21 _ _ (wp_ret (then_ret (W.rets (vs := [.agg #[.bool false, .int .i64 0, .slice none 0 0, .int .i64 0, .int .i64 0, .int .i64 0, .int .i64 0, .int .i64 0, .int .i64 0, .int .i64 0, .int .i64 0, .int .i64 0, .int .i64 0, .int .i64 0, .int .i64 0, .int .i64 0, .int .i64 0, .int .i64 0, .int .i64 0, .int .i64 0, .int .i64 0, .int .i64 0, .int .i64 0, .int .i64 0, .int .i64 0, .int .i64 0, .int .i64 0, .int .i64 0, .int .i64 0, .int .i64 0, .int .i64 0, .int .i64 0, .int .i64 0, .int .i64 0, .int .i64 0], .int .i64 (S.got + 1), .int .i64 130]) rfl (.agg (cs := [.bool false, .int .i64 0, .slice none 0 0, .int .i64 0, .int .i64 0, .int .i64 0, .int .i64 0, .int .i64 0, .int .i64 0, .int .i64 0, .int .i64 0, .int .i64 0, .int .i64 0, .int .i64 0, .int .i64 0, .int .i64 0, .int .i64 0, .int .i64 0, .int .i64 0, .int .i64 0, .int .i64 0, .int .i64 0, .int .i64 0, .int .i64 0, .int .i64 0, .int .i64 0, .int .i64 0, .int .i64 0, .int .i64 0, .int .i64 0, .int .i64 0, .int .i64 0, .int .i64 0, .int .i64 0, .int .i64 0]) rfl Ty66 rfl ((K31.nth 1 rfl).all 35) (.tmp rfl (.tmp rfl .nil))) (by simp) ?_)))
      have e : S.node r l = none := by unfold St.node; rw [if_neg (by omega), hlk]; exact if_neg (by rintro (h | h) <;> first | omega | simp_all)
      have e2 : S.seen r = { S with σ := S.σ.saw r, got := S.got + 1 } := if_neg (by omega)
      rewrite [e, e2]
      have hT_36 := hT4.mv M27 (neq (by omega)) (neq (by omega)) (neq (by omega)) (neq (by omega))
      have hT_37 := hT_36.mv M30 quiet quiet quiet quiet
      have hT_38 := hT_37.mv M31 (neq (by omega)) (neq (by omega)) (neq (by omega)) (neq (by omega))
      have hq_69 := hb1.mv M6 quiet
      have hq_70 := hq_69.mv M21 quiet
      have hq_71 := hq_70.mv M23 (nrg (by omega))
      have hq_72 := hq_71.mv M27 (neq (by omega))
      have hq_73 := hq_72.mv M30 quiet
      have hq_74 := hq_73.mv M31 (neq (by omega))
      have hrs_59 := hr.mv M1 quiet
      have hrs_60 := hrs_59.mv M2 quiet
      have hrs_61 := hrs_60.mv M5 (neq (by omega))
      have hrs_62 := hrs_61.mv M6 quiet
      have hrs_63 := hrs_62.mv M21 quiet
      have hrs_64 := hrs_63.mv M23 (nrg (by omega))
      have hrs_65 := hrs_64.mv M27 (neq (by omega))
      have hrs_66 := hrs_65.mv M30 quiet
      have hrs_67 := hrs_66.mv M31 (neq (by omega))
      exact ⟨_, ⟨none, 0, 0⟩, rfl, K31.mv, ⟨hT_38, ⟨sr, hq_74, hrs_67⟩⟩, Ls.void _ _ Item.size, Nat.zero_le _⟩
     ·refine W.op (O.gv 45 (.bool false) (by kernel_rfl) rfl (okv (by kernel_rfl) (congrArg Value.bool (decide_eq_false t5))) ?_)
      refine Zd 46 (.bool false) ?_
      refine Zb 47 (.bool false) ?_
      refine wpList_nil (hk19 _ _ (W.cond false rfl (wp_skip (hk18 _ _ (wp_seq_k fun k22 hk22 => (wp_region_G (SmL [(0, Nt), (4, (fun ξ => ξ = 1))] w20 g9) (by kernel_rfl) ?_))))))
      have K32 := K27.drew
      have M32 : Mv Nt w20 g9 w20.drew g9 := (Mv.refl _ _ _).drew
      refine G.take 0 53 (.agg ((n.at s4).cells).toArray) rfl (by kernel_rfl) rfl (fun _ _ _ h => h) ((Mv.refl _ _ _).trans (M32.mono (fun _ h => h))).self (by kernel_rfl) (fun u hm => exec_loads (cs := (n.at s4).cells) rfl rfl Ty66 rfl ((K27.later 0 rfl hm quiet).all 35)) ?_
      refine Yb 1 54 (.pointer (some ⟨q, 0, none⟩)) rfl (fun u => by kernel_rfl) ?_
      refine Yb 2 55 (.pointer (some ⟨q, 0, none⟩)) rfl (fun u => by kernel_rfl) ?_
      refine Yb 3 56 (.pointer (some ⟨q, 1, none⟩)) rfl (fun u => by kernel_rfl) ?_
      have hq_75 := hb1.mv M6 quiet
      have hq_76 := hq_75.mv M21 quiet
      have hq_77 := hq_76.mv M23 (nrg (by omega))
      have hq_78 := hq_77.mv M27 (neq (by omega))
      refine G.take 4 57 (.int .i64 (S.got + 1)) rfl (by kernel_rfl) rfl (fun _ _ _ h => h) ((Mv.refl _ _ _).trans (M32.mono nt_le)).self (by kernel_rfl) (fun u hm => exec_load rfl rfl Ty3 (((hq_78.mv hm (neq (by omega))).1).cell 1)) ?_
      refine G.op 5 (by kernel_rfl) rfl (O.sta 1 (n.at s4).cells rfl rfl rfl rfl rfl Ty66 rfl rfl rfl rfl K32 fun w23 K33 M33 => ⟨(kp_skip (by kernel_rfl) (kp_keep (((Mv.refl _ _ _).trans (M32.mono nt_le)).trans (M33.mono (fun _ h => h))) kp_nil)), ?_⟩)
      refine Yb 6 7 (.int .i64 (S.got + 1)) rfl (fun u => by kernel_rfl) ?_
      refine Yb 7 8 (.int .i64 0) rfl (fun u => by kernel_rfl) ?_
      refine G.fin (by kernel_rfl) ?_
      refine hk22 _ _ (wp_ret (W.rets (vs := [.agg ((n.at s4).cells).toArray, .int .i64 (S.got + 1), .int .i64 0]) rfl (.agg (cs := (n.at s4).cells) rfl Ty66 rfl ((K33.nth 1 rfl).all 35) (.tmp rfl (.tmp rfl .nil))) (by simp) ?_))
      have e : S.node r l = some n := by unfold St.node; rw [if_neg (by omega), hlk]; exact if_pos (by first | (left; assumption) | (right; omega))
      have e2 : S.seen r = { S with σ := S.σ.saw r, got := S.got + 1 } := if_neg (by omega)
      rewrite [e, e2]
      have hits_12 := hs4.mv M27 (neq (by omega))
      have hits_13 := hits_12.mv M32 quiet
      have hits_14 := hits_13.mv M33 (neq (by omega))
      have hT_39 := hT4.mv M27 (neq (by omega)) (neq (by omega)) (neq (by omega)) (neq (by omega))
      have hT_40 := hT_39.mv M32 quiet quiet quiet quiet
      have hT_41 := hT_40.mv M33 (neq (by omega)) (neq (by omega)) (neq (by omega)) (neq (by omega))
      have hq_79 := hb1.mv M6 quiet
      have hq_80 := hq_79.mv M21 quiet
      have hq_81 := hq_80.mv M23 (nrg (by omega))
      have hq_82 := hq_81.mv M27 (neq (by omega))
      have hq_83 := hq_82.mv M32 quiet
      have hq_84 := hq_83.mv M33 (neq (by omega))
      have hrs_68 := hr.mv M1 quiet
      have hrs_69 := hrs_68.mv M2 quiet
      have hrs_70 := hrs_69.mv M5 (neq (by omega))
      have hrs_71 := hrs_70.mv M6 quiet
      have hrs_72 := hrs_71.mv M21 quiet
      have hrs_73 := hrs_72.mv M23 (nrg (by omega))
      have hrs_74 := hrs_73.mv M27 (neq (by omega))
      have hrs_75 := hrs_74.mv M32 quiet
      have hrs_76 := hrs_75.mv M33 (neq (by omega))
      exact ⟨_, s4, rfl, K33.mv, ⟨hT_41, ⟨sr, hq_84, hrs_76⟩⟩, hits_14, hl4⟩

end Go.Proofs.Ytlfanphdnjoofaa
