/- Walks: new trees. -/
import Derived.Test.YtlfanphdnjoofaaT8
namespace Go.Proofs.Ytlfanphdnjoofaa
open Go.RowKit
set_option linter.unusedSimpArgs false
set_option linter.unusedVariables false
attribute [local irreducible] wpList Code.wp Calls OpS wpG

set_option maxRecDepth 100000 in
set_option maxHeartbeats 1000000 in
theorem builtLeaf_c (s : Sli) (its : List Item) (l : Nat) (had : Int) (w : World) (γ : Tg) (hs : Ls 7 Item.cells w γ s its) (hl : its.length ≤ 100000) (hc : its.length ≤ 4 ∨ 16 ≤ l) :
    Calls Try.prog 65 #[.slice s.a s.n s.c, .int .i64 ((l : Nat) : Int), .int .i64 had] w fun ε w' => ∃ γ' c, ε = .returned (.agg (PlC.cells c).toArray) ∧ Mv Nt w γ w' γ' ∧ PlM (.leaf had its) w' γ' c := by
 have K0 := Kn.start Nt w γ
 refine W.enter (ws := [(2, .int .i64 had), (1, .int .i64 ↑l), (0, .slice s.a s.n s.c)]) 68 Try.func65 rfl (by kernel_rfl) ?_
 have n1 := hs.len
 refine wp_seq_k fun k1 hk1 => (wp_region_lit ?_)
 refine W.op (O.new 6 109 [.bool false, .int .i64 0, .int .i64 0, .int .i64 0, .int .i64 0, .bool false, .slice none 0 0, .slice none 0 0] rfl rfl (by kernel_rfl) K0 fun b1 w1 g1 K1 M1 => ?_)
 refine wpList_nil (hk1 _ _ (wp_seq_k fun k2 hk2 => (wp_region_lit ?_)))
 refine Zb 14 (.int .i64 had) ?_
 refine Zb 15 (.slice s.a s.n s.c) ?_
 refine Zb 16 (.int .i64 (s.n : Int)) ?_
 refine Zb 17 (.agg #[.bool false, .int .i64 0, .int .i64 0, .int .i64 had, .int .i64 (s.n : Int), .bool false, .slice none 0 0, .slice none 0 0]) ?_
 refine W.op (O.new 7 109 [.bool false, .int .i64 0, .int .i64 0, .int .i64 0, .int .i64 0, .bool false, .slice none 0 0, .slice none 0 0] rfl rfl (by kernel_rfl) K1 fun b2 w2 g2 K2 M2 => ?_)
 refine W.op (O.sta 0 [.bool false, .int .i64 0, .int .i64 0, .int .i64 had, .int .i64 (s.n : Int), .bool false, .slice none 0 0, .slice none 0 0] rfl rfl rfl rfl rfl Ty109 rfl rfl rfl rfl K2 fun w3 K3 M3 => ?_)
 refine wpList_nil (hk2 _ _ (wp_seq_k fun k3 hk3 => (wp_seq_k fun k4 hk4 => (wp_region_lit ?_))))
 refine Zb 18 (.slice s.a s.n s.c) ?_
 refine Zb 19 (.int .i64 (s.n : Int)) ?_
 by_cases t1 : (s.n : Int) ≤ 4
 ·refine Zc 20 (.bool true) (okv (by kernel_rfl) (congrArg Value.bool (decide_eq_true t1))) ?_
  refine Zb 21 (.bool true) ?_
  refine Za 22 ?_
  refine Za 23 ?_
  refine Zb 24 (.bool true) ?_
  refine wpList_nil (hk4 _ _ (W.cond true rfl (wp_seq_k fun k5 hk5 => (wp_region_lit ?_))))
  refine Zb 25 (.slice s.a s.n s.c) ?_
  refine Zb 26 (.pointer (some ⟨b2, 5, none⟩)) ?_
  refine W.op (O.st 0 (.bool true) rfl rfl rfl rfl rfl Ty4 rfl rfl rfl (Nat.le_of_ble_eq_true rfl) K3 fun w4 K4 M4 => ?_)
  refine Zb 27 (.pointer (some ⟨b2, 6, none⟩)) ?_
  refine W.op (O.st 0 (.slice s.a s.n s.c) rfl rfl rfl rfl rfl Ty37 rfl rfl rfl (Nat.le_of_ble_eq_true rfl) K4 fun w5 K5 M5 => ?_)
  refine wpList_nil (hk5 _ _ (wp_seq_k fun k6 hk6 => (wp_region_lit ?_)))
  refine Zc 28 (.agg #[.bool false, .int .i64 0, .int .i64 0, .int .i64 had, .int .i64 (s.n : Int), .bool true, .slice s.a s.n s.c, .slice none 0 0]) (exec_loads (cs := [.bool false, .int .i64 0, .int .i64 0, .int .i64 had, .int .i64 (s.n : Int), .bool true, .slice s.a s.n s.c, .slice none 0 0]) rfl rfl Ty109 rfl ((K5.nth 0 rfl).all 8)) ?_
  refine W.op (O.sta 1 [.bool false, .int .i64 0, .int .i64 0, .int .i64 had, .int .i64 (s.n : Int), .bool true, .slice s.a s.n s.c, .slice none 0 0] rfl rfl rfl rfl rfl Ty109 rfl rfl rfl rfl K5 fun w6 K6 M6 => ?_)
  refine wpList_nil (hk6 _ _ (wp_ret (then_ret (W.ret1 (v := .agg #[.bool false, .int .i64 0, .int .i64 0, .int .i64 had, .int .i64 (s.n : Int), .bool true, .slice s.a s.n s.c, .slice none 0 0]) rfl (.agg (cs := [.bool false, .int .i64 0, .int .i64 0, .int .i64 had, .int .i64 (s.n : Int), .bool true, .slice s.a s.n s.c, .slice none 0 0]) rfl Ty109 rfl ((K6.nth 1 rfl).all 8) .nil) ?_))))
  have hs_1 := hs.mv M1 quiet
  have hs_2 := hs_1.mv M2 quiet
  have hs_3 := hs_2.mv M3 (neq (by omega))
  have hs_4 := hs_3.mv M4 (neq (by omega))
  have hs_5 := hs_4.mv M5 (neq (by omega))
  have hs_6 := hs_5.mv M6 (neq (by omega))
  exact ⟨_, ⟨false, ⟨0, 0⟩, had, its.length, true, s, nilS⟩, by rw [← hs_6.len], K6.mv, s, rfl, hs_6⟩
 ·refine Zc 20 (.bool false) (okv (by kernel_rfl) (congrArg Value.bool (decide_eq_false t1))) ?_
  refine Zb 21 (.bool false) ?_
  refine Zd 22 (.int .i64 ↑l) ?_
  by_cases t2 : ((l : Nat) : Int) ≥ 16
  ·refine W.op (O.gv 23 (.bool true) (by kernel_rfl) rfl (okv (by kernel_rfl) (congrArg Value.bool (decide_eq_true t2))) ?_)
   refine Zb 24 (.bool true) ?_
   refine wpList_nil (hk4 _ _ (W.cond true rfl (wp_seq_k fun k7 hk7 => (wp_region_lit ?_))))
   refine Zb 25 (.slice s.a s.n s.c) ?_
   refine Zb 26 (.pointer (some ⟨b2, 5, none⟩)) ?_
   refine W.op (O.st 0 (.bool true) rfl rfl rfl rfl rfl Ty4 rfl rfl rfl (Nat.le_of_ble_eq_true rfl) K3 fun w7 K7 M7 => ?_)
   refine Zb 27 (.pointer (some ⟨b2, 6, none⟩)) ?_
   refine W.op (O.st 0 (.slice s.a s.n s.c) rfl rfl rfl rfl rfl Ty37 rfl rfl rfl (Nat.le_of_ble_eq_true rfl) K7 fun w8 K8 M8 => ?_)
   refine wpList_nil (hk7 _ _ (wp_seq_k fun k8 hk8 => (wp_region_lit ?_)))
   refine Zc 28 (.agg #[.bool false, .int .i64 0, .int .i64 0, .int .i64 had, .int .i64 (s.n : Int), .bool true, .slice s.a s.n s.c, .slice none 0 0]) (exec_loads (cs := [.bool false, .int .i64 0, .int .i64 0, .int .i64 had, .int .i64 (s.n : Int), .bool true, .slice s.a s.n s.c, .slice none 0 0]) rfl rfl Ty109 rfl ((K8.nth 0 rfl).all 8)) ?_
   refine W.op (O.sta 1 [.bool false, .int .i64 0, .int .i64 0, .int .i64 had, .int .i64 (s.n : Int), .bool true, .slice s.a s.n s.c, .slice none 0 0] rfl rfl rfl rfl rfl Ty109 rfl rfl rfl rfl K8 fun w9 K9 M9 => ?_)
   refine wpList_nil (hk8 _ _ (wp_ret (then_ret (W.ret1 (v := .agg #[.bool false, .int .i64 0, .int .i64 0, .int .i64 had, .int .i64 (s.n : Int), .bool true, .slice s.a s.n s.c, .slice none 0 0]) rfl (.agg (cs := [.bool false, .int .i64 0, .int .i64 0, .int .i64 had, .int .i64 (s.n : Int), .bool true, .slice s.a s.n s.c, .slice none 0 0]) rfl Ty109 rfl ((K9.nth 1 rfl).all 8) .nil) ?_))))
   have hs_7 := hs.mv M1 quiet
   have hs_8 := hs_7.mv M2 quiet
   have hs_9 := hs_8.mv M3 (neq (by omega))
   have hs_10 := hs_9.mv M7 (neq (by omega))
   have hs_11 := hs_10.mv M8 (neq (by omega))
   have hs_12 := hs_11.mv M9 (neq (by omega))
   exact ⟨_, ⟨false, ⟨0, 0⟩, had, its.length, true, s, nilS⟩, by rw [← hs_12.len], K9.mv, s, rfl, hs_12⟩
  ·refine W.op (O.gv 23 (.bool false) (by kernel_rfl) rfl (okv (by kernel_rfl) (congrArg Value.bool (decide_eq_false t2))) ?_)
   refine Zb 24 (.bool false) ?_
   refine wpList_nil (hk4 _ _ (W.cond false rfl (wp_skip (hk3 _ _ (wp_seq_k fun k9 hk9 => (wp_region_lit ?_))))))
   refine W.op (O.lit 29 37 [.slice none 0 0, .slice none 0 0, .slice none 0 0, .slice none 0 0, .slice none 0 0, .slice none 0 0, .slice none 0 0, .slice none 0 0, .slice none 0 0, .slice none 0 0, .slice none 0 0, .slice none 0 0, .slice none 0 0, .slice none 0 0, .slice none 0 0, .slice none 0 0] 16 rfl rfl (by kernel_rfl) K3 fun b3 w10 g3 K10 M10 => ?_)
   refine Zb 8 (.slice (some ⟨b3, 0, none⟩) 16 16) ?_
   refine wpList_nil (hk9 _ _ (wp_seq_k fun k10 hk10 => (wp_seq_k fun k11 hk11 => (wp_region_lit ?_))))
   refine Zb 30 (.slice s.a s.n s.c) ?_
   refine Zb 31 (.int .i64 (s.n : Int)) ?_
   refine Zb 32 (.int .i64 0) ?_
   refine wpList_nil (hk11 _ _ (wp_block ?_))
   exfalso; omega

set_option maxRecDepth 100000 in
set_option maxHeartbeats 1000000 in
theorem builtBranch_step (s : Sli) (its : List Item) (l : Nat) (had : Int) (f : Nat → Pl) (w : World) (γ : Tg) (hs : Ls 7 Item.cells w γ s its) (hl : its.length ≤ 100000) (hky : ∀ x ∈ its, x.key.size < 9223372036854775807) (hc : 4 < its.length) (hl16 : l < 16) (hrec : ∀ (j : Nat), j < 16 → ∀ (sj : Sli) (U : Nat → Prop) {v : World} {g : Tg}, Mv U w γ v g → ¬ U 0 → Ls 7 Item.cells v g sj (its.filter fun x => digitOf x.key l == j) → Calls Try.prog 65 #[.slice sj.a sj.n sj.c, .int .i64 ((l + 1 : Nat) : Int), .int .i64 0] v fun ε v' => ∃ g' c, ε = .returned (.agg (PlC.cells c).toArray) ∧ Mv Nt v g v' g' ∧ PlM (f j) v' g' c) :
    Calls Try.prog 65 #[.slice s.a s.n s.c, .int .i64 ((l : Nat) : Int), .int .i64 had] w fun ε w' => ∃ γ' c, ε = .returned (.agg (PlC.cells c).toArray) ∧ Mv Nt w γ w' γ' ∧ PlM (.branch had its.length f) w' γ' c := by
 obtain ⟨t0, ht0, hf0⟩ := fresh_tag w γ 2
 have K0 := Kn.start (Lo Nt t0) w γ
 refine W.enter (ws := [(2, .int .i64 had), (1, .int .i64 ↑l), (0, .slice s.a s.n s.c)]) 68 Try.func65 rfl (by kernel_rfl) ?_
 have n1 := hs.len
 refine wp_seq_k fun k1 hk1 => (wp_region_lit ?_)
 refine W.op (O.new 6 109 [.bool false, .int .i64 0, .int .i64 0, .int .i64 0, .int .i64 0, .bool false, .slice none 0 0, .slice none 0 0] rfl rfl (by kernel_rfl) K0 fun b1 w1 g1 K1 M1 => ?_)
 refine wpList_nil (hk1 _ _ (wp_seq_k fun k2 hk2 => (wp_region_lit ?_)))
 refine Zb 14 (.int .i64 had) ?_
 refine Zb 15 (.slice s.a s.n s.c) ?_
 refine Zb 16 (.int .i64 (s.n : Int)) ?_
 refine Zb 17 (.agg #[.bool false, .int .i64 0, .int .i64 0, .int .i64 had, .int .i64 (s.n : Int), .bool false, .slice none 0 0, .slice none 0 0]) ?_
 refine W.op (O.new 7 109 [.bool false, .int .i64 0, .int .i64 0, .int .i64 0, .int .i64 0, .bool false, .slice none 0 0, .slice none 0 0] rfl rfl (by kernel_rfl) K1 fun b2 w2 g2 K2 M2 => ?_)
 refine W.op (O.sta 0 [.bool false, .int .i64 0, .int .i64 0, .int .i64 had, .int .i64 (s.n : Int), .bool false, .slice none 0 0, .slice none 0 0] rfl rfl rfl rfl rfl Ty109 rfl rfl rfl rfl K2 fun w3 K3 M3 => ?_)
 refine wpList_nil (hk2 _ _ (wp_seq_k fun k3 hk3 => (wp_seq_k fun k4 hk4 => (wp_region_lit ?_))))
 refine Zb 18 (.slice s.a s.n s.c) ?_
 refine Zb 19 (.int .i64 (s.n : Int)) ?_
 by_cases t1 : (s.n : Int) ≤ 4
 ·refine Zc 20 (.bool true) (okv (by kernel_rfl) (congrArg Value.bool (decide_eq_true t1))) ?_
  refine Zb 21 (.bool true) ?_
  refine Za 22 ?_
  refine Za 23 ?_
  refine Zb 24 (.bool true) ?_
  refine wpList_nil (hk4 _ _ (W.cond true rfl (wp_seq_k fun k5 hk5 => (wp_region_lit ?_))))
  refine Zb 25 (.slice s.a s.n s.c) ?_
  refine Zb 26 (.pointer (some ⟨b2, 5, none⟩)) ?_
  refine W.op (O.st 0 (.bool true) rfl rfl rfl rfl rfl Ty4 rfl rfl rfl (Nat.le_of_ble_eq_true rfl) K3 fun w4 K4 M4 => ?_)
  refine Zb 27 (.pointer (some ⟨b2, 6, none⟩)) ?_
  refine W.op (O.st 0 (.slice s.a s.n s.c) rfl rfl rfl rfl rfl Ty37 rfl rfl rfl (Nat.le_of_ble_eq_true rfl) K4 fun w5 K5 M5 => ?_)
  refine wpList_nil (hk5 _ _ (wp_seq_k fun k6 hk6 => (wp_region_lit ?_)))
  refine Zc 28 (.agg #[.bool false, .int .i64 0, .int .i64 0, .int .i64 had, .int .i64 (s.n : Int), .bool true, .slice s.a s.n s.c, .slice none 0 0]) (exec_loads (cs := [.bool false, .int .i64 0, .int .i64 0, .int .i64 had, .int .i64 (s.n : Int), .bool true, .slice s.a s.n s.c, .slice none 0 0]) rfl rfl Ty109 rfl ((K5.nth 0 rfl).all 8)) ?_
  refine W.op (O.sta 1 [.bool false, .int .i64 0, .int .i64 0, .int .i64 had, .int .i64 (s.n : Int), .bool true, .slice s.a s.n s.c, .slice none 0 0] rfl rfl rfl rfl rfl Ty109 rfl rfl rfl rfl K5 fun w6 K6 M6 => ?_)
  refine wpList_nil (hk6 _ _ (wp_ret (then_ret (W.ret1 (v := .agg #[.bool false, .int .i64 0, .int .i64 0, .int .i64 had, .int .i64 (s.n : Int), .bool true, .slice s.a s.n s.c, .slice none 0 0]) rfl (.agg (cs := [.bool false, .int .i64 0, .int .i64 0, .int .i64 had, .int .i64 (s.n : Int), .bool true, .slice s.a s.n s.c, .slice none 0 0]) rfl Ty109 rfl ((K6.nth 1 rfl).all 8) .nil) ?_))))
  exfalso; omega
 ·refine Zc 20 (.bool false) (okv (by kernel_rfl) (congrArg Value.bool (decide_eq_false t1))) ?_
  refine Zb 21 (.bool false) ?_
  refine Zd 22 (.int .i64 ↑l) ?_
  by_cases t2 : ((l : Nat) : Int) ≥ 16
  ·refine W.op (O.gv 23 (.bool true) (by kernel_rfl) rfl (okv (by kernel_rfl) (congrArg Value.bool (decide_eq_true t2))) ?_)
   refine Zb 24 (.bool true) ?_
   refine wpList_nil (hk4 _ _ (W.cond true rfl (wp_seq_k fun k7 hk7 => (wp_region_lit ?_))))
   refine Zb 25 (.slice s.a s.n s.c) ?_
   refine Zb 26 (.pointer (some ⟨b2, 5, none⟩)) ?_
   refine W.op (O.st 0 (.bool true) rfl rfl rfl rfl rfl Ty4 rfl rfl rfl (Nat.le_of_ble_eq_true rfl) K3 fun w7 K7 M7 => ?_)
   refine Zb 27 (.pointer (some ⟨b2, 6, none⟩)) ?_
   refine W.op (O.st 0 (.slice s.a s.n s.c) rfl rfl rfl rfl rfl Ty37 rfl rfl rfl (Nat.le_of_ble_eq_true rfl) K7 fun w8 K8 M8 => ?_)
   refine wpList_nil (hk7 _ _ (wp_seq_k fun k8 hk8 => (wp_region_lit ?_)))
   refine Zc 28 (.agg #[.bool false, .int .i64 0, .int .i64 0, .int .i64 had, .int .i64 (s.n : Int), .bool true, .slice s.a s.n s.c, .slice none 0 0]) (exec_loads (cs := [.bool false, .int .i64 0, .int .i64 0, .int .i64 had, .int .i64 (s.n : Int), .bool true, .slice s.a s.n s.c, .slice none 0 0]) rfl rfl Ty109 rfl ((K8.nth 0 rfl).all 8)) ?_
   refine W.op (O.sta 1 [.bool false, .int .i64 0, .int .i64 0, .int .i64 had, .int .i64 (s.n : Int), .bool true, .slice s.a s.n s.c, .slice none 0 0] rfl rfl rfl rfl rfl Ty109 rfl rfl rfl rfl K8 fun w9 K9 M9 => ?_)
   refine wpList_nil (hk8 _ _ (wp_ret (then_ret (W.ret1 (v := .agg #[.bool false, .int .i64 0, .int .i64 0, .int .i64 had, .int .i64 (s.n : Int), .bool true, .slice s.a s.n s.c, .slice none 0 0]) rfl (.agg (cs := [.bool false, .int .i64 0, .int .i64 0, .int .i64 had, .int .i64 (s.n : Int), .bool true, .slice s.a s.n s.c, .slice none 0 0]) rfl Ty109 rfl ((K9.nth 1 rfl).all 8) .nil) ?_))))
   exfalso; omega
  ·refine W.op (O.gv 23 (.bool false) (by kernel_rfl) rfl (okv (by kernel_rfl) (congrArg Value.bool (decide_eq_false t2))) ?_)
   refine Zb 24 (.bool false) ?_
   refine wpList_nil (hk4 _ _ (W.cond false rfl (wp_skip (hk3 _ _ (wp_seq_k fun k9 hk9 => (wp_region_lit ?_))))))
   refine W.op (O.lit 29 37 (psCells (fun _ => nilS)) 16 rfl rfl (by kernel_rfl) K3 fun b3 w10 g3 K10 M10 => ?_)
   refine Zb 8 (.slice (some ⟨b3, 0, none⟩) 16 16) ?_
   refine wpList_nil (hk9 _ _ (wp_seq_k fun k10 hk10 => (wp_seq_k fun k11 hk11 => (wp_region_lit ?_))))
   refine Zb 30 (.slice s.a s.n s.c) ?_
   refine Zb 31 (.int .i64 (s.n : Int)) ?_
   refine Zb 32 (.int .i64 0) ?_
   refine wpList_nil (hk11 _ _ (wp_block ?_))
   have hP1 : PtsF t0 50 l w10 g3 (fun _ => nilS) (its.take 0) := by rw [List.take_zero]; exact PtsF.nil _ _ _ _ _
   have hs_1 := hs.mv M1 quiet
   have hs_2 := hs_1.mv M2 quiet
   have hs_3 := hs_2.mv M3 (neq (by omega))
   have hs_4 := hs_3.mv M10 quiet
   refine W.loop (fun (μ0 : Nat) (ws : List (Nat × Value)) (w' : World) => ∃ (k : Nat) (ps : Nat → Sli) (γ' : Tg) (ρ0 : List (Nat × Value)), μ0 = its.length - k ∧ ws = ((32, .int .i64 ↑k) :: (31, .int .i64 (s.n : Int)) :: (30, .slice s.a s.n s.c) :: (8, .slice (some ⟨b3, 0, none⟩) 16 16) :: (7, .pointer (some ⟨b2, 0, none⟩)) :: (6, .pointer (some ⟨b1, 0, none⟩)) :: (1, .int .i64 ↑l) :: ρ0) ∧ Kn (Lo Nt t0) w γ [(b3, 37, (psCells ps)), (b2, 109, [.bool false, .int .i64 0, .int .i64 0, .int .i64 had, .int .i64 (s.n : Int), .bool false, .slice none 0 0, .slice none 0 0]), (b1, 109, [.bool false, .int .i64 0, .int .i64 0, .int .i64 0, .int .i64 0, .bool false, .slice none 0 0, .slice none 0 0])] w' γ' ∧ Mv (Rg 1 (t0 + 40)) w10 g3 w' γ' ∧ (k ≤ its.length) ∧ Ls 7 Item.cells w' γ' s its ∧ PtsF t0 50 l w' γ' ps (its.take k)) (its.length - 0) (((((((look_eq (t := 1) (v := .int .i64 ↑l) rfl).trans (look_eq (t := 6) (v := .pointer (some ⟨b1, 0, none⟩)) rfl)).trans (look_eq (t := 7) (v := .pointer (some ⟨b2, 0, none⟩)) rfl)).trans (look_eq (t := 8) (v := .slice (some ⟨b3, 0, none⟩) 16 16) rfl)).trans (look_eq (t := 30) (v := .slice s.a s.n s.c) rfl)).trans (look_eq (t := 31) (v := .int .i64 (s.n : Int)) rfl)).trans (look_eq (t := 32) (v := .int .i64 ↑0) rfl)) ?_ ?_
   ·exact ⟨0, (fun _ => nilS), _, _, rfl, rfl, K10, Mv.refl _ _ _, Nat.zero_le _, hs_4, hP1⟩
   ·rintro _ _ w11 ⟨k, ps, g4, r1, rfl, rfl, K11, M11, p1, h1, h2⟩
    refine wp_seq_k fun k12 hk12 => (wp_region_lit ?_)
    by_cases t3 : ((k : Nat) : Int) < (s.n : Int)
    ·refine Zc 33 (.bool true) (okv (by kernel_rfl) (congrArg Value.bool (decide_eq_true t3))) ?_
     refine wpList_nil (hk12 _ _ (wp_seq_k fun k13 hk13 => (W.cond true rfl (wp_skip (hk13 _ _ (wp_seq_k fun k14 hk14 => ?_))))))
     refine wp_block (wp_seq_k fun k15 hk15 => (wp_region_lit ?_))
     obtain ⟨x1, hx1⟩ := get_some (xs := its) (i := k) (by omega)
     obtain ⟨b4, o1, ha1, hib1, hr1⟩ := h1.elt hx1
     refine Zc 34 (.pointer (some ⟨b4, o1 + k * 7, none⟩)) (exec_index (E := 50) (k := k) rfl (by kernel_rfl) (by kernel_rfl) rfl ha1 rfl hib1) ?_
     refine Zc 35 (.agg x1.cells.toArray) (exec_loads (cs := x1.cells) rfl rfl Ty50 rfl hr1.2.2) ?_
     refine W.op (O.new 10 50 [.string ByteArray.empty, .int .i64 0, .int .i64 0, .int .i64 0, .string ByteArray.empty, .slice none 0 0, .slice none 0 0] rfl rfl (by kernel_rfl) K11 fun b5 w12 g5 K12 M12 => ?_)
     refine W.op (O.sta 0 x1.cells rfl rfl rfl rfl rfl Ty50 rfl rfl rfl rfl K12 fun w13 K13 M13 => ?_)
     refine wpList_nil (hk15 _ _ (wp_seq_k fun k16 hk16 => (wp_region_lit ?_)))
     refine Zb 36 (.pointer (some ⟨b5, 0, none⟩)) ?_
     refine Zc 37 (.string x1.key) (exec_load rfl rfl Ty9 ((K13.nth 0 rfl).cell 0)) ?_
     refine Zb 38 (.int .i64 ↑l) ?_
     refine W.op (O.call 39 44 #[.string x1.key, .int .i64 ↑l] (by kernel_rfl) rfl (by kernel_rfl) ((digit_c x1.key l (hky x1 (List.mem_of_getElem? hx1)) w13 g5).mono ?_))
     rintro e1 w14 ⟨g6, rfl, M14⟩
     have K14 := K13.step M14 nt_le quiet
     refine ⟨_, rfl, ?_⟩
     refine Zb 11 (.int .i64 ((digitOf x1.key l : Nat) : Int)) ?_
     refine wpList_nil (hk16 _ _ (wp_region_G (SmL [(5, Nt), (6, Nt)] w14 g6) (by kernel_rfl) ?_))
     have K15 := K14.drew
     have M15 : Mv Nt w14 g6 w14.drew g6 := (Mv.refl _ _ _).drew
     refine Yb 0 40 (.slice (some ⟨b3, 0, none⟩) 16 16) rfl (fun u => by kernel_rfl) ?_
     refine Yb 1 41 (.int .i64 ((digitOf x1.key l : Nat) : Int)) rfl (fun u => by kernel_rfl) ?_
     refine Yb 2 42 (.slice (some ⟨b3, 0, none⟩) 16 16) rfl (fun u => by kernel_rfl) ?_
     refine Yb 3 43 (.int .i64 ((digitOf x1.key l : Nat) : Int)) rfl (fun u => by kernel_rfl) ?_
     refine Yb 4 44 (.pointer (some ⟨b3, 0 + (digitOf x1.key l) * 1, none⟩)) rfl (fun u => (exec_index (E := 37) (k := digitOf x1.key l) rfl (by kernel_rfl) (by kernel_rfl) rfl rfl rfl (digitOf_lt _ _))) ?_
     refine G.take 5 45 (.slice ((ps (digitOf x1.key l)).a) ((ps (digitOf x1.key l)).n) ((ps (digitOf x1.key l)).c)) rfl (by kernel_rfl) rfl (fun _ _ _ h => h) ((Mv.refl _ _ _).trans (M15.mono (fun _ h => h))).self (by kernel_rfl) (fun u hm => exec_load rfl rfl Ty37 (((K14.later 1 rfl hm quiet).cell _).trans (ps_get ps (digitOf x1.key l) (digitOf_lt _ _)))) ?_
     refine G.take 6 46 (.agg x1.cells.toArray) rfl (by kernel_rfl) rfl (fun _ _ _ h => h) ((Mv.refl _ _ _).trans (M15.mono (fun _ h => h))).self (by kernel_rfl) (fun u hm => exec_loads (cs := x1.cells) rfl rfl Ty50 rfl ((K14.later 0 rfl hm quiet).all 7)) ?_
     refine G.op 7 (by kernel_rfl) rfl (O.lit 47 50 [.string x1.key, .int .i64 x1.ver, .int .i64 x1.knd, .int .i64 x1.int, .string x1.txt, .slice x1.nms.a x1.nms.n x1.nms.c, .slice x1.its.a x1.its.n x1.its.c] 1 rfl rfl (by kernel_rfl) K15 fun b6 w15 g7 K16 M16 => ⟨kp_nt ((Mv.refl _ _ _).trans M16) _, ?_⟩)
     have hpts_1 := h2.mv M12 (fun _ _ _ h => h)
     have hpts_2 := hpts_1.mv M13 (fun x h1 h2 (h : x = 1) => by omega)
     have hpts_3 := hpts_2.mv M14 (fun _ _ _ h => h)
     have hpts_4 := hpts_3.mv M15 (fun _ _ _ h => h)
     have hpts_5 := hpts_4.mv M16 (fun _ _ _ h => h)
     have hD1 := hpts_5 (digitOf x1.key l) (digitOf_lt _ _)
     have hd9 := digitOf_lt x1.key l
     have n2 := hD1.len
     refine G.op 8 (by kernel_rfl) rfl (O.append (f := Item.cells) 48 [x1] (by kernel_rfl) rfl rfl (by kernel_rfl) El50 rfl rfl hD1 rfl (src1 (K16.nth 0 rfl) rfl) (fun _ => rfl) (by have h := List.length_filter_le (fun y : Item => digitOf y.key l == digitOf x1.key l) (its.take k); rw [List.length_take] at h; simp only [List.length_cons, List.length_nil]; omega) (by have h := List.length_filter_le (fun y : Item => digitOf y.key l == digitOf x1.key l) (its.take k); rw [List.length_take] at h; simp only [List.length_cons, List.length_nil]; omega) fun s1 w16 g8 hG1 M17 => ⟨(kp_skip (by kernel_rfl) (kp_skip (by kernel_rfl) kp_nil)), ?_⟩)
     have K17 := K16.step M17 (eq_lo (by omega)) (neq (by omega))
     have n3 := hG1.len
     have hP2 := hpts_5.upd M17 hG1
     refine Yb 9 49 (.pointer (some ⟨b3, 0 + (digitOf x1.key l) * 1, none⟩)) rfl (fun u => (exec_index (E := 37) (k := digitOf x1.key l) rfl (by kernel_rfl) (by kernel_rfl) rfl rfl rfl (digitOf_lt _ _))) ?_
     refine G.op 10 (by kernel_rfl) rfl (O.st 2 (.slice s1.a s1.n s1.c) rfl rfl rfl rfl rfl Ty37 rfl rfl rfl (by show 0 + (digitOf x1.key l) * 1 < 16; omega) K17 fun w17 K18 M18 => ⟨(kp_skip (by kernel_rfl) (kp_skip (by kernel_rfl) kp_nil)), ?_⟩)
     rw [ps_set _ _ (digitOf_lt _ _)] at K18
     refine G.fin (by kernel_rfl) ?_
     refine block_normal (hk14 _ _ (wp_region_lit ?_))
     refine Zc 50 (.int .i64 ((k + 1 : Nat) : Int)) (okv (v := .int .i64 (IntKind.i64.wrap (((k : Nat) : Int) + 1))) (by kernel_rfl) (wrapn (by omega) (by omega))) ?_
     refine Zb 32 (.int .i64 ((k + 1 : Nat) : Int)) ?_
     refine wpList_nil ?_
     have hpts_6 := hP2.mv M18 (fun x h1 h2 (h : x = 1) => by omega)
     have hs_5 := h1.mv M12 quiet
     have hs_6 := hs_5.mv M13 (neq (by omega))
     have hs_7 := hs_6.mv M14 quiet
     have hs_8 := hs_7.mv M15 quiet
     have hs_9 := hs_8.mv M16 quiet
     have hs_10 := hs_9.mv M17 (neq (by omega))
     have hs_11 := hs_10.mv M18 (neq (by omega))
     exact ⟨its.length - (k + 1), _, by omega, (((((((look_eq (t := 1) (v := .int .i64 ↑l) rfl).trans (look_eq (t := 6) (v := .pointer (some ⟨b1, 0, none⟩)) rfl)).trans (look_eq (t := 7) (v := .pointer (some ⟨b2, 0, none⟩)) rfl)).trans (look_eq (t := 8) (v := .slice (some ⟨b3, 0, none⟩) 16 16) rfl)).trans (look_eq (t := 30) (v := .slice s.a s.n s.c) rfl)).trans (look_eq (t := 31) (v := .int .i64 (s.n : Int)) rfl)).trans (look_eq (t := 32) (v := .int .i64 (((k + 1) : Nat) : Int)) rfl)), ⟨(k + 1), (upd ps (digitOf x1.key l) s1), _, _, rfl, rfl, K18.tail.tail, (((((((M11.trans (M12.mono nt_le)).trans (M13.mono (eq_rg (by omega)))).trans (M14.mono nt_le)).trans (M15.mono nt_le)).trans (M16.mono nt_le)).trans (M17.mono (eq_rg (by omega)))).trans (M18.mono (eq_rg (by omega)))), by omega, hs_11, (by rw [take_snoc hx1]; exact hpts_6)⟩⟩
    ·refine Zc 33 (.bool false) (okv (by kernel_rfl) (congrArg Value.bool (decide_eq_false t3))) ?_
     refine wpList_nil (hk12 _ _ (wp_seq_k fun k17 hk17 => (W.cond false rfl (wp_exit (then_exit ?_)))))
     have hk9 : k = its.length := by omega
     have M19 := Mv.recolR w11 g4 t0 (t0 + 16) 0
     have K19 := K11.step M19 (rg_lo (by omega)) (nrg (by omega))
     have hI1 := h2.ice
     rw [hk9, List.take_length] at hI1
     refine then_exit (block_exit (hk10 _ _ (wp_seq_k fun k18 hk18 => (wp_seq_k fun k19 hk19 => (wp_region_lit ?_)))))
     refine Zb 51 (.slice (some ⟨b3, 0, none⟩) 16 16) ?_
     refine Zb 52 (.int .i64 16) ?_
     refine Zb 53 (.int .i64 0) ?_
     refine wpList_nil (hk19 _ _ (wp_block ?_))
     have hG2 : Gs (t0 + 20) 109 8 PlC.cells w11 (recolR g4 t0 (t0 + 16) 0) nilS [] := Gs.nil _ _ _ _ (fun _ => rfl)
     have hm1 : KidsM f w11 (recolR g4 t0 (t0 + 16) 0) [] := fun i c hc => by simp at hc
     refine W.loop (fun (μ0 : Nat) (ws : List (Nat × Value)) (w' : World) => ∃ (j : Nat) (kl : Sli) (cs : List PlC) (γ' : Tg) (ρ0 : List (Nat × Value)), μ0 = 16 - j ∧ ws = ((53, .int .i64 ↑j) :: (52, .int .i64 16) :: (51, .slice (some ⟨b3, 0, none⟩) 16 16) :: (7, .pointer (some ⟨b2, 0, none⟩)) :: (6, .pointer (some ⟨b1, 0, none⟩)) :: (1, .int .i64 ↑l) :: ρ0) ∧ Kn (Lo Nt t0) w γ [(b3, 37, (psCells ps)), (b2, 109, [.bool false, .int .i64 0, .int .i64 0, .int .i64 had, .int .i64 (s.n : Int), .bool false, .slice none 0 0, .slice kl.a kl.n kl.c]), (b1, 109, [.bool false, .int .i64 0, .int .i64 0, .int .i64 0, .int .i64 0, .bool false, .slice none 0 0, .slice none 0 0])] w' γ' ∧ Mv (Rg 1 (t0 + 40)) w11 (recolR g4 t0 (t0 + 16) 0) w' γ' ∧ (j ≤ 16) ∧ (cs.length = j) ∧ PtsL l w' γ' ps its ∧ Gs (t0 + 20) 109 8 PlC.cells w' γ' kl cs ∧ KidsM f w' γ' cs) (16 - 0) ((((((look_eq (t := 1) (v := .int .i64 ↑l) rfl).trans (look_eq (t := 6) (v := .pointer (some ⟨b1, 0, none⟩)) rfl)).trans (look_eq (t := 7) (v := .pointer (some ⟨b2, 0, none⟩)) rfl)).trans (look_eq (t := 51) (v := .slice (some ⟨b3, 0, none⟩) 16 16) rfl)).trans (look_eq (t := 52) (v := .int .i64 16) rfl)).trans (look_eq (t := 53) (v := .int .i64 ↑0) rfl)) ?_ ?_
     ·exact ⟨0, nilS, [], _, _, rfl, rfl, K19, Mv.refl _ _ _, Nat.zero_le _, rfl, hI1, hG2, hm1⟩
     ·rintro _ _ w18 ⟨j, kl, cs, g9, r2, rfl, rfl, K20, M20, p2, p3, h3, h4, h5⟩
      refine wp_seq_k fun k20 hk20 => (wp_region_lit ?_)
      by_cases t4 : ((j : Nat) : Int) < 16
      ·refine Zc 54 (.bool true) (okv (by kernel_rfl) (congrArg Value.bool (decide_eq_true t4))) ?_
       refine wpList_nil (hk20 _ _ (wp_seq_k fun k21 hk21 => (W.cond true rfl (wp_skip (hk21 _ _ (wp_seq_k fun k22 hk22 => ?_))))))
       refine wp_block (wp_seq_k fun k23 hk23 => (wp_region_lit ?_))
       refine Zc 55 (.pointer (some ⟨b3, 0 + j * 1, none⟩)) (exec_index (E := 37) (k := j) rfl (by kernel_rfl) (by kernel_rfl) rfl rfl rfl (by omega)) ?_
       refine Zc 56 (.slice ((ps j).a) ((ps j).n) ((ps j).c)) (exec_load rfl rfl Ty37 (((K20.nth 0 rfl).cell _).trans (ps_get ps j (by omega)))) ?_
       refine Zb 13 (.slice ((ps j).a) ((ps j).n) ((ps j).c)) ?_
       refine wpList_nil (hk23 _ _ (wp_region_G (SmL [(1, Nt)] w18 g9) (by kernel_rfl) ?_))
       have K21 := K20.drew
       have M21 : Mv Nt w18 g9 w18.drew g9 := (Mv.refl _ _ _).drew
       refine Yb 0 57 (.pointer (some ⟨b2, 7, none⟩)) rfl (fun u => by kernel_rfl) ?_
       refine G.take 1 58 (.slice kl.a kl.n kl.c) rfl (by kernel_rfl) rfl (fun _ _ _ h => h) ((Mv.refl _ _ _).trans (M21.mono (fun _ h => h))).self (by kernel_rfl) (fun u hm => exec_load rfl rfl Ty107 ((K20.later 1 rfl hm quiet).cell 7)) ?_
       refine Yb 2 59 (.slice ((ps j).a) ((ps j).n) ((ps j).c)) rfl (fun u => by kernel_rfl) ?_
       refine Yb 3 60 (.int .i64 ↑l) rfl (fun u => by kernel_rfl) ?_
       refine Yb 4 61 (.int .i64 ((l + 1 : Nat) : Int)) rfl (fun u => okv (v := .int .i64 (IntKind.i64.wrap (((l : Nat) : Int) + 1))) ((fun u => by kernel_rfl) u) (wrapn (by omega) (by omega))) ?_
       have hpl_1 := h3.mv M21 quiet
       refine G.op 5 (by kernel_rfl) rfl (O.call 62 65 #[.slice ((ps j).a) ((ps j).n) ((ps j).c), .int .i64 ((l + 1 : Nat) : Int), .int .i64 0] (by kernel_rfl) rfl (by kernel_rfl) ((hrec j (by omega) (ps j) _ K21.mv (nlo quiet (by omega)) (hpl_1 j (by omega))).mono ?_))
       rintro e2 w19 ⟨g10, c1, rfl, M22, hc1⟩
       have K22 := K21.step M22 nt_le quiet
       refine ⟨_, rfl, ⟨kp_nt ((Mv.refl _ _ _).trans M22) _, ?_⟩⟩
       refine G.op 6 (by kernel_rfl) rfl (O.lit 63 109 [.bool c1.stays, .int .i64 c1.ref.num, .int .i64 c1.ref.gen, .int .i64 c1.had, .int .i64 c1.cnt, .bool c1.leaf, .slice c1.sl.a c1.sl.n c1.sl.c, .slice c1.kl.a c1.kl.n c1.kl.c] 1 rfl rfl (by kernel_rfl) K22 fun b7 w20 g11 K23 M23 => ⟨kp_nt ((Mv.refl _ _ _).trans M23) _, ?_⟩)
       have hkids_1 := h4.mv M21 quiet
       have hkids_2 := hkids_1.mv M22 quiet
       have hkids_3 := hkids_2.mv M23 quiet
       refine G.op 7 (by kernel_rfl) rfl (O.append (f := PlC.cells) 64 [c1] (by kernel_rfl) rfl rfl (by kernel_rfl) El109 rfl rfl hkids_3 rfl (src1 (K23.nth 0 rfl) rfl) (fun _ => rfl) (by simp only [List.length_append, List.length_cons, List.length_nil]; omega) (by simp only [List.length_append, List.length_cons, List.length_nil]; omega) fun s2 w21 g12 hG3 M24 => ⟨(kp_skip (by kernel_rfl) kp_nil), ?_⟩)
       have K24 := K23.step M24 (eq_lo (by omega)) (neq (by omega))
       have n4 := hG3.len
       refine Yb 8 65 (.pointer (some ⟨b2, 7, none⟩)) rfl (fun u => by kernel_rfl) ?_
       refine G.op 9 (by kernel_rfl) rfl (O.st 2 (.slice s2.a s2.n s2.c) rfl rfl rfl rfl rfl Ty107 rfl rfl rfl (Nat.le_of_ble_eq_true rfl) K24 fun w22 K25 M25 => ⟨(kp_skip (by kernel_rfl) kp_nil), ?_⟩)
       refine G.fin (by kernel_rfl) ?_
       refine block_normal (hk22 _ _ (wp_region_lit ?_))
       refine Zc 66 (.int .i64 ((j + 1 : Nat) : Int)) (okv (v := .int .i64 (IntKind.i64.wrap (((j : Nat) : Int) + 1))) (by kernel_rfl) (wrapn (by omega) (by omega))) ?_
       refine Zb 53 (.int .i64 ((j + 1 : Nat) : Int)) ?_
       refine wpList_nil ?_
       have hkids2_1 := hG3.mv M25 (neq (by omega))
       have hpm_1 := h5.mv M21 quiet
       have hpm_2 := hpm_1.mv M22 quiet
       have hpm_3 := hpm_2.mv M23 quiet
       have hpm_4 := hpm_3.mv M24 (neq (by omega))
       have hpm_5 := hpm_4.mv M25 (neq (by omega))
       have hnew_1 := hc1.mv M23 quiet
       have hnew_2 := hnew_1.mv M24 (neq (by omega))
       have hnew_3 := hnew_2.mv M25 (neq (by omega))
       have hpl_2 := hpl_1.mv M22 quiet
       have hpl_3 := hpl_2.mv M23 quiet
       have hpl_4 := hpl_3.mv M24 (neq (by omega))
       have hpl_5 := hpl_4.mv M25 (neq (by omega))
       exact ⟨16 - (j + 1), _, by omega, ((((((look_eq (t := 1) (v := .int .i64 ↑l) rfl).trans (look_eq (t := 6) (v := .pointer (some ⟨b1, 0, none⟩)) rfl)).trans (look_eq (t := 7) (v := .pointer (some ⟨b2, 0, none⟩)) rfl)).trans (look_eq (t := 51) (v := .slice (some ⟨b3, 0, none⟩) 16 16) rfl)).trans (look_eq (t := 52) (v := .int .i64 16) rfl)).trans (look_eq (t := 53) (v := .int .i64 (((j + 1) : Nat) : Int)) rfl)), ⟨(j + 1), s2, (cs ++ [c1]), _, _, rfl, rfl, K25.tail, (((((M20.trans (M21.mono nt_le)).trans (M22.mono nt_le)).trans (M23.mono nt_le)).trans (M24.mono (eq_rg (by omega)))).trans (M25.mono (eq_rg (by omega)))), by omega, by rw [List.length_append, p3]; rfl, hpl_5, hkids2_1, (hpm_5.snoc (by rw [p3]; exact hnew_3))⟩⟩
      ·refine Zc 54 (.bool false) (okv (by kernel_rfl) (congrArg Value.bool (decide_eq_false t4))) ?_
       refine wpList_nil (hk20 _ _ (wp_seq_k fun k24 hk24 => (W.cond false rfl (wp_exit (then_exit (then_exit ?_))))))
       refine block_exit (hk18 _ _ (wp_seq_k fun k25 hk25 => (wp_region_lit ?_)))
       refine Zc 67 (.agg #[.bool false, .int .i64 0, .int .i64 0, .int .i64 had, .int .i64 (s.n : Int), .bool false, .slice none 0 0, .slice kl.a kl.n kl.c]) (exec_loads (cs := [.bool false, .int .i64 0, .int .i64 0, .int .i64 had, .int .i64 (s.n : Int), .bool false, .slice none 0 0, .slice kl.a kl.n kl.c]) rfl rfl Ty109 rfl ((K20.nth 1 rfl).all 8)) ?_
       refine W.op (O.sta 2 [.bool false, .int .i64 0, .int .i64 0, .int .i64 had, .int .i64 (s.n : Int), .bool false, .slice none 0 0, .slice kl.a kl.n kl.c] rfl rfl rfl rfl rfl Ty109 rfl rfl rfl rfl K20 fun w23 K26 M26 => ?_)
       refine wpList_nil (hk25 _ _ (wp_ret (W.ret1 (v := .agg #[.bool false, .int .i64 0, .int .i64 0, .int .i64 had, .int .i64 (s.n : Int), .bool false, .slice none 0 0, .slice kl.a kl.n kl.c]) rfl (.agg (cs := [.bool false, .int .i64 0, .int .i64 0, .int .i64 had, .int .i64 (s.n : Int), .bool false, .slice none 0 0, .slice kl.a kl.n kl.c]) rfl Ty109 rfl ((K26.nth 2 rfl).all 8) .nil) ?_)))
       have hkids_4 := h4.mv M26 (neq (by omega))
       have M27 := Mv.recol w23 g9 (t0 + 20) 0
       have K27 := K26.step M27 (eq_lo (by omega)) (neq (by omega))
       have h6 := hkids_4.ice
       have hpm_6 := h5.mv M26 (neq (by omega))
       have hpm_7 := hpm_6.mv M27 (neq (by omega))
       exact ⟨_, ⟨false, ⟨0, 0⟩, had, its.length, false, nilS, kl⟩, by rw [← hs.len], (K27.mv.shut hf0), hpm_7.branch (by omega) h6⟩

theorem built_c : ∀ (n : Nat) (s : Sli) (its : List Item) (l : Nat) (had : Int) (w : World) (γ : Tg), l + n = 16 → Ls 7 Item.cells w γ s its → its.length ≤ 100000 → (∀ x ∈ its, x.key.size < 9223372036854775807) →
    Calls Try.prog 65 #[.slice s.a s.n s.c, .int .i64 ((l : Nat) : Int), .int .i64 had] w fun ε w' => ∃ γ' c, ε = .returned (.agg (PlC.cells c).toArray) ∧ Mv Nt w γ w' γ' ∧ PlM (bld n its had) w' γ' c
  | 0, s, its, l, had, w, γ, hn, hs, hl, hk => builtLeaf_c s its l had w γ hs hl (.inr (by omega))
  | n + 1, s, its, l, had, w, γ, hn, hs, hl, hk => by
    by_cases h : its.length ≤ 4
    · rw [bld, if_pos h]
      exact builtLeaf_c s its l had w γ hs hl (.inl h)
    · rw [bld, if_neg h]
      refine builtBranch_step s its l had _ w γ hs hl hk (by omega) (by omega) ?_
      intro j hj sj U v g m hU hsj
      have e : 15 - n = l := by omega
      rw [e]
      exact built_c n sj _ (l + 1) 0 v g (by omega) hsj (Nat.le_trans (List.length_filter_le _ _) hl) (fun x hx => hk x (List.mem_filter.1 hx).1)

end Go.Proofs.Ytlfanphdnjoofaa
