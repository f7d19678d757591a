/- Walks: plans laid down. -/
import Derived.Test.YtlfanphdnjoofaaT7
import Derived.Test.YtlfanphdnjoofaaT6
namespace Go.Proofs.Ytlfanphdnjoofaa
open Go.RowKit
set_option linter.unusedSimpArgs false
set_option linter.unusedVariables false
attribute [local irreducible] wpList Code.wp Calls OpS wpG

set_option maxRecDepth 100000 in
set_option maxHeartbeats 1000000 in
theorem layStay_c (τ q p : Nat) (S : St) (r : Ref) (w : World) (γ : Tg) (hM : SM τ w γ q p S) (hτ : 2 ≤ τ) (h1 : S.σ.nodes.length ≤ 100000000) (h2 : S.σ.log.length ≤ 100000000) :
    Calls Try.prog 46 #[.pointer (some ⟨q, 0, none⟩), .agg #[.bool true, .int .i64 r.num, .int .i64 r.gen, .int .i64 0, .int .i64 0, .bool false, .slice none 0 0, .slice none 0 0]] w fun ε w' => ∃ γ' σ', ε = .returned (.tuple #[.agg (r).cells.toArray, .int .i64 (0)]) ∧ Mv (Rg τ (τ + 5)) w γ w' γ' ∧ SM τ w' γ' q p { S with σ := σ' } ∧ σ'.er = S.σ.er := by
 have K0 := Kn.start (Rg τ (τ + 5)) w γ
 refine W.enter (ws := [(1, .agg #[.bool true, .int .i64 r.num, .int .i64 r.gen, .int .i64 0, .int .i64 0, .bool false, .slice none 0 0, .slice none 0 0]), (0, .pointer (some ⟨q, 0, none⟩))]) 62 Try.func46 rfl (by kernel_rfl) ?_
 refine wp_seq_k fun k1 hk1 => (wp_region_lit ?_)
 refine W.op (O.new 3 109 [.bool true, .int .i64 r.num, .int .i64 r.gen, .int .i64 0, .int .i64 0, .bool false, .slice none 0 0, .slice none 0 0] rfl rfl (by kernel_rfl) K0 fun b1 w1 g1 K1 M1 => ?_)
 refine W.op (O.new 4 31 [.int .i64 0, .int .i64 0] rfl rfl (by kernel_rfl) K1 fun b2 w2 g2 K2 M2 => ?_)
 refine Zb 5 (.int .i64 0) ?_
 refine wpList_nil (hk1 _ _ (wp_seq_k fun k2 hk2 => (wp_seq_k fun k3 hk3 => (wp_region_lit ?_))))
 refine Zb 11 (.pointer (some ⟨b1, 0, none⟩)) ?_
 refine Zc 12 (.bool true) (exec_load rfl rfl Ty4 ((K2.nth 1 rfl).cell 0)) ?_
 refine wpList_nil (hk3 _ _ (W.cond true rfl (wp_seq_k fun k4 hk4 => (wp_region_lit ?_))))
 refine Zb 13 (.pointer (some ⟨b1, 1, none⟩)) ?_
 refine Zc 14 (.agg #[.int .i64 r.num, .int .i64 r.gen]) (exec_loads (cs := [.int .i64 r.num, .int .i64 r.gen]) rfl rfl Ty31 rfl ((K2.nth 1 rfl).part 1 2)) ?_
 refine W.op (O.sta 0 [.int .i64 r.num, .int .i64 r.gen] rfl rfl rfl rfl rfl Ty31 rfl rfl rfl rfl K2 fun w3 K3 M3 => ?_)
 refine Zb 5 (.int .i64 0) ?_
 refine wpList_nil (hk4 _ _ (wp_ret (then_ret (W.rets (vs := [.agg #[.int .i64 r.num, .int .i64 r.gen], .int .i64 0]) rfl (.agg (cs := [.int .i64 r.num, .int .i64 r.gen]) rfl Ty31 rfl ((K3.nth 0 rfl).all 2) (.tmp rfl .nil)) (by simp) ?_))))
 have hM_1 := hM.mv M1 quiet quiet quiet quiet quiet quiet
 have hM_2 := hM_1.mv M2 quiet quiet quiet quiet quiet quiet
 have hM_3 := hM_2.mv M3 (neq (by omega)) (neq (by omega)) (neq (by omega)) (neq (by omega)) (neq (by omega)) (neq (by omega))
 exact ⟨_, S.σ, rfl, K3.mv, hM_3, rfl⟩

set_option maxRecDepth 100000 in
set_option maxHeartbeats 1000000 in
theorem layLeaf_c (τ q p : Nat) (S : St) (had : Int) (its : List Item) (sl : Sli) (w : World) (γ : Tg) (hM : SM τ w γ q p S) (hτ : 2 ≤ τ) (h1 : S.σ.nodes.length ≤ 100000000) (h2 : S.σ.log.length ≤ 100000000) (hls : Ls 7 Item.cells w γ sl its) (hsl : its.length ≤ 100000) :
    Calls Try.prog 46 #[.pointer (some ⟨q, 0, none⟩), .agg #[.bool false, .int .i64 0, .int .i64 0, .int .i64 had, .int .i64 ((its.length : Nat) : Int), .bool true, .slice sl.a sl.n sl.c, .slice none 0 0]] w fun ε w' => ∃ γ' σ', ε = .returned (.tuple #[.agg ((layM (.leaf had its) S.σ.er).1.1).cells.toArray, .int .i64 ((layM (.leaf had its) S.σ.er).1.2)]) ∧ Mv (Rg τ (τ + 5)) w γ w' γ' ∧ SM τ w' γ' q p { S with σ := σ' } ∧ σ'.er = (layM (.leaf had its) S.σ.er).2 := by
 have K0 := Kn.start (Rg τ (τ + 5)) w γ
 refine W.enter (ws := [(1, .agg #[.bool false, .int .i64 0, .int .i64 0, .int .i64 had, .int .i64 ↑its.length, .bool true, .slice sl.a sl.n sl.c, .slice none 0 0]), (0, .pointer (some ⟨q, 0, none⟩))]) 62 Try.func46 rfl (by kernel_rfl) ?_
 obtain ⟨hT, ⟨sr, hq, hr⟩⟩ := hM
 have n1 := hr.len
 have n2 := hls.len
 refine wp_seq_k fun k1 hk1 => (wp_region_lit ?_)
 refine W.op (O.new 3 109 [.bool false, .int .i64 0, .int .i64 0, .int .i64 had, .int .i64 ↑its.length, .bool true, .slice sl.a sl.n sl.c, .slice none 0 0] rfl rfl (by kernel_rfl) K0 fun b1 w1 g1 K1 M1 => ?_)
 refine W.op (O.new 4 31 [.int .i64 0, .int .i64 0] rfl rfl (by kernel_rfl) K1 fun b2 w2 g2 K2 M2 => ?_)
 refine Zb 5 (.int .i64 0) ?_
 refine wpList_nil (hk1 _ _ (wp_seq_k fun k2 hk2 => (wp_seq_k fun k3 hk3 => (wp_region_lit ?_))))
 refine Zb 11 (.pointer (some ⟨b1, 0, none⟩)) ?_
 refine Zc 12 (.bool false) (exec_load rfl rfl Ty4 ((K2.nth 1 rfl).cell 0)) ?_
 refine wpList_nil (hk3 _ _ (W.cond false rfl (wp_skip (hk2 _ _ (wp_seq_k fun k4 hk4 => (wp_seq_k fun k5 hk5 => ?_))))))
 refine wp_region_lit ?_
 refine Zb 15 (.pointer (some ⟨b1, 5, none⟩)) ?_
 refine Zc 16 (.bool true) (exec_load rfl rfl Ty4 ((K2.nth 1 rfl).cell 5)) ?_
 refine Zb 17 (.bool true) ?_
 refine Zd 18 (.pointer (some ⟨b1, 6, none⟩)) ?_
 refine W.op (O.gv 19 (.slice sl.a sl.n sl.c) (by kernel_rfl) rfl (exec_load rfl rfl Ty37 ((K2.nth 1 rfl).cell 6)) ?_)
 refine Zd 20 (.int .i64 (sl.n : Int)) ?_
 by_cases t1 : (sl.n : Int) = 0
 ·refine W.op (O.gv 21 (.bool true) (by kernel_rfl) rfl (okv (by kernel_rfl) (congrArg Value.bool (beq_iff_eq.2 t1))) ?_)
  refine Zb 22 (.bool true) ?_
  refine wpList_nil (hk5 _ _ (W.cond true rfl (wp_seq_k fun k6 hk6 => (wp_region_lit ?_))))
  refine Zb 23 (.agg #[.int .i64 0, .int .i64 0]) ?_
  refine W.op (O.sta 0 [.int .i64 0, .int .i64 0] rfl rfl rfl rfl rfl Ty31 rfl rfl rfl rfl K2 fun w3 K3 M3 => ?_)
  refine Zb 5 (.int .i64 0) ?_
  refine wpList_nil (hk6 _ _ (wp_ret (then_ret (W.rets (vs := [.agg #[.int .i64 0, .int .i64 0], .int .i64 0]) rfl (.agg (cs := [.int .i64 0, .int .i64 0]) rfl Ty31 rfl ((K3.nth 0 rfl).all 2) (.tmp rfl .nil)) (by simp) ?_))))
  have e : layM (.leaf had its) S.σ.er = ((⟨0, 0⟩, 0), S.σ.er) := by simp only [layM, show (its.length == 0) = true from (by rw [beq_iff_eq]; omega), cond_true]
  rewrite [e]
  have hT_1 := hT.mv M1 quiet quiet quiet quiet
  have hT_2 := hT_1.mv M2 quiet quiet quiet quiet
  have hT_3 := hT_2.mv M3 (neq (by omega)) (neq (by omega)) (neq (by omega)) (neq (by omega))
  have hq_1 := hq.mv M1 quiet
  have hq_2 := hq_1.mv M2 quiet
  have hq_3 := hq_2.mv M3 (neq (by omega))
  have hrs_1 := hr.mv M1 quiet
  have hrs_2 := hrs_1.mv M2 quiet
  have hrs_3 := hrs_2.mv M3 (neq (by omega))
  exact ⟨_, S.σ, rfl, K3.mv, ⟨hT_3, ⟨sr, hq_3, hrs_3⟩⟩, rfl⟩
 ·refine W.op (O.gv 21 (.bool false) (by kernel_rfl) rfl (okv (by kernel_rfl) (congrArg Value.bool (beq_eq_false_iff_ne.2 t1))) ?_)
  refine Zb 22 (.bool false) ?_
  refine wpList_nil (hk5 _ _ (W.cond false rfl (wp_skip (hk4 _ _ (wp_seq_k fun k7 hk7 => (wp_region_lit ?_))))))
  refine Zb 24 (.pointer (some ⟨b1, 5, none⟩)) ?_
  refine Zc 25 (.bool true) (exec_load rfl rfl Ty4 ((K2.nth 1 rfl).cell 5)) ?_
  refine Zb 26 (.pointer (some ⟨b1, 4, none⟩)) ?_
  refine Zc 27 (.int .i64 ↑its.length) (exec_load rfl rfl Ty3 ((K2.nth 1 rfl).cell 4)) ?_
  refine Zb 28 (.pointer (some ⟨b1, 6, none⟩)) ?_
  refine Zc 29 (.slice sl.a sl.n sl.c) (exec_load rfl rfl Ty37 ((K2.nth 1 rfl).cell 6)) ?_
  refine Zb 30 (.agg #[.bool true, .int .i64 ↑its.length, .slice sl.a sl.n sl.c, .int .i64 0, .int .i64 0, .int .i64 0, .int .i64 0, .int .i64 0, .int .i64 0, .int .i64 0, .int .i64 0, .int .i64 0, .int .i64 0, .int .i64 0, .int .i64 0, .int .i64 0, .int .i64 0, .int .i64 0, .int .i64 0, .int .i64 0, .int .i64 0, .int .i64 0, .int .i64 0, .int .i64 0, .int .i64 0, .int .i64 0, .int .i64 0, .int .i64 0, .int .i64 0, .int .i64 0, .int .i64 0, .int .i64 0, .int .i64 0, .int .i64 0, .int .i64 0]) ?_
  refine W.op (O.new 6 66 Z66 rfl rfl (by kernel_rfl) K2 fun b3 w4 g3 K4 M4 => ?_)
  refine W.op (O.sta 0 [.bool true, .int .i64 ↑its.length, .slice sl.a sl.n sl.c, .int .i64 0, .int .i64 0, .int .i64 0, .int .i64 0, .int .i64 0, .int .i64 0, .int .i64 0, .int .i64 0, .int .i64 0, .int .i64 0, .int .i64 0, .int .i64 0, .int .i64 0, .int .i64 0, .int .i64 0, .int .i64 0, .int .i64 0, .int .i64 0, .int .i64 0, .int .i64 0, .int .i64 0, .int .i64 0, .int .i64 0, .int .i64 0, .int .i64 0, .int .i64 0, .int .i64 0, .int .i64 0, .int .i64 0, .int .i64 0, .int .i64 0, .int .i64 0] rfl rfl rfl rfl rfl Ty66 rfl rfl rfl rfl K4 fun w5 K5 M5 => ?_)
  refine wpList_nil (hk7 _ _ (wp_seq_k fun k8 hk8 => (wp_seq_k fun k9 hk9 => (wp_region_lit ?_))))
  refine Zb 31 (.pointer (some ⟨b1, 7, none⟩)) ?_
  refine Zc 32 (.slice none 0 0) (exec_load rfl rfl Ty107 ((K5.nth 2 rfl).cell 7)) ?_
  refine Zb 33 (.int .i64 0) ?_
  refine Zb 34 (.int .i64 0) ?_
  refine wpList_nil (hk9 _ _ (wp_block ?_))
  refine W.loop (fun (μ0 : Nat) (ws : List (Nat × Value)) (w' : World) => ∃  (γ' : Tg) (ρ0 : List (Nat × Value)), μ0 = 0 ∧ ws = ((34, .int .i64 0) :: (33, .int .i64 0) :: (32, .slice none 0 0) :: (6, .pointer (some ⟨b3, 0, none⟩)) :: (4, .pointer (some ⟨b2, 0, none⟩)) :: (0, .pointer (some ⟨q, 0, none⟩)) :: ρ0) ∧ Kn (Rg τ (τ + 5)) w γ [(b3, 66, [.bool true, .int .i64 ↑its.length, .slice sl.a sl.n sl.c, .int .i64 0, .int .i64 0, .int .i64 0, .int .i64 0, .int .i64 0, .int .i64 0, .int .i64 0, .int .i64 0, .int .i64 0, .int .i64 0, .int .i64 0, .int .i64 0, .int .i64 0, .int .i64 0, .int .i64 0, .int .i64 0, .int .i64 0, .int .i64 0, .int .i64 0, .int .i64 0, .int .i64 0, .int .i64 0, .int .i64 0, .int .i64 0, .int .i64 0, .int .i64 0, .int .i64 0, .int .i64 0, .int .i64 0, .int .i64 0, .int .i64 0, .int .i64 0]), (b2, 31, [.int .i64 0, .int .i64 0]), (b1, 109, [.bool false, .int .i64 0, .int .i64 0, .int .i64 had, .int .i64 ↑its.length, .bool true, .slice sl.a sl.n sl.c, .slice none 0 0])] w' γ' ∧ Mv Nt w5 g3 w' γ') (0) ((((((look_eq (t := 0) (v := .pointer (some ⟨q, 0, none⟩)) rfl).trans (look_eq (t := 4) (v := .pointer (some ⟨b2, 0, none⟩)) rfl)).trans (look_eq (t := 6) (v := .pointer (some ⟨b3, 0, none⟩)) rfl)).trans (look_eq (t := 32) (v := .slice none 0 0) rfl)).trans (look_eq (t := 33) (v := .int .i64 0) rfl)).trans (look_eq (t := 34) (v := .int .i64 0) rfl)) ?_ ?_
  ·exact ⟨_, _, rfl, rfl, K5, Mv.refl _ _ _⟩
  ·rintro _ _ w6 ⟨g4, r1, rfl, rfl, K6, M6⟩
   refine wp_seq_k fun k10 hk10 => (wp_region_lit ?_)
   refine Zb 35 (.bool false) ?_
   refine wpList_nil (hk10 _ _ (wp_seq_k fun k11 hk11 => (W.cond false rfl (wp_exit (then_exit (then_exit ?_))))))
   refine block_exit (hk8 _ _ (wp_seq_k fun k12 hk12 => (wp_region_G (SmL [(3, Nt), (4, Nt)] w6 g4) (by kernel_rfl) ?_)))
   have K7 := K6.drew
   have M7 : Mv Nt w6 g4 w6.drew g4 := (Mv.refl _ _ _).drew
   refine Yb 0 54 (.pointer (some ⟨q, 0, none⟩)) rfl (fun u => by kernel_rfl) ?_
   refine Yb 1 55 (.pointer (some ⟨q, 0, none⟩)) rfl (fun u => by kernel_rfl) ?_
   refine Yb 2 56 (.pointer (some ⟨q, 0, none⟩)) rfl (fun u => by kernel_rfl) ?_
   have hq_4 := hq.mv M1 quiet
   have hq_5 := hq_4.mv M2 quiet
   have hq_6 := hq_5.mv M4 quiet
   have hq_7 := hq_6.mv M5 (neq (by omega))
   have hq_8 := hq_7.mv M6 quiet
   refine G.take 3 57 (.iface 29 (.pointer (some ⟨p, 0, none⟩))) rfl (by kernel_rfl) rfl (fun _ _ _ h => h) ((Mv.refl _ _ _).trans (M7.mono (fun _ h => h))).self (by kernel_rfl) (fun u hm => exec_load rfl rfl Ty88 (((hq_8.mv hm quiet).1).cell 0)) ?_
   refine G.take 4 58 (.agg #[.bool true, .int .i64 ↑its.length, .slice sl.a sl.n sl.c, .int .i64 0, .int .i64 0, .int .i64 0, .int .i64 0, .int .i64 0, .int .i64 0, .int .i64 0, .int .i64 0, .int .i64 0, .int .i64 0, .int .i64 0, .int .i64 0, .int .i64 0, .int .i64 0, .int .i64 0, .int .i64 0, .int .i64 0, .int .i64 0, .int .i64 0, .int .i64 0, .int .i64 0, .int .i64 0, .int .i64 0, .int .i64 0, .int .i64 0, .int .i64 0, .int .i64 0, .int .i64 0, .int .i64 0, .int .i64 0, .int .i64 0, .int .i64 0]) rfl (by kernel_rfl) rfl (fun _ _ _ h => h) ((Mv.refl _ _ _).trans (M7.mono (fun _ h => h))).self (by kernel_rfl) (fun u hm => exec_loads (cs := [.bool true, .int .i64 ↑its.length, .slice sl.a sl.n sl.c, .int .i64 0, .int .i64 0, .int .i64 0, .int .i64 0, .int .i64 0, .int .i64 0, .int .i64 0, .int .i64 0, .int .i64 0, .int .i64 0, .int .i64 0, .int .i64 0, .int .i64 0, .int .i64 0, .int .i64 0, .int .i64 0, .int .i64 0, .int .i64 0, .int .i64 0, .int .i64 0, .int .i64 0, .int .i64 0, .int .i64 0, .int .i64 0, .int .i64 0, .int .i64 0, .int .i64 0, .int .i64 0, .int .i64 0, .int .i64 0, .int .i64 0, .int .i64 0]) rfl rfl Ty66 rfl ((K6.later 0 rfl hm quiet).all 35)) ?_
   have hits_1 := hls.mv M1 quiet
   have hits_2 := hits_1.mv M2 quiet
   have hits_3 := hits_2.mv M4 quiet
   have hits_4 := hits_3.mv M5 (neq (by omega))
   have hits_5 := hits_4.mv M6 quiet
   have hits_6 := hits_5.mv M7 quiet
   have hT_4 := hT.mv M1 quiet quiet quiet quiet
   have hT_5 := hT_4.mv M2 quiet quiet quiet quiet
   have hT_6 := hT_5.mv M4 quiet quiet quiet quiet
   have hT_7 := hT_6.mv M5 (neq (by omega)) (neq (by omega)) (neq (by omega)) (neq (by omega))
   have hT_8 := hT_7.mv M6 quiet quiet quiet quiet
   have hT_9 := hT_8.mv M7 quiet quiet quiet quiet
   refine G.op 5 (by kernel_rfl) rfl (O.call 59 75 #[.pointer (some ⟨p, 0, none⟩), .agg #[.bool true, .int .i64 ↑its.length, .slice sl.a sl.n sl.c, .int .i64 0, .int .i64 0, .int .i64 0, .int .i64 0, .int .i64 0, .int .i64 0, .int .i64 0, .int .i64 0, .int .i64 0, .int .i64 0, .int .i64 0, .int .i64 0, .int .i64 0, .int .i64 0, .int .i64 0, .int .i64 0, .int .i64 0, .int .i64 0, .int .i64 0, .int .i64 0, .int .i64 0, .int .i64 0, .int .i64 0, .int .i64 0, .int .i64 0, .int .i64 0, .int .i64 0, .int .i64 0, .int .i64 0, .int .i64 0, .int .i64 0, .int .i64 0]] (by kernel_rfl) rfl (by kernel_rfl) ((tapeAlloc_c τ p S.σ (⟨true, (its.length : Int), sl, its, fun _ => ⟨0, 0⟩⟩ : Nd) w6.drew g4 hT_9 hits_6 hsl hτ (by first | omega | exact hn9) (by first | omega | exact hl9)).mono ?_))
   rintro e1 w7 ⟨g5, s1, s2, rfl, M8, hT1⟩
   have K8 := K7.step M8 (rg_rg (by omega) (by omega)) (nrg (by omega))
   refine ⟨_, rfl, ⟨(kp_skip (by kernel_rfl) (kp_skip (by kernel_rfl) kp_nil)), ?_⟩⟩
   refine Yb 6 60 (.agg S.σ.newRef.cells.toArray) rfl (fun u => by kernel_rfl) ?_
   refine Yb 7 61 (.int .i64 S.σ.newErr) rfl (fun u => by kernel_rfl) ?_
   refine G.op 8 (by kernel_rfl) rfl (O.sta 1 S.σ.newRef.cells rfl rfl rfl rfl rfl Ty31 rfl rfl rfl rfl K8 fun w8 K9 M9 => ⟨(kp_skip (by kernel_rfl) (kp_skip (by kernel_rfl) kp_nil)), ?_⟩)
   refine Yb 9 5 (.int .i64 S.σ.newErr) rfl (fun u => by kernel_rfl) ?_
   refine G.fin (by kernel_rfl) ?_
   refine hk12 _ _ (wp_ret (W.rets (vs := [.agg S.σ.newRef.cells.toArray, .int .i64 S.σ.newErr]) rfl (.agg (cs := S.σ.newRef.cells) rfl Ty31 rfl ((K9.nth 1 rfl).all 2) (.tmp rfl .nil)) (by simp) ?_))
   have e : layM (.leaf had its) S.σ.er = S.σ.er.alloc ⟨true, its.length, nilS, its, fun _ => ⟨0, 0⟩⟩ := by simp only [layM, show (its.length == 0) = false from (by rw [beq_eq_false_iff_ne]; omega), cond_false]
   rewrite [e]
   unfold TapeS.alloc
   rewrite [TapeS.er_newRef, TapeS.er_newErr]
   have hT_10 := hT1.mv M9 (neq (by omega)) (neq (by omega)) (neq (by omega)) (neq (by omega))
   have hq_9 := hq.mv M1 quiet
   have hq_10 := hq_9.mv M2 quiet
   have hq_11 := hq_10.mv M4 quiet
   have hq_12 := hq_11.mv M5 (neq (by omega))
   have hq_13 := hq_12.mv M6 quiet
   have hq_14 := hq_13.mv M7 quiet
   have hq_15 := hq_14.mv M8 (nrg (by omega))
   have hq_16 := hq_15.mv M9 (neq (by omega))
   have hrs_4 := hr.mv M1 quiet
   have hrs_5 := hrs_4.mv M2 quiet
   have hrs_6 := hrs_5.mv M4 quiet
   have hrs_7 := hrs_6.mv M5 (neq (by omega))
   have hrs_8 := hrs_7.mv M6 quiet
   have hrs_9 := hrs_8.mv M7 quiet
   have hrs_10 := hrs_9.mv M8 (nrg (by omega))
   have hrs_11 := hrs_10.mv M9 (neq (by omega))
   exact ⟨_, _, rfl, K9.mv, ⟨hT_10, ⟨sr, hq_16, hrs_11⟩⟩, TapeS.er_laid _ _ _ _⟩

set_option maxRecDepth 100000 in
set_option maxHeartbeats 1000000 in
theorem layBranch_step (τ q p : Nat) (S : St) (had cnt : Int) (cs : List PlC) (kl : Sli) (f : Nat → TapeS → (Ref × Int) × TapeS) (sz : Nat → Nat) (F : ((Nat → Ref) × Int) × TapeS) (w : World) (γ : Tg) (hM : SM τ w γ q p S) (hτ : 2 ≤ τ) (h1 : S.σ.nodes.length + sumF sz 16 0 + 1 ≤ 100000000) (h2 : S.σ.log.length + sumF sz 16 0 + 1 ≤ 100000000) (hks : Ls 8 PlC.cells w γ kl cs) (hcl : cs.length = 16) (hF : layKids f 16 0 (fun _ => ⟨0, 0⟩) S.σ.er = F) (hrec : ∀ (j : Nat) (x : PlC), j < 16 → cs[j]? = some x → ∀ (σ1 : TapeS) (U : Nat → Prop) (v : World) (g : Tg), Mv U w γ v g → ¬ U 0 → SM τ v g q p { S with σ := σ1 } → σ1.nodes.length + sz j ≤ 100000000 → σ1.log.length + sz j ≤ 100000000 → Calls Try.prog 46 #[.pointer (some ⟨q, 0, none⟩), .agg x.cells.toArray] v fun ε v' => ∃ g' σ', ε = .returned (.tuple #[.agg (f j σ1.er).1.1.cells.toArray, .int .i64 (f j σ1.er).1.2]) ∧ Mv (Rg τ (τ + 5)) v g v' g' ∧ SM τ v' g' q p { S with σ := σ' } ∧ σ'.er = (f j σ1.er).2 ∧ σ'.nodes.length ≤ σ1.nodes.length + sz j ∧ σ'.log.length ≤ σ1.log.length + sz j) :
    Calls Try.prog 46 #[.pointer (some ⟨q, 0, none⟩), .agg #[.bool false, .int .i64 0, .int .i64 0, .int .i64 had, .int .i64 cnt, .bool false, .slice none 0 0, .slice kl.a kl.n kl.c]] w fun ε w' => ∃ γ' σ', ε = .returned (.tuple #[.agg ((brM cnt F).1.1).cells.toArray, .int .i64 ((brM cnt F).1.2)]) ∧ Mv (Rg τ (τ + 5)) w γ w' γ' ∧ SM τ w' γ' q p { S with σ := σ' } ∧ σ'.er = (brM cnt F).2 ∧ σ'.nodes.length ≤ S.σ.nodes.length + (sumF sz 16 0 + 1) ∧ σ'.log.length ≤ S.σ.log.length + (sumF sz 16 0 + 1) := by
 have K0 := Kn.start (Rg τ (τ + 5)) w γ
 refine W.enter (ws := [(1, .agg #[.bool false, .int .i64 0, .int .i64 0, .int .i64 had, .int .i64 cnt, .bool false, .slice none 0 0, .slice kl.a kl.n kl.c]), (0, .pointer (some ⟨q, 0, none⟩))]) 62 Try.func46 rfl (by kernel_rfl) ?_
 have n1 := hks.len
 refine wp_seq_k fun k1 hk1 => (wp_region_lit ?_)
 refine W.op (O.new 3 109 [.bool false, .int .i64 0, .int .i64 0, .int .i64 had, .int .i64 cnt, .bool false, .slice none 0 0, .slice kl.a kl.n kl.c] rfl rfl (by kernel_rfl) K0 fun b1 w1 g1 K1 M1 => ?_)
 refine W.op (O.new 4 31 [.int .i64 0, .int .i64 0] rfl rfl (by kernel_rfl) K1 fun b2 w2 g2 K2 M2 => ?_)
 refine Zb 5 (.int .i64 0) ?_
 refine wpList_nil (hk1 _ _ (wp_seq_k fun k2 hk2 => (wp_seq_k fun k3 hk3 => (wp_region_lit ?_))))
 refine Zb 11 (.pointer (some ⟨b1, 0, none⟩)) ?_
 refine Zc 12 (.bool false) (exec_load rfl rfl Ty4 ((K2.nth 1 rfl).cell 0)) ?_
 refine wpList_nil (hk3 _ _ (W.cond false rfl (wp_skip (hk2 _ _ (wp_seq_k fun k4 hk4 => (wp_seq_k fun k5 hk5 => ?_))))))
 refine wp_region_lit ?_
 refine Zb 15 (.pointer (some ⟨b1, 5, none⟩)) ?_
 refine Zc 16 (.bool false) (exec_load rfl rfl Ty4 ((K2.nth 1 rfl).cell 5)) ?_
 refine Zb 17 (.bool false) ?_
 refine Za 18 ?_
 refine Za 19 ?_
 refine Za 20 ?_
 refine Za 21 ?_
 refine Zb 22 (.bool false) ?_
 refine wpList_nil (hk5 _ _ (W.cond false rfl (wp_skip (hk4 _ _ (wp_seq_k fun k6 hk6 => (wp_region_lit ?_))))))
 refine Zb 24 (.pointer (some ⟨b1, 5, none⟩)) ?_
 refine Zc 25 (.bool false) (exec_load rfl rfl Ty4 ((K2.nth 1 rfl).cell 5)) ?_
 refine Zb 26 (.pointer (some ⟨b1, 4, none⟩)) ?_
 refine Zc 27 (.int .i64 cnt) (exec_load rfl rfl Ty3 ((K2.nth 1 rfl).cell 4)) ?_
 refine Zb 28 (.pointer (some ⟨b1, 6, none⟩)) ?_
 refine Zc 29 (.slice none 0 0) (exec_load rfl rfl Ty37 ((K2.nth 1 rfl).cell 6)) ?_
 refine Zb 30 (.agg #[.bool false, .int .i64 cnt, .slice none 0 0, .int .i64 0, .int .i64 0, .int .i64 0, .int .i64 0, .int .i64 0, .int .i64 0, .int .i64 0, .int .i64 0, .int .i64 0, .int .i64 0, .int .i64 0, .int .i64 0, .int .i64 0, .int .i64 0, .int .i64 0, .int .i64 0, .int .i64 0, .int .i64 0, .int .i64 0, .int .i64 0, .int .i64 0, .int .i64 0, .int .i64 0, .int .i64 0, .int .i64 0, .int .i64 0, .int .i64 0, .int .i64 0, .int .i64 0, .int .i64 0, .int .i64 0, .int .i64 0]) ?_
 refine W.op (O.new 6 66 Z66 rfl rfl (by kernel_rfl) K2 fun b3 w3 g3 K3 M3 => ?_)
 refine W.op (O.sta 0 [.bool false, .int .i64 cnt, .slice none 0 0, .int .i64 0, .int .i64 0, .int .i64 0, .int .i64 0, .int .i64 0, .int .i64 0, .int .i64 0, .int .i64 0, .int .i64 0, .int .i64 0, .int .i64 0, .int .i64 0, .int .i64 0, .int .i64 0, .int .i64 0, .int .i64 0, .int .i64 0, .int .i64 0, .int .i64 0, .int .i64 0, .int .i64 0, .int .i64 0, .int .i64 0, .int .i64 0, .int .i64 0, .int .i64 0, .int .i64 0, .int .i64 0, .int .i64 0, .int .i64 0, .int .i64 0, .int .i64 0] rfl rfl rfl rfl rfl Ty66 rfl rfl rfl rfl K3 fun w4 K4 M4 => ?_)
 refine wpList_nil (hk6 _ _ (wp_seq_k fun k7 hk7 => (wp_seq_k fun k8 hk8 => (wp_region_lit ?_))))
 refine Zb 31 (.pointer (some ⟨b1, 7, none⟩)) ?_
 refine Zc 32 (.slice kl.a kl.n kl.c) (exec_load rfl rfl Ty107 ((K4.nth 2 rfl).cell 7)) ?_
 refine Zb 33 (.int .i64 (kl.n : Int)) ?_
 refine Zb 34 (.int .i64 0) ?_
 refine wpList_nil (hk8 _ _ (wp_block ?_))
 have hM_1 := hM.mv M1 quiet quiet quiet quiet quiet quiet
 have hM_2 := hM_1.mv M2 quiet quiet quiet quiet quiet quiet
 have hM_3 := hM_2.mv M3 quiet quiet quiet quiet quiet quiet
 have hM_4 := hM_3.mv M4 (neq (by omega)) (neq (by omega)) (neq (by omega)) (neq (by omega)) (neq (by omega)) (neq (by omega))
 have hks_1 := hks.mv M1 quiet
 have hks_2 := hks_1.mv M2 quiet
 have hks_3 := hks_2.mv M3 quiet
 have hks_4 := hks_3.mv M4 (neq (by omega))
 refine W.loop (fun (μ0 : Nat) (ws : List (Nat × Value)) (w' : World) => ∃ (k : Nat) (kid : Nat → Ref) (σ1 : TapeS) (γ' : Tg) (ρ0 : List (Nat × Value)), μ0 = 16 - k ∧ ws = ((34, .int .i64 ↑k) :: (33, .int .i64 (kl.n : Int)) :: (32, .slice kl.a kl.n kl.c) :: (6, .pointer (some ⟨b3, 0, none⟩)) :: (4, .pointer (some ⟨b2, 0, none⟩)) :: (0, .pointer (some ⟨q, 0, none⟩)) :: ρ0) ∧ Kn (Rg τ (τ + 5)) w γ [(b3, 66, (⟨false, cnt, nilS, [], kid⟩ : Nd).cells), (b2, 31, [.int .i64 0, .int .i64 0]), (b1, 109, [.bool false, .int .i64 0, .int .i64 0, .int .i64 had, .int .i64 cnt, .bool false, .slice none 0 0, .slice kl.a kl.n kl.c])] w' γ' ∧ Mv (Rg 1 (τ + 5)) w4 g3 w' γ' ∧ (k ≤ 16) ∧ (layKids f (16 - k) k kid σ1.er = F) ∧ (σ1.nodes.length + sumF sz (16 - k) k ≤ S.σ.nodes.length + sumF sz 16 0) ∧ (σ1.log.length + sumF sz (16 - k) k ≤ S.σ.log.length + sumF sz 16 0) ∧ SM τ w' γ' q p { S with σ := σ1 } ∧ Ls 8 PlC.cells w' γ' kl cs) (16 - 0) ((((((look_eq (t := 0) (v := .pointer (some ⟨q, 0, none⟩)) rfl).trans (look_eq (t := 4) (v := .pointer (some ⟨b2, 0, none⟩)) rfl)).trans (look_eq (t := 6) (v := .pointer (some ⟨b3, 0, none⟩)) rfl)).trans (look_eq (t := 32) (v := .slice kl.a kl.n kl.c) rfl)).trans (look_eq (t := 33) (v := .int .i64 (kl.n : Int)) rfl)).trans (look_eq (t := 34) (v := .int .i64 ↑0) rfl)) ?_ ?_
 ·exact ⟨0, (fun _ => ⟨0, 0⟩), S.σ, _, _, rfl, rfl, K4, Mv.refl _ _ _, Nat.zero_le _, hF, Nat.le_refl _, Nat.le_refl _, hM_4, hks_4⟩
 ·rintro _ _ w5 ⟨k, kid, σ1, g4, r1, rfl, rfl, K5, M5, p1, p2, p3, p4, h1, h2⟩
  refine wp_seq_k fun k9 hk9 => (wp_region_lit ?_)
  by_cases t1 : ((k : Nat) : Int) < (kl.n : Int)
  ·refine Zc 35 (.bool true) (okv (by kernel_rfl) (congrArg Value.bool (decide_eq_true t1))) ?_
   refine wpList_nil (hk9 _ _ (wp_seq_k fun k10 hk10 => (W.cond true rfl (wp_skip (hk10 _ _ (wp_seq_k fun k11 hk11 => ?_))))))
   refine wp_block (wp_seq_k fun k12 hk12 => (wp_region_lit ?_))
   refine Zb 36 (.int .i64 ↑k) ?_
   obtain ⟨x1, hx1⟩ := get_some (xs := cs) (i := k) (by omega)
   obtain ⟨b4, o1, ha1, hib1, hr1⟩ := h2.elt hx1
   refine Zc 37 (.pointer (some ⟨b4, o1 + k * 8, none⟩)) (exec_index (E := 109) (k := k) rfl (by kernel_rfl) (by kernel_rfl) rfl ha1 rfl hib1) ?_
   refine Zc 38 (.agg x1.cells.toArray) (exec_loads (cs := x1.cells) rfl rfl Ty109 rfl hr1.2.2) ?_
   refine W.op (O.new 8 109 [.bool false, .int .i64 0, .int .i64 0, .int .i64 0, .int .i64 0, .bool false, .slice none 0 0, .slice none 0 0] rfl rfl (by kernel_rfl) K5 fun b5 w6 g5 K6 M6 => ?_)
   refine Zb 7 (.int .i64 ↑k) ?_
   refine W.op (O.sta 0 x1.cells rfl rfl rfl rfl rfl Ty109 rfl rfl rfl rfl K6 fun w7 K7 M7 => ?_)
   refine wpList_nil (hk12 _ _ (wp_seq_k fun k13 hk13 => (wp_region_lit ?_)))
   refine Zb 40 (.pointer (some ⟨q, 0, none⟩)) ?_
   refine Zc 41 (.agg x1.cells.toArray) (exec_loads (cs := x1.cells) rfl rfl Ty109 rfl ((K7.nth 0 rfl).all 8)) ?_
   have hM_5 := h1.mv M6 quiet quiet quiet quiet quiet quiet
   have hM_6 := hM_5.mv M7 (neq (by omega)) (neq (by omega)) (neq (by omega)) (neq (by omega)) (neq (by omega)) (neq (by omega))
   have hsu : sumF sz (16 - k) k = sz k + sumF sz (16 - (k + 1)) (k + 1) := by rw [show 16 - k = (16 - (k + 1)) + 1 by omega]; rfl
   refine W.op (O.call 42 46 #[.pointer (some ⟨q, 0, none⟩), .agg x1.cells.toArray] (by kernel_rfl) rfl (by kernel_rfl) ((hrec k x1 (by omega) hx1 σ1 _ w7 g5 K7.mv (nrg (by omega)) hM_6 (by omega) (by omega)).mono ?_))
   rintro e1 w8 ⟨g6, ρ1, rfl, M8, hM1, he1, hn1, hl1⟩
   have K8 := K7.step M8 (fun _ h => h) (nrg (by omega))
   refine ⟨_, rfl, ?_⟩
   refine Zb 39 (.tuple #[.agg ((f k σ1.er).1.1.cells).toArray, .int .i64 ((f k σ1.er).1.2)]) ?_
   refine Zb 43 (.agg ((f k σ1.er).1.1.cells).toArray) ?_
   refine Zb 44 (.int .i64 ((f k σ1.er).1.2)) ?_
   refine W.op (O.new 9 31 [.int .i64 0, .int .i64 0] rfl rfl (by kernel_rfl) K8 fun b6 w9 g7 K9 M9 => ?_)
   refine W.op (O.sta 0 (f k σ1.er).1.1.cells rfl rfl rfl rfl rfl Ty31 rfl rfl rfl rfl K9 fun w10 K10 M10 => ?_)
   refine Zb 10 (.int .i64 ((f k σ1.er).1.2)) ?_
   refine wpList_nil (hk13 _ _ (wp_seq_k fun k14 hk14 => (wp_seq_k fun k15 hk15 => (wp_region_lit ?_))))
   refine Zb 45 (.int .i64 ((f k σ1.er).1.2)) ?_
   by_cases t2 : ((f k σ1.er).1.2) = 0
   ·refine Zc 46 (.bool false) (okv (by kernel_rfl) (congrArg Value.bool (bne_eq_false_iff_eq.2 t2))) ?_
    refine wpList_nil (hk15 _ _ (W.cond false rfl (wp_skip (hk14 _ _ (wp_region_lit ?_)))))
    refine Zb 49 (.int .i64 ↑k) ?_
    refine Zc 50 (.agg ((f k σ1.er).1.1.cells).toArray) (exec_loads (cs := (f k σ1.er).1.1.cells) rfl rfl Ty31 rfl ((K10.nth 0 rfl).all 2)) ?_
    refine Zb 51 (.pointer (some ⟨b3, 3, none⟩)) ?_
    refine Zc 52 (.pointer (some ⟨b3, 3 + k * 2, none⟩)) (exec_indexA (P := Try.prog) (E := 31) (m := 16) (k := k) rfl (by kernel_rfl) (by kernel_rfl) rfl rfl (by omega)) ?_
    refine W.op (O.stp 2 (f k σ1.er).1.1.cells rfl rfl rfl rfl rfl Ty31 rfl rfl rfl (by show 3 + k * 2 + 2 ≤ 35; omega) K10 fun w11 K11 M11 => ?_)
    rw [Nd.cells_upd _ _ (by omega)] at K11
    refine wpList_nil (block_normal (hk11 _ _ (wp_region_lit ?_)))
    refine Zc 53 (.int .i64 ((k + 1 : Nat) : Int)) (okv (v := .int .i64 (IntKind.i64.wrap (((k : Nat) : Int) + 1))) (by kernel_rfl) (wrapn (by omega) (by omega))) ?_
    refine Zb 34 (.int .i64 ((k + 1 : Nat) : Int)) ?_
    refine wpList_nil ?_
    have hM_7 := hM1.mv M9 quiet quiet quiet quiet quiet quiet
    have hM_8 := hM_7.mv M10 (neq (by omega)) (neq (by omega)) (neq (by omega)) (neq (by omega)) (neq (by omega)) (neq (by omega))
    have hM_9 := hM_8.mv M11 (neq (by omega)) (neq (by omega)) (neq (by omega)) (neq (by omega)) (neq (by omega)) (neq (by omega))
    have hks_5 := h2.mv M6 quiet
    have hks_6 := hks_5.mv M7 (neq (by omega))
    have hks_7 := hks_6.mv M8 (nrg (by omega))
    have hks_8 := hks_7.mv M9 quiet
    have hks_9 := hks_8.mv M10 (neq (by omega))
    have hks_10 := hks_9.mv M11 (neq (by omega))
    exact ⟨16 - (k + 1), _, by omega, ((((((look_eq (t := 0) (v := .pointer (some ⟨q, 0, none⟩)) rfl).trans (look_eq (t := 4) (v := .pointer (some ⟨b2, 0, none⟩)) rfl)).trans (look_eq (t := 6) (v := .pointer (some ⟨b3, 0, none⟩)) rfl)).trans (look_eq (t := 32) (v := .slice kl.a kl.n kl.c) rfl)).trans (look_eq (t := 33) (v := .int .i64 (kl.n : Int)) rfl)).trans (look_eq (t := 34) (v := .int .i64 (((k + 1) : Nat) : Int)) rfl)), ⟨(k + 1), (upd kid k (f k σ1.er).1.1), ρ1, _, _, rfl, rfl, K11.tail.tail, ((((((M5.trans (M6.mono nt_le)).trans (M7.mono (eq_rg (by omega)))).trans (M8.mono (rg_rg (by omega) (by omega)))).trans (M9.mono nt_le)).trans (M10.mono (eq_rg (by omega)))).trans (M11.mono (eq_rg (by omega)))), by omega, (by have e := p2; rw [show 16 - k = (16 - (k + 1)) + 1 by omega] at e; simp only [layKids, t2, beq_self_eq_true, cond_true] at e; rw [he1]; exact e), by omega, by omega, hM_9, hks_10⟩⟩
   ·refine Zc 46 (.bool true) (okv (by kernel_rfl) (congrArg Value.bool (bne_iff_ne.2 t2))) ?_
    refine wpList_nil (hk15 _ _ (W.cond true rfl (wp_seq_k fun k16 hk16 => (wp_region_lit ?_))))
    refine Zb 47 (.agg #[.int .i64 0, .int .i64 0]) ?_
    refine Zb 48 (.int .i64 ((f k σ1.er).1.2)) ?_
    refine W.op (O.sta 3 [.int .i64 0, .int .i64 0] rfl rfl rfl rfl rfl Ty31 rfl rfl rfl rfl K10 fun w12 K12 M12 => ?_)
    refine Zb 5 (.int .i64 ((f k σ1.er).1.2)) ?_
    refine wpList_nil (hk16 _ _ (wp_ret (then_ret (block_ret (then_ret (then_ret ?_))))))
    refine block_ret (then_ret (W.rets (vs := [.agg #[.int .i64 0, .int .i64 0], .int .i64 ((f k σ1.er).1.2)]) rfl (.agg (cs := [.int .i64 0, .int .i64 0]) rfl Ty31 rfl ((K12.nth 3 rfl).all 2) (.tmp rfl .nil)) (by simp) ?_))
    have e := p2
    rw [show 16 - k = (16 - (k + 1)) + 1 by omega] at e
    have hne : ((f k σ1.er).1.2 == 0) = false := beq_eq_false_iff_ne.2 t2
    simp only [layKids, hne, cond_false] at e
    have e2 : brM cnt F = ((⟨0, 0⟩, (f k σ1.er).1.2), (f k σ1.er).2) := by rw [← e]; simp only [brM, hne, cond_false]
    rewrite [e2]
    have hM_10 := hM1.mv M9 quiet quiet quiet quiet quiet quiet
    have hM_11 := hM_10.mv M10 (neq (by omega)) (neq (by omega)) (neq (by omega)) (neq (by omega)) (neq (by omega)) (neq (by omega))
    have hM_12 := hM_11.mv M12 (neq (by omega)) (neq (by omega)) (neq (by omega)) (neq (by omega)) (neq (by omega)) (neq (by omega))
    exact ⟨_, ρ1, rfl, K12.mv, hM_12, he1, by omega, by omega⟩
  ·refine Zc 35 (.bool false) (okv (by kernel_rfl) (congrArg Value.bool (decide_eq_false t1))) ?_
   refine wpList_nil (hk9 _ _ (wp_seq_k fun k17 hk17 => (W.cond false rfl (wp_exit (then_exit ?_)))))
   have hn9 := p3
   have hl9 := p4
   have hk9 : k = 16 := by omega
   have hz9 : sumF sz (16 - k) k = 0 := by rw [hk9]; rfl
   obtain ⟨hT, ⟨sr, hq, hr⟩⟩ := (h1)
   have n2 := hr.len
   refine then_exit (block_exit (hk7 _ _ (wp_seq_k fun k18 hk18 => (wp_region_G (SmL [(3, Nt), (4, Nt)] w5 g4) (by kernel_rfl) ?_))))
   have K13 := K5.drew
   have M13 : Mv Nt w5 g4 w5.drew g4 := (Mv.refl _ _ _).drew
   refine Yb 0 54 (.pointer (some ⟨q, 0, none⟩)) rfl (fun u => by kernel_rfl) ?_
   refine Yb 1 55 (.pointer (some ⟨q, 0, none⟩)) rfl (fun u => by kernel_rfl) ?_
   refine Yb 2 56 (.pointer (some ⟨q, 0, none⟩)) rfl (fun u => by kernel_rfl) ?_
   refine G.take 3 57 (.iface 29 (.pointer (some ⟨p, 0, none⟩))) rfl (by kernel_rfl) rfl (fun _ _ _ h => h) ((Mv.refl _ _ _).trans (M13.mono (fun _ h => h))).self (by kernel_rfl) (fun u hm => exec_load rfl rfl Ty88 (((hq.mv hm quiet).1).cell 0)) ?_
   refine G.take 4 58 (.agg ((⟨false, cnt, nilS, [], kid⟩ : Nd).cells).toArray) rfl (by kernel_rfl) rfl (fun _ _ _ h => h) ((Mv.refl _ _ _).trans (M13.mono (fun _ h => h))).self (by kernel_rfl) (fun u hm => exec_loads (cs := (⟨false, cnt, nilS, [], kid⟩ : Nd).cells) rfl rfl Ty66 rfl ((K5.later 0 rfl hm quiet).all 35)) ?_
   have hT_1 := hT.mv M13 quiet quiet quiet quiet
   refine G.op 5 (by kernel_rfl) rfl (O.call 59 75 #[.pointer (some ⟨p, 0, none⟩), .agg ((⟨false, cnt, nilS, [], kid⟩ : Nd).cells).toArray] (by kernel_rfl) rfl (by kernel_rfl) ((tapeAlloc_c τ p σ1 (⟨false, cnt, nilS, [], kid⟩ : Nd) w5.drew g4 hT_1 (Ls.void _ _ Item.size) (Nat.zero_le _) hτ (by first | omega | exact hn9) (by first | omega | exact hl9)).mono ?_))
   rintro e2 w13 ⟨g8, s1, s2, rfl, M14, hT1⟩
   have K14 := K13.step M14 (rg_rg (by omega) (by omega)) (nrg (by omega))
   refine ⟨_, rfl, ⟨(kp_skip (by kernel_rfl) (kp_skip (by kernel_rfl) kp_nil)), ?_⟩⟩
   refine Yb 6 60 (.agg σ1.newRef.cells.toArray) rfl (fun u => by kernel_rfl) ?_
   refine Yb 7 61 (.int .i64 σ1.newErr) rfl (fun u => by kernel_rfl) ?_
   refine G.op 8 (by kernel_rfl) rfl (O.sta 1 σ1.newRef.cells rfl rfl rfl rfl rfl Ty31 rfl rfl rfl rfl K14 fun w14 K15 M15 => ⟨(kp_skip (by kernel_rfl) (kp_skip (by kernel_rfl) kp_nil)), ?_⟩)
   refine Yb 9 5 (.int .i64 σ1.newErr) rfl (fun u => by kernel_rfl) ?_
   refine G.fin (by kernel_rfl) ?_
   refine hk18 _ _ (wp_ret (W.rets (vs := [.agg σ1.newRef.cells.toArray, .int .i64 σ1.newErr]) rfl (.agg (cs := σ1.newRef.cells) rfl Ty31 rfl ((K15.nth 1 rfl).all 2) (.tmp rfl .nil)) (by simp) ?_))
   have e := p2
   rw [hk9] at e
   simp only [Nat.sub_self, layKids] at e
   have e2 : brM cnt F = σ1.er.alloc ⟨false, cnt, nilS, [], kid⟩ := by rw [← e]; rfl
   rewrite [e2]
   unfold TapeS.alloc
   rewrite [TapeS.er_newRef, TapeS.er_newErr]
   have hT_2 := hT1.mv M15 (neq (by omega)) (neq (by omega)) (neq (by omega)) (neq (by omega))
   have hq_1 := hq.mv M13 quiet
   have hq_2 := hq_1.mv M14 (nrg (by omega))
   have hq_3 := hq_2.mv M15 (neq (by omega))
   have hrs_1 := hr.mv M13 quiet
   have hrs_2 := hrs_1.mv M14 (nrg (by omega))
   have hrs_3 := hrs_2.mv M15 (neq (by omega))
   exact ⟨_, _, rfl, K15.mv, ⟨hT_2, ⟨sr, hq_3, hrs_3⟩⟩, TapeS.er_laid _ _ _ _, Nat.le_trans (laid_nodes _ _ _ _) (by omega), Nat.le_trans (laid_log _ _ _ _) (by omega)⟩

theorem er_nodes (σ : TapeS) : σ.er.nodes.length = σ.nodes.length := by simp [TapeS.er]
theorem er_log (σ : TapeS) : σ.er.log.length = σ.log.length := by simp [TapeS.er]
theorem layLeaf_len (had : Int) (its : List Item) (σ : TapeS) : (layM (.leaf had its) σ).2.nodes.length ≤ σ.nodes.length + 1 ∧ (layM (.leaf had its) σ).2.log.length ≤ σ.log.length + 1 := by
  cases h : its.length == 0
  · simp only [layM, h, cond_false, TapeS.alloc]
    exact ⟨laid_nodes _ _ _ _, laid_log _ _ _ _⟩
  · simp only [layM, h, cond_true]
    omega
theorem lay_c : ∀ (P : Pl) (c : PlC) (τ q p : Nat) (S : St) (w : World) (γ : Tg), PlM P w γ c → SM τ w γ q p S → 2 ≤ τ → S.σ.nodes.length + P.size ≤ 100000000 → S.σ.log.length + P.size ≤ 100000000 → P.all.length ≤ 100000 →
    Calls Try.prog 46 #[.pointer (some ⟨q, 0, none⟩), .agg c.cells.toArray] w fun ε w' => ∃ γ' σ', ε = .returned (.tuple #[.agg (layM P S.σ.er).1.1.cells.toArray, .int .i64 (layM P S.σ.er).1.2]) ∧ Mv (Rg τ (τ + 5)) w γ w' γ' ∧
      SM τ w' γ' q p { S with σ := σ' } ∧ σ'.er = (layM P S.σ.er).2 ∧ σ'.nodes.length ≤ S.σ.nodes.length + P.size ∧ σ'.log.length ≤ S.σ.log.length + P.size
  | .stay r, c, τ, q, p, S, w, γ, h, hM, hτ, h1, h2, hb => by
    have e : c = ⟨true, r, 0, 0, false, nilS, nilS⟩ := h
    subst e
    refine (layStay_c τ q p S r w γ hM hτ (by omega) (by omega)).mono ?_
    rintro ε w' ⟨γ', σ', e1, e2, e3, e4⟩
    have n1 := congrArg (fun x : TapeS => x.nodes.length) e4
    have n2 := congrArg (fun x : TapeS => x.log.length) e4
    simp only [er_nodes, er_log] at n1 n2
    exact ⟨γ', σ', e1, e2, e3, e4, by omega, by omega⟩
  | .leaf had its, c, τ, q, p, S, w, γ, ⟨sl, e, hl⟩, hM, hτ, h1, h2, hb => by
    subst e
    refine (layLeaf_c τ q p S had its sl w γ hM hτ (by omega) (by omega) hl (by simpa [Pl.all] using hb)).mono ?_
    rintro ε w' ⟨γ', σ', e1, e2, e3, e4⟩
    have n1 := congrArg (fun x : TapeS => x.nodes.length) e4
    have n2 := congrArg (fun x : TapeS => x.log.length) e4
    have n3 := layLeaf_len had its S.σ.er
    simp only [er_nodes, er_log] at n1 n2 n3
    have n4 : (Pl.leaf had its).size = 1 := rfl
    exact ⟨γ', σ', e1, e2, e3, e4, by omega, by omega⟩
  | .branch had cnt k, c, τ, q, p, S, w, γ, ⟨kl, e, cs, hk, hm⟩, hM, hτ, h1, h2, hb => by
    subst e
    have n4 : (Pl.branch had cnt k).size = sumF (fun d => (k d).size) 16 0 + 1 := rfl
    rw [layM_branch]
    have h := layBranch_step τ q p S had cnt ((List.range 16).map cs) kl (fun d => layM (k d)) (fun d => (k d).size) _ w γ hM hτ (by omega) (by omega) hk (by simp) rfl (by
      intro j x hj hx σ1 U v g m hU hM1 hb1 hb2
      have ex : x = cs j := by simpa [List.getElem?_map, List.getElem?_range hj] using hx.symm
      subst ex
      exact lay_c (k j) (cs j) τ q p { S with σ := σ1 } v g ((hm j hj).mv m hU) hM1 hτ hb1 hb2 (Nat.le_trans (all_le k j hj) hb))
    exact h

end Go.Proofs.Ytlfanphdnjoofaa
