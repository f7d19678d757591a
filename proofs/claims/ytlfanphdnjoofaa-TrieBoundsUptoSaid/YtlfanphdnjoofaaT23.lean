/- Walks: TrieBounds. -/
import Derived.Test.YtlfanphdnjoofaaT22
namespace Go.Proofs.Ytlfanphdnjoofaa
open Go.RowKit
set_option linter.unusedSimpArgs false
set_option linter.unusedVariables false
attribute [local irreducible] wpList Code.wp Calls OpS wpG

theorem longB_false {ess : List (List Edit)} {most : Int} (h : longB ess most = false) : ess.length + ess.flatten.length ≤ 600 := by
  unfold longB at h
  rw [Bool.or_eq_false_iff] at h
  have := of_decide_eq_false h.1
  omega
theorem gets_snoc {l : List Dd} {i : Nat} {x : Dd} (h : l[i]? = some x) : gets (l.take (i + 1)) = gets (l.take i) + (bif x.al then 0 else 1) := by
  unfold gets
  rw [take_snoc h, List.countP_append]
  cases hx : x.al <;> simp [List.countP_cons, hx]
theorem gets_take (l : List Dd) (i : Nat) : gets (l.take i) ≤ gets l := by
  unfold gets
  exact List.Sublist.countP_le (List.take_sublist i l)

set_option maxRecDepth 100000 in
set_option maxHeartbeats 1000000 in
theorem trieBounds_c (sb : Sli) (bs : List Sli) (ess : List (List Edit)) (most : Int) (lost : Int) (e : Edit) (w : World) (γ : Tg) (hL : Ls 1 Sli.cells w γ sb bs) (hB : Bs w γ bs ess) (hbk : ess.length + ess.flatten.length ≤ 2000000) (hE : ∀ es ∈ ess, eOk es) (hkey : e.it.key.size < 9223372036854775807) :
    Calls Try.prog 6 #[.agg #[.slice sb.a sb.n sb.c, .int .i64 most, .int .i64 lost], .agg e.cells.toArray] w fun ε w' => ∃ (γ' : Tg), ε = .returned (.bool true) ∧ Mv Nt w γ w' γ' := by
 obtain ⟨t0, ht0, hf0⟩ := fresh_tag w γ 2
 have K0 := Kn.start (Lo Nt t0) w γ
 refine W.enter (ws := [(1, .agg e.cells.toArray), (0, .agg #[.slice sb.a sb.n sb.c, .int .i64 most, .int .i64 lost])]) 111 Try.func6 rfl (by kernel_rfl) ?_
 have n1 := hL.len
 refine wp_seq_k fun k1 hk1 => (wp_region_lit ?_)
 refine W.op (O.new 2 27 [.slice sb.a sb.n sb.c, .int .i64 most, .int .i64 lost] rfl rfl (by kernel_rfl) K0 fun b1 w1 g1 K1 M1 => ?_)
 refine W.op (O.new 3 55 e.cells rfl rfl (by kernel_rfl) K1 fun b2 w2 g2 K2 M2 => ?_)
 refine Zb 4 (.bool false) ?_
 refine wpList_nil (hk1 _ _ (wp_seq_k fun k2 hk2 => (wp_seq_k fun k3 hk3 => (wp_region_lit ?_))))
 refine Zc 17 (.agg #[.slice sb.a sb.n sb.c, .int .i64 most, .int .i64 lost]) (exec_loads (cs := [.slice sb.a sb.n sb.c, .int .i64 most, .int .i64 lost]) rfl rfl Ty27 rfl ((K2.nth 1 rfl).all 3)) ?_
 have hhL_1 := hL.mv M1 quiet
 have hhL_2 := hhL_1.mv M2 quiet
 have hhB_1 := hB.mv M1 quiet
 have hhB_2 := hhB_1.mv M2 quiet
 refine W.op (O.call 18 12 #[.agg #[.slice sb.a sb.n sb.c, .int .i64 most, .int .i64 lost]] (by kernel_rfl) rfl (by kernel_rfl) ((long_c sb bs ess most lost w2 g2 hhL_2 hhB_2 hbk).mono ?_))
 rintro e1 w3 ⟨g3, rfl, M3⟩
 have K3 := K2.step M3 nt_le quiet
 rcases bsplit (longB ess most) with t1 | t1
 ·refine ⟨_, congrArg Ending.returned (congrArg Value.bool t1), ?_⟩
  refine wpList_nil (hk3 _ _ (W.cond true rfl (wp_seq_k fun k4 hk4 => (wp_region_lit ?_))))
  refine Zb 4 (.bool true) ?_
  refine wpList_nil (hk4 _ _ (wp_ret (then_ret (W.ret1 (v := .bool true) rfl (.tmp rfl .nil) ?_))))
  exact ⟨_, rfl, (K3.mv.shut hf0)⟩
 ·refine ⟨_, congrArg Ending.returned (congrArg Value.bool t1), ?_⟩
  refine wpList_nil (hk3 _ _ (W.cond false rfl (wp_skip (hk2 _ _ (wp_seq_k fun k5 hk5 => (wp_region_lit ?_))))))
  refine Zc 20 (.agg #[.slice sb.a sb.n sb.c, .int .i64 most, .int .i64 lost]) (exec_loads (cs := [.slice sb.a sb.n sb.c, .int .i64 most, .int .i64 lost]) rfl rfl Ty27 rfl ((K3.nth 1 rfl).all 3)) ?_
  have hN := longB_false t1
  have hhL_3 := hhL_2.mv M3 quiet
  have hhB_3 := hhB_2.mv M3 quiet
  refine W.op (O.call 21 14 #[.agg #[.slice sb.a sb.n sb.c, .int .i64 most, .int .i64 lost]] (by kernel_rfl) rfl (by kernel_rfl) ((story_c t0 sb bs ess most lost w3 g3 hhL_3 hhB_3 (by omega) hN hE).mono ?_))
  rintro e2 w4 ⟨g4, p1, s1, ts1, σ1, top1, rfl, M4, hq1, hq2, hq3, hq4, hq5⟩
  have K4 := K3.step M4 (rg_lo (by omega)) (nrg (by omega))
  have n2 := hq2.len
  have hts1 : 1 ≤ ts1.length := by obtain ⟨T, hT⟩ := hq4; rw [hT]; simp
  have hbd := bounds_spec hq3 hN hkey
  have hsm := Run.small hq3 (Nat.le_refl _) hN
  refine ⟨_, rfl, ?_⟩
  refine Zb 19 (.tuple #[.pointer (some ⟨p1, 0, none⟩), .slice s1.a s1.n s1.c, .bool true]) ?_
  refine Zb 22 (.pointer (some ⟨p1, 0, none⟩)) ?_
  refine Zb 23 (.slice s1.a s1.n s1.c) ?_
  refine Zb 24 (.bool true) ?_
  refine Zb 5 (.pointer (some ⟨p1, 0, none⟩)) ?_
  refine Zb 6 (.slice s1.a s1.n s1.c) ?_
  refine Zb 7 (.bool true) ?_
  refine wpList_nil (hk5 _ _ (wp_seq_k fun k6 hk6 => (wp_seq_k fun k7 hk7 => (wp_region_lit ?_))))
  refine Zb 25 (.bool true) ?_
  refine Zb 26 (.bool false) ?_
  refine wpList_nil (hk7 _ _ (W.cond false rfl (wp_skip (hk6 _ _ (wp_seq_k fun k8 hk8 => (wp_region_lit ?_))))))
  refine Zb 27 (.slice s1.a s1.n s1.c) ?_
  refine Zb 28 (.slice s1.a s1.n s1.c) ?_
  refine Zb 29 (.int .i64 (s1.n : Int)) ?_
  refine Zc 30 (.int .i64 ((s1.n - 1 : Nat) : Int)) (okv (v := .int .i64 (IntKind.i64.wrap ((s1.n : Int) - 1))) (by kernel_rfl) (wrapn (by omega) (by omega))) ?_
  obtain ⟨b3, ha1, hib1, hr1⟩ := hq2.elt (last_get hq4 hq2.len)
  refine Zc 31 (.pointer (some ⟨b3, 0 + (s1.n - 1) * 2, none⟩)) (exec_index (E := 31) (k := s1.n - 1) rfl (by kernel_rfl) (by kernel_rfl) rfl ha1 rfl hib1) ?_
  refine Zc 32 (.agg top1.cells.toArray) (exec_loads (cs := top1.cells) rfl rfl Ty31 rfl hr1.2.2) ?_
  refine W.op (O.new 8 31 [.int .i64 0, .int .i64 0] rfl rfl (by kernel_rfl) K4 fun b4 w5 g5 K5 M5 => ?_)
  refine W.op (O.sta 0 top1.cells rfl rfl rfl rfl rfl Ty31 rfl rfl rfl rfl K5 fun w6 K6 M6 => ?_)
  refine wpList_nil (hk8 _ _ (wp_seq_k fun k9 hk9 => (wp_region_lit ?_)))
  refine Zb 33 (.pointer (some ⟨p1, 0, none⟩)) ?_
  have hf1_1 := hq1.mv M5 quiet quiet quiet quiet
  have hf1_2 := hf1_1.mv M6 (neq (by omega)) (neq (by omega)) (neq (by omega)) (neq (by omega))
  obtain ⟨⟨sn1, sg1, hp1, hn1, hl1⟩, hnl1, hll1⟩ := hf1_2
  have n3 := hn1.len
  have n4 := hl1.len
  refine Zb 34 (.pointer (some ⟨p1, 0, none⟩)) ?_
  refine Zb 35 (.pointer (some ⟨p1, 3, none⟩)) ?_
  refine W.op (O.bst (.slice none 0 0) (by kernel_rfl) rfl rfl rfl rfl Ty57 rfl rfl hp1 (Nat.le_of_ble_eq_true rfl) fun w7 hb1 M7 => ?_)
  have K7 := K6.step M7 (eq_lo (by omega)) (neq (by omega))
  refine wpList_nil (hk9 _ _ (wp_seq_k fun k10 hk10 => (wp_region_lit ?_)))
  refine Zb 37 (.pointer (some ⟨p1, 0, none⟩)) ?_
  refine Zb 38 (.iface 29 (.pointer (some ⟨p1, 0, none⟩))) ?_
  refine Zc 39 (.agg top1.cells.toArray) (exec_loads (cs := top1.cells) rfl rfl Ty31 rfl ((K7.nth 0 rfl).all 2)) ?_
  refine Zb 40 (.pointer (some ⟨b2, 0, none⟩)) ?_
  refine Zb 41 (.pointer (some ⟨b2, 0, none⟩)) ?_
  refine Zc 42 (.string e.it.key) (exec_load rfl rfl Ty9 ((K7.nth 1 rfl).cell 0)) ?_
  have hm1 : Mv (Lo Nt t0) w6 g5 w7 g5 := ((Mv.refl _ _ _).trans (M7.mono (eq_lo (by omega))))
  have htn_1 := hn1.mv M7 (neq (by omega))
  have hT1 : Tp t0 w7 g5 p1 (σ1.clear) := ⟨⟨sn1, nilS, hb1, htn_1, Gs.nil _ _ _ _ Dd.size⟩, (fun n hn => ⟨(hnl1 n hn).1.mv hm1 (nlo (fun h => h) (by omega)), (hnl1 n hn).2⟩), (fun _ h => by cases h)⟩
  have hr9 := find_c t0 p1 (σ1.clear) top1 e.it.key w7 g5 hT1 (by omega) (Nat.le_trans hsm.1 (by decide)) (Nat.zero_le _) hkey
  rw [hbd.1.1] at hr9
  refine W.op (O.call 43 20 #[.iface 29 (.pointer (some ⟨p1, 0, none⟩)), .agg top1.cells.toArray, .string e.it.key] (by kernel_rfl) rfl (by kernel_rfl) ((hr9).mono ?_))
  rintro e3 w8 ⟨g6, rfl, M8, hq6⟩
  have K8 := K7.step M8 (rg_lo (by omega)) (nrg (by omega))
  refine ⟨_, rfl, ?_⟩
  refine Zb 36 (.tuple #[.agg ((findM e.it.key 17 ⟨σ1.clear, 0, []⟩ top1 0).1.item.cells).toArray, .bool ((findM e.it.key 17 ⟨σ1.clear, 0, []⟩ top1 0).1.has), .int .i64 0]) ?_
  refine Zb 44 (.agg ((findM e.it.key 17 ⟨σ1.clear, 0, []⟩ top1 0).1.item.cells).toArray) ?_
  refine Zb 45 (.bool ((findM e.it.key 17 ⟨σ1.clear, 0, []⟩ top1 0).1.has)) ?_
  refine Zb 46 (.int .i64 0) ?_
  refine W.op (O.new 9 50 [.string ByteArray.empty, .int .i64 0, .int .i64 0, .int .i64 0, .string ByteArray.empty, .slice none 0 0, .slice none 0 0] rfl rfl (by kernel_rfl) K8 fun b5 w9 g7 K9 M9 => ?_)
  refine W.op (O.sta 0 (findM e.it.key 17 ⟨σ1.clear, 0, []⟩ top1 0).1.item.cells rfl rfl rfl rfl rfl Ty50 rfl rfl rfl rfl K9 fun w10 K10 M10 => ?_)
  refine Zb 10 (.bool ((findM e.it.key 17 ⟨σ1.clear, 0, []⟩ top1 0).1.has)) ?_
  refine Zb 11 (.int .i64 0) ?_
  refine wpList_nil (hk10 _ _ (wp_seq_k fun k11 hk11 => (wp_seq_k fun k12 hk12 => (wp_region_lit ?_))))
  refine Zb 47 (.int .i64 0) ?_
  refine W.op (O.call 48 10 #[.int .i64 0] (by kernel_rfl) rfl (by kernel_rfl) ((num_c 0 w10 g7).mono ?_))
  rintro e4 w11 ⟨g8, rfl, M11⟩
  have K11 := K10.step M11 nt_le quiet
  refine ⟨_, rfl, ?_⟩
  refine Zb 49 (.bool false) ?_
  refine Zb 50 (.bool false) ?_
  refine Zd 51 (.pointer (some ⟨p1, 0, none⟩)) ?_
  have hT1_1 := hq6.mv M9 quiet quiet quiet quiet
  have hT1_2 := hT1_1.mv M10 (neq (by omega)) (neq (by omega)) (neq (by omega)) (neq (by omega))
  have hT1_3 := hT1_2.mv M11 quiet quiet quiet quiet
  obtain ⟨⟨sn2, sg2, hp2, hn2, hl2⟩, hnl2, hll2⟩ := hT1_3
  have n5 := hn2.len
  have n6 := hl2.len
  refine Zd 52 (.pointer (some ⟨p1, 0, none⟩)) ?_
  refine Zd 53 (.pointer (some ⟨p1, 3, none⟩)) ?_
  refine W.op (O.gv 54 (.slice sg2.a sg2.n sg2.c) (by kernel_rfl) rfl (exec_load rfl rfl Ty57 ((hp2.1).cell 3)) ?_)
  refine Zd 55 (.int .i64 (sg2.n : Int)) ?_
  by_cases t2 : (sg2.n : Int) > 17
  ·exfalso; omega
  ·refine W.op (O.gv 56 (.bool false) (by kernel_rfl) rfl (okv (by kernel_rfl) (congrArg Value.bool (decide_eq_false t2))) ?_)
   refine Zb 57 (.bool false) ?_
   refine wpList_nil (hk12 _ _ (W.cond false rfl (wp_skip (hk11 _ _ (wp_seq_k fun k13 hk13 => (wp_region_lit ?_))))))
   refine Zb 58 (.pointer (some ⟨p1, 0, none⟩)) ?_
   refine Zb 59 (.pointer (some ⟨p1, 0, none⟩)) ?_
   refine Zb 60 (.pointer (some ⟨p1, 3, none⟩)) ?_
   refine W.op (O.bst (.slice none 0 0) (by kernel_rfl) rfl rfl rfl rfl Ty57 rfl rfl hp2 (Nat.le_of_ble_eq_true rfl) fun w12 hb2 M12 => ?_)
   have K12 := K11.step M12 (eq_lo (by omega)) (neq (by omega))
   refine wpList_nil (hk13 _ _ (wp_seq_k fun k14 hk14 => (wp_region_lit ?_)))
   refine Zb 62 (.pointer (some ⟨p1, 0, none⟩)) ?_
   refine Zb 63 (.iface 29 (.pointer (some ⟨p1, 0, none⟩))) ?_
   refine Zc 64 (.agg top1.cells.toArray) (exec_loads (cs := top1.cells) rfl rfl Ty31 rfl ((K12.nth 1 rfl).all 2)) ?_
   refine Zc 65 (.agg e.cells.toArray) (exec_loads (cs := e.cells) rfl rfl Ty55 rfl ((K12.nth 2 rfl).all 8)) ?_
   refine W.op (O.litt 0 66 55 [.string e.it.key, .int .i64 e.it.ver, .int .i64 e.it.knd, .int .i64 e.it.int, .string e.it.txt, .slice e.it.nms.a e.it.nms.n e.it.nms.c, .slice e.it.its.a e.it.its.n e.it.its.c, .bool e.gone] 1 rfl rfl (by kernel_rfl) K12 fun b6 w13 g9 K13 hb3 M13 => ?_)
   have hm2 : Mv (Lo Nt t0) w11 g8 w13 g9 := (((Mv.refl _ _ _).trans (M12.mono (eq_lo (by omega)))).trans (M13.mono nt_le))
   have htp_1 := hb2.mv M13 quiet
   have htn_2 := hn2.mv M12 (neq (by omega))
   have htn_3 := htn_2.mv M13 quiet
   have hT2 : Tp t0 w13 g9 p1 ((findM e.it.key 17 ⟨σ1.clear, 0, []⟩ top1 0).2.σ.clear) := ⟨⟨sn2, nilS, htp_1, htn_3, Gs.nil _ _ _ _ Dd.size⟩, (fun n hn => ⟨(hnl2 n hn).1.mv hm2 (nlo (fun h => h) (by omega)), (hnl2 n hn).2⟩), (fun _ h => by cases h)⟩
   have hLs1 := hb3.ls [e] Edit.size rfl (m := 1) rfl
   have n7 := hLs1.len
   have hb2 := hbd.2 ((findM e.it.key 17 ⟨σ1.clear, 0, []⟩ top1 0).2.σ.clear) hbd.1.2.2
   have hfn : ((findM e.it.key 17 ⟨σ1.clear, 0, []⟩ top1 0).2.σ.clear).nodes.length ≤ 400000 := by have h9 := congrArg (fun x : TapeS => x.nodes.length) hbd.1.2.2; simp only [TapeS.er, List.length_map] at h9; show (findM e.it.key 17 ⟨σ1.clear, 0, []⟩ top1 0).2.σ.nodes.length ≤ _; omega
   have hr9 := change_c t0 p1 ((findM e.it.key 17 ⟨σ1.clear, 0, []⟩ top1 0).2.σ.clear) top1 (⟨some ⟨b6, 0, none⟩, 1, 1⟩ : Sli) [e] (t0 + 31) w13 g9 hT2 (by omega) (by omega) (by omega) (Nat.zero_le _) hLs1 (by show 1 ≤ 50000; decide) hb2.1
   rw [hb2.2.1] at hr9
   refine W.op (O.call 67 22 #[.iface 29 (.pointer (some ⟨p1, 0, none⟩)), .agg top1.cells.toArray, .slice (some ⟨b6, 0, none⟩) 1 1] (by kernel_rfl) rfl (by kernel_rfl) ((hr9).mono ?_))
   rintro e5 w14 ⟨g10, s2, σ2, rfl, M14, hq7, hq8, hq9⟩
   have K14 := K13.step M14 (rg_lo (by omega)) (nrg (by omega))
   have n8 := hq9.len
   refine ⟨_, rfl, ?_⟩
   refine Zb 61 (.tuple #[.agg ((chgM ((findM e.it.key 17 ⟨σ1.clear, 0, []⟩ top1 0).2.σ.clear).er top1 [e]).1.top.cells).toArray, .slice s2.a s2.n s2.c, .int .i64 0]) ?_
   refine Zb 68 (.agg ((chgM ((findM e.it.key 17 ⟨σ1.clear, 0, []⟩ top1 0).2.σ.clear).er top1 [e]).1.top.cells).toArray) ?_
   refine Zb 69 (.slice s2.a s2.n s2.c) ?_
   refine Zb 70 (.int .i64 0) ?_
   refine W.op (O.new 12 31 [.int .i64 0, .int .i64 0] rfl rfl (by kernel_rfl) K14 fun b7 w15 g11 K15 M15 => ?_)
   refine W.op (O.sta 0 (chgM ((findM e.it.key 17 ⟨σ1.clear, 0, []⟩ top1 0).2.σ.clear).er top1 [e]).1.top.cells rfl rfl rfl rfl rfl Ty31 rfl rfl rfl rfl K15 fun w16 K16 M16 => ?_)
   refine Zb 13 (.slice s2.a s2.n s2.c) ?_
   refine Zb 14 (.int .i64 0) ?_
   refine wpList_nil (hk14 _ _ (wp_seq_k fun k15 hk15 => (wp_region_lit ?_)))
   refine Zb 15 (.int .i64 0) ?_
   refine wpList_nil (hk15 _ _ (wp_seq_k fun k16 hk16 => (wp_seq_k fun k17 hk17 => (wp_region_lit ?_))))
   refine Zb 16 (.int .i64 0) ?_
   refine wpList_nil (hk17 _ _ (wp_block ?_))
   have hb3 := hb2.2.2 σ2 hq8
   have hT2_1 := hq7.mv M15 quiet quiet quiet quiet
   have hT2_2 := hT2_1.mv M16 (neq (by omega)) (neq (by omega)) (neq (by omega)) (neq (by omega))
   obtain ⟨⟨sn3, sg3, hp3, hn3, hl3⟩, hnl3, hll3⟩ := hT2_2
   have n9 := hn3.len
   have n10 := hl3.len
   have hgt := gets_take σ2.log
   refine W.loop (fun (μ0 : Nat) (ws : List (Nat × Value)) (w' : World) => ∃ (i : Nat) (γ' : Tg) (ρ0 : List (Nat × Value)), μ0 = σ2.log.length - i ∧ ws = ((16, .int .i64 ↑i) :: (15, .int .i64 ((gets (σ2.log.take i) : Nat) : Int)) :: (14, .int .i64 0) :: (5, .pointer (some ⟨p1, 0, none⟩)) :: ρ0) ∧ Kn (Lo Nt t0) w γ [(b7, 31, (chgM ((findM e.it.key 17 ⟨σ1.clear, 0, []⟩ top1 0).2.σ.clear).er top1 [e]).1.top.cells), (b5, 50, (findM e.it.key 17 ⟨σ1.clear, 0, []⟩ top1 0).1.item.cells), (b4, 31, top1.cells), (b2, 55, e.cells), (b1, 27, [.slice sb.a sb.n sb.c, .int .i64 most, .int .i64 lost])] w' γ' ∧ Mv Nt w16 g11 w' γ' ∧ (i ≤ σ2.log.length) ∧ (gets (σ2.log.take i) ≤ gets σ2.log) ∧ Bt t0 w' γ' p1 60 [.slice sn3.a sn3.n sn3.c, .int .i64 σ2.most, .int .i64 σ2.lost, .slice sg3.a sg3.n sg3.c, .int .i64 σ2.got, .pointer none] ∧ Gs (t0 + 2) 68 38 Dd.cells w' γ' sg3 σ2.log) (σ2.log.length - 0) ((((look_eq (t := 5) (v := .pointer (some ⟨p1, 0, none⟩)) rfl).trans (look_eq (t := 14) (v := .int .i64 0) rfl)).trans (look_eq (t := 15) (v := .int .i64 ((gets (σ2.log.take 0) : Nat) : Int)) rfl)).trans (look_eq (t := 16) (v := .int .i64 ↑0) rfl)) ?_ ?_
   ·exact ⟨0, _, _, rfl, rfl, K16, Mv.refl _ _ _, Nat.zero_le _, hgt 0, hp3, hl3⟩
   ·rintro _ _ w17 ⟨i, g12, r1, rfl, rfl, K17, M17, p2, p3, h1, h2⟩
    have n11 := h2.len
    refine wp_seq_k fun k18 hk18 => (wp_seq_k fun k19 hk19 => (wp_region_lit ?_))
    refine Zb 71 (.int .i64 ↑i) ?_
    refine Zb 72 (.pointer (some ⟨p1, 0, none⟩)) ?_
    refine Zb 73 (.pointer (some ⟨p1, 0, none⟩)) ?_
    refine Zb 74 (.pointer (some ⟨p1, 3, none⟩)) ?_
    refine Zc 75 (.slice sg3.a sg3.n sg3.c) (exec_load rfl rfl Ty57 ((h1.1).cell 3)) ?_
    refine Zb 76 (.int .i64 (sg3.n : Int)) ?_
    by_cases t3 : ((i : Nat) : Int) < (sg3.n : Int)
    ·refine Zc 77 (.bool true) (okv (by kernel_rfl) (congrArg Value.bool (decide_eq_true t3))) ?_
     refine wpList_nil (hk19 _ _ (W.cond true rfl (wp_skip (hk18 _ _ (wp_seq_k fun k20 hk20 => (wp_block ?_))))))
     refine wp_seq_k fun k21 hk21 => (wp_region_lit ?_)
     refine Zb 80 (.pointer (some ⟨p1, 0, none⟩)) ?_
     refine Zb 81 (.pointer (some ⟨p1, 0, none⟩)) ?_
     refine Zb 82 (.pointer (some ⟨p1, 3, none⟩)) ?_
     refine Zc 83 (.slice sg3.a sg3.n sg3.c) (exec_load rfl rfl Ty57 ((h1.1).cell 3)) ?_
     refine Zb 84 (.int .i64 ↑i) ?_
     obtain ⟨x1, hx1⟩ := get_some (xs := σ2.log) (i := i) (by omega)
     obtain ⟨b8, ha2, hib2, hr2⟩ := h2.elt hx1
     refine Zc 85 (.pointer (some ⟨b8, 0 + i * 38, none⟩)) (exec_index (E := 68) (k := i) rfl (by kernel_rfl) (by kernel_rfl) rfl ha2 rfl hib2) ?_
     refine Zb 86 (.pointer (some ⟨b8, 0 + i * 38, none⟩)) ?_
     rcases bsplit (x1.al) with t4 | t4
     ·refine Zc 87 (.bool true) (okv (exec_load rfl rfl Ty4 (hr2.2.2 0 (Nat.le_of_ble_eq_true rfl))) (congrArg Value.bool t4)) ?_
      refine Zb 88 (.bool false) ?_
      refine wpList_nil (hk21 _ _ (W.cond false rfl (wp_skip (block_normal (hk20 _ _ (wp_region_lit ?_))))))
      refine Zb 78 (.int .i64 ↑i) ?_
      refine Zc 79 (.int .i64 ((i + 1 : Nat) : Int)) (okv (v := .int .i64 (IntKind.i64.wrap (((i : Nat) : Int) + 1))) (by kernel_rfl) (wrapn (by omega) (by omega))) ?_
      refine Zb 16 (.int .i64 ((i + 1 : Nat) : Int)) ?_
      refine wpList_nil ?_
      exact ⟨σ2.log.length - (i + 1), _, by omega, ((((look_eq (t := 5) (v := .pointer (some ⟨p1, 0, none⟩)) rfl).trans (look_eq (t := 14) (v := .int .i64 0) rfl)).trans (look_eq (t := 15) (v := .int .i64 ((gets (σ2.log.take (i + 1)) : Nat) : Int)) (by rw [gets_snoc hx1, t4]; rfl))).trans (look_eq (t := 16) (v := .int .i64 (((i + 1) : Nat) : Int)) rfl)), ⟨(i + 1), _, _, rfl, rfl, K17, M17, by omega, hgt _, h1, h2⟩⟩
     ·refine Zc 87 (.bool false) (okv (exec_load rfl rfl Ty4 (hr2.2.2 0 (Nat.le_of_ble_eq_true rfl))) (congrArg Value.bool t4)) ?_
      refine Zb 88 (.bool true) ?_
      refine wpList_nil (hk21 _ _ (W.cond true rfl (wp_region_lit ?_)))
      refine Zb 89 (.int .i64 ((gets (σ2.log.take i) : Nat) : Int)) ?_
      refine Zc 90 (.int .i64 ((gets (σ2.log.take i) + 1 : Nat) : Int)) (okv (v := .int .i64 (IntKind.i64.wrap (((gets (σ2.log.take i) : Nat) : Int) + 1))) (by kernel_rfl) (wrapn (by omega) (by omega))) ?_
      refine Zb 15 (.int .i64 ((gets (σ2.log.take i) + 1 : Nat) : Int)) ?_
      refine wpList_nil (block_normal (hk20 _ _ (wp_region_lit ?_)))
      refine Zb 78 (.int .i64 ↑i) ?_
      refine Zc 79 (.int .i64 ((i + 1 : Nat) : Int)) (okv (v := .int .i64 (IntKind.i64.wrap (((i : Nat) : Int) + 1))) (by kernel_rfl) (wrapn (by omega) (by omega))) ?_
      refine Zb 16 (.int .i64 ((i + 1 : Nat) : Int)) ?_
      refine wpList_nil ?_
      exact ⟨σ2.log.length - (i + 1), _, by omega, ((((look_eq (t := 5) (v := .pointer (some ⟨p1, 0, none⟩)) rfl).trans (look_eq (t := 14) (v := .int .i64 0) rfl)).trans (look_eq (t := 15) (v := .int .i64 ((gets (σ2.log.take (i + 1)) : Nat) : Int)) (by rw [gets_snoc hx1, t4]; rfl))).trans (look_eq (t := 16) (v := .int .i64 (((i + 1) : Nat) : Int)) rfl)), ⟨(i + 1), _, _, rfl, rfl, K17, M17, by omega, hgt _, h1, h2⟩⟩
    ·refine Zc 77 (.bool false) (okv (by kernel_rfl) (congrArg Value.bool (decide_eq_false t3))) ?_
     refine wpList_nil (hk19 _ _ (W.cond false rfl (wp_exit (then_exit ?_))))
     have hi9 : i = σ2.log.length := by omega
     have hg9 : gets (σ2.log.take i) = gets σ2.log := by rw [hi9, List.take_length]
     refine then_exit (block_exit (hk16 _ _ (wp_seq_k fun k22 hk22 => (wp_region_lit ?_))))
     refine Zb 91 (.int .i64 0) ?_
     refine W.op (O.call 92 10 #[.int .i64 0] (by kernel_rfl) rfl (by kernel_rfl) ((num_c 0 w17 g12).mono ?_))
     rintro e6 w18 ⟨g13, rfl, M18⟩
     have K18 := K17.step M18 nt_le quiet
     refine ⟨_, rfl, ?_⟩
     refine Zb 93 (.bool true) ?_
     refine Zb 94 (.bool true) ?_
     refine Zd 95 (.int .i64 ((gets (σ2.log.take i) : Nat) : Int)) ?_
     by_cases t5 : ((gets (σ2.log.take i) : Nat) : Int) ≤ 21
     ·refine W.op (O.gv 96 (.bool true) (by kernel_rfl) rfl (okv (by kernel_rfl) (congrArg Value.bool (decide_eq_true t5))) ?_)
      refine Zb 97 (.bool true) ?_
      refine Zb 98 (.bool true) ?_
      refine Zd 99 (.pointer (some ⟨p1, 0, none⟩)) ?_
      refine Zd 100 (.pointer (some ⟨p1, 0, none⟩)) ?_
      refine Zd 101 (.pointer (some ⟨p1, 3, none⟩)) ?_
      have htp_2 := h1.mv M18 quiet
      refine W.op (O.gv 102 (.slice sg3.a sg3.n sg3.c) (by kernel_rfl) rfl (exec_load rfl rfl Ty57 ((htp_2.1).cell 3)) ?_)
      refine Zd 103 (.int .i64 (sg3.n : Int)) ?_
      refine Zd 104 (.int .i64 ((gets (σ2.log.take i) : Nat) : Int)) ?_
      refine W.op (O.gv 105 (.int .i64 ((sg3.n : Int) - ((gets (σ2.log.take i) : Nat) : Int))) (by kernel_rfl) rfl (okv (v := .int .i64 (IntKind.i64.wrap ((sg3.n : Int) - ((gets (σ2.log.take i) : Nat) : Int)))) (by kernel_rfl) (wrapi (by omega) (by omega))) ?_)
      by_cases t6 : ((sg3.n : Int) - ((gets (σ2.log.take i) : Nat) : Int)) ≤ 21
      ·refine W.op (O.gv 106 (.bool true) (by kernel_rfl) rfl (okv (by kernel_rfl) (congrArg Value.bool (decide_eq_true t6))) ?_)
       refine Zb 107 (.bool true) ?_
       refine Zb 108 (.bool true) ?_
       refine W.op (O.call 109 11 #[] (by kernel_rfl) rfl (by kernel_rfl) ((live_c w18 g13).mono ?_))
       rintro e7 w19 ⟨g14, rfl, M19⟩
       have K19 := K18.step M19 nt_le quiet
       refine ⟨_, rfl, ?_⟩
       refine Zb 110 (.bool true) ?_
       refine Zb 4 (.bool true) ?_
       refine wpList_nil (hk22 _ _ (wp_ret (W.ret1 (v := .bool true) rfl (.tmp rfl .nil) ?_)))
       exact ⟨_, rfl, (K19.mv.shut hf0)⟩
      ·exfalso; omega
     ·exfalso; omega

end Go.Proofs.Ytlfanphdnjoofaa
