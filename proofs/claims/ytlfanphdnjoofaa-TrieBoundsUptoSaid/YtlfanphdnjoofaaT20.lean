/- Walks: the small story. -/
import Derived.Test.YtlfanphdnjoofaaT19
import Derived.Test.YtlfanphdnjoofaaM4
import Derived.Test.YtlfanphdnjoofaaT6
namespace Go.Proofs.Ytlfanphdnjoofaa
open Go.RowKit
set_option linter.unusedSimpArgs false
set_option linter.unusedVariables false
attribute [local irreducible] wpList Code.wp Calls OpS wpG

/-- The edits of the small story: five items. -/
def mkE (i : Nat) : Edit := ⟨⟨⟨#[UInt8.ofNat (97 + i)]⟩, ((i + 1 : Nat) : Int), 3, ((i + 1 : Nat) : Int), ByteArray.empty, nilS, nilS⟩, false⟩
def E5 : List Edit := (List.range 5).map mkE
def Ea : Edit := ⟨⟨⟨#[97]⟩, 0, 3, 0, ByteArray.empty, nilS, nilS⟩, true⟩
def kC : ByteArray := ⟨#[99]⟩
def V0 : TapeS := ⟨[], 100, 0, [], 0⟩
def V1 : TapeS := (chgM V0 ⟨0, 0⟩ E5).2
def Q1 : Ref := (chgM V0 ⟨0, 0⟩ E5).1.top
def V2 : TapeS := (findM kC 17 ⟨V1, 0, []⟩ Q1 0).2.σ
def V3 : TapeS := (chgM V2 Q1 [Ea]).2
def Q3 : Ref := (chgM V2 Q1 [Ea]).1.top
def A3 : List Item := allL (allM 17 ⟨V3, 0, []⟩ Q3).1
theorem live_gone : 1 < (chgM V2 Q1 [Ea]).1.gone.length := by decide +kernel
theorem live_all : A3.length = 4 := by decide +kernel
theorem live_e1 : (chgM V0 ⟨0, 0⟩ E5).1.err = 0 := by decide +kernel
theorem live_e2 : (chgM V2 Q1 [Ea]).1.err = 0 := by decide +kernel
theorem live_f : (findM kC 17 ⟨V1, 0, []⟩ Q1 0).1.has = true := by decide +kernel
theorem live_f2 : (findM kC 17 ⟨V1, 0, []⟩ Q1 0).1.err = 0 := by decide +kernel
theorem live_v : (findM kC 17 ⟨V1, 0, []⟩ Q1 0).1.item.ver = 3 := by decide +kernel
theorem live_a : errO (allM 17 ⟨V3, 0, []⟩ Q3).1 = 0 := by decide +kernel
theorem live_c1 : fitCB V0 ⟨0, 0⟩ E5 = true := by decide +kernel
theorem live_c2 : fitCB V2 Q1 [Ea] = true := by decide +kernel
theorem live_c3 : fitAB 17 ⟨V3, 0, []⟩ Q3 0 = true := by decide +kernel
theorem live_n1 : V1.nodes.length ≤ 1000 ∧ V1.log.length ≤ 1000 ∧ V2.nodes.length ≤ 1000 ∧ V2.log.length ≤ 1000 ∧ V3.nodes.length ≤ 1000 ∧ V3.log.length ≤ 1000 := by decide +kernel
theorem live_l3 : (match (allM 17 ⟨V3, 0, []⟩ Q3).1 with | none => true | some l => decide (l.length ≤ 100000)) = true := by decide +kernel
theorem er_len {σ τ : TapeS} (h : σ.er = τ) : σ.nodes.length = τ.nodes.length ∧ σ.log.length = τ.log.length := by
  subst h; simp [TapeS.er]
theorem V0_er : V0.er = V0 := rfl
theorem u8_v {n : Nat} (h : n < 256) : Value.int .u8 (IntKind.u8.wrap ((n : Nat) : Int)) = .int .u8 ((UInt8.ofNat n).toNat : Int) := by
  have e : IntKind.u8.wrap ((n : Nat) : Int) = ((n : Nat) : Int) := by
    simp only [IntKind.wrap, IntKind.bits, IntKind.signed]
    simp
    omega
  rw [e, UInt8.toNat_ofNat', Nat.mod_eq_of_lt (by simpa using h)]

set_option maxRecDepth 100000 in
set_option maxHeartbeats 1000000 in
theorem live_c  (w : World) (γ : Tg) :
    Calls Try.prog 11 #[] w fun ε w' => ∃ (γ' : Tg), ε = .returned (.bool true) ∧ Mv Nt w γ w' γ' := by
 obtain ⟨t0, ht0, hf0⟩ := fresh_tag w γ 2
 have K0 := Kn.start (Lo Nt t0) w γ
 refine W.enter (ws := []) 111 Try.func11 rfl (by kernel_rfl) ?_
 refine wp_seq_k fun k1 hk1 => (wp_region_lit ?_)
 refine Zb 0 (.bool false) ?_
 refine wpList_nil (hk1 _ _ (wp_seq_k fun k2 hk2 => (wp_region_lit ?_)))
 refine Zb 15 (.agg #[.slice none 0 0, .int .i64 100, .int .i64 0, .slice none 0 0, .int .i64 0, .pointer none]) ?_
 refine W.op (O.newt t0 16 60 [.slice none 0 0, .int .i64 100, .int .i64 0, .slice none 0 0, .int .i64 0, .pointer none] rfl rfl (by kernel_rfl) K0 fun b1 w1 g1 K1 hb1 M1 => ?_)
 refine Zb 1 (.pointer (some ⟨b1, 0, none⟩)) ?_
 refine wpList_nil (hk2 _ _ (wp_seq_k fun k3 hk3 => (wp_region_lit ?_)))
 refine Zb 2 (.slice none 0 0) ?_
 refine wpList_nil (hk3 _ _ (wp_seq_k fun k4 hk4 => (wp_seq_k fun k5 hk5 => (wp_region_lit ?_))))
 refine Zb 3 (.int .i64 0) ?_
 refine wpList_nil (hk5 _ _ (wp_block ?_))
 have hG1 : Gs (t0 + 10) 55 8 Edit.cells w1 g1 nilS ((List.range 0).map mkE) := Gs.nil _ _ _ _ Edit.size
 have n1 := hG1.len
 refine W.loop (fun (μ0 : Nat) (ws : List (Nat × Value)) (w' : World) => ∃ (k : Nat) (se : Sli) (γ' : Tg) (ρ0 : List (Nat × Value)), μ0 = 5 - k ∧ ws = ((3, .int .i64 ↑k) :: (2, .slice se.a se.n se.c) :: (1, .pointer (some ⟨b1, 0, none⟩)) :: ρ0) ∧ Kn (Lo Nt t0) w γ [] w' γ' ∧ Mv (Lo (fun ξ => ξ = 1) t0) w1 g1 w' γ' ∧ (k ≤ 5) ∧ Gs (t0 + 10) 55 8 Edit.cells w' γ' se ((List.range k).map mkE) ∧ Bt t0 w' γ' b1 60 [.slice none 0 0, .int .i64 100, .int .i64 0, .slice none 0 0, .int .i64 0, .pointer none]) (5 - 0) (((look_eq (t := 1) (v := .pointer (some ⟨b1, 0, none⟩)) rfl).trans (look_eq (t := 2) (v := .slice nilS.a nilS.n nilS.c) rfl)).trans (look_eq (t := 3) (v := .int .i64 ↑0) rfl)) ?_ ?_
 ·exact ⟨0, nilS, _, _, rfl, rfl, K1, Mv.refl _ _ _, Nat.zero_le _, hG1, hb1⟩
 ·rintro _ _ w2 ⟨k, se, g2, r1, rfl, rfl, K2, M2, p1, h1, h2⟩
  have n2 := h1.len
  refine wp_seq_k fun k6 hk6 => (wp_seq_k fun k7 hk7 => (wp_region_lit ?_))
  refine Zb 17 (.int .i64 ↑k) ?_
  by_cases t1 : ((k : Nat) : Int) < 5
  ·refine Zc 18 (.bool true) (okv (by kernel_rfl) (congrArg Value.bool (decide_eq_true t1))) ?_
   refine wpList_nil (hk7 _ _ (W.cond true rfl (wp_skip (hk6 _ _ (wp_seq_k fun k8 hk8 => (wp_block ?_))))))
   refine wp_region_lit ?_
   refine Zb 21 (.slice se.a se.n se.c) ?_
   refine Zb 22 (.int .i64 ↑k) ?_
   refine Zc 23 (.int .i64 ((97 + k : Nat) : Int)) (okv (v := .int .i64 (IntKind.i64.wrap (97 + ((k : Nat) : Int)))) (by kernel_rfl) (wrapn (by omega) (by omega))) ?_
   refine Zc 24 (.int .u8 ((UInt8.ofNat (97 + k)).toNat : Int)) (okv (v := .int .u8 (IntKind.u8.wrap ((97 + k : Nat) : Int))) (by kernel_rfl) (u8_v (by omega))) ?_
   refine W.op (O.lit 25 5 [.int .u8 ((UInt8.ofNat (97 + k)).toNat : Int)] 1 rfl rfl (by kernel_rfl) K2 fun b2 w3 g3 K3 M3 => ?_)
   refine Zc 26 (.string ⟨#[UInt8.ofNat (97 + k)]⟩) (exec_bytes1 (e := 5) (c := UInt8.ofNat (97 + k)) rfl (by kernel_rfl) (by kernel_rfl) (by kernel_rfl) rfl (K3.nth 0 rfl)) ?_
   refine Zb 27 (.int .i64 ↑k) ?_
   refine Zc 28 (.int .i64 ((k + 1 : Nat) : Int)) (okv (v := .int .i64 (IntKind.i64.wrap (((k : Nat) : Int) + 1))) (by kernel_rfl) (wrapn (by omega) (by omega))) ?_
   refine W.op (O.call 29 29 #[.string ⟨#[UInt8.ofNat (97 + k)]⟩, .int .i64 ((k + 1 : Nat) : Int)] (by kernel_rfl) rfl (by kernel_rfl) ((item_c ⟨#[UInt8.ofNat (97 + k)]⟩ ((k + 1 : Nat) : Int) w3 g3).mono ?_))
   rintro e1 w4 ⟨g4, rfl, M4⟩
   have K4 := K3.step M4 nt_le quiet
   refine ⟨_, rfl, ?_⟩
   refine Zb 30 (.agg #[.string ⟨#[UInt8.ofNat (97 + k)]⟩, .int .i64 ((k + 1 : Nat) : Int), .int .i64 3, .int .i64 ((k + 1 : Nat) : Int), .string ByteArray.empty, .slice none 0 0, .slice none 0 0, .bool false]) ?_
   refine W.op (O.lit 31 55 [.string ⟨#[UInt8.ofNat (97 + k)]⟩, .int .i64 ((k + 1 : Nat) : Int), .int .i64 3, .int .i64 ((k + 1 : Nat) : Int), .string ByteArray.empty, .slice none 0 0, .slice none 0 0, .bool false] 1 rfl rfl (by kernel_rfl) K4 fun b3 w5 g5 K5 M5 => ?_)
   have hes_1 := h1.mv M3 quiet
   have hes_2 := hes_1.mv M4 quiet
   have hes_3 := hes_2.mv M5 quiet
   refine W.op (O.append (f := Edit.cells) 32 [mkE k] (by kernel_rfl) rfl rfl (by kernel_rfl) El55 rfl rfl hes_3 rfl (src1 (K5.nth 0 rfl) rfl) (fun _ => rfl) (by simp only [List.length_append, List.length_map, List.length_range, List.length_cons, List.length_nil]; omega) (by simp only [List.length_append, List.length_map, List.length_range, List.length_cons, List.length_nil]; omega) fun s1 w6 g6 hG2 M6 => ?_)
   have K6 := K5.step M6 (eq_lo (by omega)) (neq (by omega))
   have n3 := hG2.len
   refine Zb 2 (.slice s1.a s1.n s1.c) ?_
   refine wpList_nil (block_normal (hk8 _ _ (wp_region_lit ?_)))
   refine Zb 19 (.int .i64 ↑k) ?_
   refine Zc 20 (.int .i64 ((k + 1 : Nat) : Int)) (okv (v := .int .i64 (IntKind.i64.wrap (((k : Nat) : Int) + 1))) (by kernel_rfl) (wrapn (by omega) (by omega))) ?_
   refine Zb 3 (.int .i64 ((k + 1 : Nat) : Int)) ?_
   refine wpList_nil ?_
   have htp_1 := h2.mv M3 quiet
   have htp_2 := htp_1.mv M4 quiet
   have htp_3 := htp_2.mv M5 quiet
   have htp_4 := htp_3.mv M6 (neq (by omega))
   exact ⟨5 - (k + 1), _, by omega, (((look_eq (t := 1) (v := .pointer (some ⟨b1, 0, none⟩)) rfl).trans (look_eq (t := 2) (v := .slice s1.a s1.n s1.c) rfl)).trans (look_eq (t := 3) (v := .int .i64 (((k + 1) : Nat) : Int)) rfl)), ⟨(k + 1), s1, _, _, rfl, rfl, K6.tail.tail, ((((M2.trans (M3.mono nt_le)).trans (M4.mono nt_le)).trans (M5.mono nt_le)).trans (M6.mono (eq_lo (by omega)))), by omega, (by have h := hG2; rw [List.range_succ, List.map_append]; exact h), htp_4⟩⟩
  ·refine Zc 18 (.bool false) (okv (by kernel_rfl) (congrArg Value.bool (decide_eq_false t1))) ?_
   refine wpList_nil (hk7 _ _ (W.cond false rfl (wp_exit (then_exit ?_))))
   have hk9 : k = 5 := by omega
   have hE1 := h1
   rw [hk9, show (List.range 5).map mkE = E5 from rfl] at hE1
   have n4 := hE1.len
   refine then_exit (block_exit (hk4 _ _ (wp_seq_k fun k9 hk9 => (wp_region_lit ?_))))
   refine Zb 34 (.pointer (some ⟨b1, 0, none⟩)) ?_
   refine Zb 35 (.iface 29 (.pointer (some ⟨b1, 0, none⟩))) ?_
   refine Zb 36 (.agg #[.int .i64 0, .int .i64 0]) ?_
   refine Zb 37 (.slice se.a se.n se.c) ?_
   have hT0 : Tp t0 w2 g2 b1 V0 := ⟨⟨nilS, nilS, h2, Gs.nil _ _ _ _ Nd.size, Gs.nil _ _ _ _ Dd.size⟩, (fun _ h => by cases h), (fun _ h => by cases h)⟩
   have M7 := Mv.recol w2 g2 (t0 + 10) 0
   have K7 := K2.step M7 (eq_lo (by omega)) (neq (by omega))
   have h3 := hE1.ice
   have n5 := h3.len
   have hT_1 := hT0.mv M7 (neq (by omega)) (neq (by omega)) (neq (by omega)) (neq (by omega))
   have hr9 := change_c t0 b1 V0 (⟨0, 0⟩ : Ref) se E5 (t0 + 31) w2 (recol g2 (t0 + 10) 0) hT_1 (by omega) (by omega) (by decide) (by decide) h3 (by decide) (fitCB_spec live_c1)
   rw [V0_er, show (⟨0, 0⟩ : Ref) = ⟨0, 0⟩ from rfl, live_e1] at hr9
   refine W.op (O.call 38 22 #[.iface 29 (.pointer (some ⟨b1, 0, none⟩)), .agg #[.int .i64 0, .int .i64 0], .slice se.a se.n se.c] (by kernel_rfl) rfl (by kernel_rfl) ((hr9).mono ?_))
   rintro e2 w7 ⟨g7, s2, σ1, rfl, M8, hq1, hq2, hq3⟩
   have K8 := K7.step M8 (rg_lo (by omega)) (nrg (by omega))
   have n6 := hq3.len
   have hV1 : σ1.er = V1 := hq2
   have hl1 := er_len hV1
   have hn9 := live_n1
   have hF0 := findM_er kC 17 ⟨σ1, 0, []⟩ Q1 0
   rw [show St.er ⟨σ1, 0, []⟩ = ⟨V1, 0, []⟩ from by rw [← hV1]] at hF0
   have hF1 : (findM kC 17 ⟨σ1, 0, []⟩ Q1 0).1 = (findM kC 17 ⟨V1, 0, []⟩ Q1 0).1 := by rw [hF0]
   have hV2 : (findM kC 17 ⟨σ1, 0, []⟩ Q1 0).2.σ.er = V2 := by unfold V2; rw [hF0]
   have hl2 := er_len hV2
   refine ⟨_, rfl, ?_⟩
   refine Zb 33 (.tuple #[.agg Q1.cells.toArray, .slice s2.a s2.n s2.c, .int .i64 0]) ?_
   refine Zb 39 (.agg Q1.cells.toArray) ?_
   refine Zb 40 (.slice s2.a s2.n s2.c) ?_
   refine Zb 41 (.int .i64 0) ?_
   refine W.op (O.new 4 31 [.int .i64 0, .int .i64 0] rfl rfl (by kernel_rfl) K8 fun b4 w8 g8 K9 M9 => ?_)
   refine W.op (O.sta 0 Q1.cells rfl rfl rfl rfl rfl Ty31 rfl rfl rfl rfl K9 fun w9 K10 M10 => ?_)
   refine Zb 5 (.slice s2.a s2.n s2.c) ?_
   refine Zb 6 (.int .i64 0) ?_
   refine wpList_nil (hk9 _ _ (wp_seq_k fun k10 hk10 => (wp_region_lit ?_)))
   refine Zb 43 (.pointer (some ⟨b1, 0, none⟩)) ?_
   refine Zb 44 (.iface 29 (.pointer (some ⟨b1, 0, none⟩))) ?_
   refine Zc 45 (.agg Q1.cells.toArray) (exec_loads (cs := Q1.cells) rfl rfl Ty31 rfl ((K10.nth 0 rfl).all 2)) ?_
   have hT_2 := hq1.mv M9 quiet quiet quiet quiet
   have hT_3 := hT_2.mv M10 (neq (by omega)) (neq (by omega)) (neq (by omega)) (neq (by omega))
   have hr9 := find_c t0 b1 σ1 Q1 ⟨#[99]⟩ w9 g8 hT_3 (by omega) (by omega) (by omega) (by decide)
   rw [show (findM ⟨#[99]⟩ 17 ⟨σ1, 0, []⟩ Q1 0).1 = (findM kC 17 ⟨V1, 0, []⟩ Q1 0).1 from hF1, live_f, live_f2] at hr9
   refine W.op (O.call 46 20 #[.iface 29 (.pointer (some ⟨b1, 0, none⟩)), .agg Q1.cells.toArray, .string ⟨#[99]⟩] (by kernel_rfl) rfl (by kernel_rfl) ((hr9).mono ?_))
   rintro e3 w10 ⟨g9, rfl, M11, hq4⟩
   have K11 := K10.step M11 (rg_lo (by omega)) (nrg (by omega))
   refine ⟨_, rfl, ?_⟩
   refine Zb 42 (.tuple #[.agg ((findM kC 17 ⟨V1, 0, []⟩ Q1 0).1.item.cells).toArray, .bool true, .int .i64 0]) ?_
   refine Zb 47 (.agg ((findM kC 17 ⟨V1, 0, []⟩ Q1 0).1.item.cells).toArray) ?_
   refine Zb 48 (.bool true) ?_
   refine Zb 49 (.int .i64 0) ?_
   refine W.op (O.new 7 50 [.string ByteArray.empty, .int .i64 0, .int .i64 0, .int .i64 0, .string ByteArray.empty, .slice none 0 0, .slice none 0 0] rfl rfl (by kernel_rfl) K11 fun b5 w11 g10 K12 M12 => ?_)
   refine W.op (O.sta 0 (findM kC 17 ⟨V1, 0, []⟩ Q1 0).1.item.cells rfl rfl rfl rfl rfl Ty50 rfl rfl rfl rfl K12 fun w12 K13 M13 => ?_)
   refine Zb 8 (.bool true) ?_
   refine Zb 9 (.int .i64 0) ?_
   refine wpList_nil (hk10 _ _ (wp_seq_k fun k11 hk11 => (wp_region_G (SmL [(2, (Rg t0 (t0 + 5)))] w12 g10) (by kernel_rfl) ?_)))
   have K14 := K13.drew
   have M14 : Mv Nt w12 g10 w12.drew g10 := (Mv.refl _ _ _).drew
   refine Yb 0 51 (.pointer (some ⟨b1, 0, none⟩)) rfl (fun u => by kernel_rfl) ?_
   refine Yb 1 52 (.iface 29 (.pointer (some ⟨b1, 0, none⟩))) rfl (fun u => by kernel_rfl) ?_
   refine G.take 2 53 (.agg Q1.cells.toArray) rfl (by kernel_rfl) rfl (fun _ _ _ h => h) ((Mv.refl _ _ _).trans (M14.mono nt_le)).self (by kernel_rfl) (fun u hm => exec_loads (cs := Q1.cells) rfl rfl Ty31 rfl ((K13.later 1 rfl hm (nrg (by omega))).all 2)) ?_
   refine G.op2 3 11 (by kernel_rfl) rfl rfl ?_ ?_
   ·refine O.call 54 29 #[.string ⟨#[97]⟩, .int .i64 0] (by kernel_rfl) rfl (by kernel_rfl) ((item_c ⟨#[97]⟩ 0 w12.drew g10).mono ?_)
    rintro e4 w13 ⟨g11, rfl, M15⟩
    have K15 := K14.step M15 nt_le quiet
    refine ⟨_, rfl, ⟨kp_nt ((Mv.refl _ _ _).trans M15) _, ?_⟩⟩
    refine Yb 4 55 (.agg #[.string ⟨#[97]⟩, .int .i64 0, .int .i64 3, .int .i64 0, .string ByteArray.empty, .slice none 0 0, .slice none 0 0, .bool true]) rfl (fun u => by kernel_rfl) ?_
    refine G.op2 5 11 (by kernel_rfl) rfl rfl ?_ ?_
    ·refine O.litt 0 56 55 [.string ⟨#[97]⟩, .int .i64 0, .int .i64 3, .int .i64 0, .string ByteArray.empty, .slice none 0 0, .slice none 0 0, .bool true] 1 rfl rfl (by kernel_rfl) K15 fun b6 w14 g12 K16 hb2 M16 => ⟨kp_nt ((Mv.refl _ _ _).trans M16) _, ?_⟩
     refine G.op2 6 11 (by kernel_rfl) rfl rfl ?_ ?_
     ·have hLs1 := hb2.ls [Ea] Edit.size rfl (m := 1) rfl
      have n7 := hLs1.len
      have hT_4 := hq4.mv M12 quiet quiet quiet quiet
      have hT_5 := hT_4.mv M13 (neq (by omega)) (neq (by omega)) (neq (by omega)) (neq (by omega))
      have hT_6 := hT_5.mv M14 quiet quiet quiet quiet
      have hT_7 := hT_6.mv M15 quiet quiet quiet quiet
      have hT_8 := hT_7.mv M16 quiet quiet quiet quiet
      have hr9 := change_c t0 b1 ((findM kC 17 ⟨σ1, 0, []⟩ Q1 0).2.σ) Q1 (⟨some ⟨b6, 0, none⟩, 1, 1⟩ : Sli) [Ea] (t0 + 32) w14 g12 hT_8 (by omega) (by omega) (by omega) (by omega) hLs1 (by decide) (fitC_er (by rw [hV2]; exact fitCB_spec live_c2))
      rw [hV2, live_e2] at hr9
      refine O.call 57 22 #[.iface 29 (.pointer (some ⟨b1, 0, none⟩)), .agg Q1.cells.toArray, .slice (some ⟨b6, 0, none⟩) 1 1] (by kernel_rfl) rfl (by kernel_rfl) ((hr9).mono ?_)
      rintro e5 w15 ⟨g13, s3, σ2, rfl, M17, hq5, hq6, hq7⟩
      have K17 := K16.step M17 (rg_lo (by omega)) (nrg (by omega))
      have n8 := hq7.len
      have hV3 : σ2.er = V3 := hq6
      have hl3 := er_len hV3
      have hgn := live_gone
      have hA0 := allM_er 17 ⟨σ2, 0, []⟩ Q3
      rw [show St.er ⟨σ2, 0, []⟩ = ⟨V3, 0, []⟩ from by rw [← hV3]] at hA0
      have hA1 : (allM 17 ⟨σ2, 0, []⟩ Q3).1 = (allM 17 ⟨V3, 0, []⟩ Q3).1 := by rw [hA0]
      refine ⟨_, rfl, ⟨(kp_skip (by kernel_rfl) kp_nil), ?_⟩⟩
      refine Yb 7 50 (.tuple #[.agg Q3.cells.toArray, .slice s3.a s3.n s3.c, .int .i64 0]) rfl (fun u => by kernel_rfl) ?_
      refine Yb 8 58 (.agg Q3.cells.toArray) rfl (fun u => by kernel_rfl) ?_
      refine Yb 9 59 (.slice s3.a s3.n s3.c) rfl (fun u => by kernel_rfl) ?_
      refine Yb 10 60 (.int .i64 0) rfl (fun u => by kernel_rfl) ?_
      refine G.op 11 (by kernel_rfl) rfl (O.new 10 31 [.int .i64 0, .int .i64 0] rfl rfl (by kernel_rfl) K17 fun b7 w16 g14 K18 M18 => ⟨kp_nt ((Mv.refl _ _ _).trans M18) _, ?_⟩)
      refine G.op 12 (by kernel_rfl) rfl (O.sta 0 Q3.cells rfl rfl rfl rfl rfl Ty31 rfl rfl rfl rfl K18 fun w17 K19 M19 => ⟨(kp_skip (by kernel_rfl) kp_nil), ?_⟩)
      refine Yb 13 11 (.slice s3.a s3.n s3.c) rfl (fun u => by kernel_rfl) ?_
      refine Yb 14 12 (.int .i64 0) rfl (fun u => by kernel_rfl) ?_
      refine G.fin (by kernel_rfl) ?_
      refine hk11 _ _ (wp_seq_k fun k12 hk12 => (wp_region_lit ?_))
      refine Zb 62 (.pointer (some ⟨b1, 0, none⟩)) ?_
      refine Zb 63 (.iface 29 (.pointer (some ⟨b1, 0, none⟩))) ?_
      refine Zc 64 (.agg Q3.cells.toArray) (exec_loads (cs := Q3.cells) rfl rfl Ty31 rfl ((K19.nth 0 rfl).all 2)) ?_
      have hT_9 := hq5.mv M18 quiet quiet quiet quiet
      have hT_10 := hT_9.mv M19 (neq (by omega)) (neq (by omega)) (neq (by omega)) (neq (by omega))
      have hr9 := All_c t0 b1 σ2 Q3 (t0 + 33) w17 g14 hT_10 (by omega) (by omega) (by omega) (fitA_er 17 ⟨σ2, 0, []⟩ Q3 0 (by rw [show St.er ⟨σ2, 0, []⟩ = ⟨V3, 0, []⟩ from by rw [← hV3]]; exact fitAB_spec _ _ _ _ live_c3)) (fun l S h => by have h9 := live_l3; rw [← hA1, show allM 17 _ Q3 = _ from h] at h9; exact of_decide_eq_true h9)
      rw [hA1, live_a] at hr9
      refine W.op (O.call 65 16 #[.iface 29 (.pointer (some ⟨b1, 0, none⟩)), .agg Q3.cells.toArray] (by kernel_rfl) rfl (by kernel_rfl) ((hr9).mono ?_))
      rintro e6 w18 ⟨g15, s4, rfl, M20, hq8, hq9⟩
      have K20 := K19.step M20 (rg_lo (by omega)) (nrg (by omega))
      have n9 := hq9.len
      have hal : (allL (allM 17 ⟨V3, 0, []⟩ Q3).1).length = 4 := live_all
      refine ⟨_, rfl, ?_⟩
      refine Zb 61 (.tuple #[.slice s4.a s4.n s4.c, .int .i64 0]) ?_
      refine Zb 66 (.slice s4.a s4.n s4.c) ?_
      refine Zb 67 (.int .i64 0) ?_
      refine Zb 13 (.slice s4.a s4.n s4.c) ?_
      refine Zb 14 (.int .i64 0) ?_
      refine wpList_nil (hk12 _ _ (wp_seq_k fun k13 hk13 => (wp_region_lit ?_)))
      refine Zb 68 (.int .i64 0) ?_
      refine W.op (O.call 69 10 #[.int .i64 0] (by kernel_rfl) rfl (by kernel_rfl) ((num_c 0 w18 g15).mono ?_))
      rintro e7 w19 ⟨g16, rfl, M21⟩
      have K21 := K20.step M21 nt_le quiet
      refine ⟨_, rfl, ?_⟩
      refine Zb 70 (.bool true) ?_
      refine Zb 71 (.bool true) ?_
      refine Zd 72 (.int .i64 0) ?_
      refine W.op (O.call 73 10 #[.int .i64 0] (by kernel_rfl) rfl (by kernel_rfl) ((num_c 0 w19 g16).mono ?_))
      rintro e8 w20 ⟨g17, rfl, M22⟩
      have K22 := K21.step M22 nt_le quiet
      refine ⟨_, rfl, ?_⟩
      refine Zd 74 (.bool true) ?_
      refine Zb 75 (.bool true) ?_
      refine Zb 76 (.bool true) ?_
      refine Zd 77 (.bool true) ?_
      refine Zb 78 (.bool true) ?_
      refine Zb 79 (.bool true) ?_
      refine Zd 80 (.pointer (some ⟨b5, 1, none⟩)) ?_
      refine W.op (O.gv 81 (.int .i64 ((findM kC 17 ⟨V1, 0, []⟩ Q1 0).1.item.ver)) (by kernel_rfl) rfl (exec_load rfl rfl Ty2 ((K22.nth 1 rfl).cell 1)) ?_)
      refine W.op (O.gv 82 (.bool true) (by kernel_rfl) rfl (okv (v := .bool (((findM kC 17 ⟨V1, 0, []⟩ Q1 0).1.item.ver) == 3)) (by kernel_rfl) (congrArg Value.bool (by rw [live_v]; rfl))) ?_)
      refine Zb 83 (.bool true) ?_
      refine Zb 84 (.bool true) ?_
      refine Zd 85 (.int .i64 0) ?_
      refine W.op (O.call 86 10 #[.int .i64 0] (by kernel_rfl) rfl (by kernel_rfl) ((num_c 0 w20 g17).mono ?_))
      rintro e9 w21 ⟨g18, rfl, M23⟩
      have K23 := K22.step M23 nt_le quiet
      refine ⟨_, rfl, ?_⟩
      refine Zd 87 (.bool true) ?_
      refine Zb 88 (.bool true) ?_
      refine Zb 89 (.bool true) ?_
      refine Zd 90 (.slice s3.a s3.n s3.c) ?_
      refine Zd 91 (.int .i64 (s3.n : Int)) ?_
      by_cases t2 : (s3.n : Int) > 1
      ·refine W.op (O.gv 92 (.bool true) (by kernel_rfl) rfl (okv (by kernel_rfl) (congrArg Value.bool (decide_eq_true t2))) ?_)
       refine Zb 93 (.bool true) ?_
       refine Zb 94 (.bool true) ?_
       refine Zd 95 (.int .i64 0) ?_
       refine W.op (O.call 96 10 #[.int .i64 0] (by kernel_rfl) rfl (by kernel_rfl) ((num_c 0 w21 g18).mono ?_))
       rintro e10 w22 ⟨g19, rfl, M24⟩
       have K24 := K23.step M24 nt_le quiet
       refine ⟨_, rfl, ?_⟩
       refine Zd 97 (.bool true) ?_
       refine Zb 98 (.bool true) ?_
       refine Zb 99 (.bool true) ?_
       refine Zd 100 (.slice s4.a s4.n s4.c) ?_
       refine Zd 101 (.int .i64 (s4.n : Int)) ?_
       by_cases t3 : (s4.n : Int) = 4
       ·refine W.op (O.gv 102 (.bool true) (by kernel_rfl) rfl (okv (by kernel_rfl) (congrArg Value.bool (beq_iff_eq.2 t3))) ?_)
        refine Zb 103 (.bool true) ?_
        refine Zb 104 (.bool true) ?_
        refine Zd 105 (.slice s4.a s4.n s4.c) ?_
        have hf3_1 := hq9.mv M21 quiet
        have hf3_2 := hf3_1.mv M22 quiet
        have hf3_3 := hf3_2.mv M23 quiet
        have hf3_4 := hf3_3.mv M24 quiet
        obtain ⟨b8, ha1, hib1, hr1⟩ := hf3_4.elt (by kernel_rfl)
        refine W.op (O.gv 106 (.pointer (some ⟨b8, 0 + 0 * 7, none⟩)) (by kernel_rfl) rfl (exec_index (E := 50) (k := 0) rfl (by kernel_rfl) (by kernel_rfl) rfl ha1 rfl hib1) ?_)
        refine Zd 107 (.pointer (some ⟨b8, 0 + 0 * 7, none⟩)) ?_
        refine W.op (O.gv 108 (.string ((A3.headD Item.zero).key)) (by kernel_rfl) rfl (exec_load rfl rfl Ty9 (hr1.2.2 0 (Nat.le_of_ble_eq_true rfl))) ?_)
        refine Zd 109 (.bool true) ?_
        refine Zb 110 (.bool true) ?_
        refine Zb 0 (.bool true) ?_
        refine wpList_nil (hk13 _ _ (wp_ret (W.ret1 (v := .bool true) rfl (.tmp rfl .nil) ?_)))
        exact ⟨_, rfl, (K24.mv.shut hf0)⟩
       ·exfalso; omega
      ·exfalso; omega
     ·refine O.new 10 31 [.int .i64 0, .int .i64 0] rfl rfl (by kernel_rfl) K16 fun b9 w23 g20 K25 M25 => ⟨kp_nt ((Mv.refl _ _ _).trans M25) _, ?_⟩
      have hlit_1 := hb2.mv M25 quiet
      have hLs2 := hlit_1.ls [Ea] Edit.size rfl (m := 1) rfl
      have n10 := hLs2.len
      have hT_11 := hq4.mv M12 quiet quiet quiet quiet
      have hT_12 := hT_11.mv M13 (neq (by omega)) (neq (by omega)) (neq (by omega)) (neq (by omega))
      have hT_13 := hT_12.mv M14 quiet quiet quiet quiet
      have hT_14 := hT_13.mv M15 quiet quiet quiet quiet
      have hT_15 := hT_14.mv M16 quiet quiet quiet quiet
      have hT_16 := hT_15.mv M25 quiet quiet quiet quiet
      have hr9 := change_c t0 b1 ((findM kC 17 ⟨σ1, 0, []⟩ Q1 0).2.σ) Q1 (⟨some ⟨b6, 0, none⟩, 1, 1⟩ : Sli) [Ea] (t0 + 34) w23 g20 hT_16 (by omega) (by omega) (by omega) (by omega) hLs2 (by decide) (fitC_er (by rw [hV2]; exact fitCB_spec live_c2))
      rw [hV2, live_e2] at hr9
      refine G.op 6 (by kernel_rfl) rfl (O.call 57 22 #[.iface 29 (.pointer (some ⟨b1, 0, none⟩)), .agg Q1.cells.toArray, .slice (some ⟨b6, 0, none⟩) 1 1] (by kernel_rfl) rfl (by kernel_rfl) ((hr9).mono ?_))
      rintro e11 w24 ⟨g21, s5, σ3, rfl, M26, hq10, hq11, hq12⟩
      have K26 := K25.step M26 (rg_lo (by omega)) (nrg (by omega))
      have n11 := hq12.len
      have hV3 : σ3.er = V3 := hq11
      have hl3 := er_len hV3
      have hgn := live_gone
      have hA0 := allM_er 17 ⟨σ3, 0, []⟩ Q3
      rw [show St.er ⟨σ3, 0, []⟩ = ⟨V3, 0, []⟩ from by rw [← hV3]] at hA0
      have hA1 : (allM 17 ⟨σ3, 0, []⟩ Q3).1 = (allM 17 ⟨V3, 0, []⟩ Q3).1 := by rw [hA0]
      refine ⟨_, rfl, ⟨(kp_skip (by kernel_rfl) kp_nil), ?_⟩⟩
      refine Yb 7 50 (.tuple #[.agg Q3.cells.toArray, .slice s5.a s5.n s5.c, .int .i64 0]) rfl (fun u => by kernel_rfl) ?_
      refine Yb 8 58 (.agg Q3.cells.toArray) rfl (fun u => by kernel_rfl) ?_
      refine Yb 9 59 (.slice s5.a s5.n s5.c) rfl (fun u => by kernel_rfl) ?_
      refine Yb 10 60 (.int .i64 0) rfl (fun u => by kernel_rfl) ?_
      refine G.op 12 (by kernel_rfl) rfl (O.sta 0 Q3.cells rfl rfl rfl rfl rfl Ty31 rfl rfl rfl rfl K26 fun w25 K27 M27 => ⟨(kp_skip (by kernel_rfl) kp_nil), ?_⟩)
      refine Yb 13 11 (.slice s5.a s5.n s5.c) rfl (fun u => by kernel_rfl) ?_
      refine Yb 14 12 (.int .i64 0) rfl (fun u => by kernel_rfl) ?_
      refine G.fin (by kernel_rfl) ?_
      refine hk11 _ _ (wp_seq_k fun k14 hk14 => (wp_region_lit ?_))
      refine Zb 62 (.pointer (some ⟨b1, 0, none⟩)) ?_
      refine Zb 63 (.iface 29 (.pointer (some ⟨b1, 0, none⟩))) ?_
      refine Zc 64 (.agg Q3.cells.toArray) (exec_loads (cs := Q3.cells) rfl rfl Ty31 rfl ((K27.nth 0 rfl).all 2)) ?_
      have hT_17 := hq10.mv M27 (neq (by omega)) (neq (by omega)) (neq (by omega)) (neq (by omega))
      have hr9 := All_c t0 b1 σ3 Q3 (t0 + 35) w25 g21 hT_17 (by omega) (by omega) (by omega) (fitA_er 17 ⟨σ3, 0, []⟩ Q3 0 (by rw [show St.er ⟨σ3, 0, []⟩ = ⟨V3, 0, []⟩ from by rw [← hV3]]; exact fitAB_spec _ _ _ _ live_c3)) (fun l S h => by have h9 := live_l3; rw [← hA1, show allM 17 _ Q3 = _ from h] at h9; exact of_decide_eq_true h9)
      rw [hA1, live_a] at hr9
      refine W.op (O.call 65 16 #[.iface 29 (.pointer (some ⟨b1, 0, none⟩)), .agg Q3.cells.toArray] (by kernel_rfl) rfl (by kernel_rfl) ((hr9).mono ?_))
      rintro e12 w26 ⟨g22, s6, rfl, M28, hq13, hq14⟩
      have K28 := K27.step M28 (rg_lo (by omega)) (nrg (by omega))
      have n12 := hq14.len
      have hal : (allL (allM 17 ⟨V3, 0, []⟩ Q3).1).length = 4 := live_all
      refine ⟨_, rfl, ?_⟩
      refine Zb 61 (.tuple #[.slice s6.a s6.n s6.c, .int .i64 0]) ?_
      refine Zb 66 (.slice s6.a s6.n s6.c) ?_
      refine Zb 67 (.int .i64 0) ?_
      refine Zb 13 (.slice s6.a s6.n s6.c) ?_
      refine Zb 14 (.int .i64 0) ?_
      refine wpList_nil (hk14 _ _ (wp_seq_k fun k15 hk15 => (wp_region_lit ?_)))
      refine Zb 68 (.int .i64 0) ?_
      refine W.op (O.call 69 10 #[.int .i64 0] (by kernel_rfl) rfl (by kernel_rfl) ((num_c 0 w26 g22).mono ?_))
      rintro e13 w27 ⟨g23, rfl, M29⟩
      have K29 := K28.step M29 nt_le quiet
      refine ⟨_, rfl, ?_⟩
      refine Zb 70 (.bool true) ?_
      refine Zb 71 (.bool true) ?_
      refine Zd 72 (.int .i64 0) ?_
      refine W.op (O.call 73 10 #[.int .i64 0] (by kernel_rfl) rfl (by kernel_rfl) ((num_c 0 w27 g23).mono ?_))
      rintro e14 w28 ⟨g24, rfl, M30⟩
      have K30 := K29.step M30 nt_le quiet
      refine ⟨_, rfl, ?_⟩
      refine Zd 74 (.bool true) ?_
      refine Zb 75 (.bool true) ?_
      refine Zb 76 (.bool true) ?_
      refine Zd 77 (.bool true) ?_
      refine Zb 78 (.bool true) ?_
      refine Zb 79 (.bool true) ?_
      refine Zd 80 (.pointer (some ⟨b5, 1, none⟩)) ?_
      refine W.op (O.gv 81 (.int .i64 ((findM kC 17 ⟨V1, 0, []⟩ Q1 0).1.item.ver)) (by kernel_rfl) rfl (exec_load rfl rfl Ty2 ((K30.nth 1 rfl).cell 1)) ?_)
      refine W.op (O.gv 82 (.bool true) (by kernel_rfl) rfl (okv (v := .bool (((findM kC 17 ⟨V1, 0, []⟩ Q1 0).1.item.ver) == 3)) (by kernel_rfl) (congrArg Value.bool (by rw [live_v]; rfl))) ?_)
      refine Zb 83 (.bool true) ?_
      refine Zb 84 (.bool true) ?_
      refine Zd 85 (.int .i64 0) ?_
      refine W.op (O.call 86 10 #[.int .i64 0] (by kernel_rfl) rfl (by kernel_rfl) ((num_c 0 w28 g24).mono ?_))
      rintro e15 w29 ⟨g25, rfl, M31⟩
      have K31 := K30.step M31 nt_le quiet
      refine ⟨_, rfl, ?_⟩
      refine Zd 87 (.bool true) ?_
      refine Zb 88 (.bool true) ?_
      refine Zb 89 (.bool true) ?_
      refine Zd 90 (.slice s5.a s5.n s5.c) ?_
      refine Zd 91 (.int .i64 (s5.n : Int)) ?_
      by_cases t4 : (s5.n : Int) > 1
      ·refine W.op (O.gv 92 (.bool true) (by kernel_rfl) rfl (okv (by kernel_rfl) (congrArg Value.bool (decide_eq_true t4))) ?_)
       refine Zb 93 (.bool true) ?_
       refine Zb 94 (.bool true) ?_
       refine Zd 95 (.int .i64 0) ?_
       refine W.op (O.call 96 10 #[.int .i64 0] (by kernel_rfl) rfl (by kernel_rfl) ((num_c 0 w29 g25).mono ?_))
       rintro e16 w30 ⟨g26, rfl, M32⟩
       have K32 := K31.step M32 nt_le quiet
       refine ⟨_, rfl, ?_⟩
       refine Zd 97 (.bool true) ?_
       refine Zb 98 (.bool true) ?_
       refine Zb 99 (.bool true) ?_
       refine Zd 100 (.slice s6.a s6.n s6.c) ?_
       refine Zd 101 (.int .i64 (s6.n : Int)) ?_
       by_cases t5 : (s6.n : Int) = 4
       ·refine W.op (O.gv 102 (.bool true) (by kernel_rfl) rfl (okv (by kernel_rfl) (congrArg Value.bool (beq_iff_eq.2 t5))) ?_)
        refine Zb 103 (.bool true) ?_
        refine Zb 104 (.bool true) ?_
        refine Zd 105 (.slice s6.a s6.n s6.c) ?_
        have hf5_1 := hq14.mv M29 quiet
        have hf5_2 := hf5_1.mv M30 quiet
        have hf5_3 := hf5_2.mv M31 quiet
        have hf5_4 := hf5_3.mv M32 quiet
        obtain ⟨b10, ha2, hib2, hr2⟩ := hf5_4.elt (by kernel_rfl)
        refine W.op (O.gv 106 (.pointer (some ⟨b10, 0 + 0 * 7, none⟩)) (by kernel_rfl) rfl (exec_index (E := 50) (k := 0) rfl (by kernel_rfl) (by kernel_rfl) rfl ha2 rfl hib2) ?_)
        refine Zd 107 (.pointer (some ⟨b10, 0 + 0 * 7, none⟩)) ?_
        refine W.op (O.gv 108 (.string ((A3.headD Item.zero).key)) (by kernel_rfl) rfl (exec_load rfl rfl Ty9 (hr2.2.2 0 (Nat.le_of_ble_eq_true rfl))) ?_)
        refine Zd 109 (.bool true) ?_
        refine Zb 110 (.bool true) ?_
        refine Zb 0 (.bool true) ?_
        refine wpList_nil (hk15 _ _ (wp_ret (W.ret1 (v := .bool true) rfl (.tmp rfl .nil) ?_)))
        exact ⟨_, rfl, (K32.mv.shut hf0)⟩
       ·exfalso; omega
      ·exfalso; omega
    ·refine O.new 10 31 [.int .i64 0, .int .i64 0] rfl rfl (by kernel_rfl) K15 fun b11 w31 g27 K33 M33 => ⟨kp_nt ((Mv.refl _ _ _).trans M33) _, ?_⟩
     refine G.op 5 (by kernel_rfl) rfl (O.litt 0 56 55 [.string ⟨#[97]⟩, .int .i64 0, .int .i64 3, .int .i64 0, .string ByteArray.empty, .slice none 0 0, .slice none 0 0, .bool true] 1 rfl rfl (by kernel_rfl) K33 fun b12 w32 g28 K34 hb3 M34 => ⟨kp_nt ((Mv.refl _ _ _).trans M34) _, ?_⟩)
     have hLs3 := hb3.ls [Ea] Edit.size rfl (m := 1) rfl
     have n13 := hLs3.len
     have hT_18 := hq4.mv M12 quiet quiet quiet quiet
     have hT_19 := hT_18.mv M13 (neq (by omega)) (neq (by omega)) (neq (by omega)) (neq (by omega))
     have hT_20 := hT_19.mv M14 quiet quiet quiet quiet
     have hT_21 := hT_20.mv M15 quiet quiet quiet quiet
     have hT_22 := hT_21.mv M33 quiet quiet quiet quiet
     have hT_23 := hT_22.mv M34 quiet quiet quiet quiet
     have hr9 := change_c t0 b1 ((findM kC 17 ⟨σ1, 0, []⟩ Q1 0).2.σ) Q1 (⟨some ⟨b12, 0, none⟩, 1, 1⟩ : Sli) [Ea] (t0 + 36) w32 g28 hT_23 (by omega) (by omega) (by omega) (by omega) hLs3 (by decide) (fitC_er (by rw [hV2]; exact fitCB_spec live_c2))
     rw [hV2, live_e2] at hr9
     refine G.op 6 (by kernel_rfl) rfl (O.call 57 22 #[.iface 29 (.pointer (some ⟨b1, 0, none⟩)), .agg Q1.cells.toArray, .slice (some ⟨b12, 0, none⟩) 1 1] (by kernel_rfl) rfl (by kernel_rfl) ((hr9).mono ?_))
     rintro e17 w33 ⟨g29, s7, σ4, rfl, M35, hq15, hq16, hq17⟩
     have K35 := K34.step M35 (rg_lo (by omega)) (nrg (by omega))
     have n14 := hq17.len
     have hV3 : σ4.er = V3 := hq16
     have hl3 := er_len hV3
     have hgn := live_gone
     have hA0 := allM_er 17 ⟨σ4, 0, []⟩ Q3
     rw [show St.er ⟨σ4, 0, []⟩ = ⟨V3, 0, []⟩ from by rw [← hV3]] at hA0
     have hA1 : (allM 17 ⟨σ4, 0, []⟩ Q3).1 = (allM 17 ⟨V3, 0, []⟩ Q3).1 := by rw [hA0]
     refine ⟨_, rfl, ⟨(kp_skip (by kernel_rfl) kp_nil), ?_⟩⟩
     refine Yb 7 50 (.tuple #[.agg Q3.cells.toArray, .slice s7.a s7.n s7.c, .int .i64 0]) rfl (fun u => by kernel_rfl) ?_
     refine Yb 8 58 (.agg Q3.cells.toArray) rfl (fun u => by kernel_rfl) ?_
     refine Yb 9 59 (.slice s7.a s7.n s7.c) rfl (fun u => by kernel_rfl) ?_
     refine Yb 10 60 (.int .i64 0) rfl (fun u => by kernel_rfl) ?_
     refine G.op 12 (by kernel_rfl) rfl (O.sta 0 Q3.cells rfl rfl rfl rfl rfl Ty31 rfl rfl rfl rfl K35 fun w34 K36 M36 => ⟨(kp_skip (by kernel_rfl) kp_nil), ?_⟩)
     refine Yb 13 11 (.slice s7.a s7.n s7.c) rfl (fun u => by kernel_rfl) ?_
     refine Yb 14 12 (.int .i64 0) rfl (fun u => by kernel_rfl) ?_
     refine G.fin (by kernel_rfl) ?_
     refine hk11 _ _ (wp_seq_k fun k16 hk16 => (wp_region_lit ?_))
     refine Zb 62 (.pointer (some ⟨b1, 0, none⟩)) ?_
     refine Zb 63 (.iface 29 (.pointer (some ⟨b1, 0, none⟩))) ?_
     refine Zc 64 (.agg Q3.cells.toArray) (exec_loads (cs := Q3.cells) rfl rfl Ty31 rfl ((K36.nth 0 rfl).all 2)) ?_
     have hT_24 := hq15.mv M36 (neq (by omega)) (neq (by omega)) (neq (by omega)) (neq (by omega))
     have hr9 := All_c t0 b1 σ4 Q3 (t0 + 37) w34 g29 hT_24 (by omega) (by omega) (by omega) (fitA_er 17 ⟨σ4, 0, []⟩ Q3 0 (by rw [show St.er ⟨σ4, 0, []⟩ = ⟨V3, 0, []⟩ from by rw [← hV3]]; exact fitAB_spec _ _ _ _ live_c3)) (fun l S h => by have h9 := live_l3; rw [← hA1, show allM 17 _ Q3 = _ from h] at h9; exact of_decide_eq_true h9)
     rw [hA1, live_a] at hr9
     refine W.op (O.call 65 16 #[.iface 29 (.pointer (some ⟨b1, 0, none⟩)), .agg Q3.cells.toArray] (by kernel_rfl) rfl (by kernel_rfl) ((hr9).mono ?_))
     rintro e18 w35 ⟨g30, s8, rfl, M37, hq18, hq19⟩
     have K37 := K36.step M37 (rg_lo (by omega)) (nrg (by omega))
     have n15 := hq19.len
     have hal : (allL (allM 17 ⟨V3, 0, []⟩ Q3).1).length = 4 := live_all
     refine ⟨_, rfl, ?_⟩
     refine Zb 61 (.tuple #[.slice s8.a s8.n s8.c, .int .i64 0]) ?_
     refine Zb 66 (.slice s8.a s8.n s8.c) ?_
     refine Zb 67 (.int .i64 0) ?_
     refine Zb 13 (.slice s8.a s8.n s8.c) ?_
     refine Zb 14 (.int .i64 0) ?_
     refine wpList_nil (hk16 _ _ (wp_seq_k fun k17 hk17 => (wp_region_lit ?_)))
     refine Zb 68 (.int .i64 0) ?_
     refine W.op (O.call 69 10 #[.int .i64 0] (by kernel_rfl) rfl (by kernel_rfl) ((num_c 0 w35 g30).mono ?_))
     rintro e19 w36 ⟨g31, rfl, M38⟩
     have K38 := K37.step M38 nt_le quiet
     refine ⟨_, rfl, ?_⟩
     refine Zb 70 (.bool true) ?_
     refine Zb 71 (.bool true) ?_
     refine Zd 72 (.int .i64 0) ?_
     refine W.op (O.call 73 10 #[.int .i64 0] (by kernel_rfl) rfl (by kernel_rfl) ((num_c 0 w36 g31).mono ?_))
     rintro e20 w37 ⟨g32, rfl, M39⟩
     have K39 := K38.step M39 nt_le quiet
     refine ⟨_, rfl, ?_⟩
     refine Zd 74 (.bool true) ?_
     refine Zb 75 (.bool true) ?_
     refine Zb 76 (.bool true) ?_
     refine Zd 77 (.bool true) ?_
     refine Zb 78 (.bool true) ?_
     refine Zb 79 (.bool true) ?_
     refine Zd 80 (.pointer (some ⟨b5, 1, none⟩)) ?_
     refine W.op (O.gv 81 (.int .i64 ((findM kC 17 ⟨V1, 0, []⟩ Q1 0).1.item.ver)) (by kernel_rfl) rfl (exec_load rfl rfl Ty2 ((K39.nth 1 rfl).cell 1)) ?_)
     refine W.op (O.gv 82 (.bool true) (by kernel_rfl) rfl (okv (v := .bool (((findM kC 17 ⟨V1, 0, []⟩ Q1 0).1.item.ver) == 3)) (by kernel_rfl) (congrArg Value.bool (by rw [live_v]; rfl))) ?_)
     refine Zb 83 (.bool true) ?_
     refine Zb 84 (.bool true) ?_
     refine Zd 85 (.int .i64 0) ?_
     refine W.op (O.call 86 10 #[.int .i64 0] (by kernel_rfl) rfl (by kernel_rfl) ((num_c 0 w37 g32).mono ?_))
     rintro e21 w38 ⟨g33, rfl, M40⟩
     have K40 := K39.step M40 nt_le quiet
     refine ⟨_, rfl, ?_⟩
     refine Zd 87 (.bool true) ?_
     refine Zb 88 (.bool true) ?_
     refine Zb 89 (.bool true) ?_
     refine Zd 90 (.slice s7.a s7.n s7.c) ?_
     refine Zd 91 (.int .i64 (s7.n : Int)) ?_
     by_cases t6 : (s7.n : Int) > 1
     ·refine W.op (O.gv 92 (.bool true) (by kernel_rfl) rfl (okv (by kernel_rfl) (congrArg Value.bool (decide_eq_true t6))) ?_)
      refine Zb 93 (.bool true) ?_
      refine Zb 94 (.bool true) ?_
      refine Zd 95 (.int .i64 0) ?_
      refine W.op (O.call 96 10 #[.int .i64 0] (by kernel_rfl) rfl (by kernel_rfl) ((num_c 0 w38 g33).mono ?_))
      rintro e22 w39 ⟨g34, rfl, M41⟩
      have K41 := K40.step M41 nt_le quiet
      refine ⟨_, rfl, ?_⟩
      refine Zd 97 (.bool true) ?_
      refine Zb 98 (.bool true) ?_
      refine Zb 99 (.bool true) ?_
      refine Zd 100 (.slice s8.a s8.n s8.c) ?_
      refine Zd 101 (.int .i64 (s8.n : Int)) ?_
      by_cases t7 : (s8.n : Int) = 4
      ·refine W.op (O.gv 102 (.bool true) (by kernel_rfl) rfl (okv (by kernel_rfl) (congrArg Value.bool (beq_iff_eq.2 t7))) ?_)
       refine Zb 103 (.bool true) ?_
       refine Zb 104 (.bool true) ?_
       refine Zd 105 (.slice s8.a s8.n s8.c) ?_
       have hf7_1 := hq19.mv M38 quiet
       have hf7_2 := hf7_1.mv M39 quiet
       have hf7_3 := hf7_2.mv M40 quiet
       have hf7_4 := hf7_3.mv M41 quiet
       obtain ⟨b13, ha3, hib3, hr3⟩ := hf7_4.elt (by kernel_rfl)
       refine W.op (O.gv 106 (.pointer (some ⟨b13, 0 + 0 * 7, none⟩)) (by kernel_rfl) rfl (exec_index (E := 50) (k := 0) rfl (by kernel_rfl) (by kernel_rfl) rfl ha3 rfl hib3) ?_)
       refine Zd 107 (.pointer (some ⟨b13, 0 + 0 * 7, none⟩)) ?_
       refine W.op (O.gv 108 (.string ((A3.headD Item.zero).key)) (by kernel_rfl) rfl (exec_load rfl rfl Ty9 (hr3.2.2 0 (Nat.le_of_ble_eq_true rfl))) ?_)
       refine Zd 109 (.bool true) ?_
       refine Zb 110 (.bool true) ?_
       refine Zb 0 (.bool true) ?_
       refine wpList_nil (hk17 _ _ (wp_ret (W.ret1 (v := .bool true) rfl (.tmp rfl .nil) ?_)))
       exact ⟨_, rfl, (K41.mv.shut hf0)⟩
      ·exfalso; omega
     ·exfalso; omega
   ·refine O.new 10 31 [.int .i64 0, .int .i64 0] rfl rfl (by kernel_rfl) K14 fun b14 w40 g35 K42 M42 => ⟨kp_nt ((Mv.refl _ _ _).trans M42) _, ?_⟩
    refine G.op 3 (by kernel_rfl) rfl (O.call 54 29 #[.string ⟨#[97]⟩, .int .i64 0] (by kernel_rfl) rfl (by kernel_rfl) ((item_c ⟨#[97]⟩ 0 w40 g35).mono ?_))
    rintro e23 w41 ⟨g36, rfl, M43⟩
    have K43 := K42.step M43 nt_le quiet
    refine ⟨_, rfl, ⟨kp_nt ((Mv.refl _ _ _).trans M43) _, ?_⟩⟩
    refine Yb 4 55 (.agg #[.string ⟨#[97]⟩, .int .i64 0, .int .i64 3, .int .i64 0, .string ByteArray.empty, .slice none 0 0, .slice none 0 0, .bool true]) rfl (fun u => by kernel_rfl) ?_
    refine G.op 5 (by kernel_rfl) rfl (O.litt 0 56 55 [.string ⟨#[97]⟩, .int .i64 0, .int .i64 3, .int .i64 0, .string ByteArray.empty, .slice none 0 0, .slice none 0 0, .bool true] 1 rfl rfl (by kernel_rfl) K43 fun b15 w42 g37 K44 hb4 M44 => ⟨kp_nt ((Mv.refl _ _ _).trans M44) _, ?_⟩)
    have hLs4 := hb4.ls [Ea] Edit.size rfl (m := 1) rfl
    have n16 := hLs4.len
    have hT_25 := hq4.mv M12 quiet quiet quiet quiet
    have hT_26 := hT_25.mv M13 (neq (by omega)) (neq (by omega)) (neq (by omega)) (neq (by omega))
    have hT_27 := hT_26.mv M14 quiet quiet quiet quiet
    have hT_28 := hT_27.mv M42 quiet quiet quiet quiet
    have hT_29 := hT_28.mv M43 quiet quiet quiet quiet
    have hT_30 := hT_29.mv M44 quiet quiet quiet quiet
    have hr9 := change_c t0 b1 ((findM kC 17 ⟨σ1, 0, []⟩ Q1 0).2.σ) Q1 (⟨some ⟨b15, 0, none⟩, 1, 1⟩ : Sli) [Ea] (t0 + 38) w42 g37 hT_30 (by omega) (by omega) (by omega) (by omega) hLs4 (by decide) (fitC_er (by rw [hV2]; exact fitCB_spec live_c2))
    rw [hV2, live_e2] at hr9
    refine G.op 6 (by kernel_rfl) rfl (O.call 57 22 #[.iface 29 (.pointer (some ⟨b1, 0, none⟩)), .agg Q1.cells.toArray, .slice (some ⟨b15, 0, none⟩) 1 1] (by kernel_rfl) rfl (by kernel_rfl) ((hr9).mono ?_))
    rintro e24 w43 ⟨g38, s9, σ5, rfl, M45, hq20, hq21, hq22⟩
    have K45 := K44.step M45 (rg_lo (by omega)) (nrg (by omega))
    have n17 := hq22.len
    have hV3 : σ5.er = V3 := hq21
    have hl3 := er_len hV3
    have hgn := live_gone
    have hA0 := allM_er 17 ⟨σ5, 0, []⟩ Q3
    rw [show St.er ⟨σ5, 0, []⟩ = ⟨V3, 0, []⟩ from by rw [← hV3]] at hA0
    have hA1 : (allM 17 ⟨σ5, 0, []⟩ Q3).1 = (allM 17 ⟨V3, 0, []⟩ Q3).1 := by rw [hA0]
    refine ⟨_, rfl, ⟨(kp_skip (by kernel_rfl) kp_nil), ?_⟩⟩
    refine Yb 7 50 (.tuple #[.agg Q3.cells.toArray, .slice s9.a s9.n s9.c, .int .i64 0]) rfl (fun u => by kernel_rfl) ?_
    refine Yb 8 58 (.agg Q3.cells.toArray) rfl (fun u => by kernel_rfl) ?_
    refine Yb 9 59 (.slice s9.a s9.n s9.c) rfl (fun u => by kernel_rfl) ?_
    refine Yb 10 60 (.int .i64 0) rfl (fun u => by kernel_rfl) ?_
    refine G.op 12 (by kernel_rfl) rfl (O.sta 0 Q3.cells rfl rfl rfl rfl rfl Ty31 rfl rfl rfl rfl K45 fun w44 K46 M46 => ⟨(kp_skip (by kernel_rfl) kp_nil), ?_⟩)
    refine Yb 13 11 (.slice s9.a s9.n s9.c) rfl (fun u => by kernel_rfl) ?_
    refine Yb 14 12 (.int .i64 0) rfl (fun u => by kernel_rfl) ?_
    refine G.fin (by kernel_rfl) ?_
    refine hk11 _ _ (wp_seq_k fun k18 hk18 => (wp_region_lit ?_))
    refine Zb 62 (.pointer (some ⟨b1, 0, none⟩)) ?_
    refine Zb 63 (.iface 29 (.pointer (some ⟨b1, 0, none⟩))) ?_
    refine Zc 64 (.agg Q3.cells.toArray) (exec_loads (cs := Q3.cells) rfl rfl Ty31 rfl ((K46.nth 0 rfl).all 2)) ?_
    have hT_31 := hq20.mv M46 (neq (by omega)) (neq (by omega)) (neq (by omega)) (neq (by omega))
    have hr9 := All_c t0 b1 σ5 Q3 (t0 + 39) w44 g38 hT_31 (by omega) (by omega) (by omega) (fitA_er 17 ⟨σ5, 0, []⟩ Q3 0 (by rw [show St.er ⟨σ5, 0, []⟩ = ⟨V3, 0, []⟩ from by rw [← hV3]]; exact fitAB_spec _ _ _ _ live_c3)) (fun l S h => by have h9 := live_l3; rw [← hA1, show allM 17 _ Q3 = _ from h] at h9; exact of_decide_eq_true h9)
    rw [hA1, live_a] at hr9
    refine W.op (O.call 65 16 #[.iface 29 (.pointer (some ⟨b1, 0, none⟩)), .agg Q3.cells.toArray] (by kernel_rfl) rfl (by kernel_rfl) ((hr9).mono ?_))
    rintro e25 w45 ⟨g39, s10, rfl, M47, hq23, hq24⟩
    have K47 := K46.step M47 (rg_lo (by omega)) (nrg (by omega))
    have n18 := hq24.len
    have hal : (allL (allM 17 ⟨V3, 0, []⟩ Q3).1).length = 4 := live_all
    refine ⟨_, rfl, ?_⟩
    refine Zb 61 (.tuple #[.slice s10.a s10.n s10.c, .int .i64 0]) ?_
    refine Zb 66 (.slice s10.a s10.n s10.c) ?_
    refine Zb 67 (.int .i64 0) ?_
    refine Zb 13 (.slice s10.a s10.n s10.c) ?_
    refine Zb 14 (.int .i64 0) ?_
    refine wpList_nil (hk18 _ _ (wp_seq_k fun k19 hk19 => (wp_region_lit ?_)))
    refine Zb 68 (.int .i64 0) ?_
    refine W.op (O.call 69 10 #[.int .i64 0] (by kernel_rfl) rfl (by kernel_rfl) ((num_c 0 w45 g39).mono ?_))
    rintro e26 w46 ⟨g40, rfl, M48⟩
    have K48 := K47.step M48 nt_le quiet
    refine ⟨_, rfl, ?_⟩
    refine Zb 70 (.bool true) ?_
    refine Zb 71 (.bool true) ?_
    refine Zd 72 (.int .i64 0) ?_
    refine W.op (O.call 73 10 #[.int .i64 0] (by kernel_rfl) rfl (by kernel_rfl) ((num_c 0 w46 g40).mono ?_))
    rintro e27 w47 ⟨g41, rfl, M49⟩
    have K49 := K48.step M49 nt_le quiet
    refine ⟨_, rfl, ?_⟩
    refine Zd 74 (.bool true) ?_
    refine Zb 75 (.bool true) ?_
    refine Zb 76 (.bool true) ?_
    refine Zd 77 (.bool true) ?_
    refine Zb 78 (.bool true) ?_
    refine Zb 79 (.bool true) ?_
    refine Zd 80 (.pointer (some ⟨b5, 1, none⟩)) ?_
    refine W.op (O.gv 81 (.int .i64 ((findM kC 17 ⟨V1, 0, []⟩ Q1 0).1.item.ver)) (by kernel_rfl) rfl (exec_load rfl rfl Ty2 ((K49.nth 1 rfl).cell 1)) ?_)
    refine W.op (O.gv 82 (.bool true) (by kernel_rfl) rfl (okv (v := .bool (((findM kC 17 ⟨V1, 0, []⟩ Q1 0).1.item.ver) == 3)) (by kernel_rfl) (congrArg Value.bool (by rw [live_v]; rfl))) ?_)
    refine Zb 83 (.bool true) ?_
    refine Zb 84 (.bool true) ?_
    refine Zd 85 (.int .i64 0) ?_
    refine W.op (O.call 86 10 #[.int .i64 0] (by kernel_rfl) rfl (by kernel_rfl) ((num_c 0 w47 g41).mono ?_))
    rintro e28 w48 ⟨g42, rfl, M50⟩
    have K50 := K49.step M50 nt_le quiet
    refine ⟨_, rfl, ?_⟩
    refine Zd 87 (.bool true) ?_
    refine Zb 88 (.bool true) ?_
    refine Zb 89 (.bool true) ?_
    refine Zd 90 (.slice s9.a s9.n s9.c) ?_
    refine Zd 91 (.int .i64 (s9.n : Int)) ?_
    by_cases t8 : (s9.n : Int) > 1
    ·refine W.op (O.gv 92 (.bool true) (by kernel_rfl) rfl (okv (by kernel_rfl) (congrArg Value.bool (decide_eq_true t8))) ?_)
     refine Zb 93 (.bool true) ?_
     refine Zb 94 (.bool true) ?_
     refine Zd 95 (.int .i64 0) ?_
     refine W.op (O.call 96 10 #[.int .i64 0] (by kernel_rfl) rfl (by kernel_rfl) ((num_c 0 w48 g42).mono ?_))
     rintro e29 w49 ⟨g43, rfl, M51⟩
     have K51 := K50.step M51 nt_le quiet
     refine ⟨_, rfl, ?_⟩
     refine Zd 97 (.bool true) ?_
     refine Zb 98 (.bool true) ?_
     refine Zb 99 (.bool true) ?_
     refine Zd 100 (.slice s10.a s10.n s10.c) ?_
     refine Zd 101 (.int .i64 (s10.n : Int)) ?_
     by_cases t9 : (s10.n : Int) = 4
     ·refine W.op (O.gv 102 (.bool true) (by kernel_rfl) rfl (okv (by kernel_rfl) (congrArg Value.bool (beq_iff_eq.2 t9))) ?_)
      refine Zb 103 (.bool true) ?_
      refine Zb 104 (.bool true) ?_
      refine Zd 105 (.slice s10.a s10.n s10.c) ?_
      have hf9_1 := hq24.mv M48 quiet
      have hf9_2 := hf9_1.mv M49 quiet
      have hf9_3 := hf9_2.mv M50 quiet
      have hf9_4 := hf9_3.mv M51 quiet
      obtain ⟨b16, ha4, hib4, hr4⟩ := hf9_4.elt (by kernel_rfl)
      refine W.op (O.gv 106 (.pointer (some ⟨b16, 0 + 0 * 7, none⟩)) (by kernel_rfl) rfl (exec_index (E := 50) (k := 0) rfl (by kernel_rfl) (by kernel_rfl) rfl ha4 rfl hib4) ?_)
      refine Zd 107 (.pointer (some ⟨b16, 0 + 0 * 7, none⟩)) ?_
      refine W.op (O.gv 108 (.string ((A3.headD Item.zero).key)) (by kernel_rfl) rfl (exec_load rfl rfl Ty9 (hr4.2.2 0 (Nat.le_of_ble_eq_true rfl))) ?_)
      refine Zd 109 (.bool true) ?_
      refine Zb 110 (.bool true) ?_
      refine Zb 0 (.bool true) ?_
      refine wpList_nil (hk19 _ _ (wp_ret (W.ret1 (v := .bool true) rfl (.tmp rfl .nil) ?_)))
      exact ⟨_, rfl, (K51.mv.shut hf0)⟩
     ·exfalso; omega
    ·exfalso; omega

end Go.Proofs.Ytlfanphdnjoofaa
