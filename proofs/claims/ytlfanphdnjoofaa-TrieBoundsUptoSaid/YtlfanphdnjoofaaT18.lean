/- Walks: Change. -/
import Derived.Test.YtlfanphdnjoofaaT17
import Derived.Test.YtlfanphdnjoofaaM2
import Derived.Test.YtlfanphdnjoofaaT8
namespace Go.Proofs.Ytlfanphdnjoofaa
open Go.RowKit
set_option linter.unusedSimpArgs false
set_option linter.unusedVariables false
attribute [local irreducible] wpList Code.wp Calls OpS wpG

def fitC (σ : TapeS) (top : Ref) (es : List Edit) : Prop :=
  riseB es = true → fitM 17 ⟨σ, 0, []⟩ top es ∧ ∀ P S, becM 17 ⟨σ, 0, []⟩ top es = (some P, S) → P.size ≤ 1000000 ∧ P.all.length ≤ 100000 ∧ S.rs.length ≤ 100000
theorem becM17_er {σ : TapeS} {top : Ref} {es : List Edit} {o : Option Pl} {S : St} (h : becM (16 + 1) ⟨σ, 0, []⟩ top es = (o, S)) : becM 17 ⟨σ.er, 0, []⟩ top es = (o, S.er) := by
  have h2 := becM_er 17 ⟨σ, 0, []⟩ top es
  rw [show becM 17 ⟨σ, 0, []⟩ top es = (o, S) from h] at h2
  exact h2

set_option maxRecDepth 100000 in
set_option maxHeartbeats 1000000 in
theorem change_c (τ : Nat) (p : Nat) (σ : TapeS) (top : Ref) (s : Sli) (es : List Edit) (t : Nat) (w : World) (γ : Tg) (hT : Tp τ w γ p σ) (hτ : 2 ≤ τ) (ht : 2 ≤ t) (h1 : σ.nodes.length ≤ 4000000) (h2 : σ.log.length ≤ 3000000) (hes : Ls 8 Edit.cells w γ s es) (hel : es.length ≤ 50000) (hfit : fitC σ top es) :
    Calls Try.prog 22 #[.iface 29 (.pointer (some ⟨p, 0, none⟩)), .agg top.cells.toArray, .slice s.a s.n s.c] w fun ε w' => ∃ (γ' : Tg) (s' : Sli) (σ' : TapeS), ε = .returned (.tuple #[.agg ((chgM σ.er top es).1.top.cells).toArray, .slice s'.a s'.n s'.c, .int .i64 ((chgM σ.er top es).1.err)]) ∧ Mv (Rg τ (τ + 5)) w γ w' γ' ∧ Tp τ w' γ' p σ' ∧ (σ'.er = (chgM σ.er top es).2) ∧ Gs t 31 2 Ref.cells w' γ' s' ((chgM σ.er top es).1.gone) := by
 have K0 := Kn.start (Rg τ (τ + 5)) w γ
 refine W.enter (ws := [(2, .slice s.a s.n s.c), (1, .agg top.cells.toArray), (0, .iface 29 (.pointer (some ⟨p, 0, none⟩)))]) 62 Try.func22 rfl (by kernel_rfl) ?_
 have n1 := hes.len
 refine wp_seq_k fun k1 hk1 => (wp_region_lit ?_)
 refine W.op (O.new 4 31 top.cells rfl rfl (by kernel_rfl) K0 fun b1 w1 g1 K1 M1 => ?_)
 refine W.op (O.new 6 31 [.int .i64 0, .int .i64 0] rfl rfl (by kernel_rfl) K1 fun b2 w2 g2 K2 M2 => ?_)
 refine Zb 7 (.slice none 0 0) ?_
 refine Zb 8 (.int .i64 0) ?_
 refine wpList_nil (hk1 _ _ (wp_seq_k fun k2 hk2 => (wp_seq_k fun k3 hk3 => (wp_region_lit ?_))))
 refine Zb 9 (.int .i64 1) ?_
 refine wpList_nil (hk3 _ _ (wp_block ?_))
 have hhes_1 := hes.mv M1 quiet
 have hhes_2 := hhes_1.mv M2 quiet
 have hhT_1 := hT.mv M1 quiet quiet quiet quiet
 have hhT_2 := hhT_1.mv M2 quiet quiet quiet quiet
 refine W.loop (fun (μ0 : Nat) (ws : List (Nat × Value)) (w' : World) => ∃ (i : Nat) (γ' : Tg) (ρ0 : List (Nat × Value)), μ0 = es.length + 1 - i ∧ ws = ((9, .int .i64 ↑i) :: (6, .pointer (some ⟨b2, 0, none⟩)) :: (4, .pointer (some ⟨b1, 0, none⟩)) :: (2, .slice s.a s.n s.c) :: (0, .iface 29 (.pointer (some ⟨p, 0, none⟩))) :: ρ0) ∧ Kn (Rg τ (τ + 5)) w γ [(b2, 31, [.int .i64 0, .int .i64 0]), (b1, 31, top.cells)] w' γ' ∧ Mv (Rg 1 (τ + 5)) w2 g2 w' γ' ∧ (1 ≤ i) ∧ (i ≤ max 1 es.length) ∧ (∀ j a b, j + 1 < i → es[j]? = some a → es[j + 1]? = some b → Op.bytesLess a.it.key.toList b.it.key.toList = true) ∧ Ls 8 Edit.cells w' γ' s es ∧ Tp τ w' γ' p σ) (es.length + 1 - 1) (((((look_eq (t := 0) (v := .iface 29 (.pointer (some ⟨p, 0, none⟩))) rfl).trans (look_eq (t := 2) (v := .slice s.a s.n s.c) rfl)).trans (look_eq (t := 4) (v := .pointer (some ⟨b1, 0, none⟩)) rfl)).trans (look_eq (t := 6) (v := .pointer (some ⟨b2, 0, none⟩)) rfl)).trans (look_eq (t := 9) (v := .int .i64 ↑1) rfl)) ?_ ?_
 ·exact ⟨1, _, _, rfl, rfl, K2, Mv.refl _ _ _, Nat.le_refl _, by omega, (fun j a b hj => by omega), hhes_2, hhT_2⟩
 ·rintro _ _ w3 ⟨i, g3, r1, rfl, rfl, K3, M3, p1, p2, p3, h1, h2⟩
  have n2 := h1.len
  refine wp_seq_k fun k4 hk4 => (wp_seq_k fun k5 hk5 => (wp_region_lit ?_))
  refine Zb 14 (.int .i64 ↑i) ?_
  refine Zb 15 (.slice s.a s.n s.c) ?_
  refine Zb 16 (.int .i64 (s.n : Int)) ?_
  by_cases t1 : ((i : Nat) : Int) < (s.n : Int)
  ·refine Zc 17 (.bool true) (okv (by kernel_rfl) (congrArg Value.bool (decide_eq_true t1))) ?_
   refine wpList_nil (hk5 _ _ (W.cond true rfl (wp_skip (hk4 _ _ (wp_seq_k fun k6 hk6 => (wp_block ?_))))))
   refine wp_seq_k fun k7 hk7 => (wp_region_G (SmL [(6, Nt), (12, Nt)] w3 g3) (by kernel_rfl) ?_)
   have K4 := K3.drew
   have M4 : Mv Nt w3 g3 w3.drew g3 := (Mv.refl _ _ _).drew
   refine Yb 0 20 (.slice s.a s.n s.c) rfl (fun u => by kernel_rfl) ?_
   refine Yb 1 21 (.int .i64 ↑i) rfl (fun u => by kernel_rfl) ?_
   refine Yb 2 22 (.int .i64 ((i - 1 : Nat) : Int)) rfl (fun u => okv (v := .int .i64 (IntKind.i64.wrap (((i : Nat) : Int) - 1))) ((fun u => by kernel_rfl) u) (wrapn (by omega) (by omega))) ?_
   obtain ⟨x1, hx1⟩ := get_some (xs := es) (i := i - 1) (by omega)
   obtain ⟨b3, o1, ha1, hib1, hr1⟩ := h1.elt hx1
   refine Yb 3 23 (.pointer (some ⟨b3, o1 + (i - 1) * 8, none⟩)) rfl (fun u => (exec_index (E := 55) (k := i - 1) rfl (by kernel_rfl) (by kernel_rfl) rfl ha1 rfl hib1)) ?_
   refine Yb 4 24 (.pointer (some ⟨b3, o1 + (i - 1) * 8, none⟩)) rfl (fun u => by kernel_rfl) ?_
   refine Yb 5 25 (.pointer (some ⟨b3, o1 + (i - 1) * 8, none⟩)) rfl (fun u => by kernel_rfl) ?_
   refine G.take 6 26 (.string x1.it.key) rfl (by kernel_rfl) rfl (fun _ _ _ h => h) ((Mv.refl _ _ _).trans (M4.mono (fun _ h => h))).self (by kernel_rfl) (fun u hm => exec_load rfl rfl Ty9 ((hr1.mv hm quiet).2.2 0 (Nat.le_of_ble_eq_true rfl))) ?_
   refine Yb 7 27 (.slice s.a s.n s.c) rfl (fun u => by kernel_rfl) ?_
   refine Yb 8 28 (.int .i64 ↑i) rfl (fun u => by kernel_rfl) ?_
   obtain ⟨x2, hx2⟩ := get_some (xs := es) (i := i) (by omega)
   obtain ⟨b4, o2, ha2, hib2, hr2⟩ := h1.elt hx2
   refine Yb 9 29 (.pointer (some ⟨b4, o2 + i * 8, none⟩)) rfl (fun u => (exec_index (E := 55) (k := i) rfl (by kernel_rfl) (by kernel_rfl) rfl ha2 rfl hib2)) ?_
   refine Yb 10 30 (.pointer (some ⟨b4, o2 + i * 8, none⟩)) rfl (fun u => by kernel_rfl) ?_
   refine Yb 11 31 (.pointer (some ⟨b4, o2 + i * 8, none⟩)) rfl (fun u => by kernel_rfl) ?_
   refine G.take 12 32 (.string x2.it.key) rfl (by kernel_rfl) rfl (fun _ _ _ h => h) ((Mv.refl _ _ _).trans (M4.mono (fun _ h => h))).self (by kernel_rfl) (fun u hm => exec_load rfl rfl Ty9 ((hr2.mv hm quiet).2.2 0 (Nat.le_of_ble_eq_true rfl))) ?_
   rcases bsplit (!Op.bytesLess x1.it.key.toList x2.it.key.toList) with t2 | t2
   ·refine Yb 13 33 (.bool true) rfl (fun u => okv ((fun u => by kernel_rfl) u) (congrArg Value.bool t2)) ?_
    refine G.fin (by kernel_rfl) ?_
    refine hk7 _ _ (W.cond true rfl (wp_seq_k fun k8 hk8 => (wp_region_lit ?_)))
    refine Zb 34 (.agg #[.int .i64 0, .int .i64 0]) ?_
    refine W.op (O.sta 0 [.int .i64 0, .int .i64 0] rfl rfl rfl rfl rfl Ty31 rfl rfl rfl rfl K4 fun w4 K5 M5 => ?_)
    refine Zb 7 (.slice none 0 0) ?_
    refine Zb 8 (.int .i64 131) ?_
    refine wpList_nil (hk8 _ _ (wp_ret (block_ret (then_ret (then_ret (block_ret ?_))))))
    refine then_ret (W.rets (vs := [.agg #[.int .i64 0, .int .i64 0], .slice none 0 0, .int .i64 131]) rfl (.agg (cs := [.int .i64 0, .int .i64 0]) rfl Ty31 rfl ((K5.nth 0 rfl).all 2) (.tmp rfl (.tmp rfl .nil))) (by simp) ?_)
    have hhT_3 := h2.mv M4 quiet quiet quiet quiet
    have hhT_4 := hhT_3.mv M5 (neq (by omega)) (neq (by omega)) (neq (by omega)) (neq (by omega))
    have e9 := chgM_rise (σ := σ.er) (top := top) (riseB_not hx1 (by rw [show i - 1 + 1 = i by omega]; exact hx2) (by simpa using t2))
    rw [e9]
    exact ⟨_, nilS, σ, rfl, K5.mv, hhT_4, rfl, Gs.nil _ _ _ _ (fun _ => rfl)⟩
   ·refine Yb 13 33 (.bool false) rfl (fun u => okv ((fun u => by kernel_rfl) u) (congrArg Value.bool t2)) ?_
    refine G.fin (by kernel_rfl) ?_
    refine hk7 _ _ (W.cond false rfl (wp_skip (block_normal (hk6 _ _ (wp_region_lit ?_)))))
    refine Zb 18 (.int .i64 ↑i) ?_
    refine Zc 19 (.int .i64 ((i + 1 : Nat) : Int)) (okv (v := .int .i64 (IntKind.i64.wrap (((i : Nat) : Int) + 1))) (by kernel_rfl) (wrapn (by omega) (by omega))) ?_
    refine Zb 9 (.int .i64 ((i + 1 : Nat) : Int)) ?_
    refine wpList_nil ?_
    have hhes_3 := h1.mv M4 quiet
    have hhT_5 := h2.mv M4 quiet quiet quiet quiet
    exact ⟨es.length + 1 - (i + 1), _, by omega, (((((look_eq (t := 0) (v := .iface 29 (.pointer (some ⟨p, 0, none⟩))) rfl).trans (look_eq (t := 2) (v := .slice s.a s.n s.c) rfl)).trans (look_eq (t := 4) (v := .pointer (some ⟨b1, 0, none⟩)) rfl)).trans (look_eq (t := 6) (v := .pointer (some ⟨b2, 0, none⟩)) rfl)).trans (look_eq (t := 9) (v := .int .i64 (((i + 1) : Nat) : Int)) rfl)), ⟨(i + 1), _, _, rfl, rfl, K4, (M3.trans (M4.mono nt_le)), by omega, by omega, (fun j a b hj ha hb => by rcases Nat.lt_or_ge j (i - 1) with h | h; exact p3 j a b (by omega) ha hb; have e : j = i - 1 := (by omega); subst e; rw [hx1] at ha; rw [show i - 1 + 1 = i by omega, hx2] at hb; injection ha with ha; injection hb with hb; subst ha hb; simpa using t2), hhes_3, hhT_5⟩⟩
  ·refine Zc 17 (.bool false) (okv (by kernel_rfl) (congrArg Value.bool (decide_eq_false t1))) ?_
   refine wpList_nil (hk5 _ _ (W.cond false rfl (wp_exit (then_exit ?_))))
   have hrise : riseB es = true := riseB_of es fun j a b ha hb => p3 j a b (by have := (List.getElem?_eq_some_iff.1 hb).1; omega) ha hb
   refine then_exit (block_exit (hk2 _ _ (wp_seq_k fun k9 hk9 => (wp_region_lit ?_))))
   refine Zb 35 (.iface 29 (.pointer (some ⟨p, 0, none⟩))) ?_
   refine Zb 36 (.agg #[.iface 29 (.pointer (some ⟨p, 0, none⟩)), .int .i64 0, .slice none 0 0]) ?_
   refine W.op (O.newt (τ + 3) 37 92 [.iface 29 (.pointer (some ⟨p, 0, none⟩)), .int .i64 0, .slice none 0 0] rfl rfl (by kernel_rfl) K3 fun b5 w5 g4 K6 hb1 M6 => ?_)
   refine Zb 10 (.pointer (some ⟨b5, 0, none⟩)) ?_
   refine wpList_nil (hk9 _ _ (wp_seq_k fun k10 hk10 => (wp_region_lit ?_)))
   refine Zb 39 (.pointer (some ⟨b5, 0, none⟩)) ?_
   refine Zc 40 (.agg top.cells.toArray) (exec_loads (cs := top.cells) rfl rfl Ty31 rfl ((K6.nth 1 rfl).all 2)) ?_
   refine Zb 41 (.slice s.a s.n s.c) ?_
   have hhT_6 := h2.mv M6 quiet quiet quiet quiet
   have hM0 : SM τ w5 g4 b5 p ⟨σ, 0, []⟩ := ⟨hhT_6, ⟨⟨⟨none, 0, 0⟩, hb1, Gs.nil _ _ _ _ (fun _ => rfl)⟩⟩⟩
   have hfi := hfit hrise
   have hhes_4 := h1.mv M6 quiet
   rcases hbk : becM (16 + 1) ⟨σ, 0, []⟩ top es with ⟨_ | P9, S2⟩
   ·have hr9 := becomes_c 16 0 τ b5 p ⟨σ, 0, []⟩ ⟨σ, 0, []⟩ top s es w5 g4 rfl hM0 (by omega) ⟨by show σ.nodes.length ≤ _; omega, by show σ.log.length ≤ _; omega, Int.le_refl 0, (by show (0 : Int) ≤ _; decide), (by show (0 : Nat) ≤ _; omega)⟩ (Gr.refl _) hhes_4 hfi.1
    rw [hbk] at hr9
    refine W.op (O.call 42 45 #[.pointer (some ⟨b5, 0, none⟩), .agg top.cells.toArray, .int .i64 0, .slice s.a s.n s.c] (by kernel_rfl) rfl (by kernel_rfl) ((hr9).mono ?_))
    rintro e1 w6 ⟨g5, c1, rfl, M7, hq1, hq2⟩
    have K7 := K6.step M7 (fun _ h => h) (nrg (by omega))
    refine ⟨_, rfl, ?_⟩
    refine Zb 38 (.tuple #[.agg c1.cells.toArray, .int .i64 130]) ?_
    refine Zb 43 (.agg c1.cells.toArray) ?_
    refine Zb 44 (.int .i64 130) ?_
    refine W.op (O.new 11 109 [.bool false, .int .i64 0, .int .i64 0, .int .i64 0, .int .i64 0, .bool false, .slice none 0 0, .slice none 0 0] rfl rfl (by kernel_rfl) K7 fun b6 w7 g7 K8 M9 => ?_)
    refine W.op (O.sta 0 c1.cells rfl rfl rfl rfl rfl Ty109 rfl rfl rfl rfl K8 fun w8 K9 M10 => ?_)
    refine Zb 12 (.int .i64 130) ?_
    refine wpList_nil (hk10 _ _ (wp_seq_k fun k11 hk11 => (wp_seq_k fun k12 hk12 => (wp_region_lit ?_))))
    refine Zb 45 (.int .i64 130) ?_
    refine Zb 46 (.bool true) ?_
    refine wpList_nil (hk12 _ _ (W.cond true rfl (wp_seq_k fun k13 hk13 => (wp_region_lit ?_))))
    refine Zb 47 (.agg #[.int .i64 0, .int .i64 0]) ?_
    refine Zb 48 (.int .i64 130) ?_
    refine W.op (O.sta 1 [.int .i64 0, .int .i64 0] rfl rfl rfl rfl rfl Ty31 rfl rfl rfl rfl K9 fun w9 K10 M11 => ?_)
    refine Zb 7 (.slice none 0 0) ?_
    refine Zb 8 (.int .i64 130) ?_
    refine wpList_nil (hk13 _ _ (wp_ret (then_ret (W.rets (vs := [.agg #[.int .i64 0, .int .i64 0], .slice none 0 0, .int .i64 130]) rfl (.agg (cs := [.int .i64 0, .int .i64 0]) rfl Ty31 rfl ((K10.nth 1 rfl).all 2) (.tmp rfl (.tmp rfl .nil))) (by simp) ?_))))
    have hhM_1 := hq1.mv M9 quiet quiet quiet quiet quiet quiet
    have hhM_2 := hhM_1.mv M10 (neq (by omega)) (neq (by omega)) (neq (by omega)) (neq (by omega)) (neq (by omega)) (neq (by omega))
    have hhM_3 := hhM_2.mv M11 (neq (by omega)) (neq (by omega)) (neq (by omega)) (neq (by omega)) (neq (by omega)) (neq (by omega))
    have e9 := chgM_lost hrise (becM17_er hbk)
    rw [e9]
    exact ⟨_, nilS, S2.σ, rfl, K10.mv, (hhM_3).tp, rfl, Gs.nil _ _ _ _ (fun _ => rfl)⟩
   ·have hr9 := becomes_c 16 0 τ b5 p ⟨σ, 0, []⟩ ⟨σ, 0, []⟩ top s es w5 g4 rfl hM0 (by omega) ⟨by show σ.nodes.length ≤ _; omega, by show σ.log.length ≤ _; omega, Int.le_refl 0, (by show (0 : Int) ≤ _; decide), (by show (0 : Nat) ≤ _; omega)⟩ (Gr.refl _) hhes_4 hfi.1
    rw [hbk] at hr9
    refine W.op (O.call 42 45 #[.pointer (some ⟨b5, 0, none⟩), .agg top.cells.toArray, .int .i64 0, .slice s.a s.n s.c] (by kernel_rfl) rfl (by kernel_rfl) ((hr9).mono ?_))
    rintro e2 w10 ⟨g6, c2, rfl, M8, hq3, hq4⟩
    have K11 := K6.step M8 (fun _ h => h) (nrg (by omega))
    refine ⟨_, rfl, ?_⟩
    refine Zb 38 (.tuple #[.agg c2.cells.toArray, .int .i64 0]) ?_
    refine Zb 43 (.agg c2.cells.toArray) ?_
    refine Zb 44 (.int .i64 0) ?_
    refine W.op (O.new 11 109 [.bool false, .int .i64 0, .int .i64 0, .int .i64 0, .int .i64 0, .bool false, .slice none 0 0, .slice none 0 0] rfl rfl (by kernel_rfl) K11 fun b7 w11 g8 K12 M12 => ?_)
    refine W.op (O.sta 0 c2.cells rfl rfl rfl rfl rfl Ty109 rfl rfl rfl rfl K12 fun w12 K13 M13 => ?_)
    refine Zb 12 (.int .i64 0) ?_
    refine wpList_nil (hk10 _ _ (wp_seq_k fun k14 hk14 => (wp_seq_k fun k15 hk15 => (wp_region_lit ?_))))
    refine Zb 45 (.int .i64 0) ?_
    refine Zb 46 (.bool false) ?_
    refine wpList_nil (hk15 _ _ (W.cond false rfl (wp_skip (hk14 _ _ (wp_seq_k fun k16 hk16 => (wp_region_lit ?_))))))
    refine Zb 50 (.pointer (some ⟨b5, 0, none⟩)) ?_
    refine Zc 51 (.agg c2.cells.toArray) (exec_loads (cs := c2.cells) rfl rfl Ty109 rfl ((K13.nth 0 rfl).all 8)) ?_
    have hgr := becM_gr (16 + 1) ⟨σ, 0, []⟩ top es
    rw [hbk] at hgr
    have hn1 := hgr.nodes
    have hn2 := hgr.log
    have hn3 : S2.got ≤ 1048576 := hgr.cap (by show (0 : Int) ≤ _; decide)
    have hn4 : S2.σ.nodes.length = σ.nodes.length := by rw [hn1]
    have hn5 : (S2.σ.log.length : Int) + 0 ≤ σ.log.length + S2.got := hn2
    have hsz := hfi.2 P9 S2 hbk
    have hf1_1 := hq4.mv M12 quiet
    have hf1_2 := hf1_1.mv M13 (neq (by omega))
    have hhM_4 := hq3.mv M12 quiet quiet quiet quiet quiet quiet
    have hhM_5 := hhM_4.mv M13 (neq (by omega)) (neq (by omega)) (neq (by omega)) (neq (by omega)) (neq (by omega)) (neq (by omega))
    refine W.op (O.call 52 46 #[.pointer (some ⟨b5, 0, none⟩), .agg c2.cells.toArray] (by kernel_rfl) rfl (by kernel_rfl) ((lay_c P9 c2 τ b5 p S2 w12 g8 hf1_2 hhM_5 (by omega) (by omega) (by omega) hsz.2.1).mono ?_))
    rintro e3 w13 ⟨g9, σ1, rfl, M14, hq5, hq6, hq7, hq8⟩
    have K14 := K13.step M14 (fun _ h => h) (nrg (by omega))
    refine ⟨_, rfl, ?_⟩
    refine Zb 49 (.tuple #[.agg ((layM P9 S2.σ.er).1.1.cells).toArray, .int .i64 ((layM P9 S2.σ.er).1.2)]) ?_
    refine Zb 53 (.agg ((layM P9 S2.σ.er).1.1.cells).toArray) ?_
    refine Zb 54 (.int .i64 ((layM P9 S2.σ.er).1.2)) ?_
    refine W.op (O.new 13 31 [.int .i64 0, .int .i64 0] rfl rfl (by kernel_rfl) K14 fun b8 w14 g10 K15 M15 => ?_)
    refine W.op (O.sta 0 (layM P9 S2.σ.er).1.1.cells rfl rfl rfl rfl rfl Ty31 rfl rfl rfl rfl K15 fun w15 K16 M16 => ?_)
    refine Zb 12 (.int .i64 ((layM P9 S2.σ.er).1.2)) ?_
    refine wpList_nil (hk16 _ _ (wp_seq_k fun k17 hk17 => (wp_seq_k fun k18 hk18 => (wp_region_lit ?_))))
    refine Zb 55 (.int .i64 ((layM P9 S2.σ.er).1.2)) ?_
    by_cases t3 : ((layM P9 S2.σ.er).1.2) = 0
    ·refine Zc 56 (.bool false) (okv (by kernel_rfl) (congrArg Value.bool (bne_eq_false_iff_eq.2 t3))) ?_
     refine wpList_nil (hk18 _ _ (W.cond false rfl (wp_skip (hk17 _ _ (wp_seq_k fun k19 hk19 => (wp_region_G (SmL [(0, (Rg τ (τ + 5)))] w15 g10) (by kernel_rfl) ?_))))))
     have K17 := K16.drew
     have M17 : Mv Nt w15 g10 w15.drew g10 := (Mv.refl _ _ _).drew
     refine G.take 0 59 (.agg ((layM P9 S2.σ.er).1.1.cells).toArray) rfl (by kernel_rfl) rfl (fun _ _ _ h => h) ((Mv.refl _ _ _).trans (M17.mono nt_le)).self (by kernel_rfl) (fun u hm => exec_loads (cs := (layM P9 S2.σ.er).1.1.cells) rfl rfl Ty31 rfl ((K16.later 0 rfl hm (nrg (by omega))).all 2)) ?_
     refine Yb 1 60 (.pointer (some ⟨b5, 0, none⟩)) rfl (fun u => by kernel_rfl) ?_
     have hhM_6 := hq5.mv M15 quiet quiet quiet quiet quiet quiet
     have hhM_7 := hhM_6.mv M16 (neq (by omega)) (neq (by omega)) (neq (by omega)) (neq (by omega)) (neq (by omega)) (neq (by omega))
     have hhM_8 := hhM_7.mv M17 quiet quiet quiet quiet quiet quiet
     refine G.op 2 (by kernel_rfl) rfl (O.call 61 47 #[.pointer (some ⟨b5, 0, none⟩)] (by kernel_rfl) rfl (by kernel_rfl) ((toldAll_c τ b5 p ({ S2 with σ := σ1 }) t w15.drew g10 hhM_8 (by omega) hsz.2.2).mono ?_))
     rintro e4 w16 ⟨g11, s1, rfl, M18, hq9, hq10⟩
     have K18 := K17.step M18 (fun _ h => h) (nrg (by omega))
     have n3 := hq10.len
     refine ⟨_, rfl, ⟨(kp_keep (((Mv.refl _ _ _).trans (M17.mono nt_le)).trans (M18.mono (fun _ h => h))) kp_nil), ?_⟩⟩
     refine G.op 3 (by kernel_rfl) rfl (O.sta 2 (layM P9 S2.σ.er).1.1.cells rfl rfl rfl rfl rfl Ty31 rfl rfl rfl rfl K18 fun w17 K19 M19 => ⟨(kp_skip (by kernel_rfl) kp_nil), ?_⟩)
     refine Yb 4 7 (.slice s1.a s1.n s1.c) rfl (fun u => by kernel_rfl) ?_
     refine Yb 5 8 (.int .i64 0) rfl (fun u => by kernel_rfl) ?_
     refine G.fin (by kernel_rfl) ?_
     refine hk19 _ _ (wp_ret (W.rets (vs := [.agg ((layM P9 S2.σ.er).1.1.cells).toArray, .slice s1.a s1.n s1.c, .int .i64 0]) rfl (.agg (cs := (layM P9 S2.σ.er).1.1.cells) rfl Ty31 rfl ((K19.nth 2 rfl).all 2) (.tmp rfl (.tmp rfl .nil))) (by simp) ?_))
     have hhM_9 := hq9.mv M19 (neq (by omega)) (neq (by omega)) (neq (by omega)) (neq (by omega)) (neq (by omega)) (neq (by omega))
     have he0 : (layM P9 S2.σ.er).1.2 = 0 := t3
     have hf2_1 := hq10.mv M19 (neq (by omega))
     have e9 := chgM_done hrise (becM17_er hbk) he0
     rw [e9]
     exact ⟨_, s1, σ1, rfl, K19.mv, (hhM_9).tp, hq6, hf2_1⟩
    ·refine Zc 56 (.bool true) (okv (by kernel_rfl) (congrArg Value.bool (bne_iff_ne.2 t3))) ?_
     refine wpList_nil (hk18 _ _ (W.cond true rfl (wp_seq_k fun k20 hk20 => (wp_region_lit ?_))))
     refine Zb 57 (.agg #[.int .i64 0, .int .i64 0]) ?_
     refine Zb 58 (.int .i64 ((layM P9 S2.σ.er).1.2)) ?_
     refine W.op (O.sta 2 [.int .i64 0, .int .i64 0] rfl rfl rfl rfl rfl Ty31 rfl rfl rfl rfl K16 fun w18 K20 M20 => ?_)
     refine Zb 7 (.slice none 0 0) ?_
     refine Zb 8 (.int .i64 ((layM P9 S2.σ.er).1.2)) ?_
     refine wpList_nil (hk20 _ _ (wp_ret (then_ret (W.rets (vs := [.agg #[.int .i64 0, .int .i64 0], .slice none 0 0, .int .i64 ((layM P9 S2.σ.er).1.2)]) rfl (.agg (cs := [.int .i64 0, .int .i64 0]) rfl Ty31 rfl ((K20.nth 2 rfl).all 2) (.tmp rfl (.tmp rfl .nil))) (by simp) ?_))))
     have hhM_10 := hq5.mv M15 quiet quiet quiet quiet quiet quiet
     have hhM_11 := hhM_10.mv M16 (neq (by omega)) (neq (by omega)) (neq (by omega)) (neq (by omega)) (neq (by omega)) (neq (by omega))
     have hhM_12 := hhM_11.mv M20 (neq (by omega)) (neq (by omega)) (neq (by omega)) (neq (by omega)) (neq (by omega)) (neq (by omega))
     have e9 := chgM_full hrise (becM17_er hbk) t3
     rw [e9]
     exact ⟨_, nilS, σ1, rfl, K20.mv, (hhM_12).tp, hq6, Gs.nil _ _ _ _ (fun _ => rfl)⟩

end Go.Proofs.Ytlfanphdnjoofaa
