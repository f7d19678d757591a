/- Walks: comparisons. -/
import Derived.Test.YtlfanphdnjoofaaT1
namespace Go.Proofs.Ytlfanphdnjoofaa
open Go.RowKit
set_option linter.unusedSimpArgs false
set_option linter.unusedVariables false
attribute [local irreducible] wpList Code.wp Calls OpS wpG

set_option maxRecDepth 100000 in
set_option maxHeartbeats 1000000 in
theorem isNaN_c (x : Int) (w : World) (γ : Tg) :
    Calls Try.prog 87 #[.int .i64 x] w fun ε w' => ∃ γ', ε = .returned (.bool false) ∧ Mv Nt w γ w' γ' := by
 have K0 := Kn.start Nt w γ
 refine W.enter (ws := [(0, .int .i64 x)]) 6 Try.func87 rfl (by kernel_rfl) ?_
 refine wp_seq_k fun k1 hk1 => (wp_region_lit ?_)
 refine Zb 2 (.bool false) ?_
 refine wpList_nil (hk1 _ _ (wp_seq_k fun k2 hk2 => (wp_region_lit ?_)))
 refine Zb 3 (.int .i64 x) ?_
 refine Zb 4 (.int .i64 x) ?_
 refine Zc 5 (.bool false) (okv (by kernel_rfl) (congrArg Value.bool (bne_self_eq_false x))) ?_
 refine Zb 2 (.bool false) ?_
 refine wpList_nil (hk2 _ _ (wp_ret (W.ret1 (v := .bool false) rfl (.tmp rfl .nil) ?_)))
 exact ⟨_, rfl, K0.mv⟩

set_option maxRecDepth 100000 in
set_option maxHeartbeats 1000000 in
theorem cmpInt_c (x y : Int) (w : World) (γ : Tg) :
    Calls Try.prog 70 #[.int .i64 x, .int .i64 y] w fun ε w' => ∃ γ', ε = .returned (.int .i64 (cmpI x y)) ∧ Mv Nt w γ w' γ' := by
 have K0 := Kn.start Nt w γ
 refine W.enter (ws := [(1, .int .i64 y), (0, .int .i64 x)]) 20 Try.func70 rfl (by kernel_rfl) ?_
 refine wp_seq_k fun k1 hk1 => (wp_region_lit ?_)
 refine Zb 4 (.int .i64 0) ?_
 refine wpList_nil (hk1 _ _ (wp_seq_k fun k2 hk2 => (wp_region_lit ?_)))
 refine Zb 7 (.int .i64 x) ?_
 refine W.op (O.call 8 87 #[.int .i64 x] (by kernel_rfl) rfl (by kernel_rfl) ((isNaN_c x w γ).mono ?_))
 rintro e1 w1 ⟨g1, rfl, M1⟩
 have K1 := K0.step M1 (fun _ h => h) quiet
 refine ⟨_, rfl, ?_⟩
 refine Zb 5 (.bool false) ?_
 refine wpList_nil (hk2 _ _ (wp_seq_k fun k3 hk3 => (wp_region_lit ?_)))
 refine Zb 9 (.int .i64 y) ?_
 refine W.op (O.call 10 87 #[.int .i64 y] (by kernel_rfl) rfl (by kernel_rfl) ((isNaN_c y w1 g1).mono ?_))
 rintro e2 w2 ⟨g2, rfl, M2⟩
 have K2 := K1.step M2 (fun _ h => h) quiet
 refine ⟨_, rfl, ?_⟩
 refine Zb 6 (.bool false) ?_
 refine wpList_nil (hk3 _ _ (wp_seq_k fun k4 hk4 => (wp_seq_k fun k5 hk5 => (wp_region_lit ?_))))
 refine Zb 11 (.bool false) ?_
 refine wpList_nil (hk5 _ _ (W.cond false rfl (wp_skip (hk4 _ _ (wp_seq_k fun k6 hk6 => (wp_seq_k fun k7 hk7 => ?_))))))
 refine wp_region_lit ?_
 refine Zb 13 (.bool false) ?_
 refine wpList_nil (hk7 _ _ (W.cond false rfl (wp_skip (hk6 _ _ (wp_seq_k fun k8 hk8 => (wp_seq_k fun k9 hk9 => ?_))))))
 refine wp_region_lit ?_
 refine Zb 14 (.int .i64 x) ?_
 refine Zb 15 (.int .i64 y) ?_
 by_cases t1 : x < y
 ·refine Zc 16 (.bool true) (okv (by kernel_rfl) (congrArg Value.bool (decide_eq_true t1))) ?_
  refine wpList_nil (hk9 _ _ (W.cond true rfl (wp_seq_k fun k10 hk10 => (wp_region_lit ?_))))
  refine Zb 4 (.int .i64 (-1)) ?_
  refine wpList_nil (hk10 _ _ (wp_ret (then_ret (W.ret1 (v := .int .i64 (-1)) rfl (.tmp rfl .nil) ?_))))
  exact ⟨_, by first | (exfalso; omega) | (rw [cmpI, if_pos (by omega)]; done) | (rw [cmpI, if_neg (by omega), if_pos (by omega)]; done) | (rw [cmpI, if_neg (by omega), if_neg (by omega)]; done), K2.mv⟩
 ·refine Zc 16 (.bool false) (okv (by kernel_rfl) (congrArg Value.bool (decide_eq_false t1))) ?_
  refine wpList_nil (hk9 _ _ (W.cond false rfl (wp_skip (hk8 _ _ (wp_seq_k fun k11 hk11 => (wp_seq_k fun k12 hk12 => ?_))))))
  refine wp_region_lit ?_
  refine Zb 17 (.int .i64 x) ?_
  refine Zb 18 (.int .i64 y) ?_
  by_cases t2 : x > y
  ·refine Zc 19 (.bool true) (okv (by kernel_rfl) (congrArg Value.bool (decide_eq_true t2))) ?_
   refine wpList_nil (hk12 _ _ (W.cond true rfl (wp_seq_k fun k13 hk13 => (wp_region_lit ?_))))
   refine Zb 4 (.int .i64 1) ?_
   refine wpList_nil (hk13 _ _ (wp_ret (then_ret (W.ret1 (v := .int .i64 1) rfl (.tmp rfl .nil) ?_))))
   exact ⟨_, by first | (exfalso; omega) | (rw [cmpI, if_pos (by omega)]; done) | (rw [cmpI, if_neg (by omega), if_pos (by omega)]; done) | (rw [cmpI, if_neg (by omega), if_neg (by omega)]; done), K2.mv⟩
  ·refine Zc 19 (.bool false) (okv (by kernel_rfl) (congrArg Value.bool (decide_eq_false t2))) ?_
   refine wpList_nil (hk12 _ _ (W.cond false rfl (wp_skip (hk11 _ _ (wp_seq_k fun k14 hk14 => (wp_region_lit ?_))))))
   refine Zb 4 (.int .i64 0) ?_
   refine wpList_nil (hk14 _ _ (wp_ret (W.ret1 (v := .int .i64 0) rfl (.tmp rfl .nil) ?_)))
   exact ⟨_, by first | (exfalso; omega) | (rw [cmpI, if_pos (by omega)]; done) | (rw [cmpI, if_neg (by omega), if_pos (by omega)]; done) | (rw [cmpI, if_neg (by omega), if_neg (by omega)]; done), K2.mv⟩

set_option maxRecDepth 100000 in
set_option maxHeartbeats 1000000 in
theorem cmpBytes_c (a b : ByteArray) (w : World) (γ : Tg) :
    Calls Try.prog 77 #[.string a, .string b] w fun ε w' => ∃ γ', ε = .returned (.int .i64 (Extern.BytealgCompare.cmp a b)) ∧ Mv Nt w γ w' γ' := by
 have K0 := Kn.start Nt w γ
 refine W.enter (ws := [(1, .string b), (0, .string a)]) 8 Try.func77 rfl (by kernel_rfl) ?_
 refine wp_seq_k fun k1 hk1 => (wp_region_lit ?_)
 refine Zb 4 (.int .i64 0) ?_
 refine wpList_nil (hk1 _ _ (wp_seq_k fun k2 hk2 => (wp_region_lit ?_)))
 refine Zb 5 (.string a) ?_
 refine Zb 6 (.string b) ?_
 refine Zb 7 (.int .i64 (Extern.BytealgCompare.cmp a b)) ?_
 refine Zb 4 (.int .i64 (Extern.BytealgCompare.cmp a b)) ?_
 refine wpList_nil (hk2 _ _ (wp_ret (W.ret1 (v := .int .i64 (Extern.BytealgCompare.cmp a b)) rfl (.tmp rfl .nil) ?_)))
 exact ⟨_, rfl, K0.mv⟩

set_option maxRecDepth 100000 in
set_option maxHeartbeats 1000000 in
theorem cmpStr_c (a b : ByteArray) (w : World) (γ : Tg) :
    Calls Try.prog 56 #[.string a, .string b] w fun ε w' => ∃ γ', ε = .returned (.int .i64 (Extern.BytealgCompare.cmp a b)) ∧ Mv Nt w γ w' γ' := by
 have K0 := Kn.start Nt w γ
 refine W.enter (ws := [(1, .string b), (0, .string a)]) 8 Try.func56 rfl (by kernel_rfl) ?_
 refine wp_seq_k fun k1 hk1 => (wp_region_lit ?_)
 refine Zb 4 (.int .i64 0) ?_
 refine wpList_nil (hk1 _ _ (wp_seq_k fun k2 hk2 => (wp_region_lit ?_)))
 refine Zb 5 (.string a) ?_
 refine Zb 6 (.string b) ?_
 refine W.op (O.call 7 77 #[.string a, .string b] (by kernel_rfl) rfl (by kernel_rfl) ((cmpBytes_c a b w γ).mono ?_))
 rintro e1 w1 ⟨g1, rfl, M1⟩
 have K1 := K0.step M1 (fun _ h => h) quiet
 refine ⟨_, rfl, ?_⟩
 refine Zb 4 (.int .i64 (Extern.BytealgCompare.cmp a b)) ?_
 refine wpList_nil (hk2 _ _ (wp_ret (W.ret1 (v := .int .i64 (Extern.BytealgCompare.cmp a b)) rfl (.tmp rfl .nil) ?_)))
 exact ⟨_, rfl, K1.mv⟩

set_option maxRecDepth 100000 in
set_option maxHeartbeats 1000000 in
theorem byKey_c (x y : Item) (w : World) (γ : Tg) :
    Calls Try.prog 55 #[.agg x.cells.toArray, .agg y.cells.toArray] w fun ε w' => ∃ γ', ε = .returned (.int .i64 (Extern.BytealgCompare.cmp x.key y.key)) ∧ Mv Nt w γ w' γ' := by
 have K0 := Kn.start Nt w γ
 refine W.enter (ws := [(1, .agg y.cells.toArray), (0, .agg x.cells.toArray)]) 10 Try.func55 rfl (by kernel_rfl) ?_
 refine wp_seq_k fun k1 hk1 => (wp_region_lit ?_)
 refine W.op (O.new 2 50 x.cells rfl rfl (by kernel_rfl) K0 fun b1 w1 g1 K1 M1 => ?_)
 refine W.op (O.new 3 50 y.cells rfl rfl (by kernel_rfl) K1 fun b2 w2 g2 K2 M2 => ?_)
 refine Zb 4 (.int .i64 0) ?_
 refine wpList_nil (hk1 _ _ (wp_seq_k fun k2 hk2 => (wp_region_lit ?_)))
 refine Zb 5 (.pointer (some ⟨b1, 0, none⟩)) ?_
 refine Zc 6 (.string x.key) (exec_load rfl rfl Ty9 ((K2.nth 1 rfl).cell 0)) ?_
 refine Zb 7 (.pointer (some ⟨b2, 0, none⟩)) ?_
 refine Zc 8 (.string y.key) (exec_load rfl rfl Ty9 ((K2.nth 0 rfl).cell 0)) ?_
 refine W.op (O.call 9 56 #[.string x.key, .string y.key] (by kernel_rfl) rfl (by kernel_rfl) ((cmpStr_c x.key y.key w2 g2).mono ?_))
 rintro e1 w3 ⟨g3, rfl, M3⟩
 have K3 := K2.step M3 (fun _ h => h) quiet
 refine ⟨_, rfl, ?_⟩
 refine Zb 4 (.int .i64 (Extern.BytealgCompare.cmp x.key y.key)) ?_
 refine wpList_nil (hk2 _ _ (wp_ret (W.ret1 (v := .int .i64 (Extern.BytealgCompare.cmp x.key y.key)) rfl (.tmp rfl .nil) ?_)))
 exact ⟨_, rfl, K3.mv⟩

set_option maxRecDepth 100000 in
set_option maxHeartbeats 1000000 in
theorem told_c (x y : Rtd) (w : World) (γ : Tg) :
    Calls Try.prog 69 #[.agg x.cells.toArray, .agg y.cells.toArray] w fun ε w' => ∃ γ', ε = .returned (.int .i64 (cmpI x.got y.got)) ∧ Mv Nt w γ w' γ' := by
 have K0 := Kn.start Nt w γ
 refine W.enter (ws := [(1, .agg y.cells.toArray), (0, .agg x.cells.toArray)]) 10 Try.func69 rfl (by kernel_rfl) ?_
 refine wp_seq_k fun k1 hk1 => (wp_region_lit ?_)
 refine W.op (O.new 2 146 x.cells rfl rfl (by kernel_rfl) K0 fun b1 w1 g1 K1 M1 => ?_)
 refine W.op (O.new 3 146 y.cells rfl rfl (by kernel_rfl) K1 fun b2 w2 g2 K2 M2 => ?_)
 refine Zb 4 (.int .i64 0) ?_
 refine wpList_nil (hk1 _ _ (wp_seq_k fun k2 hk2 => (wp_region_lit ?_)))
 refine Zb 5 (.pointer (some ⟨b1, 2, none⟩)) ?_
 refine Zc 6 (.int .i64 x.got) (exec_load rfl rfl Ty3 ((K2.nth 1 rfl).cell 2)) ?_
 refine Zb 7 (.pointer (some ⟨b2, 2, none⟩)) ?_
 refine Zc 8 (.int .i64 y.got) (exec_load rfl rfl Ty3 ((K2.nth 0 rfl).cell 2)) ?_
 refine W.op (O.call 9 70 #[.int .i64 x.got, .int .i64 y.got] (by kernel_rfl) rfl (by kernel_rfl) ((cmpInt_c x.got y.got w2 g2).mono ?_))
 rintro e1 w3 ⟨g3, rfl, M3⟩
 have K3 := K2.step M3 (fun _ h => h) quiet
 refine ⟨_, rfl, ?_⟩
 refine Zb 4 (.int .i64 (cmpI x.got y.got)) ?_
 refine wpList_nil (hk2 _ _ (wp_ret (W.ret1 (v := .int .i64 (cmpI x.got y.got)) rfl (.tmp rfl .nil) ?_)))
 exact ⟨_, rfl, K3.mv⟩

set_option maxRecDepth 100000 in
set_option maxHeartbeats 1000000 in
theorem findEq_c (x : Item) (b t : Nat) (key : ByteArray) (w : World) (γ : Tg) (hk : Cl t w γ b 0 (.string key)) :
    Calls Try.prog 43 #[.agg x.cells.toArray, .pointer (some ⟨b, 0, none⟩)] w fun ε w' => ∃ γ', ε = .returned (.bool (x.key.toList == key.toList)) ∧ Mv Nt w γ w' γ' := by
 have K0 := Kn.start Nt w γ
 refine W.enter (ws := [(1, .pointer (some ⟨b, 0, none⟩)), (0, .agg x.cells.toArray)]) 8 Try.func43 rfl (by kernel_rfl) ?_
 refine wp_seq_k fun k1 hk1 => (wp_region_lit ?_)
 refine W.op (O.new 2 50 x.cells rfl rfl (by kernel_rfl) K0 fun b1 w1 g1 K1 M1 => ?_)
 refine Zb 3 (.bool false) ?_
 refine wpList_nil (hk1 _ _ (wp_seq_k fun k2 hk2 => (wp_region_lit ?_)))
 refine Zb 4 (.pointer (some ⟨b1, 0, none⟩)) ?_
 refine Zc 5 (.string x.key) (exec_load rfl rfl Ty9 ((K1.nth 0 rfl).cell 0)) ?_
 have hk_1 := hk.mv M1 quiet
 refine Zc 6 (.string key) (exec_load rfl rfl Ty9 hk_1.1) ?_
 refine Zb 7 (.bool (x.key.toList == key.toList)) ?_
 refine Zb 3 (.bool (x.key.toList == key.toList)) ?_
 refine wpList_nil (hk2 _ _ (wp_ret (W.ret1 (v := .bool (x.key.toList == key.toList)) rfl (.tmp rfl .nil) ?_)))
 exact ⟨_, rfl, K1.mv⟩

set_option maxRecDepth 100000 in
set_option maxHeartbeats 1000000 in
theorem editedEq_c (x : Item) (b t : Nat) (e : Edit) (w : World) (γ : Tg) (hk : Bt t w γ b 55 e.cells) :
    Calls Try.prog 82 #[.agg x.cells.toArray, .pointer (some ⟨b, 0, none⟩)] w fun ε w' => ∃ γ', ε = .returned (.bool (x.key.toList == e.it.key.toList)) ∧ Mv Nt w γ w' γ' := by
 have K0 := Kn.start Nt w γ
 refine W.enter (ws := [(1, .pointer (some ⟨b, 0, none⟩)), (0, .agg x.cells.toArray)]) 10 Try.func82 rfl (by kernel_rfl) ?_
 refine wp_seq_k fun k1 hk1 => (wp_region_lit ?_)
 refine W.op (O.new 2 50 x.cells rfl rfl (by kernel_rfl) K0 fun b1 w1 g1 K1 M1 => ?_)
 refine Zb 3 (.bool false) ?_
 refine wpList_nil (hk1 _ _ (wp_seq_k fun k2 hk2 => (wp_region_lit ?_)))
 refine Zb 4 (.pointer (some ⟨b1, 0, none⟩)) ?_
 refine Zc 5 (.string x.key) (exec_load rfl rfl Ty9 ((K1.nth 0 rfl).cell 0)) ?_
 refine Zb 6 (.pointer (some ⟨b, 0, none⟩)) ?_
 refine Zb 7 (.pointer (some ⟨b, 0, none⟩)) ?_
 have hk_1 := hk.mv M1 quiet
 refine Zc 8 (.string e.it.key) (exec_load rfl rfl Ty9 ((hk_1.1).cell 0)) ?_
 refine Zb 9 (.bool (x.key.toList == e.it.key.toList)) ?_
 refine Zb 3 (.bool (x.key.toList == e.it.key.toList)) ?_
 refine wpList_nil (hk2 _ _ (wp_ret (W.ret1 (v := .bool (x.key.toList == e.it.key.toList)) rfl (.tmp rfl .nil) ?_)))
 exact ⟨_, rfl, K1.mv⟩

set_option maxRecDepth 100000 in
set_option maxHeartbeats 1000000 in
theorem partedCmp_c (x y : Edit) (b t l : Nat) (w : World) (γ : Tg) (hl : Cl t w γ b 0 (.int .i64 (l : Int))) (hx : x.it.key.size < 9223372036854775807) (hy : y.it.key.size < 9223372036854775807) :
    Calls Try.prog 98 #[.agg x.cells.toArray, .agg y.cells.toArray, .pointer (some ⟨b, 0, none⟩)] w fun ε w' => ∃ γ', ε = .returned (.int .i64 (cmpI ((digitOf x.it.key l : Nat) : Int) ((digitOf y.it.key l : Nat) : Int))) ∧ Mv Nt w γ w' γ' := by
 have K0 := Kn.start Nt w γ
 refine W.enter (ws := [(2, .pointer (some ⟨b, 0, none⟩)), (1, .agg y.cells.toArray), (0, .agg x.cells.toArray)]) 17 Try.func98 rfl (by kernel_rfl) ?_
 refine wp_seq_k fun k1 hk1 => (wp_region_lit ?_)
 refine W.op (O.new 3 55 x.cells rfl rfl (by kernel_rfl) K0 fun b1 w1 g1 K1 M1 => ?_)
 refine W.op (O.new 4 55 y.cells rfl rfl (by kernel_rfl) K1 fun b2 w2 g2 K2 M2 => ?_)
 refine Zb 5 (.int .i64 0) ?_
 refine wpList_nil (hk1 _ _ (wp_seq_k fun k2 hk2 => (wp_region_G (SmL [(2, Nt), (3, Nt), (7, Nt), (8, Nt)] w2 g2) (by kernel_rfl) ?_)))
 have K3 := K2.drew
 have M3 : Mv Nt w2 g2 w2.drew g2 := (Mv.refl _ _ _).drew
 refine Yb 0 6 (.pointer (some ⟨b1, 0, none⟩)) rfl (fun u => by kernel_rfl) ?_
 refine Yb 1 7 (.pointer (some ⟨b1, 0, none⟩)) rfl (fun u => by kernel_rfl) ?_
 refine G.take 2 8 (.string x.it.key) rfl (by kernel_rfl) rfl (fun _ _ _ h => h) ((Mv.refl _ _ _).trans (M3.mono (fun _ h => h))).self (by kernel_rfl) (fun u hm => exec_load rfl rfl Ty9 ((K2.later 1 rfl hm quiet).cell 0)) ?_
 have hl_1 := hl.mv M1 quiet
 have hl_2 := hl_1.mv M2 quiet
 refine G.take 3 9 (.int .i64 (l : Int)) rfl (by kernel_rfl) rfl (fun _ _ _ h => h) ((Mv.refl _ _ _).trans (M3.mono (fun _ h => h))).self (by kernel_rfl) (fun u hm => exec_load rfl rfl Ty3 (hl_2.mv hm quiet).1) ?_
 refine Yb 5 11 (.pointer (some ⟨b2, 0, none⟩)) rfl (fun u => by kernel_rfl) ?_
 refine Yb 6 12 (.pointer (some ⟨b2, 0, none⟩)) rfl (fun u => by kernel_rfl) ?_
 refine G.take 7 13 (.string y.it.key) rfl (by kernel_rfl) rfl (fun _ _ _ h => h) ((Mv.refl _ _ _).trans (M3.mono (fun _ h => h))).self (by kernel_rfl) (fun u hm => exec_load rfl rfl Ty9 ((K2.later 0 rfl hm quiet).cell 0)) ?_
 have hl_3 := hl.mv M1 quiet
 have hl_4 := hl_3.mv M2 quiet
 refine G.take 8 14 (.int .i64 (l : Int)) rfl (by kernel_rfl) rfl (fun _ _ _ h => h) ((Mv.refl _ _ _).trans (M3.mono (fun _ h => h))).self (by kernel_rfl) (fun u hm => exec_load rfl rfl Ty3 (hl_4.mv hm quiet).1) ?_
 refine G.op 4 (by kernel_rfl) rfl (O.call 10 44 #[.string x.it.key, .int .i64 (l : Int)] (by kernel_rfl) rfl (by kernel_rfl) ((digit_c x.it.key l hx w2.drew g2).mono ?_))
 rintro e1 w3 ⟨g3, rfl, M4⟩
 have K4 := K3.step M4 (fun _ h => h) quiet
 refine ⟨_, rfl, ⟨kp_nt ((Mv.refl _ _ _).trans M4) _, ?_⟩⟩
 refine G.op 9 (by kernel_rfl) rfl (O.call 15 44 #[.string y.it.key, .int .i64 (l : Int)] (by kernel_rfl) rfl (by kernel_rfl) ((digit_c y.it.key l hy w3 g3).mono ?_))
 rintro e2 w4 ⟨g4, rfl, M5⟩
 have K5 := K4.step M5 (fun _ h => h) quiet
 refine ⟨_, rfl, ⟨kp_nt ((Mv.refl _ _ _).trans M5) _, ?_⟩⟩
 refine G.op 10 (by kernel_rfl) rfl (O.call 16 70 #[.int .i64 ((digitOf x.it.key l : Nat) : Int), .int .i64 ((digitOf y.it.key l : Nat) : Int)] (by kernel_rfl) rfl (by kernel_rfl) ((cmpInt_c ((digitOf x.it.key l : Nat) : Int) ((digitOf y.it.key l : Nat) : Int) w4 g4).mono ?_))
 rintro e3 w5 ⟨g5, rfl, M6⟩
 have K6 := K5.step M6 (fun _ h => h) quiet
 refine ⟨_, rfl, ⟨kp_nt ((Mv.refl _ _ _).trans M6) _, ?_⟩⟩
 refine Yb 11 5 (.int .i64 (cmpI ((digitOf x.it.key l : Nat) : Int) ((digitOf y.it.key l : Nat) : Int))) rfl (fun u => by kernel_rfl) ?_
 refine G.fin (by kernel_rfl) ?_
 refine hk2 _ _ (wp_ret (W.ret1 (v := .int .i64 (cmpI ((digitOf x.it.key l : Nat) : Int) ((digitOf y.it.key l : Nat) : Int))) rfl (.tmp rfl .nil) ?_))
 exact ⟨_, rfl, K6.mv⟩

set_option maxRecDepth 100000 in
set_option maxHeartbeats 1000000 in
theorem kept_c (r : Ref) (w : World) (γ : Tg) :
    Calls Try.prog 63 #[.agg r.cells.toArray] w fun ε w' => ∃ γ', ε = .returned (.agg #[.bool true, .int .i64 r.num, .int .i64 r.gen, .int .i64 0, .int .i64 0, .bool false, .slice none 0 0, .slice none 0 0]) ∧ Mv Nt w γ w' γ' := by
 have K0 := Kn.start Nt w γ
 refine W.enter (ws := [(0, .agg r.cells.toArray)]) 5 Try.func63 rfl (by kernel_rfl) ?_
 refine wp_seq_k fun k1 hk1 => (wp_region_lit ?_)
 refine W.op (O.new 1 31 r.cells rfl rfl (by kernel_rfl) K0 fun b1 w1 g1 K1 M1 => ?_)
 refine W.op (O.new 2 109 [.bool false, .int .i64 0, .int .i64 0, .int .i64 0, .int .i64 0, .bool false, .slice none 0 0, .slice none 0 0] rfl rfl (by kernel_rfl) K1 fun b2 w2 g2 K2 M2 => ?_)
 refine wpList_nil (hk1 _ _ (wp_seq_k fun k2 hk2 => (wp_region_lit ?_)))
 refine Zc 3 (.agg r.cells.toArray) (exec_loads (cs := r.cells) rfl rfl Ty31 rfl ((K2.nth 1 rfl).all 2)) ?_
 refine Zb 4 (.agg #[.bool true, .int .i64 r.num, .int .i64 r.gen, .int .i64 0, .int .i64 0, .bool false, .slice none 0 0, .slice none 0 0]) ?_
 refine W.op (O.sta 0 [.bool true, .int .i64 r.num, .int .i64 r.gen, .int .i64 0, .int .i64 0, .bool false, .slice none 0 0, .slice none 0 0] rfl rfl rfl rfl rfl Ty109 rfl rfl rfl rfl K2 fun w3 K3 M3 => ?_)
 refine wpList_nil (hk2 _ _ (wp_ret (W.ret1 (v := .agg #[.bool true, .int .i64 r.num, .int .i64 r.gen, .int .i64 0, .int .i64 0, .bool false, .slice none 0 0, .slice none 0 0]) rfl (.agg (cs := [.bool true, .int .i64 r.num, .int .i64 r.gen, .int .i64 0, .int .i64 0, .bool false, .slice none 0 0, .slice none 0 0]) rfl Ty109 rfl ((K3.nth 0 rfl).all 8) .nil) ?_)))
 exact ⟨_, rfl, K3.mv⟩

set_option maxRecDepth 100000 in
set_option maxHeartbeats 1000000 in
theorem num_c (e : Int) (w : World) (γ : Tg) :
    Calls Try.prog 10 #[.int .i64 e] w fun ε w' => ∃ γ', ε = .returned (.int .i64 e) ∧ Mv Nt w γ w' γ' := by
 have K0 := Kn.start Nt w γ
 refine W.enter (ws := [(0, .int .i64 e)]) 4 Try.func10 rfl (by kernel_rfl) ?_
 refine wp_seq_k fun k1 hk1 => (wp_region_lit ?_)
 refine Zb 2 (.int .i64 0) ?_
 refine wpList_nil (hk1 _ _ (wp_seq_k fun k2 hk2 => (wp_region_lit ?_)))
 refine Zb 3 (.int .i64 e) ?_
 refine Zb 2 (.int .i64 e) ?_
 refine wpList_nil (hk2 _ _ (wp_ret (W.ret1 (v := .int .i64 e) rfl (.tmp rfl .nil) ?_)))
 exact ⟨_, rfl, K0.mv⟩

set_option maxRecDepth 100000 in
set_option maxHeartbeats 1000000 in
theorem item_c (k : ByteArray) (n : Int) (w : World) (γ : Tg) :
    Calls Try.prog 29 #[.string k, .int .i64 n] w fun ε w' => ∃ γ', ε = .returned (.agg #[.string k, .int .i64 n, .int .i64 3, .int .i64 n, .string ByteArray.empty, .slice none 0 0, .slice none 0 0]) ∧ Mv Nt w γ w' γ' := by
 have K0 := Kn.start Nt w γ
 refine W.enter (ws := [(1, .int .i64 n), (0, .string k)]) 10 Try.func29 rfl (by kernel_rfl) ?_
 refine wp_seq_k fun k1 hk1 => (wp_region_lit ?_)
 refine W.op (O.new 4 50 [.string ByteArray.empty, .int .i64 0, .int .i64 0, .int .i64 0, .string ByteArray.empty, .slice none 0 0, .slice none 0 0] rfl rfl (by kernel_rfl) K0 fun b1 w1 g1 K1 M1 => ?_)
 refine wpList_nil (hk1 _ _ (wp_seq_k fun k2 hk2 => (wp_region_lit ?_)))
 refine Zb 5 (.string k) ?_
 refine Zb 6 (.int .i64 n) ?_
 refine Zb 7 (.int .i64 n) ?_
 refine Zb 8 (.agg #[.int .i64 3, .int .i64 n, .string ByteArray.empty, .slice none 0 0, .slice none 0 0]) ?_
 refine Zb 9 (.agg #[.string k, .int .i64 n, .int .i64 3, .int .i64 n, .string ByteArray.empty, .slice none 0 0, .slice none 0 0]) ?_
 refine W.op (O.sta 0 [.string k, .int .i64 n, .int .i64 3, .int .i64 n, .string ByteArray.empty, .slice none 0 0, .slice none 0 0] rfl rfl rfl rfl rfl Ty50 rfl rfl rfl rfl K1 fun w2 K2 M2 => ?_)
 refine wpList_nil (hk2 _ _ (wp_ret (W.ret1 (v := .agg #[.string k, .int .i64 n, .int .i64 3, .int .i64 n, .string ByteArray.empty, .slice none 0 0, .slice none 0 0]) rfl (.agg (cs := [.string k, .int .i64 n, .int .i64 3, .int .i64 n, .string ByteArray.empty, .slice none 0 0, .slice none 0 0]) rfl Ty50 rfl ((K2.nth 0 rfl).all 7) .nil) ?_)))
 exact ⟨_, rfl, K2.mv⟩

end Go.Proofs.Ytlfanphdnjoofaa
