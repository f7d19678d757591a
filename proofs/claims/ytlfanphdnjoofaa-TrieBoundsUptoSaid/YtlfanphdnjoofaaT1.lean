/- Walks: small functions. -/
import Derived.Test.YtlfanphdnjoofaaC
namespace Go.Proofs.Ytlfanphdnjoofaa
open Go.RowKit
set_option linter.unusedSimpArgs false
set_option linter.unusedVariables false
attribute [local irreducible] wpList Code.wp Calls OpS wpG

set_option maxRecDepth 100000 in
set_option maxHeartbeats 1000000 in
theorem none_c (n g : Int) (w : World) (γ : Tg) :
    Calls Try.prog 35 #[.agg #[.int .i64 n, .int .i64 g]] w fun ε w' => ∃ γ', ε = .returned (.bool (n == 0 && g == 0)) ∧ Mv Nt w γ w' γ' := by
 have K0 := Kn.start Nt w γ
 refine W.enter (ws := [(0, .agg #[.int .i64 n, .int .i64 g])]) 6 Try.func35 rfl (by kernel_rfl) ?_
 refine wp_seq_k fun k1 hk1 => (wp_region_lit ?_)
 refine W.op (O.new 1 31 [.int .i64 n, .int .i64 g] rfl rfl (by kernel_rfl) K0 fun b1 w1 g1 K1 M1 => ?_)
 refine Zb 2 (.bool false) ?_
 refine wpList_nil (hk1 _ _ (wp_seq_k fun k2 hk2 => (wp_region_lit ?_)))
 refine Zc 3 (.agg #[.int .i64 n, .int .i64 g]) (exec_loads (cs := [.int .i64 n, .int .i64 g]) rfl rfl Ty31 rfl ((K1.nth 0 rfl).all 2)) ?_
 refine Zb 4 (.agg #[.int .i64 0, .int .i64 0]) ?_
 refine Zc 5 (.bool (n == 0 && g == 0)) (exec_eqRef rfl rfl rfl) ?_
 refine Zb 2 (.bool (n == 0 && g == 0)) ?_
 refine wpList_nil (hk2 _ _ (wp_ret (W.ret1 (v := .bool (n == 0 && g == 0)) rfl (.tmp rfl .nil) ?_)))
 exact ⟨_, rfl, K1.mv⟩

set_option maxRecDepth 100000 in
set_option maxHeartbeats 1000000 in
theorem identHashOn_c (h : Nat) (s : ByteArray) (hh : h < 18446744073709551616) (hz : s.size < 9223372036854775807) (w : World) (γ : Tg) :
    Calls Try.prog 80 #[.int .u64 ((h : Nat) : Int), .string s] w fun ε w' => ∃ γ', ε = .returned (.int .u64 ((hashL h s.data.toList : Nat) : Int)) ∧ Mv Nt w γ w' γ' := by
 have K0 := Kn.start Nt w γ
 refine W.enter (ws := [(1, .string s), (0, .int .u64 ↑h)]) 20 Try.func80 rfl (by kernel_rfl) ?_
 refine wp_seq_k fun k1 hk1 => (wp_region_lit ?_)
 refine Zb 4 (.int .u64 0) ?_
 refine wpList_nil (hk1 _ _ (wp_seq_k fun k2 hk2 => (wp_seq_k fun k3 hk3 => (wp_region_lit ?_))))
 refine Zb 6 (.string s) ?_
 refine Zb 7 (.int .i64 ((s).size : Int)) ?_
 refine Zb 8 (.int .i64 0) ?_
 refine wpList_nil (hk3 _ _ (wp_block ?_))
 refine W.loop (fun (μ0 : Nat) (ws : List (Nat × Value)) (w' : World) => ∃ (k : Nat) (γ' : Tg) (ρ0 : List (Nat × Value)), μ0 = s.size - k ∧ ws = ((8, .int .i64 ↑k) :: (7, .int .i64 ((s).size : Int)) :: (1, .string s) :: (0, .int .u64 ((hashL h (s.data.toList.take k) : Nat) : Int)) :: ρ0) ∧ Kn Nt w γ [] w' γ' ∧ Mv Nt w γ w' γ' ∧ (k ≤ s.size)) (s.size - 0) ((((look_eq (t := 0) (v := .int .u64 ((hashL h (s.data.toList.take 0) : Nat) : Int)) (by rw [List.take_zero]; rfl)).trans (look_eq (t := 1) (v := .string s) rfl)).trans (look_eq (t := 7) (v := .int .i64 ((s).size : Int)) rfl)).trans (look_eq (t := 8) (v := .int .i64 ↑0) rfl)) ?_ ?_
 ·exact ⟨0, _, _, rfl, rfl, K0, Mv.refl _ _ _, Nat.zero_le _⟩
 ·rintro _ _ w1 ⟨k, g1, r1, rfl, rfl, K1, M1, p1⟩
  refine wp_seq_k fun k4 hk4 => (wp_region_lit ?_)
  by_cases t1 : ((k : Nat) : Int) < ((s).size : Int)
  ·refine Zc 9 (.bool true) (okv (by kernel_rfl) (congrArg Value.bool (decide_eq_true t1))) ?_
   refine wpList_nil (hk4 _ _ (wp_seq_k fun k5 hk5 => (W.cond true rfl (wp_skip (hk5 _ _ (wp_seq_k fun k6 hk6 => ?_))))))
   refine wp_block (wp_seq_k fun k7 hk7 => (wp_region_lit ?_))
   refine Zb 10 (.int .i64 ↑k) ?_
   refine Zb 5 (.int .i64 ↑k) ?_
   refine wpList_nil (hk7 _ _ (wp_region_lit ?_))
   refine Zb 11 (.int .u64 ((hashL h (s.data.toList.take k) : Nat) : Int)) ?_
   refine Zb 12 (.string s) ?_
   refine Zb 13 (.int .i64 ↑k) ?_
   refine Zc 14 (.int .u8 ((byt s k : Nat) : Int)) (exec_indexStr (k := k) rfl (by kernel_rfl) rfl rfl (by omega)) ?_
   refine Zc 15 (.int .u64 ((byt s k : Nat) : Int)) (okv (by kernel_rfl) (up_v (byt_lt s k))) ?_
   refine Zc 16 (.int .u64 (((hashL h (s.data.toList.take k) ^^^ byt s k) : Nat) : Int)) (okv (by kernel_rfl) (xor_v (hashL_lt _ _ hh) (Nat.lt_trans (byt_lt s k) (by omega)))) ?_
   refine Zc 17 (.int .u64 ((hashL h (s.data.toList.take (k + 1)) : Nat) : Int)) (okv (by kernel_rfl) (mul_v.trans (congrArg (fun x : Nat => Value.int .u64 (x : Int)) (hash_take h s k (by omega)).symm))) ?_
   refine Zb 0 (.int .u64 ((hashL h (s.data.toList.take (k + 1)) : Nat) : Int)) ?_
   refine wpList_nil (block_normal (hk6 _ _ (wp_region_lit ?_)))
   refine Zc 18 (.int .i64 ((k + 1 : Nat) : Int)) (okv (v := .int .i64 (IntKind.i64.wrap (((k : Nat) : Int) + 1))) (by kernel_rfl) (wrapn (by omega) (by omega))) ?_
   refine Zb 8 (.int .i64 ((k + 1 : Nat) : Int)) ?_
   refine wpList_nil ?_
   exact ⟨s.size - (k + 1), _, by omega, ((((look_eq (t := 0) (v := .int .u64 ((hashL h (s.data.toList.take (k + 1)) : Nat) : Int)) rfl).trans (look_eq (t := 1) (v := .string s) rfl)).trans (look_eq (t := 7) (v := .int .i64 ((s).size : Int)) rfl)).trans (look_eq (t := 8) (v := .int .i64 (((k + 1) : Nat) : Int)) rfl)), ⟨(k + 1), _, _, rfl, rfl, K1, M1, by omega⟩⟩
  ·refine Zc 9 (.bool false) (okv (by kernel_rfl) (congrArg Value.bool (decide_eq_false t1))) ?_
   refine wpList_nil (hk4 _ _ (wp_seq_k fun k8 hk8 => (W.cond false rfl (wp_exit (then_exit (then_exit ?_))))))
   refine block_exit (hk2 _ _ (wp_seq_k fun k9 hk9 => (wp_region_lit ?_)))
   refine Zb 19 (.int .u64 ((hashL h (s.data.toList.take k) : Nat) : Int)) ?_
   refine Zb 4 (.int .u64 ((hashL h (s.data.toList.take k) : Nat) : Int)) ?_
   refine wpList_nil (hk9 _ _ (wp_ret (W.ret1 (v := .int .u64 ((hashL h (s.data.toList.take k) : Nat) : Int)) rfl (.tmp rfl .nil) ?_)))
   exact ⟨_, by rw [show k = s.size by omega, List.take_of_length_le (by simp)], K1.mv⟩

set_option maxRecDepth 100000 in
set_option maxHeartbeats 1000000 in
theorem refHashOn_c (h : Nat) (s : ByteArray) (hh : h < 18446744073709551616) (hz : s.size < 9223372036854775807) (w : World) (γ : Tg) :
    Calls Try.prog 79 #[.int .u64 ((h : Nat) : Int), .string s] w fun ε w' => ∃ γ', ε = .returned (.int .u64 ((hashL h s.data.toList : Nat) : Int)) ∧ Mv Nt w γ w' γ' := by
 have K0 := Kn.start Nt w γ
 refine W.enter (ws := [(1, .string s), (0, .int .u64 ↑h)]) 20 Try.func79 rfl (by kernel_rfl) ?_
 refine wp_seq_k fun k1 hk1 => (wp_region_lit ?_)
 refine Zb 4 (.int .u64 0) ?_
 refine wpList_nil (hk1 _ _ (wp_seq_k fun k2 hk2 => (wp_seq_k fun k3 hk3 => (wp_region_lit ?_))))
 refine Zb 5 (.int .i64 0) ?_
 refine wpList_nil (hk3 _ _ (wp_block ?_))
 refine W.loop (fun (μ0 : Nat) (ws : List (Nat × Value)) (w' : World) => ∃ (k : Nat) (γ' : Tg) (ρ0 : List (Nat × Value)), μ0 = s.size - k ∧ ws = ((5, .int .i64 ↑k) :: (1, .string s) :: (0, .int .u64 ((hashL h (s.data.toList.take k) : Nat) : Int)) :: ρ0) ∧ Kn Nt w γ [] w' γ' ∧ Mv Nt w γ w' γ' ∧ (k ≤ s.size)) (s.size - 0) (((look_eq (t := 0) (v := .int .u64 ((hashL h (s.data.toList.take 0) : Nat) : Int)) (by rw [List.take_zero]; rfl)).trans (look_eq (t := 1) (v := .string s) rfl)).trans (look_eq (t := 5) (v := .int .i64 ↑0) rfl)) ?_ ?_
 ·exact ⟨0, _, _, rfl, rfl, K0, Mv.refl _ _ _, Nat.zero_le _⟩
 ·rintro _ _ w1 ⟨k, g1, r1, rfl, rfl, K1, M1, p1⟩
  refine wp_seq_k fun k4 hk4 => (wp_seq_k fun k5 hk5 => (wp_region_lit ?_))
  refine Zb 6 (.int .i64 ↑k) ?_
  refine Zb 7 (.string s) ?_
  refine Zb 8 (.int .i64 ((s).size : Int)) ?_
  by_cases t1 : ((k : Nat) : Int) < ((s).size : Int)
  ·refine Zc 9 (.bool true) (okv (by kernel_rfl) (congrArg Value.bool (decide_eq_true t1))) ?_
   refine wpList_nil (hk5 _ _ (W.cond true rfl (wp_skip (hk4 _ _ (wp_seq_k fun k6 hk6 => (wp_block ?_))))))
   refine wp_region_lit ?_
   refine Zb 12 (.int .u64 ((hashL h (s.data.toList.take k) : Nat) : Int)) ?_
   refine Zb 13 (.string s) ?_
   refine Zb 14 (.int .i64 ↑k) ?_
   refine Zc 15 (.int .u8 ((byt s k : Nat) : Int)) (exec_indexStr (k := k) rfl (by kernel_rfl) rfl rfl (by omega)) ?_
   refine Zc 16 (.int .u64 ((byt s k : Nat) : Int)) (okv (by kernel_rfl) (up_v (byt_lt s k))) ?_
   refine Zc 17 (.int .u64 (((hashL h (s.data.toList.take k) ^^^ byt s k) : Nat) : Int)) (okv (by kernel_rfl) (xor_v (hashL_lt _ _ hh) (Nat.lt_trans (byt_lt s k) (by omega)))) ?_
   refine Zc 18 (.int .u64 ((hashL h (s.data.toList.take (k + 1)) : Nat) : Int)) (okv (by kernel_rfl) (mul_v.trans (congrArg (fun x : Nat => Value.int .u64 (x : Int)) (hash_take h s k (by omega)).symm))) ?_
   refine Zb 0 (.int .u64 ((hashL h (s.data.toList.take (k + 1)) : Nat) : Int)) ?_
   refine wpList_nil (block_normal (hk6 _ _ (wp_region_lit ?_)))
   refine Zb 10 (.int .i64 ↑k) ?_
   refine Zc 11 (.int .i64 ((k + 1 : Nat) : Int)) (okv (v := .int .i64 (IntKind.i64.wrap (((k : Nat) : Int) + 1))) (by kernel_rfl) (wrapn (by omega) (by omega))) ?_
   refine Zb 5 (.int .i64 ((k + 1 : Nat) : Int)) ?_
   refine wpList_nil ?_
   exact ⟨s.size - (k + 1), _, by omega, (((look_eq (t := 0) (v := .int .u64 ((hashL h (s.data.toList.take (k + 1)) : Nat) : Int)) rfl).trans (look_eq (t := 1) (v := .string s) rfl)).trans (look_eq (t := 5) (v := .int .i64 (((k + 1) : Nat) : Int)) rfl)), ⟨(k + 1), _, _, rfl, rfl, K1, M1, by omega⟩⟩
  ·refine Zc 9 (.bool false) (okv (by kernel_rfl) (congrArg Value.bool (decide_eq_false t1))) ?_
   refine wpList_nil (hk5 _ _ (W.cond false rfl (wp_exit (then_exit (then_exit (block_exit ?_))))))
   refine hk2 _ _ (wp_seq_k fun k7 hk7 => (wp_region_lit ?_))
   refine Zb 19 (.int .u64 ((hashL h (s.data.toList.take k) : Nat) : Int)) ?_
   refine Zb 4 (.int .u64 ((hashL h (s.data.toList.take k) : Nat) : Int)) ?_
   refine wpList_nil (hk7 _ _ (wp_ret (W.ret1 (v := .int .u64 ((hashL h (s.data.toList.take k) : Nat) : Int)) rfl (.tmp rfl .nil) ?_)))
   exact ⟨_, by rw [show k = s.size by omega, List.take_of_length_le (by simp)], K1.mv⟩

set_option maxRecDepth 100000 in
set_option maxHeartbeats 1000000 in
theorem identHash_c (s : ByteArray) (hz : s.size < 9223372036854775807) (w : World) (γ : Tg) :
    Calls Try.prog 62 #[.string s] w fun ε w' => ∃ γ', ε = .returned (.int .u64 ((hashOf s : Nat) : Int)) ∧ Mv Nt w γ w' γ' := by
 have K0 := Kn.start Nt w γ
 refine W.enter (ws := [(0, .string s)]) 5 Try.func62 rfl (by kernel_rfl) ?_
 refine wp_seq_k fun k1 hk1 => (wp_region_lit ?_)
 refine Zb 2 (.int .u64 0) ?_
 refine wpList_nil (hk1 _ _ (wp_seq_k fun k2 hk2 => (wp_region_lit ?_)))
 refine Zb 3 (.string s) ?_
 refine W.op (O.call 4 80 #[.int .u64 14695981039346656037, .string s] (by kernel_rfl) rfl (by kernel_rfl) ((identHashOn_c 14695981039346656037 s (by omega) hz w γ).mono ?_))
 rintro e1 w1 ⟨g1, rfl, M1⟩
 have K1 := K0.step M1 (fun _ h => h) quiet
 refine ⟨_, rfl, ?_⟩
 refine Zb 2 (.int .u64 ((hashOf s : Nat) : Int)) ?_
 refine wpList_nil (hk2 _ _ (wp_ret (W.ret1 (v := .int .u64 ((hashOf s : Nat) : Int)) rfl (.tmp rfl .nil) ?_)))
 exact ⟨_, rfl, K1.mv⟩

set_option maxRecDepth 100000 in
set_option maxHeartbeats 1000000 in
theorem refHash_c (s : ByteArray) (hz : s.size < 9223372036854775807) (w : World) (γ : Tg) :
    Calls Try.prog 60 #[.string s] w fun ε w' => ∃ γ', ε = .returned (.int .u64 ((hashOf s : Nat) : Int)) ∧ Mv Nt w γ w' γ' := by
 have K0 := Kn.start Nt w γ
 refine W.enter (ws := [(0, .string s)]) 5 Try.func60 rfl (by kernel_rfl) ?_
 refine wp_seq_k fun k1 hk1 => (wp_region_lit ?_)
 refine Zb 2 (.int .u64 0) ?_
 refine wpList_nil (hk1 _ _ (wp_seq_k fun k2 hk2 => (wp_region_lit ?_)))
 refine Zb 3 (.string s) ?_
 refine W.op (O.call 4 79 #[.int .u64 14695981039346656037, .string s] (by kernel_rfl) rfl (by kernel_rfl) ((refHashOn_c 14695981039346656037 s (by omega) hz w γ).mono ?_))
 rintro e1 w1 ⟨g1, rfl, M1⟩
 have K1 := K0.step M1 (fun _ h => h) quiet
 refine ⟨_, rfl, ?_⟩
 refine Zb 2 (.int .u64 ((hashOf s : Nat) : Int)) ?_
 refine wpList_nil (hk2 _ _ (wp_ret (W.ret1 (v := .int .u64 ((hashOf s : Nat) : Int)) rfl (.tmp rfl .nil) ?_)))
 exact ⟨_, rfl, K1.mv⟩

set_option maxRecDepth 100000 in
set_option maxHeartbeats 1000000 in
theorem identDigit_c (h l : Nat) (hh : h < 18446744073709551616) (w : World) (γ : Tg) :
    Calls Try.prog 61 #[.int .u64 ((h : Nat) : Int), .int .i64 ((l : Nat) : Int)] w fun ε w' => ∃ γ', ε = .returned (.int .i64 (((if l < 16 then digN h l else 0) : Nat) : Int)) ∧ Mv Nt w γ w' γ' := by
 have K0 := Kn.start Nt w γ
 refine W.enter (ws := [(1, .int .i64 ↑l), (0, .int .u64 ↑h)]) 17 Try.func61 rfl (by kernel_rfl) ?_
 refine wp_seq_k fun k1 hk1 => (wp_region_lit ?_)
 refine Zb 4 (.int .i64 0) ?_
 refine wpList_nil (hk1 _ _ (wp_seq_k fun k2 hk2 => (wp_seq_k fun k3 hk3 => (wp_region_lit ?_))))
 refine Zb 5 (.int .i64 ↑l) ?_
 by_cases t1 : ((l : Nat) : Int) < 0
 ·refine Zc 6 (.bool true) (okv (by kernel_rfl) (congrArg Value.bool (decide_eq_true t1))) ?_
  refine Zb 7 (.bool true) ?_
  refine Za 8 ?_
  refine Za 9 ?_
  refine Zb 10 (.bool true) ?_
  refine wpList_nil (hk3 _ _ (W.cond true rfl (wp_seq_k fun k4 hk4 => (wp_region_lit ?_))))
  refine Zb 4 (.int .i64 0) ?_
  refine wpList_nil (hk4 _ _ (wp_ret (then_ret (W.ret1 (v := .int .i64 0) rfl (.tmp rfl .nil) ?_))))
  exact ⟨_, by first | (exfalso; omega) | (rw [if_pos (show l < 16 by omega)]; done) | (rw [if_neg (show ¬ l < 16 by omega)]; rfl), K0.mv⟩
 ·refine Zc 6 (.bool false) (okv (by kernel_rfl) (congrArg Value.bool (decide_eq_false t1))) ?_
  refine Zb 7 (.bool false) ?_
  refine Zd 8 (.int .i64 ↑l) ?_
  by_cases t2 : ((l : Nat) : Int) ≥ 16
  ·refine W.op (O.gv 9 (.bool true) (by kernel_rfl) rfl (okv (by kernel_rfl) (congrArg Value.bool (decide_eq_true t2))) ?_)
   refine Zb 10 (.bool true) ?_
   refine wpList_nil (hk3 _ _ (W.cond true rfl (wp_seq_k fun k5 hk5 => (wp_region_lit ?_))))
   refine Zb 4 (.int .i64 0) ?_
   refine wpList_nil (hk5 _ _ (wp_ret (then_ret (W.ret1 (v := .int .i64 0) rfl (.tmp rfl .nil) ?_))))
   exact ⟨_, by first | (exfalso; omega) | (rw [if_pos (show l < 16 by omega)]; done) | (rw [if_neg (show ¬ l < 16 by omega)]; rfl), K0.mv⟩
  ·refine W.op (O.gv 9 (.bool false) (by kernel_rfl) rfl (okv (by kernel_rfl) (congrArg Value.bool (decide_eq_false t2))) ?_)
   refine Zb 10 (.bool false) ?_
   refine wpList_nil (hk3 _ _ (W.cond false rfl (wp_skip (hk2 _ _ (wp_seq_k fun k6 hk6 => (wp_region_lit ?_))))))
   refine Zb 11 (.int .u64 ↑h) ?_
   refine Zb 12 (.int .i64 ↑l) ?_
   refine Zc 13 (.int .i64 ((4 * l : Nat) : Int)) (okv (v := .int .i64 (IntKind.i64.wrap (4 * (l : Int)))) (by kernel_rfl) (wrapn (by omega) (by omega))) ?_
   refine Zc 14 (.int .u64 ((h / 16 ^ l : Nat) : Int)) (okv (by kernel_rfl) ((shr_v (h := h) (l := l)).trans (congrArg (fun x : Nat => Value.int .u64 (x : Int)) (shr_16 (by omega))))) ?_
   refine Zc 15 (.int .u64 ((digN h l : Nat) : Int)) (okv (by kernel_rfl) (shr_and hh)) ?_
   refine Zc 16 (.int .i64 ((digN h l : Nat) : Int)) (okv (by kernel_rfl) (to_i64 (Nat.lt_trans (digN_lt h l) (by omega)))) ?_
   refine Zb 4 (.int .i64 ((digN h l : Nat) : Int)) ?_
   refine wpList_nil (hk6 _ _ (wp_ret (W.ret1 (v := .int .i64 ((digN h l : Nat) : Int)) rfl (.tmp rfl .nil) ?_)))
   exact ⟨_, by first | (exfalso; omega) | (rw [if_pos (show l < 16 by omega)]; done) | (rw [if_neg (show ¬ l < 16 by omega)]; rfl), K0.mv⟩

set_option maxRecDepth 100000 in
set_option maxHeartbeats 1000000 in
theorem refDigit_c (h l : Nat) (hh : h < 18446744073709551616) (w : World) (γ : Tg) :
    Calls Try.prog 59 #[.int .u64 ((h : Nat) : Int), .int .i64 ((l : Nat) : Int)] w fun ε w' => ∃ γ', ε = .returned (.int .i64 (((if l < 16 then digN h l else 0) : Nat) : Int)) ∧ Mv Nt w γ w' γ' := by
 have K0 := Kn.start Nt w γ
 refine W.enter (ws := [(1, .int .i64 ↑l), (0, .int .u64 ↑h)]) 22 Try.func59 rfl (by kernel_rfl) ?_
 refine wp_seq_k fun k1 hk1 => (wp_region_lit ?_)
 refine Zb 4 (.int .i64 0) ?_
 refine wpList_nil (hk1 _ _ (wp_seq_k fun k2 hk2 => (wp_seq_k fun k3 hk3 => (wp_region_lit ?_))))
 refine Zb 6 (.int .i64 ↑l) ?_
 by_cases t1 : ((l : Nat) : Int) < 0
 ·refine Zc 7 (.bool true) (okv (by kernel_rfl) (congrArg Value.bool (decide_eq_true t1))) ?_
  refine Zb 8 (.bool true) ?_
  refine Za 9 ?_
  refine Za 10 ?_
  refine Zb 11 (.bool true) ?_
  refine wpList_nil (hk3 _ _ (W.cond true rfl (wp_seq_k fun k4 hk4 => (wp_region_lit ?_))))
  refine Zb 4 (.int .i64 0) ?_
  refine wpList_nil (hk4 _ _ (wp_ret (then_ret (W.ret1 (v := .int .i64 0) rfl (.tmp rfl .nil) ?_))))
  exact ⟨_, by first | (exfalso; omega) | (rw [if_pos (show l < 16 by omega)]; done) | (rw [if_neg (show ¬ l < 16 by omega)]; rfl), K0.mv⟩
 ·refine Zc 7 (.bool false) (okv (by kernel_rfl) (congrArg Value.bool (decide_eq_false t1))) ?_
  refine Zb 8 (.bool false) ?_
  refine Zd 9 (.int .i64 ↑l) ?_
  by_cases t2 : ((l : Nat) : Int) ≥ 16
  ·refine W.op (O.gv 10 (.bool true) (by kernel_rfl) rfl (okv (by kernel_rfl) (congrArg Value.bool (decide_eq_true t2))) ?_)
   refine Zb 11 (.bool true) ?_
   refine wpList_nil (hk3 _ _ (W.cond true rfl (wp_seq_k fun k5 hk5 => (wp_region_lit ?_))))
   refine Zb 4 (.int .i64 0) ?_
   refine wpList_nil (hk5 _ _ (wp_ret (then_ret (W.ret1 (v := .int .i64 0) rfl (.tmp rfl .nil) ?_))))
   exact ⟨_, by first | (exfalso; omega) | (rw [if_pos (show l < 16 by omega)]; done) | (rw [if_neg (show ¬ l < 16 by omega)]; rfl), K0.mv⟩
  ·refine W.op (O.gv 10 (.bool false) (by kernel_rfl) rfl (okv (by kernel_rfl) (congrArg Value.bool (decide_eq_false t2))) ?_)
   refine Zb 11 (.bool false) ?_
   refine wpList_nil (hk3 _ _ (W.cond false rfl (wp_skip (hk2 _ _ (wp_seq_k fun k6 hk6 => (wp_seq_k fun k7 hk7 => ?_))))))
   refine wp_region_lit ?_
   refine Zb 5 (.int .i64 0) ?_
   refine wpList_nil (hk7 _ _ (wp_block ?_))
   refine W.loop (fun (μ0 : Nat) (ws : List (Nat × Value)) (w' : World) => ∃ (k : Nat) (γ' : Tg) (ρ0 : List (Nat × Value)), μ0 = l - k ∧ ws = ((5, .int .i64 ↑k) :: (1, .int .i64 ↑l) :: (0, .int .u64 ((h / 16 ^ k : Nat) : Int)) :: ρ0) ∧ Kn Nt w γ [] w' γ' ∧ Mv Nt w γ w' γ' ∧ (k ≤ l)) (l - 0) (((look_eq (t := 0) (v := .int .u64 ((h / 16 ^ 0 : Nat) : Int)) (by rw [Nat.pow_zero, Nat.div_one]; rfl)).trans (look_eq (t := 1) (v := .int .i64 ↑l) rfl)).trans (look_eq (t := 5) (v := .int .i64 ↑0) rfl)) ?_ ?_
   ·exact ⟨0, _, _, rfl, rfl, K0, Mv.refl _ _ _, Nat.zero_le _⟩
   ·rintro _ _ w1 ⟨k, g1, r1, rfl, rfl, K1, M1, p1⟩
    refine wp_seq_k fun k8 hk8 => (wp_seq_k fun k9 hk9 => (wp_region_lit ?_))
    refine Zb 12 (.int .i64 ↑k) ?_
    refine Zb 13 (.int .i64 ↑l) ?_
    by_cases t3 : ((k : Nat) : Int) < ((l : Nat) : Int)
    ·refine Zc 14 (.bool true) (okv (by kernel_rfl) (congrArg Value.bool (decide_eq_true t3))) ?_
     refine wpList_nil (hk9 _ _ (W.cond true rfl (wp_skip (hk8 _ _ (wp_seq_k fun k10 hk10 => (wp_block ?_))))))
     refine wp_region_lit ?_
     refine Zb 17 (.int .u64 ((h / 16 ^ k : Nat) : Int)) ?_
     refine Zc 18 (.int .u64 ((h / 16 ^ (k + 1) : Nat) : Int)) (okv (by kernel_rfl) (div_v (Nat.lt_of_le_of_lt (Nat.div_le_self _ _) hh))) ?_
     refine Zb 0 (.int .u64 ((h / 16 ^ (k + 1) : Nat) : Int)) ?_
     refine wpList_nil (block_normal (hk10 _ _ (wp_region_lit ?_)))
     refine Zb 15 (.int .i64 ↑k) ?_
     refine Zc 16 (.int .i64 ((k + 1 : Nat) : Int)) (okv (v := .int .i64 (IntKind.i64.wrap (((k : Nat) : Int) + 1))) (by kernel_rfl) (wrapn (by omega) (by omega))) ?_
     refine Zb 5 (.int .i64 ((k + 1 : Nat) : Int)) ?_
     refine wpList_nil ?_
     exact ⟨l - (k + 1), _, by omega, (((look_eq (t := 0) (v := .int .u64 ((h / 16 ^ (k + 1) : Nat) : Int)) rfl).trans (look_eq (t := 1) (v := .int .i64 ↑l) rfl)).trans (look_eq (t := 5) (v := .int .i64 (((k + 1) : Nat) : Int)) rfl)), ⟨(k + 1), _, _, rfl, rfl, K1, M1, by omega⟩⟩
    ·refine Zc 14 (.bool false) (okv (by kernel_rfl) (congrArg Value.bool (decide_eq_false t3))) ?_
     refine wpList_nil (hk9 _ _ (W.cond false rfl (wp_exit (then_exit (then_exit (block_exit ?_))))))
     refine hk6 _ _ (wp_seq_k fun k11 hk11 => (wp_region_lit ?_))
     refine Zb 19 (.int .u64 ((h / 16 ^ k : Nat) : Int)) ?_
     refine Zc 20 (.int .u64 ((digN h l : Nat) : Int)) (okv (by kernel_rfl) ((congrArg (fun z : Nat => Value.int .u64 (((h / 16 ^ z : Nat) : Int).tmod 16)) (show k = l by omega)).trans rem_v)) ?_
     refine Zc 21 (.int .i64 ((digN h l : Nat) : Int)) (okv (by kernel_rfl) (to_i64 (Nat.lt_trans (digN_lt h l) (by omega)))) ?_
     refine Zb 4 (.int .i64 ((digN h l : Nat) : Int)) ?_
     refine wpList_nil (hk11 _ _ (wp_ret (W.ret1 (v := .int .i64 ((digN h l : Nat) : Int)) rfl (.tmp rfl .nil) ?_)))
     exact ⟨_, by first | (exfalso; omega) | (rw [if_pos (show l < 16 by omega)]; done) | (rw [if_neg (show ¬ l < 16 by omega)]; rfl), K1.mv⟩

set_option maxRecDepth 100000 in
set_option maxHeartbeats 1000000 in
theorem digit_c (s : ByteArray) (l : Nat) (hz : s.size < 9223372036854775807) (w : World) (γ : Tg) :
    Calls Try.prog 44 #[.string s, .int .i64 ((l : Nat) : Int)] w fun ε w' => ∃ γ', ε = .returned (.int .i64 ((digitOf s l : Nat) : Int)) ∧ Mv Nt w γ w' γ' := by
 have K0 := Kn.start Nt w γ
 refine W.enter (ws := [(1, .int .i64 ↑l), (0, .string s)]) 9 Try.func44 rfl (by kernel_rfl) ?_
 refine wp_seq_k fun k1 hk1 => (wp_region_lit ?_)
 refine Zb 4 (.int .i64 0) ?_
 refine wpList_nil (hk1 _ _ (wp_seq_k fun k2 hk2 => (wp_region_lit ?_)))
 refine Zb 5 (.string s) ?_
 refine W.op (O.call 6 62 #[.string s] (by kernel_rfl) rfl (by kernel_rfl) ((identHash_c s hz w γ).mono ?_))
 rintro e1 w1 ⟨g1, rfl, M1⟩
 have K1 := K0.step M1 (fun _ h => h) quiet
 refine ⟨_, rfl, ?_⟩
 refine Zb 7 (.int .i64 ↑l) ?_
 refine W.op (O.call 8 61 #[.int .u64 ((hashOf s : Nat) : Int), .int .i64 ↑l] (by kernel_rfl) rfl (by kernel_rfl) ((identDigit_c (hashOf s) l (hashOf_lt s) w1 g1).mono ?_))
 rintro e2 w2 ⟨g2, rfl, M2⟩
 have K2 := K1.step M2 (fun _ h => h) quiet
 refine ⟨_, rfl, ?_⟩
 refine Zb 4 (.int .i64 (((if l < 16 then digN (hashOf s) l else 0) : Nat) : Int)) ?_
 refine wpList_nil (hk2 _ _ (wp_ret (W.ret1 (v := .int .i64 (((if l < 16 then digN (hashOf s) l else 0) : Nat) : Int)) rfl (.tmp rfl .nil) ?_)))
 exact ⟨_, rfl, K2.mv⟩

set_option maxRecDepth 100000 in
set_option maxHeartbeats 1000000 in
theorem refdigit_c (s : ByteArray) (l : Nat) (hz : s.size < 9223372036854775807) (w : World) (γ : Tg) :
    Calls Try.prog 41 #[.string s, .int .i64 ((l : Nat) : Int)] w fun ε w' => ∃ γ', ε = .returned (.int .i64 ((digitOf s l : Nat) : Int)) ∧ Mv Nt w γ w' γ' := by
 have K0 := Kn.start Nt w γ
 refine W.enter (ws := [(1, .int .i64 ↑l), (0, .string s)]) 9 Try.func41 rfl (by kernel_rfl) ?_
 refine wp_seq_k fun k1 hk1 => (wp_region_lit ?_)
 refine Zb 4 (.int .i64 0) ?_
 refine wpList_nil (hk1 _ _ (wp_seq_k fun k2 hk2 => (wp_region_lit ?_)))
 refine Zb 5 (.string s) ?_
 refine W.op (O.call 6 60 #[.string s] (by kernel_rfl) rfl (by kernel_rfl) ((refHash_c s hz w γ).mono ?_))
 rintro e1 w1 ⟨g1, rfl, M1⟩
 have K1 := K0.step M1 (fun _ h => h) quiet
 refine ⟨_, rfl, ?_⟩
 refine Zb 7 (.int .i64 ↑l) ?_
 refine W.op (O.call 8 59 #[.int .u64 ((hashOf s : Nat) : Int), .int .i64 ↑l] (by kernel_rfl) rfl (by kernel_rfl) ((refDigit_c (hashOf s) l (hashOf_lt s) w1 g1).mono ?_))
 rintro e2 w2 ⟨g2, rfl, M2⟩
 have K2 := K1.step M2 (fun _ h => h) quiet
 refine ⟨_, rfl, ?_⟩
 refine Zb 4 (.int .i64 (((if l < 16 then digN (hashOf s) l else 0) : Nat) : Int)) ?_
 refine wpList_nil (hk2 _ _ (wp_ret (W.ret1 (v := .int .i64 (((if l < 16 then digN (hashOf s) l else 0) : Nat) : Int)) rfl (.tmp rfl .nil) ?_)))
 exact ⟨_, rfl, K2.mv⟩

end Go.Proofs.Ytlfanphdnjoofaa
