/- Walks: small functions. -/
import Derived.Test.YtlfanphdnjoofaaC
namespace Go.Proofs.Ytlfanphdnjoofaa
open Go.RowKit
set_option linter.unusedSimpArgs false
set_option linter.unusedVariables false
attribute [local irreducible] wpList Code.wp Calls OpS wpG

set_option maxRecDepth 100000 in
set_option maxHeartbeats 1000000 in
theorem none_c (n g : Int) (w : World) (γ : Tg) :
    Calls Try.prog 35 #[.agg #[.int .i64 n, .int .i64 g]] w fun ε w' => ∃ γ', ε = .returned (.bool (n == 0 && g == 0)) ∧ Mv Nt w γ w' γ' := by
  have K0 := Kn.start Nt w γ
  refine W.enter (ws := [(0, .agg #[.int .i64 n, .int .i64 g])]) 6 Try.func35 rfl (by kernel_rfl) ?_
  refine wp_seq_k fun k1 hk1 => ?_
  refine wp_region_lit ?_
  refine W.op (O.new 1 31 [.int .i64 n, .int .i64 g] rfl rfl (by kernel_rfl) K0 fun b1 w1 g1 K1 M1 => ?_)
  refine W.op (O.v 2 (.bool false) rfl rfl (by kernel_rfl) ?_)
  refine wpList_nil ?_
  refine hk1 _ _ ?_
  refine wp_seq_k fun k2 hk2 => ?_
  refine wp_region_lit ?_
  refine W.op (O.v 3 (.agg #[.int .i64 n, .int .i64 g]) rfl rfl (exec_loads (cs := [.int .i64 n, .int .i64 g]) rfl rfl Ty31 rfl ((K1.nth 0 rfl).all 2)) ?_)
  refine W.op (O.v 4 (.agg #[.int .i64 0, .int .i64 0]) rfl rfl (by kernel_rfl) ?_)
  refine W.op (O.v 5 (.bool (n == 0 && g == 0)) rfl rfl (exec_eqRef rfl rfl rfl) ?_)
  refine W.op (O.v 2 (.bool (n == 0 && g == 0)) rfl rfl (by kernel_rfl) ?_)
  refine wpList_nil ?_
  refine hk2 _ _ ?_
  refine wp_ret ?_
  refine W.ret1 (v := .bool (n == 0 && g == 0)) rfl (.tmp rfl .nil) ?_
  exact ⟨_, rfl, K1.mv⟩

set_option maxRecDepth 100000 in
set_option maxHeartbeats 1000000 in
theorem identHashOn_c (h : Nat) (s : ByteArray) (hh : h < 18446744073709551616) (hz : s.size < 9223372036854775807) (w : World) (γ : Tg) :
    Calls Try.prog 80 #[.int .u64 ((h : Nat) : Int), .string s] w fun ε w' => ∃ γ', ε = .returned (.int .u64 ((hashL h s.data.toList : Nat) : Int)) ∧ Mv Nt w γ w' γ' := by
  have K0 := Kn.start Nt w γ
  refine W.enter (ws := [(1, .string s), (0, .int .u64 ((h : Nat) : Int))]) 20 Try.func80 rfl (by kernel_rfl) ?_
  refine wp_seq_k fun k1 hk1 => ?_
  refine wp_region_lit ?_
  refine W.op (O.v 4 (.int .u64 0) rfl rfl (by kernel_rfl) ?_)
  refine wpList_nil ?_
  refine hk1 _ _ ?_
  refine wp_seq_k fun k2 hk2 => ?_
  refine wp_seq_k fun k3 hk3 => ?_
  refine wp_region_lit ?_
  refine W.op (O.v 6 (.string s) rfl rfl (by kernel_rfl) ?_)
  refine W.op (O.v 7 (.int .i64 ((s).size : Int)) rfl rfl (by kernel_rfl) ?_)
  refine W.op (O.v 8 (.int .i64 0) rfl rfl (by kernel_rfl) ?_)
  refine wpList_nil ?_
  refine hk3 _ _ ?_
  refine wp_block ?_
  refine W.loop (fun (m : Nat) (ws : List (Nat × Value)) (w' : World) => ∃ (k : Nat) (γ' : Tg) (r : List (Nat × Value)), m = s.size - k ∧ ws = ((8, .int .i64 ((k : Nat) : Int)) :: (7, .int .i64 ((s).size : Int)) :: (1, .string s) :: (0, .int .u64 ((hashL h (s.data.toList.take k) : Nat) : Int)) :: r) ∧ Kn Nt w γ [] w' γ' ∧ Mv Nt w γ w' γ' ∧ (k ≤ s.size)) (s.size - 0) ((((look_eq (t := 0) (v := .int .u64 ((hashL h (s.data.toList.take 0) : Nat) : Int)) (by rw [List.take_zero]; rfl)).trans (look_eq (t := 1) (v := .string s) rfl)).trans (look_eq (t := 7) (v := .int .i64 ((s).size : Int)) rfl)).trans (look_eq (t := 8) (v := .int .i64 ((0 : Nat) : Int)) rfl)) ?_ ?_
  · exact ⟨0, _, _, rfl, rfl, K0, Mv.refl _ _ _, Nat.zero_le _⟩
  · rintro _ _ w1 ⟨k, g1, r1, rfl, rfl, K1, M1, p1⟩
    refine wp_seq_k fun k4 hk4 => ?_
    refine wp_region_lit ?_
    by_cases t1 : ((k : Nat) : Int) < ((s).size : Int)
    · refine W.op (O.v 9 (.bool true) rfl rfl (okv (by kernel_rfl) (congrArg Value.bool (decide_eq_true t1))) ?_)
      refine wpList_nil ?_
      refine hk4 _ _ ?_
      refine wp_seq_k fun k5 hk5 => ?_
      refine W.cond true rfl ?_
      refine wp_skip ?_
      refine hk5 _ _ ?_
      refine wp_seq_k fun k6 hk6 => ?_
      refine wp_block ?_
      refine wp_seq_k fun k7 hk7 => ?_
      refine wp_region_lit ?_
      refine W.op (O.v 10 (.int .i64 ((k : Nat) : Int)) rfl rfl (by kernel_rfl) ?_)
      refine W.op (O.v 5 (.int .i64 ((k : Nat) : Int)) rfl rfl (by kernel_rfl) ?_)
      refine wpList_nil ?_
      refine hk7 _ _ ?_
      refine wp_region_lit ?_
      refine W.op (O.v 11 (.int .u64 ((hashL h (s.data.toList.take k) : Nat) : Int)) rfl rfl (by kernel_rfl) ?_)
      refine W.op (O.v 12 (.string s) rfl rfl (by kernel_rfl) ?_)
      refine W.op (O.v 13 (.int .i64 ((k : Nat) : Int)) rfl rfl (by kernel_rfl) ?_)
      refine W.op (O.v 14 (.int .u8 ((byt s k : Nat) : Int)) rfl rfl (exec_indexStr (k := k) rfl (by kernel_rfl) rfl rfl (by omega)) ?_)
      refine W.op (O.v 15 (.int .u64 ((byt s k : Nat) : Int)) rfl rfl (okv (by kernel_rfl) (up_v (byt_lt s k))) ?_)
      refine W.op (O.v 16 (.int .u64 (((hashL h (s.data.toList.take k) ^^^ byt s k) : Nat) : Int)) rfl rfl (okv (by kernel_rfl) (xor_v (hashL_lt _ _ hh) (Nat.lt_trans (byt_lt s k) (by omega)))) ?_)
      refine W.op (O.v 17 (.int .u64 ((hashL h (s.data.toList.take (k + 1)) : Nat) : Int)) rfl rfl (okv (by kernel_rfl) (mul_v.trans (congrArg (fun x : Nat => Value.int .u64 (x : Int)) (hash_take h s k (by omega)).symm))) ?_)
      refine W.op (O.v 0 (.int .u64 ((hashL h (s.data.toList.take (k + 1)) : Nat) : Int)) rfl rfl (by kernel_rfl) ?_)
      refine wpList_nil ?_
      refine block_normal ?_
      refine hk6 _ _ ?_
      refine wp_region_lit ?_
      refine W.op (O.v 18 (.int .i64 ((k + 1 : Nat) : Int)) rfl rfl (okv (v := .int .i64 (IntKind.i64.wrap (((k : Nat) : Int) + 1))) (by kernel_rfl) (wrapn (by omega) (by omega))) ?_)
      refine W.op (O.v 8 (.int .i64 ((k + 1 : Nat) : Int)) rfl rfl (by kernel_rfl) ?_)
      refine wpList_nil ?_
      exact ⟨s.size - (k + 1), _, by omega, ((((look_eq (t := 0) (v := .int .u64 ((hashL h (s.data.toList.take (k + 1)) : Nat) : Int)) rfl).trans (look_eq (t := 1) (v := .string s) rfl)).trans (look_eq (t := 7) (v := .int .i64 ((s).size : Int)) rfl)).trans (look_eq (t := 8) (v := .int .i64 (((k + 1) : Nat) : Int)) rfl)), ⟨(k + 1), _, _, rfl, rfl, K1, M1, by omega⟩⟩
    · refine W.op (O.v 9 (.bool false) rfl rfl (okv (by kernel_rfl) (congrArg Value.bool (decide_eq_false t1))) ?_)
      refine wpList_nil ?_
      refine hk4 _ _ ?_
      refine wp_seq_k fun k8 hk8 => ?_
      refine W.cond false rfl ?_
      refine wp_exit ?_
      refine then_exit ?_
      refine then_exit ?_
      refine block_exit ?_
      refine hk2 _ _ ?_
      refine wp_seq_k fun k9 hk9 => ?_
      refine wp_region_lit ?_
      refine W.op (O.v 19 (.int .u64 ((hashL h (s.data.toList.take k) : Nat) : Int)) rfl rfl (by kernel_rfl) ?_)
      refine W.op (O.v 4 (.int .u64 ((hashL h (s.data.toList.take k) : Nat) : Int)) rfl rfl (by kernel_rfl) ?_)
      refine wpList_nil ?_
      refine hk9 _ _ ?_
      refine wp_ret ?_
      refine W.ret1 (v := .int .u64 ((hashL h (s.data.toList.take k) : Nat) : Int)) rfl (.tmp rfl .nil) ?_
      exact ⟨_, by rw [show k = s.size by omega, List.take_of_length_le (by simp)], K1.mv⟩

set_option maxRecDepth 100000 in
set_option maxHeartbeats 1000000 in
theorem refHashOn_c (h : Nat) (s : ByteArray) (hh : h < 18446744073709551616) (hz : s.size < 9223372036854775807) (w : World) (γ : Tg) :
    Calls Try.prog 79 #[.int .u64 ((h : Nat) : Int), .string s] w fun ε w' => ∃ γ', ε = .returned (.int .u64 ((hashL h s.data.toList : Nat) : Int)) ∧ Mv Nt w γ w' γ' := by
  have K0 := Kn.start Nt w γ
  refine W.enter (ws := [(1, .string s), (0, .int .u64 ((h : Nat) : Int))]) 20 Try.func79 rfl (by kernel_rfl) ?_
  refine wp_seq_k fun k1 hk1 => ?_
  refine wp_region_lit ?_
  refine W.op (O.v 4 (.int .u64 0) rfl rfl (by kernel_rfl) ?_)
  refine wpList_nil ?_
  refine hk1 _ _ ?_
  refine wp_seq_k fun k2 hk2 => ?_
  refine wp_seq_k fun k3 hk3 => ?_
  refine wp_region_lit ?_
  refine W.op (O.v 5 (.int .i64 0) rfl rfl (by kernel_rfl) ?_)
  refine wpList_nil ?_
  refine hk3 _ _ ?_
  refine wp_block ?_
  refine W.loop (fun (m : Nat) (ws : List (Nat × Value)) (w' : World) => ∃ (k : Nat) (γ' : Tg) (r : List (Nat × Value)), m = s.size - k ∧ ws = ((5, .int .i64 ((k : Nat) : Int)) :: (1, .string s) :: (0, .int .u64 ((hashL h (s.data.toList.take k) : Nat) : Int)) :: r) ∧ Kn Nt w γ [] w' γ' ∧ Mv Nt w γ w' γ' ∧ (k ≤ s.size)) (s.size - 0) (((look_eq (t := 0) (v := .int .u64 ((hashL h (s.data.toList.take 0) : Nat) : Int)) (by rw [List.take_zero]; rfl)).trans (look_eq (t := 1) (v := .string s) rfl)).trans (look_eq (t := 5) (v := .int .i64 ((0 : Nat) : Int)) rfl)) ?_ ?_
  · exact ⟨0, _, _, rfl, rfl, K0, Mv.refl _ _ _, Nat.zero_le _⟩
  · rintro _ _ w1 ⟨k, g1, r1, rfl, rfl, K1, M1, p1⟩
    refine wp_seq_k fun k4 hk4 => ?_
    refine wp_seq_k fun k5 hk5 => ?_
    refine wp_region_lit ?_
    refine W.op (O.v 6 (.int .i64 ((k : Nat) : Int)) rfl rfl (by kernel_rfl) ?_)
    refine W.op (O.v 7 (.string s) rfl rfl (by kernel_rfl) ?_)
    refine W.op (O.v 8 (.int .i64 ((s).size : Int)) rfl rfl (by kernel_rfl) ?_)
    by_cases t1 : ((k : Nat) : Int) < ((s).size : Int)
    · refine W.op (O.v 9 (.bool true) rfl rfl (okv (by kernel_rfl) (congrArg Value.bool (decide_eq_true t1))) ?_)
      refine wpList_nil ?_
      refine hk5 _ _ ?_
      refine W.cond true rfl ?_
      refine wp_skip ?_
      refine hk4 _ _ ?_
      refine wp_seq_k fun k6 hk6 => ?_
      refine wp_block ?_
      refine wp_region_lit ?_
      refine W.op (O.v 12 (.int .u64 ((hashL h (s.data.toList.take k) : Nat) : Int)) rfl rfl (by kernel_rfl) ?_)
      refine W.op (O.v 13 (.string s) rfl rfl (by kernel_rfl) ?_)
      refine W.op (O.v 14 (.int .i64 ((k : Nat) : Int)) rfl rfl (by kernel_rfl) ?_)
      refine W.op (O.v 15 (.int .u8 ((byt s k : Nat) : Int)) rfl rfl (exec_indexStr (k := k) rfl (by kernel_rfl) rfl rfl (by omega)) ?_)
      refine W.op (O.v 16 (.int .u64 ((byt s k : Nat) : Int)) rfl rfl (okv (by kernel_rfl) (up_v (byt_lt s k))) ?_)
      refine W.op (O.v 17 (.int .u64 (((hashL h (s.data.toList.take k) ^^^ byt s k) : Nat) : Int)) rfl rfl (okv (by kernel_rfl) (xor_v (hashL_lt _ _ hh) (Nat.lt_trans (byt_lt s k) (by omega)))) ?_)
      refine W.op (O.v 18 (.int .u64 ((hashL h (s.data.toList.take (k + 1)) : Nat) : Int)) rfl rfl (okv (by kernel_rfl) (mul_v.trans (congrArg (fun x : Nat => Value.int .u64 (x : Int)) (hash_take h s k (by omega)).symm))) ?_)
      refine W.op (O.v 0 (.int .u64 ((hashL h (s.data.toList.take (k + 1)) : Nat) : Int)) rfl rfl (by kernel_rfl) ?_)
      refine wpList_nil ?_
      refine block_normal ?_
      refine hk6 _ _ ?_
      refine wp_region_lit ?_
      refine W.op (O.v 10 (.int .i64 ((k : Nat) : Int)) rfl rfl (by kernel_rfl) ?_)
      refine W.op (O.v 11 (.int .i64 ((k + 1 : Nat) : Int)) rfl rfl (okv (v := .int .i64 (IntKind.i64.wrap (((k : Nat) : Int) + 1))) (by kernel_rfl) (wrapn (by omega) (by omega))) ?_)
      refine W.op (O.v 5 (.int .i64 ((k + 1 : Nat) : Int)) rfl rfl (by kernel_rfl) ?_)
      refine wpList_nil ?_
      exact ⟨s.size - (k + 1), _, by omega, (((look_eq (t := 0) (v := .int .u64 ((hashL h (s.data.toList.take (k + 1)) : Nat) : Int)) rfl).trans (look_eq (t := 1) (v := .string s) rfl)).trans (look_eq (t := 5) (v := .int .i64 (((k + 1) : Nat) : Int)) rfl)), ⟨(k + 1), _, _, rfl, rfl, K1, M1, by omega⟩⟩
    · refine W.op (O.v 9 (.bool false) rfl rfl (okv (by kernel_rfl) (congrArg Value.bool (decide_eq_false t1))) ?_)
      refine wpList_nil ?_
      refine hk5 _ _ ?_
      refine W.cond false rfl ?_
      refine wp_exit ?_
      refine then_exit ?_
      refine then_exit ?_
      refine block_exit ?_
      refine hk2 _ _ ?_
      refine wp_seq_k fun k7 hk7 => ?_
      refine wp_region_lit ?_
      refine W.op (O.v 19 (.int .u64 ((hashL h (s.data.toList.take k) : Nat) : Int)) rfl rfl (by kernel_rfl) ?_)
      refine W.op (O.v 4 (.int .u64 ((hashL h (s.data.toList.take k) : Nat) : Int)) rfl rfl (by kernel_rfl) ?_)
      refine wpList_nil ?_
      refine hk7 _ _ ?_
      refine wp_ret ?_
      refine W.ret1 (v := .int .u64 ((hashL h (s.data.toList.take k) : Nat) : Int)) rfl (.tmp rfl .nil) ?_
      exact ⟨_, by rw [show k = s.size by omega, List.take_of_length_le (by simp)], K1.mv⟩

set_option maxRecDepth 100000 in
set_option maxHeartbeats 1000000 in
theorem identHash_c (s : ByteArray) (hz : s.size < 9223372036854775807) (w : World) (γ : Tg) :
    Calls Try.prog 62 #[.string s] w fun ε w' => ∃ γ', ε = .returned (.int .u64 ((hashOf s : Nat) : Int)) ∧ Mv Nt w γ w' γ' := by
  have K0 := Kn.start Nt w γ
  refine W.enter (ws := [(0, .string s)]) 5 Try.func62 rfl (by kernel_rfl) ?_
  refine wp_seq_k fun k1 hk1 => ?_
  refine wp_region_lit ?_
  refine W.op (O.v 2 (.int .u64 0) rfl rfl (by kernel_rfl) ?_)
  refine wpList_nil ?_
  refine hk1 _ _ ?_
  refine wp_seq_k fun k2 hk2 => ?_
  refine wp_region_lit ?_
  refine W.op (O.v 3 (.string s) rfl rfl (by kernel_rfl) ?_)
  refine W.op (O.call 4 80 #[.int .u64 14695981039346656037, .string s] (by kernel_rfl) rfl (by kernel_rfl) ((identHashOn_c 14695981039346656037 s (by omega) hz w γ).mono ?_))
  rintro e1 w1 ⟨g1, rfl, M1⟩
  have K1 := K0.step M1 (fun _ h => h) quiet
  refine ⟨_, rfl, ?_⟩
  refine W.op (O.v 2 (.int .u64 ((hashOf s : Nat) : Int)) rfl rfl (by kernel_rfl) ?_)
  refine wpList_nil ?_
  refine hk2 _ _ ?_
  refine wp_ret ?_
  refine W.ret1 (v := .int .u64 ((hashOf s : Nat) : Int)) rfl (.tmp rfl .nil) ?_
  exact ⟨_, rfl, K1.mv⟩

set_option maxRecDepth 100000 in
set_option maxHeartbeats 1000000 in
theorem refHash_c (s : ByteArray) (hz : s.size < 9223372036854775807) (w : World) (γ : Tg) :
    Calls Try.prog 60 #[.string s] w fun ε w' => ∃ γ', ε = .returned (.int .u64 ((hashOf s : Nat) : Int)) ∧ Mv Nt w γ w' γ' := by
  have K0 := Kn.start Nt w γ
  refine W.enter (ws := [(0, .string s)]) 5 Try.func60 rfl (by kernel_rfl) ?_
  refine wp_seq_k fun k1 hk1 => ?_
  refine wp_region_lit ?_
  refine W.op (O.v 2 (.int .u64 0) rfl rfl (by kernel_rfl) ?_)
  refine wpList_nil ?_
  refine hk1 _ _ ?_
  refine wp_seq_k fun k2 hk2 => ?_
  refine wp_region_lit ?_
  refine W.op (O.v 3 (.string s) rfl rfl (by kernel_rfl) ?_)
  refine W.op (O.call 4 79 #[.int .u64 14695981039346656037, .string s] (by kernel_rfl) rfl (by kernel_rfl) ((refHashOn_c 14695981039346656037 s (by omega) hz w γ).mono ?_))
  rintro e1 w1 ⟨g1, rfl, M1⟩
  have K1 := K0.step M1 (fun _ h => h) quiet
  refine ⟨_, rfl, ?_⟩
  refine W.op (O.v 2 (.int .u64 ((hashOf s : Nat) : Int)) rfl rfl (by kernel_rfl) ?_)
  refine wpList_nil ?_
  refine hk2 _ _ ?_
  refine wp_ret ?_
  refine W.ret1 (v := .int .u64 ((hashOf s : Nat) : Int)) rfl (.tmp rfl .nil) ?_
  exact ⟨_, rfl, K1.mv⟩

set_option maxRecDepth 100000 in
set_option maxHeartbeats 1000000 in
theorem identDigit_c (h l : Nat) (hh : h < 18446744073709551616) (w : World) (γ : Tg) :
    Calls Try.prog 61 #[.int .u64 ((h : Nat) : Int), .int .i64 ((l : Nat) : Int)] w fun ε w' => ∃ γ', ε = .returned (.int .i64 (((if l < 16 then digN h l else 0) : Nat) : Int)) ∧ Mv Nt w γ w' γ' := by
  have K0 := Kn.start Nt w γ
  refine W.enter (ws := [(1, .int .i64 ((l : Nat) : Int)), (0, .int .u64 ((h : Nat) : Int))]) 17 Try.func61 rfl (by kernel_rfl) ?_
  refine wp_seq_k fun k1 hk1 => ?_
  refine wp_region_lit ?_
  refine W.op (O.v 4 (.int .i64 0) rfl rfl (by kernel_rfl) ?_)
  refine wpList_nil ?_
  refine hk1 _ _ ?_
  refine wp_seq_k fun k2 hk2 => ?_
  refine wp_seq_k fun k3 hk3 => ?_
  refine wp_region_lit ?_
  refine W.op (O.v 5 (.int .i64 ((l : Nat) : Int)) rfl rfl (by kernel_rfl) ?_)
  by_cases t1 : ((l : Nat) : Int) < 0
  · refine W.op (O.v 6 (.bool true) rfl rfl (okv (by kernel_rfl) (congrArg Value.bool (decide_eq_true t1))) ?_)
    refine W.op (O.v 7 (.bool true) rfl rfl (by kernel_rfl) ?_)
    refine W.op (O.no 8 (by kernel_rfl) rfl ?_)
    refine W.op (O.no 9 (by kernel_rfl) rfl ?_)
    refine W.op (O.v 10 (.bool true) rfl rfl (by kernel_rfl) ?_)
    refine wpList_nil ?_
    refine hk3 _ _ ?_
    refine W.cond true rfl ?_
    refine wp_seq_k fun k4 hk4 => ?_
    refine wp_region_lit ?_
    refine W.op (O.v 4 (.int .i64 0) rfl rfl (by kernel_rfl) ?_)
    refine wpList_nil ?_
    refine hk4 _ _ ?_
    refine wp_ret ?_
    refine then_ret ?_
    refine W.ret1 (v := .int .i64 0) rfl (.tmp rfl .nil) ?_
    exact ⟨_, by first | (exfalso; omega) | (rw [if_pos (show l < 16 by omega)]; done) | (rw [if_neg (show ¬ l < 16 by omega)]; rfl), K0.mv⟩
  · refine W.op (O.v 6 (.bool false) rfl rfl (okv (by kernel_rfl) (congrArg Value.bool (decide_eq_false t1))) ?_)
    refine W.op (O.v 7 (.bool false) rfl rfl (by kernel_rfl) ?_)
    refine W.op (O.gv 8 (.int .i64 ((l : Nat) : Int)) (by kernel_rfl) rfl (by kernel_rfl) ?_)
    by_cases t2 : ((l : Nat) : Int) ≥ 16
    · refine W.op (O.gv 9 (.bool true) (by kernel_rfl) rfl (okv (by kernel_rfl) (congrArg Value.bool (decide_eq_true t2))) ?_)
      refine W.op (O.v 10 (.bool true) rfl rfl (by kernel_rfl) ?_)
      refine wpList_nil ?_
      refine hk3 _ _ ?_
      refine W.cond true rfl ?_
      refine wp_seq_k fun k5 hk5 => ?_
      refine wp_region_lit ?_
      refine W.op (O.v 4 (.int .i64 0) rfl rfl (by kernel_rfl) ?_)
      refine wpList_nil ?_
      refine hk5 _ _ ?_
      refine wp_ret ?_
      refine then_ret ?_
      refine W.ret1 (v := .int .i64 0) rfl (.tmp rfl .nil) ?_
      exact ⟨_, by first | (exfalso; omega) | (rw [if_pos (show l < 16 by omega)]; done) | (rw [if_neg (show ¬ l < 16 by omega)]; rfl), K0.mv⟩
    · refine W.op (O.gv 9 (.bool false) (by kernel_rfl) rfl (okv (by kernel_rfl) (congrArg Value.bool (decide_eq_false t2))) ?_)
      refine W.op (O.v 10 (.bool false) rfl rfl (by kernel_rfl) ?_)
      refine wpList_nil ?_
      refine hk3 _ _ ?_
      refine W.cond false rfl ?_
      refine wp_skip ?_
      refine hk2 _ _ ?_
      refine wp_seq_k fun k6 hk6 => ?_
      refine wp_region_lit ?_
      refine W.op (O.v 11 (.int .u64 ((h : Nat) : Int)) rfl rfl (by kernel_rfl) ?_)
      refine W.op (O.v 12 (.int .i64 ((l : Nat) : Int)) rfl rfl (by kernel_rfl) ?_)
      refine W.op (O.v 13 (.int .i64 ((4 * l : Nat) : Int)) rfl rfl (okv (v := .int .i64 (IntKind.i64.wrap (4 * (l : Int)))) (by kernel_rfl) (wrapn (by omega) (by omega))) ?_)
      refine W.op (O.v 14 (.int .u64 ((h / 16 ^ l : Nat) : Int)) rfl rfl (okv (by kernel_rfl) ((shr_v (h := h) (l := l)).trans (congrArg (fun x : Nat => Value.int .u64 (x : Int)) (shr_16 (by omega))))) ?_)
      refine W.op (O.v 15 (.int .u64 ((digN h l : Nat) : Int)) rfl rfl (okv (by kernel_rfl) (shr_and hh)) ?_)
      refine W.op (O.v 16 (.int .i64 ((digN h l : Nat) : Int)) rfl rfl (okv (by kernel_rfl) (to_i64 (Nat.lt_trans (digN_lt h l) (by omega)))) ?_)
      refine W.op (O.v 4 (.int .i64 ((digN h l : Nat) : Int)) rfl rfl (by kernel_rfl) ?_)
      refine wpList_nil ?_
      refine hk6 _ _ ?_
      refine wp_ret ?_
      refine W.ret1 (v := .int .i64 ((digN h l : Nat) : Int)) rfl (.tmp rfl .nil) ?_
      exact ⟨_, by first | (exfalso; omega) | (rw [if_pos (show l < 16 by omega)]; done) | (rw [if_neg (show ¬ l < 16 by omega)]; rfl), K0.mv⟩

set_option maxRecDepth 100000 in
set_option maxHeartbeats 1000000 in
theorem refDigit_c (h l : Nat) (hh : h < 18446744073709551616) (w : World) (γ : Tg) :
    Calls Try.prog 59 #[.int .u64 ((h : Nat) : Int), .int .i64 ((l : Nat) : Int)] w fun ε w' => ∃ γ', ε = .returned (.int .i64 (((if l < 16 then digN h l else 0) : Nat) : Int)) ∧ Mv Nt w γ w' γ' := by
  have K0 := Kn.start Nt w γ
  refine W.enter (ws := [(1, .int .i64 ((l : Nat) : Int)), (0, .int .u64 ((h : Nat) : Int))]) 22 Try.func59 rfl (by kernel_rfl) ?_
  refine wp_seq_k fun k1 hk1 => ?_
  refine wp_region_lit ?_
  refine W.op (O.v 4 (.int .i64 0) rfl rfl (by kernel_rfl) ?_)
  refine wpList_nil ?_
  refine hk1 _ _ ?_
  refine wp_seq_k fun k2 hk2 => ?_
  refine wp_seq_k fun k3 hk3 => ?_
  refine wp_region_lit ?_
  refine W.op (O.v 6 (.int .i64 ((l : Nat) : Int)) rfl rfl (by kernel_rfl) ?_)
  by_cases t1 : ((l : Nat) : Int) < 0
  · refine W.op (O.v 7 (.bool true) rfl rfl (okv (by kernel_rfl) (congrArg Value.bool (decide_eq_true t1))) ?_)
    refine W.op (O.v 8 (.bool true) rfl rfl (by kernel_rfl) ?_)
    refine W.op (O.no 9 (by kernel_rfl) rfl ?_)
    refine W.op (O.no 10 (by kernel_rfl) rfl ?_)
    refine W.op (O.v 11 (.bool true) rfl rfl (by kernel_rfl) ?_)
    refine wpList_nil ?_
    refine hk3 _ _ ?_
    refine W.cond true rfl ?_
    refine wp_seq_k fun k4 hk4 => ?_
    refine wp_region_lit ?_
    refine W.op (O.v 4 (.int .i64 0) rfl rfl (by kernel_rfl) ?_)
    refine wpList_nil ?_
    refine hk4 _ _ ?_
    refine wp_ret ?_
    refine then_ret ?_
    refine W.ret1 (v := .int .i64 0) rfl (.tmp rfl .nil) ?_
    exact ⟨_, by first | (exfalso; omega) | (rw [if_pos (show l < 16 by omega)]; done) | (rw [if_neg (show ¬ l < 16 by omega)]; rfl), K0.mv⟩
  · refine W.op (O.v 7 (.bool false) rfl rfl (okv (by kernel_rfl) (congrArg Value.bool (decide_eq_false t1))) ?_)
    refine W.op (O.v 8 (.bool false) rfl rfl (by kernel_rfl) ?_)
    refine W.op (O.gv 9 (.int .i64 ((l : Nat) : Int)) (by kernel_rfl) rfl (by kernel_rfl) ?_)
    by_cases t2 : ((l : Nat) : Int) ≥ 16
    · refine W.op (O.gv 10 (.bool true) (by kernel_rfl) rfl (okv (by kernel_rfl) (congrArg Value.bool (decide_eq_true t2))) ?_)
      refine W.op (O.v 11 (.bool true) rfl rfl (by kernel_rfl) ?_)
      refine wpList_nil ?_
      refine hk3 _ _ ?_
      refine W.cond true rfl ?_
      refine wp_seq_k fun k5 hk5 => ?_
      refine wp_region_lit ?_
      refine W.op (O.v 4 (.int .i64 0) rfl rfl (by kernel_rfl) ?_)
      refine wpList_nil ?_
      refine hk5 _ _ ?_
      refine wp_ret ?_
      refine then_ret ?_
      refine W.ret1 (v := .int .i64 0) rfl (.tmp rfl .nil) ?_
      exact ⟨_, by first | (exfalso; omega) | (rw [if_pos (show l < 16 by omega)]; done) | (rw [if_neg (show ¬ l < 16 by omega)]; rfl), K0.mv⟩
    · refine W.op (O.gv 10 (.bool false) (by kernel_rfl) rfl (okv (by kernel_rfl) (congrArg Value.bool (decide_eq_false t2))) ?_)
      refine W.op (O.v 11 (.bool false) rfl rfl (by kernel_rfl) ?_)
      refine wpList_nil ?_
      refine hk3 _ _ ?_
      refine W.cond false rfl ?_
      refine wp_skip ?_
      refine hk2 _ _ ?_
      refine wp_seq_k fun k6 hk6 => ?_
      refine wp_seq_k fun k7 hk7 => ?_
      refine wp_region_lit ?_
      refine W.op (O.v 5 (.int .i64 0) rfl rfl (by kernel_rfl) ?_)
      refine wpList_nil ?_
      refine hk7 _ _ ?_
      refine wp_block ?_
      refine W.loop (fun (m : Nat) (ws : List (Nat × Value)) (w' : World) => ∃ (k : Nat) (γ' : Tg) (r : List (Nat × Value)), m = l - k ∧ ws = ((5, .int .i64 ((k : Nat) : Int)) :: (1, .int .i64 ((l : Nat) : Int)) :: (0, .int .u64 ((h / 16 ^ k : Nat) : Int)) :: r) ∧ Kn Nt w γ [] w' γ' ∧ Mv Nt w γ w' γ' ∧ (k ≤ l)) (l - 0) (((look_eq (t := 0) (v := .int .u64 ((h / 16 ^ 0 : Nat) : Int)) (by rw [Nat.pow_zero, Nat.div_one]; rfl)).trans (look_eq (t := 1) (v := .int .i64 ((l : Nat) : Int)) rfl)).trans (look_eq (t := 5) (v := .int .i64 ((0 : Nat) : Int)) rfl)) ?_ ?_
      · exact ⟨0, _, _, rfl, rfl, K0, Mv.refl _ _ _, Nat.zero_le _⟩
      · rintro _ _ w1 ⟨k, g1, r1, rfl, rfl, K1, M1, p1⟩
        refine wp_seq_k fun k8 hk8 => ?_
        refine wp_seq_k fun k9 hk9 => ?_
        refine wp_region_lit ?_
        refine W.op (O.v 12 (.int .i64 ((k : Nat) : Int)) rfl rfl (by kernel_rfl) ?_)
        refine W.op (O.v 13 (.int .i64 ((l : Nat) : Int)) rfl rfl (by kernel_rfl) ?_)
        by_cases t3 : ((k : Nat) : Int) < ((l : Nat) : Int)
        · refine W.op (O.v 14 (.bool true) rfl rfl (okv (by kernel_rfl) (congrArg Value.bool (decide_eq_true t3))) ?_)
          refine wpList_nil ?_
          refine hk9 _ _ ?_
          refine W.cond true rfl ?_
          refine wp_skip ?_
          refine hk8 _ _ ?_
          refine wp_seq_k fun k10 hk10 => ?_
          refine wp_block ?_
          refine wp_region_lit ?_
          refine W.op (O.v 17 (.int .u64 ((h / 16 ^ k : Nat) : Int)) rfl rfl (by kernel_rfl) ?_)
          refine W.op (O.v 18 (.int .u64 ((h / 16 ^ (k + 1) : Nat) : Int)) rfl rfl (okv (by kernel_rfl) (div_v (Nat.lt_of_le_of_lt (Nat.div_le_self _ _) hh))) ?_)
          refine W.op (O.v 0 (.int .u64 ((h / 16 ^ (k + 1) : Nat) : Int)) rfl rfl (by kernel_rfl) ?_)
          refine wpList_nil ?_
          refine block_normal ?_
          refine hk10 _ _ ?_
          refine wp_region_lit ?_
          refine W.op (O.v 15 (.int .i64 ((k : Nat) : Int)) rfl rfl (by kernel_rfl) ?_)
          refine W.op (O.v 16 (.int .i64 ((k + 1 : Nat) : Int)) rfl rfl (okv (v := .int .i64 (IntKind.i64.wrap (((k : Nat) : Int) + 1))) (by kernel_rfl) (wrapn (by omega) (by omega))) ?_)
          refine W.op (O.v 5 (.int .i64 ((k + 1 : Nat) : Int)) rfl rfl (by kernel_rfl) ?_)
          refine wpList_nil ?_
          exact ⟨l - (k + 1), _, by omega, (((look_eq (t := 0) (v := .int .u64 ((h / 16 ^ (k + 1) : Nat) : Int)) rfl).trans (look_eq (t := 1) (v := .int .i64 ((l : Nat) : Int)) rfl)).trans (look_eq (t := 5) (v := .int .i64 (((k + 1) : Nat) : Int)) rfl)), ⟨(k + 1), _, _, rfl, rfl, K1, M1, by omega⟩⟩
        · refine W.op (O.v 14 (.bool false) rfl rfl (okv (by kernel_rfl) (congrArg Value.bool (decide_eq_false t3))) ?_)
          refine wpList_nil ?_
          refine hk9 _ _ ?_
          refine W.cond false rfl ?_
          refine wp_exit ?_
          refine then_exit ?_
          refine then_exit ?_
          refine block_exit ?_
          refine hk6 _ _ ?_
          refine wp_seq_k fun k11 hk11 => ?_
          refine wp_region_lit ?_
          refine W.op (O.v 19 (.int .u64 ((h / 16 ^ k : Nat) : Int)) rfl rfl (by kernel_rfl) ?_)
          refine W.op (O.v 20 (.int .u64 ((digN h l : Nat) : Int)) rfl rfl (okv (by kernel_rfl) ((congrArg (fun z : Nat => Value.int .u64 (((h / 16 ^ z : Nat) : Int).tmod 16)) (show k = l by omega)).trans rem_v)) ?_)
          refine W.op (O.v 21 (.int .i64 ((digN h l : Nat) : Int)) rfl rfl (okv (by kernel_rfl) (to_i64 (Nat.lt_trans (digN_lt h l) (by omega)))) ?_)
          refine W.op (O.v 4 (.int .i64 ((digN h l : Nat) : Int)) rfl rfl (by kernel_rfl) ?_)
          refine wpList_nil ?_
          refine hk11 _ _ ?_
          refine wp_ret ?_
          refine W.ret1 (v := .int .i64 ((digN h l : Nat) : Int)) rfl (.tmp rfl .nil) ?_
          exact ⟨_, by first | (exfalso; omega) | (rw [if_pos (show l < 16 by omega)]; done) | (rw [if_neg (show ¬ l < 16 by omega)]; rfl), K1.mv⟩

set_option maxRecDepth 100000 in
set_option maxHeartbeats 1000000 in
theorem digit_c (s : ByteArray) (l : Nat) (hz : s.size < 9223372036854775807) (w : World) (γ : Tg) :
    Calls Try.prog 44 #[.string s, .int .i64 ((l : Nat) : Int)] w fun ε w' => ∃ γ', ε = .returned (.int .i64 ((digitOf s l : Nat) : Int)) ∧ Mv Nt w γ w' γ' := by
  have K0 := Kn.start Nt w γ
  refine W.enter (ws := [(1, .int .i64 ((l : Nat) : Int)), (0, .string s)]) 9 Try.func44 rfl (by kernel_rfl) ?_
  refine wp_seq_k fun k1 hk1 => ?_
  refine wp_region_lit ?_
  refine W.op (O.v 4 (.int .i64 0) rfl rfl (by kernel_rfl) ?_)
  refine wpList_nil ?_
  refine hk1 _ _ ?_
  refine wp_seq_k fun k2 hk2 => ?_
  refine wp_region_lit ?_
  refine W.op (O.v 5 (.string s) rfl rfl (by kernel_rfl) ?_)
  refine W.op (O.call 6 62 #[.string s] (by kernel_rfl) rfl (by kernel_rfl) ((identHash_c s hz w γ).mono ?_))
  rintro e1 w1 ⟨g1, rfl, M1⟩
  have K1 := K0.step M1 (fun _ h => h) quiet
  refine ⟨_, rfl, ?_⟩
  refine W.op (O.v 7 (.int .i64 ((l : Nat) : Int)) rfl rfl (by kernel_rfl) ?_)
  refine W.op (O.call 8 61 #[.int .u64 ((hashOf s : Nat) : Int), .int .i64 ((l : Nat) : Int)] (by kernel_rfl) rfl (by kernel_rfl) ((identDigit_c (hashOf s) l (hashOf_lt s) w1 g1).mono ?_))
  rintro e2 w2 ⟨g2, rfl, M2⟩
  have K2 := K1.step M2 (fun _ h => h) quiet
  refine ⟨_, rfl, ?_⟩
  refine W.op (O.v 4 (.int .i64 (((if l < 16 then digN (hashOf s) l else 0) : Nat) : Int)) rfl rfl (by kernel_rfl) ?_)
  refine wpList_nil ?_
  refine hk2 _ _ ?_
  refine wp_ret ?_
  refine W.ret1 (v := .int .i64 (((if l < 16 then digN (hashOf s) l else 0) : Nat) : Int)) rfl (.tmp rfl .nil) ?_
  exact ⟨_, rfl, K2.mv⟩

set_option maxRecDepth 100000 in
set_option maxHeartbeats 1000000 in
theorem refdigit_c (s : ByteArray) (l : Nat) (hz : s.size < 9223372036854775807) (w : World) (γ : Tg) :
    Calls Try.prog 41 #[.string s, .int .i64 ((l : Nat) : Int)] w fun ε w' => ∃ γ', ε = .returned (.int .i64 ((digitOf s l : Nat) : Int)) ∧ Mv Nt w γ w' γ' := by
  have K0 := Kn.start Nt w γ
  refine W.enter (ws := [(1, .int .i64 ((l : Nat) : Int)), (0, .string s)]) 9 Try.func41 rfl (by kernel_rfl) ?_
  refine wp_seq_k fun k1 hk1 => ?_
  refine wp_region_lit ?_
  refine W.op (O.v 4 (.int .i64 0) rfl rfl (by kernel_rfl) ?_)
  refine wpList_nil ?_
  refine hk1 _ _ ?_
  refine wp_seq_k fun k2 hk2 => ?_
  refine wp_region_lit ?_
  refine W.op (O.v 5 (.string s) rfl rfl (by kernel_rfl) ?_)
  refine W.op (O.call 6 60 #[.string s] (by kernel_rfl) rfl (by kernel_rfl) ((refHash_c s hz w γ).mono ?_))
  rintro e1 w1 ⟨g1, rfl, M1⟩
  have K1 := K0.step M1 (fun _ h => h) quiet
  refine ⟨_, rfl, ?_⟩
  refine W.op (O.v 7 (.int .i64 ((l : Nat) : Int)) rfl rfl (by kernel_rfl) ?_)
  refine W.op (O.call 8 59 #[.int .u64 ((hashOf s : Nat) : Int), .int .i64 ((l : Nat) : Int)] (by kernel_rfl) rfl (by kernel_rfl) ((refDigit_c (hashOf s) l (hashOf_lt s) w1 g1).mono ?_))
  rintro e2 w2 ⟨g2, rfl, M2⟩
  have K2 := K1.step M2 (fun _ h => h) quiet
  refine ⟨_, rfl, ?_⟩
  refine W.op (O.v 4 (.int .i64 (((if l < 16 then digN (hashOf s) l else 0) : Nat) : Int)) rfl rfl (by kernel_rfl) ?_)
  refine wpList_nil ?_
  refine hk2 _ _ ?_
  refine wp_ret ?_
  refine W.ret1 (v := .int .i64 (((if l < 16 then digN (hashOf s) l else 0) : Nat) : Int)) rfl (.tmp rfl .nil) ?_
  exact ⟨_, rfl, K2.mv⟩

end Go.Proofs.Ytlfanphdnjoofaa
