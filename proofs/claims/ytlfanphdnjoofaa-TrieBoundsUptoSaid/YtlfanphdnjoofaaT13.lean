/- Walks: rotations. -/
import Derived.Test.YtlfanphdnjoofaaT12
namespace Go.Proofs.Ytlfanphdnjoofaa
open Go.RowKit
set_option linter.unusedSimpArgs false
set_option linter.unusedVariables false
attribute [local irreducible] wpList Code.wp Calls OpS wpG

set_option maxRecDepth 100000 in
set_option maxHeartbeats 1000000 in
theorem rotItem_c (s : Sli) (pre : List Item) (X : List Item) (Y : List Item) (post : List Item) (t : Nat) (a : Nat) (m : Nat) (b : Nat) (cv : Value) (w : World) (γ : Tg) (hG : Gs t 50 7 Item.cells w γ s (pre ++ X ++ Y ++ post)) (ht : 2 ≤ t) (ha : a = pre.length) (hm : m = pre.length + X.length) (hb : b = pre.length + X.length + Y.length) (hX : 0 < X.length) (hY : 0 < Y.length) (hl : pre.length + X.length + Y.length + post.length ≤ 100000) :
    Calls Try.prog 104 #[.slice s.a s.n s.c, .int .i64 ((a : Nat) : Int), .int .i64 ((m : Nat) : Int), .int .i64 ((b : Nat) : Int), cv] w fun ε w' => ∃ (γ' : Tg), ε = .returned (.tuple #[]) ∧ Mv (fun ξ => ξ = t) w γ w' γ' ∧ Gs t 50 7 Item.cells w' γ' s (pre ++ Y ++ X ++ post) := by
 have K0 := Kn.start (fun ξ => ξ = t) w γ
 refine W.enter (ws := [(4, cv), (3, .int .i64 ↑b), (2, .int .i64 ↑m), (1, .int .i64 ↑a), (0, .slice s.a s.n s.c)]) 58 Try.func104 rfl (by kernel_rfl) ?_
 have n1 := hG.len
 refine wp_seq_k fun k1 hk1 => (wp_region_lit ?_)
 refine Zb 12 (.int .i64 ↑m) ?_
 refine Zb 13 (.int .i64 ↑a) ?_
 refine Zc 14 (.int .i64 ↑X.length) (okv (v := .int .i64 (IntKind.i64.wrap ((m : Int) - (a : Int)))) (by kernel_rfl) (wrapn (by omega) (by omega))) ?_
 refine Zb 10 (.int .i64 ↑X.length) ?_
 refine wpList_nil (hk1 _ _ (wp_seq_k fun k2 hk2 => (wp_region_lit ?_)))
 refine Zb 15 (.int .i64 ↑b) ?_
 refine Zb 16 (.int .i64 ↑m) ?_
 refine Zc 17 (.int .i64 ↑Y.length) (okv (v := .int .i64 (IntKind.i64.wrap ((b : Int) - (m : Int)))) (by kernel_rfl) (wrapn (by omega) (by omega))) ?_
 refine Zb 11 (.int .i64 ↑Y.length) ?_
 refine wpList_nil (hk2 _ _ (wp_seq_k fun k3 hk3 => (wp_block ?_)))
 refine W.loop (fun (μ0 : Nat) (ws : List (Nat × Value)) (w' : World) => ∃ (i : Nat) (j : Nat) (P : List Item) (L : List Item) (R : List Item) (Q : List Item) (γ' : Tg) (ρ0 : List (Nat × Value)), μ0 = i + j ∧ ws = ((11, .int .i64 ↑j) :: (10, .int .i64 ↑i) :: (4, cv) :: (2, .int .i64 ↑m) :: (0, .slice s.a s.n s.c) :: ρ0) ∧ Kn (fun ξ => ξ = t) w γ [] w' γ' ∧ Mv (Rg 1 (t + 1)) w γ w' γ' ∧ (i = L.length) ∧ (j = R.length) ∧ (0 < i) ∧ (0 < j) ∧ (pre ++ Y ++ X ++ post = pre ++ P ++ R ++ L ++ Q ++ post) ∧ (m = pre.length + P.length + L.length) ∧ (pre.length + P.length + L.length + R.length + Q.length + post.length ≤ 100000) ∧ Gs t 50 7 Item.cells w' γ' s (pre ++ P ++ L ++ R ++ Q ++ post)) (X.length + Y.length) (((((look_eq (t := 0) (v := .slice s.a s.n s.c) rfl).trans (look_eq (t := 2) (v := .int .i64 ↑m) rfl)).trans (look_eq (t := 4) (v := cv) rfl)).trans (look_eq (t := 10) (v := .int .i64 ↑X.length) rfl)).trans (look_eq (t := 11) (v := .int .i64 ↑Y.length) rfl)) ?_ ?_
 ·exact ⟨X.length, Y.length, [], X, Y, [], _, _, rfl, rfl, K0, Mv.refl _ _ _, rfl, rfl, hX, hY, by simp, by simp only [List.length_nil]; omega, by simp only [List.length_nil]; omega, (by have h := hG; rw [show pre ++ X ++ Y ++ post = pre ++ [] ++ X ++ Y ++ [] ++ post by simp] at h; exact h)⟩
 ·rintro _ _ w1 ⟨i, j, P, L, R, Q, g1, r1, rfl, rfl, K1, M1, p1, p2, p3, p4, p5, p6, p7, h1⟩
  have n2 := h1.len
  refine wp_seq_k fun k4 hk4 => (wp_seq_k fun k5 hk5 => (wp_region_lit ?_))
  refine Zb 18 (.int .i64 ↑i) ?_
  refine Zb 19 (.int .i64 ↑j) ?_
  by_cases t1 : ((i : Nat) : Int) = ((j : Nat) : Int)
  ·refine Zc 20 (.bool false) (okv (by kernel_rfl) (congrArg Value.bool (bne_eq_false_iff_eq.2 t1))) ?_
   refine wpList_nil (hk5 _ _ (W.cond false rfl (wp_exit (then_exit (then_exit (block_exit ?_))))))
   refine hk3 _ _ (wp_region_lit ?_)
   refine Zb 50 (.slice s.a s.n s.c) ?_
   refine Zb 51 (.int .i64 ↑m) ?_
   refine Zb 52 (.int .i64 ↑i) ?_
   refine Zc 53 (.int .i64 ((m - i : Nat) : Int)) (okv (v := .int .i64 (IntKind.i64.wrap (((m : Nat) : Int) - ((i : Nat) : Int)))) (by kernel_rfl) (wrapn (by omega) (by omega))) ?_
   refine Zb 54 (.int .i64 ↑m) ?_
   refine Zb 55 (.int .i64 ↑i) ?_
   refine Zb 56 (cv) ?_
   refine W.op (O.call 57 107 #[.slice s.a s.n s.c, .int .i64 ((m - i : Nat) : Int), .int .i64 ↑m, .int .i64 ↑i, cv] (by kernel_rfl) rfl (by kernel_rfl) ((swapItem_c s (pre ++ P) L [] R (Q ++ post) t (m - i) m i cv w1 g1 (by have h := h1; rw [show pre ++ P ++ L ++ R ++ Q ++ post = (pre ++ P) ++ L ++ [] ++ R ++ (Q ++ post) from by simp [List.append_assoc]] at h; exact h) (by omega) (by first | omega | (simp only [List.length_append, List.length_take, List.length_drop, List.length_nil]; omega)) (by first | omega | (simp only [List.length_append, List.length_take, List.length_drop, List.length_nil]; omega)) (by first | omega | (simp only [List.length_append, List.length_take, List.length_drop, List.length_nil]; omega)) (by first | omega | (simp only [List.length_append, List.length_take, List.length_drop, List.length_nil]; omega)) (by first | omega | (simp only [List.length_append, List.length_take, List.length_drop, List.length_nil]; omega))).mono ?_))
   rintro e1 w2 ⟨g2, rfl, M2, hq1⟩
   have K2 := K1.step M2 (fun _ h => h) (neq (by omega))
   have n3 := hq1.len
   refine ⟨_, rfl, ?_⟩
   refine wpList_nil ?_
   refine W.end0 rfl ?_
   have hG9 := hq1
   rw [show (pre ++ P) ++ R ++ [] ++ L ++ (Q ++ post) = pre ++ Y ++ X ++ post from by rw [p5]; simp [List.append_assoc]] at hG9
   exact ⟨_, rfl, K2.mv, hG9⟩
  ·refine Zc 20 (.bool true) (okv (by kernel_rfl) (congrArg Value.bool (bne_iff_ne.2 t1))) ?_
   refine wpList_nil (hk5 _ _ (W.cond true rfl (wp_skip (hk4 _ _ (wp_block (wp_seq_k fun k6 hk6 => ?_))))))
   refine wp_region_lit ?_
   refine Zb 21 (.int .i64 ↑i) ?_
   refine Zb 22 (.int .i64 ↑j) ?_
   by_cases t2 : ((i : Nat) : Int) > ((j : Nat) : Int)
   ·refine Zc 23 (.bool true) (okv (by kernel_rfl) (congrArg Value.bool (decide_eq_true t2))) ?_
    refine wpList_nil (hk6 _ _ (W.cond true rfl (wp_seq_k fun k7 hk7 => (wp_region_lit ?_))))
    refine Zb 24 (.slice s.a s.n s.c) ?_
    refine Zb 25 (.int .i64 ↑m) ?_
    refine Zb 26 (.int .i64 ↑i) ?_
    refine Zc 27 (.int .i64 ((m - i : Nat) : Int)) (okv (v := .int .i64 (IntKind.i64.wrap (((m : Nat) : Int) - ((i : Nat) : Int)))) (by kernel_rfl) (wrapn (by omega) (by omega))) ?_
    refine Zb 28 (.int .i64 ↑m) ?_
    refine Zb 29 (.int .i64 ↑j) ?_
    refine Zb 30 (cv) ?_
    refine W.op (O.call 31 107 #[.slice s.a s.n s.c, .int .i64 ((m - i : Nat) : Int), .int .i64 ↑m, .int .i64 ↑j, cv] (by kernel_rfl) rfl (by kernel_rfl) ((swapItem_c s (pre ++ P) (L.take j) (L.drop j) R (Q ++ post) t (m - i) m j cv w1 g1 (by have h := h1; rw [show pre ++ P ++ L ++ R ++ Q ++ post = (pre ++ P) ++ L.take j ++ L.drop j ++ R ++ (Q ++ post) from by rw [List.append_assoc (pre ++ P) (L.take j), List.take_append_drop]; simp [List.append_assoc]] at h; exact h) (by omega) (by first | omega | (simp only [List.length_append, List.length_take, List.length_drop, List.length_nil]; omega)) (by first | omega | (simp only [List.length_append, List.length_take, List.length_drop, List.length_nil]; omega)) (by first | omega | (simp only [List.length_append, List.length_take, List.length_drop, List.length_nil]; omega)) (by first | omega | (simp only [List.length_append, List.length_take, List.length_drop, List.length_nil]; omega)) (by first | omega | (simp only [List.length_append, List.length_take, List.length_drop, List.length_nil]; omega))).mono ?_))
    rintro e2 w3 ⟨g3, rfl, M3, hq2⟩
    have K3 := K1.step M3 (fun _ h => h) (neq (by omega))
    have n4 := hq2.len
    refine ⟨_, rfl, ?_⟩
    refine wpList_nil (hk7 _ _ (wp_region_lit ?_))
    refine Zb 32 (.int .i64 ↑i) ?_
    refine Zb 33 (.int .i64 ↑j) ?_
    refine Zc 34 (.int .i64 ((i - j : Nat) : Int)) (okv (v := .int .i64 (IntKind.i64.wrap (((i : Nat) : Int) - ((j : Nat) : Int)))) (by kernel_rfl) (wrapn (by omega) (by omega))) ?_
    refine Zb 10 (.int .i64 ((i - j : Nat) : Int)) ?_
    refine wpList_nil (block_normal ?_)
    exact ⟨(i - j) + j, _, by omega, (((((look_eq (t := 0) (v := .slice s.a s.n s.c) rfl).trans (look_eq (t := 2) (v := .int .i64 ↑m) rfl)).trans (look_eq (t := 4) (v := cv) rfl)).trans (look_eq (t := 10) (v := .int .i64 (((i - j) : Nat) : Int)) rfl)).trans (look_eq (t := 11) (v := .int .i64 ↑j) rfl)), ⟨(i - j), j, (P ++ R), (L.drop j), (L.take j), Q, _, _, rfl, rfl, K3, (M1.trans (M3.mono (eq_rg (by omega)))), by rw [List.length_drop]; omega, by rw [List.length_take]; omega, by omega, by omega, by rw [p5, show pre ++ P ++ R ++ L ++ Q ++ post = pre ++ P ++ R ++ (L.take j ++ L.drop j) ++ Q ++ post by rw [List.take_append_drop]]; simp [List.append_assoc], by rw [List.length_append, List.length_drop]; omega, by simp only [List.length_append, List.length_take, List.length_drop]; omega, (by have h := hq2; rw [show (pre ++ P) ++ R ++ L.drop j ++ L.take j ++ (Q ++ post) = pre ++ (P ++ R) ++ L.drop j ++ L.take j ++ Q ++ post from by simp [List.append_assoc]] at h; exact h)⟩⟩
   ·refine Zc 23 (.bool false) (okv (by kernel_rfl) (congrArg Value.bool (decide_eq_false t2))) ?_
    refine wpList_nil (hk6 _ _ (W.cond false rfl (wp_seq_k fun k8 hk8 => (wp_region_lit ?_))))
    refine Zb 35 (.slice s.a s.n s.c) ?_
    refine Zb 36 (.int .i64 ↑m) ?_
    refine Zb 37 (.int .i64 ↑i) ?_
    refine Zc 38 (.int .i64 ((m - i : Nat) : Int)) (okv (v := .int .i64 (IntKind.i64.wrap (((m : Nat) : Int) - ((i : Nat) : Int)))) (by kernel_rfl) (wrapn (by omega) (by omega))) ?_
    refine Zb 39 (.int .i64 ↑m) ?_
    refine Zb 40 (.int .i64 ↑j) ?_
    refine Zc 41 (.int .i64 ((m + j : Nat) : Int)) (okv (v := .int .i64 (IntKind.i64.wrap (((m : Nat) : Int) + ((j : Nat) : Int)))) (by kernel_rfl) (wrapn (by omega) (by omega))) ?_
    refine Zb 42 (.int .i64 ↑i) ?_
    refine Zc 43 (.int .i64 ((m + j - i : Nat) : Int)) (okv (v := .int .i64 (IntKind.i64.wrap (((m + j : Nat) : Int) - ((i : Nat) : Int)))) (by kernel_rfl) (wrapn (by omega) (by omega))) ?_
    refine Zb 44 (.int .i64 ↑i) ?_
    refine Zb 45 (cv) ?_
    refine W.op (O.call 46 107 #[.slice s.a s.n s.c, .int .i64 ((m - i : Nat) : Int), .int .i64 ((m + j - i : Nat) : Int), .int .i64 ↑i, cv] (by kernel_rfl) rfl (by kernel_rfl) ((swapItem_c s (pre ++ P) L (R.take (j - i)) (R.drop (j - i)) (Q ++ post) t (m - i) (m + j - i) i cv w1 g1 (by have h := h1; rw [show pre ++ P ++ L ++ R ++ Q ++ post = (pre ++ P) ++ L ++ R.take (j - i) ++ R.drop (j - i) ++ (Q ++ post) from by rw [List.append_assoc ((pre ++ P) ++ L) (R.take (j - i)), List.take_append_drop]; simp [List.append_assoc]] at h; exact h) (by omega) (by first | omega | (simp only [List.length_append, List.length_take, List.length_drop, List.length_nil]; omega)) (by first | omega | (simp only [List.length_append, List.length_take, List.length_drop, List.length_nil]; omega)) (by first | omega | (simp only [List.length_append, List.length_take, List.length_drop, List.length_nil]; omega)) (by first | omega | (simp only [List.length_append, List.length_take, List.length_drop, List.length_nil]; omega)) (by first | omega | (simp only [List.length_append, List.length_take, List.length_drop, List.length_nil]; omega))).mono ?_))
    rintro e3 w4 ⟨g4, rfl, M4, hq3⟩
    have K4 := K1.step M4 (fun _ h => h) (neq (by omega))
    have n5 := hq3.len
    refine ⟨_, rfl, ?_⟩
    refine wpList_nil (hk8 _ _ (wp_region_lit ?_))
    refine Zb 47 (.int .i64 ↑j) ?_
    refine Zb 48 (.int .i64 ↑i) ?_
    refine Zc 49 (.int .i64 ((j - i : Nat) : Int)) (okv (v := .int .i64 (IntKind.i64.wrap (((j : Nat) : Int) - ((i : Nat) : Int)))) (by kernel_rfl) (wrapn (by omega) (by omega))) ?_
    refine Zb 11 (.int .i64 ((j - i : Nat) : Int)) ?_
    refine wpList_nil (block_normal ?_)
    exact ⟨i + (j - i), _, by omega, (((((look_eq (t := 0) (v := .slice s.a s.n s.c) rfl).trans (look_eq (t := 2) (v := .int .i64 ↑m) rfl)).trans (look_eq (t := 4) (v := cv) rfl)).trans (look_eq (t := 10) (v := .int .i64 ↑i) rfl)).trans (look_eq (t := 11) (v := .int .i64 (((j - i) : Nat) : Int)) rfl)), ⟨i, (j - i), P, (R.drop (j - i)), (R.take (j - i)), (L ++ Q), _, _, rfl, rfl, K4, (M1.trans (M4.mono (eq_rg (by omega)))), by rw [List.length_drop]; omega, by rw [List.length_take]; omega, by omega, by omega, by rw [p5, show pre ++ P ++ R ++ L ++ Q ++ post = pre ++ P ++ (R.take (j - i) ++ R.drop (j - i)) ++ L ++ Q ++ post by rw [List.take_append_drop]]; simp [List.append_assoc], by rw [List.length_drop]; omega, by simp only [List.length_append, List.length_take, List.length_drop]; omega, (by have h := hq3; rw [show (pre ++ P) ++ R.drop (j - i) ++ R.take (j - i) ++ L ++ (Q ++ post) = pre ++ P ++ R.drop (j - i) ++ R.take (j - i) ++ (L ++ Q) ++ post from by simp [List.append_assoc]] at h; exact h)⟩⟩

set_option maxRecDepth 100000 in
set_option maxHeartbeats 1000000 in
theorem rotRtd_c (s : Sli) (pre : List Rtd) (X : List Rtd) (Y : List Rtd) (post : List Rtd) (t : Nat) (a : Nat) (m : Nat) (b : Nat) (cv : Value) (w : World) (γ : Tg) (hG : Gs t 146 3 Rtd.cells w γ s (pre ++ X ++ Y ++ post)) (ht : 2 ≤ t) (ha : a = pre.length) (hm : m = pre.length + X.length) (hb : b = pre.length + X.length + Y.length) (hX : 0 < X.length) (hY : 0 < Y.length) (hl : pre.length + X.length + Y.length + post.length ≤ 100000) :
    Calls Try.prog 106 #[.slice s.a s.n s.c, .int .i64 ((a : Nat) : Int), .int .i64 ((m : Nat) : Int), .int .i64 ((b : Nat) : Int), cv] w fun ε w' => ∃ (γ' : Tg), ε = .returned (.tuple #[]) ∧ Mv (fun ξ => ξ = t) w γ w' γ' ∧ Gs t 146 3 Rtd.cells w' γ' s (pre ++ Y ++ X ++ post) := by
 have K0 := Kn.start (fun ξ => ξ = t) w γ
 refine W.enter (ws := [(4, cv), (3, .int .i64 ↑b), (2, .int .i64 ↑m), (1, .int .i64 ↑a), (0, .slice s.a s.n s.c)]) 58 Try.func106 rfl (by kernel_rfl) ?_
 have n1 := hG.len
 refine wp_seq_k fun k1 hk1 => (wp_region_lit ?_)
 refine Zb 12 (.int .i64 ↑m) ?_
 refine Zb 13 (.int .i64 ↑a) ?_
 refine Zc 14 (.int .i64 ↑X.length) (okv (v := .int .i64 (IntKind.i64.wrap ((m : Int) - (a : Int)))) (by kernel_rfl) (wrapn (by omega) (by omega))) ?_
 refine Zb 10 (.int .i64 ↑X.length) ?_
 refine wpList_nil (hk1 _ _ (wp_seq_k fun k2 hk2 => (wp_region_lit ?_)))
 refine Zb 15 (.int .i64 ↑b) ?_
 refine Zb 16 (.int .i64 ↑m) ?_
 refine Zc 17 (.int .i64 ↑Y.length) (okv (v := .int .i64 (IntKind.i64.wrap ((b : Int) - (m : Int)))) (by kernel_rfl) (wrapn (by omega) (by omega))) ?_
 refine Zb 11 (.int .i64 ↑Y.length) ?_
 refine wpList_nil (hk2 _ _ (wp_seq_k fun k3 hk3 => (wp_block ?_)))
 refine W.loop (fun (μ0 : Nat) (ws : List (Nat × Value)) (w' : World) => ∃ (i : Nat) (j : Nat) (P : List Rtd) (L : List Rtd) (R : List Rtd) (Q : List Rtd) (γ' : Tg) (ρ0 : List (Nat × Value)), μ0 = i + j ∧ ws = ((11, .int .i64 ↑j) :: (10, .int .i64 ↑i) :: (4, cv) :: (2, .int .i64 ↑m) :: (0, .slice s.a s.n s.c) :: ρ0) ∧ Kn (fun ξ => ξ = t) w γ [] w' γ' ∧ Mv (Rg 1 (t + 1)) w γ w' γ' ∧ (i = L.length) ∧ (j = R.length) ∧ (0 < i) ∧ (0 < j) ∧ (pre ++ Y ++ X ++ post = pre ++ P ++ R ++ L ++ Q ++ post) ∧ (m = pre.length + P.length + L.length) ∧ (pre.length + P.length + L.length + R.length + Q.length + post.length ≤ 100000) ∧ Gs t 146 3 Rtd.cells w' γ' s (pre ++ P ++ L ++ R ++ Q ++ post)) (X.length + Y.length) (((((look_eq (t := 0) (v := .slice s.a s.n s.c) rfl).trans (look_eq (t := 2) (v := .int .i64 ↑m) rfl)).trans (look_eq (t := 4) (v := cv) rfl)).trans (look_eq (t := 10) (v := .int .i64 ↑X.length) rfl)).trans (look_eq (t := 11) (v := .int .i64 ↑Y.length) rfl)) ?_ ?_
 ·exact ⟨X.length, Y.length, [], X, Y, [], _, _, rfl, rfl, K0, Mv.refl _ _ _, rfl, rfl, hX, hY, by simp, by simp only [List.length_nil]; omega, by simp only [List.length_nil]; omega, (by have h := hG; rw [show pre ++ X ++ Y ++ post = pre ++ [] ++ X ++ Y ++ [] ++ post by simp] at h; exact h)⟩
 ·rintro _ _ w1 ⟨i, j, P, L, R, Q, g1, r1, rfl, rfl, K1, M1, p1, p2, p3, p4, p5, p6, p7, h1⟩
  have n2 := h1.len
  refine wp_seq_k fun k4 hk4 => (wp_seq_k fun k5 hk5 => (wp_region_lit ?_))
  refine Zb 18 (.int .i64 ↑i) ?_
  refine Zb 19 (.int .i64 ↑j) ?_
  by_cases t1 : ((i : Nat) : Int) = ((j : Nat) : Int)
  ·refine Zc 20 (.bool false) (okv (by kernel_rfl) (congrArg Value.bool (bne_eq_false_iff_eq.2 t1))) ?_
   refine wpList_nil (hk5 _ _ (W.cond false rfl (wp_exit (then_exit (then_exit (block_exit ?_))))))
   refine hk3 _ _ (wp_region_lit ?_)
   refine Zb 50 (.slice s.a s.n s.c) ?_
   refine Zb 51 (.int .i64 ↑m) ?_
   refine Zb 52 (.int .i64 ↑i) ?_
   refine Zc 53 (.int .i64 ((m - i : Nat) : Int)) (okv (v := .int .i64 (IntKind.i64.wrap (((m : Nat) : Int) - ((i : Nat) : Int)))) (by kernel_rfl) (wrapn (by omega) (by omega))) ?_
   refine Zb 54 (.int .i64 ↑m) ?_
   refine Zb 55 (.int .i64 ↑i) ?_
   refine Zb 56 (cv) ?_
   refine W.op (O.call 57 110 #[.slice s.a s.n s.c, .int .i64 ((m - i : Nat) : Int), .int .i64 ↑m, .int .i64 ↑i, cv] (by kernel_rfl) rfl (by kernel_rfl) ((swapRtd_c s (pre ++ P) L [] R (Q ++ post) t (m - i) m i cv w1 g1 (by have h := h1; rw [show pre ++ P ++ L ++ R ++ Q ++ post = (pre ++ P) ++ L ++ [] ++ R ++ (Q ++ post) from by simp [List.append_assoc]] at h; exact h) (by omega) (by first | omega | (simp only [List.length_append, List.length_take, List.length_drop, List.length_nil]; omega)) (by first | omega | (simp only [List.length_append, List.length_take, List.length_drop, List.length_nil]; omega)) (by first | omega | (simp only [List.length_append, List.length_take, List.length_drop, List.length_nil]; omega)) (by first | omega | (simp only [List.length_append, List.length_take, List.length_drop, List.length_nil]; omega)) (by first | omega | (simp only [List.length_append, List.length_take, List.length_drop, List.length_nil]; omega))).mono ?_))
   rintro e1 w2 ⟨g2, rfl, M2, hq1⟩
   have K2 := K1.step M2 (fun _ h => h) (neq (by omega))
   have n3 := hq1.len
   refine ⟨_, rfl, ?_⟩
   refine wpList_nil ?_
   refine W.end0 rfl ?_
   have hG9 := hq1
   rw [show (pre ++ P) ++ R ++ [] ++ L ++ (Q ++ post) = pre ++ Y ++ X ++ post from by rw [p5]; simp [List.append_assoc]] at hG9
   exact ⟨_, rfl, K2.mv, hG9⟩
  ·refine Zc 20 (.bool true) (okv (by kernel_rfl) (congrArg Value.bool (bne_iff_ne.2 t1))) ?_
   refine wpList_nil (hk5 _ _ (W.cond true rfl (wp_skip (hk4 _ _ (wp_block (wp_seq_k fun k6 hk6 => ?_))))))
   refine wp_region_lit ?_
   refine Zb 21 (.int .i64 ↑i) ?_
   refine Zb 22 (.int .i64 ↑j) ?_
   by_cases t2 : ((i : Nat) : Int) > ((j : Nat) : Int)
   ·refine Zc 23 (.bool true) (okv (by kernel_rfl) (congrArg Value.bool (decide_eq_true t2))) ?_
    refine wpList_nil (hk6 _ _ (W.cond true rfl (wp_seq_k fun k7 hk7 => (wp_region_lit ?_))))
    refine Zb 24 (.slice s.a s.n s.c) ?_
    refine Zb 25 (.int .i64 ↑m) ?_
    refine Zb 26 (.int .i64 ↑i) ?_
    refine Zc 27 (.int .i64 ((m - i : Nat) : Int)) (okv (v := .int .i64 (IntKind.i64.wrap (((m : Nat) : Int) - ((i : Nat) : Int)))) (by kernel_rfl) (wrapn (by omega) (by omega))) ?_
    refine Zb 28 (.int .i64 ↑m) ?_
    refine Zb 29 (.int .i64 ↑j) ?_
    refine Zb 30 (cv) ?_
    refine W.op (O.call 31 110 #[.slice s.a s.n s.c, .int .i64 ((m - i : Nat) : Int), .int .i64 ↑m, .int .i64 ↑j, cv] (by kernel_rfl) rfl (by kernel_rfl) ((swapRtd_c s (pre ++ P) (L.take j) (L.drop j) R (Q ++ post) t (m - i) m j cv w1 g1 (by have h := h1; rw [show pre ++ P ++ L ++ R ++ Q ++ post = (pre ++ P) ++ L.take j ++ L.drop j ++ R ++ (Q ++ post) from by rw [List.append_assoc (pre ++ P) (L.take j), List.take_append_drop]; simp [List.append_assoc]] at h; exact h) (by omega) (by first | omega | (simp only [List.length_append, List.length_take, List.length_drop, List.length_nil]; omega)) (by first | omega | (simp only [List.length_append, List.length_take, List.length_drop, List.length_nil]; omega)) (by first | omega | (simp only [List.length_append, List.length_take, List.length_drop, List.length_nil]; omega)) (by first | omega | (simp only [List.length_append, List.length_take, List.length_drop, List.length_nil]; omega)) (by first | omega | (simp only [List.length_append, List.length_take, List.length_drop, List.length_nil]; omega))).mono ?_))
    rintro e2 w3 ⟨g3, rfl, M3, hq2⟩
    have K3 := K1.step M3 (fun _ h => h) (neq (by omega))
    have n4 := hq2.len
    refine ⟨_, rfl, ?_⟩
    refine wpList_nil (hk7 _ _ (wp_region_lit ?_))
    refine Zb 32 (.int .i64 ↑i) ?_
    refine Zb 33 (.int .i64 ↑j) ?_
    refine Zc 34 (.int .i64 ((i - j : Nat) : Int)) (okv (v := .int .i64 (IntKind.i64.wrap (((i : Nat) : Int) - ((j : Nat) : Int)))) (by kernel_rfl) (wrapn (by omega) (by omega))) ?_
    refine Zb 10 (.int .i64 ((i - j : Nat) : Int)) ?_
    refine wpList_nil (block_normal ?_)
    exact ⟨(i - j) + j, _, by omega, (((((look_eq (t := 0) (v := .slice s.a s.n s.c) rfl).trans (look_eq (t := 2) (v := .int .i64 ↑m) rfl)).trans (look_eq (t := 4) (v := cv) rfl)).trans (look_eq (t := 10) (v := .int .i64 (((i - j) : Nat) : Int)) rfl)).trans (look_eq (t := 11) (v := .int .i64 ↑j) rfl)), ⟨(i - j), j, (P ++ R), (L.drop j), (L.take j), Q, _, _, rfl, rfl, K3, (M1.trans (M3.mono (eq_rg (by omega)))), by rw [List.length_drop]; omega, by rw [List.length_take]; omega, by omega, by omega, by rw [p5, show pre ++ P ++ R ++ L ++ Q ++ post = pre ++ P ++ R ++ (L.take j ++ L.drop j) ++ Q ++ post by rw [List.take_append_drop]]; simp [List.append_assoc], by rw [List.length_append, List.length_drop]; omega, by simp only [List.length_append, List.length_take, List.length_drop]; omega, (by have h := hq2; rw [show (pre ++ P) ++ R ++ L.drop j ++ L.take j ++ (Q ++ post) = pre ++ (P ++ R) ++ L.drop j ++ L.take j ++ Q ++ post from by simp [List.append_assoc]] at h; exact h)⟩⟩
   ·refine Zc 23 (.bool false) (okv (by kernel_rfl) (congrArg Value.bool (decide_eq_false t2))) ?_
    refine wpList_nil (hk6 _ _ (W.cond false rfl (wp_seq_k fun k8 hk8 => (wp_region_lit ?_))))
    refine Zb 35 (.slice s.a s.n s.c) ?_
    refine Zb 36 (.int .i64 ↑m) ?_
    refine Zb 37 (.int .i64 ↑i) ?_
    refine Zc 38 (.int .i64 ((m - i : Nat) : Int)) (okv (v := .int .i64 (IntKind.i64.wrap (((m : Nat) : Int) - ((i : Nat) : Int)))) (by kernel_rfl) (wrapn (by omega) (by omega))) ?_
    refine Zb 39 (.int .i64 ↑m) ?_
    refine Zb 40 (.int .i64 ↑j) ?_
    refine Zc 41 (.int .i64 ((m + j : Nat) : Int)) (okv (v := .int .i64 (IntKind.i64.wrap (((m : Nat) : Int) + ((j : Nat) : Int)))) (by kernel_rfl) (wrapn (by omega) (by omega))) ?_
    refine Zb 42 (.int .i64 ↑i) ?_
    refine Zc 43 (.int .i64 ((m + j - i : Nat) : Int)) (okv (v := .int .i64 (IntKind.i64.wrap (((m + j : Nat) : Int) - ((i : Nat) : Int)))) (by kernel_rfl) (wrapn (by omega) (by omega))) ?_
    refine Zb 44 (.int .i64 ↑i) ?_
    refine Zb 45 (cv) ?_
    refine W.op (O.call 46 110 #[.slice s.a s.n s.c, .int .i64 ((m - i : Nat) : Int), .int .i64 ((m + j - i : Nat) : Int), .int .i64 ↑i, cv] (by kernel_rfl) rfl (by kernel_rfl) ((swapRtd_c s (pre ++ P) L (R.take (j - i)) (R.drop (j - i)) (Q ++ post) t (m - i) (m + j - i) i cv w1 g1 (by have h := h1; rw [show pre ++ P ++ L ++ R ++ Q ++ post = (pre ++ P) ++ L ++ R.take (j - i) ++ R.drop (j - i) ++ (Q ++ post) from by rw [List.append_assoc ((pre ++ P) ++ L) (R.take (j - i)), List.take_append_drop]; simp [List.append_assoc]] at h; exact h) (by omega) (by first | omega | (simp only [List.length_append, List.length_take, List.length_drop, List.length_nil]; omega)) (by first | omega | (simp only [List.length_append, List.length_take, List.length_drop, List.length_nil]; omega)) (by first | omega | (simp only [List.length_append, List.length_take, List.length_drop, List.length_nil]; omega)) (by first | omega | (simp only [List.length_append, List.length_take, List.length_drop, List.length_nil]; omega)) (by first | omega | (simp only [List.length_append, List.length_take, List.length_drop, List.length_nil]; omega))).mono ?_))
    rintro e3 w4 ⟨g4, rfl, M4, hq3⟩
    have K4 := K1.step M4 (fun _ h => h) (neq (by omega))
    have n5 := hq3.len
    refine ⟨_, rfl, ?_⟩
    refine wpList_nil (hk8 _ _ (wp_region_lit ?_))
    refine Zb 47 (.int .i64 ↑j) ?_
    refine Zb 48 (.int .i64 ↑i) ?_
    refine Zc 49 (.int .i64 ((j - i : Nat) : Int)) (okv (v := .int .i64 (IntKind.i64.wrap (((j : Nat) : Int) - ((i : Nat) : Int)))) (by kernel_rfl) (wrapn (by omega) (by omega))) ?_
    refine Zb 11 (.int .i64 ((j - i : Nat) : Int)) ?_
    refine wpList_nil (block_normal ?_)
    exact ⟨i + (j - i), _, by omega, (((((look_eq (t := 0) (v := .slice s.a s.n s.c) rfl).trans (look_eq (t := 2) (v := .int .i64 ↑m) rfl)).trans (look_eq (t := 4) (v := cv) rfl)).trans (look_eq (t := 10) (v := .int .i64 ↑i) rfl)).trans (look_eq (t := 11) (v := .int .i64 (((j - i) : Nat) : Int)) rfl)), ⟨i, (j - i), P, (R.drop (j - i)), (R.take (j - i)), (L ++ Q), _, _, rfl, rfl, K4, (M1.trans (M4.mono (eq_rg (by omega)))), by rw [List.length_drop]; omega, by rw [List.length_take]; omega, by omega, by omega, by rw [p5, show pre ++ P ++ R ++ L ++ Q ++ post = pre ++ P ++ (R.take (j - i) ++ R.drop (j - i)) ++ L ++ Q ++ post by rw [List.take_append_drop]]; simp [List.append_assoc], by rw [List.length_drop]; omega, by simp only [List.length_append, List.length_take, List.length_drop]; omega, (by have h := hq3; rw [show (pre ++ P) ++ R.drop (j - i) ++ R.take (j - i) ++ L ++ (Q ++ post) = pre ++ P ++ R.drop (j - i) ++ R.take (j - i) ++ (L ++ Q) ++ post from by simp [List.append_assoc]] at h; exact h)⟩⟩

set_option maxRecDepth 100000 in
set_option maxHeartbeats 1000000 in
theorem rotEdit_c (s : Sli) (pre : List Edit) (X : List Edit) (Y : List Edit) (post : List Edit) (t : Nat) (a : Nat) (m : Nat) (b : Nat) (cv : Value) (w : World) (γ : Tg) (hG : Gs t 55 8 Edit.cells w γ s (pre ++ X ++ Y ++ post)) (ht : 2 ≤ t) (ha : a = pre.length) (hm : m = pre.length + X.length) (hb : b = pre.length + X.length + Y.length) (hX : 0 < X.length) (hY : 0 < Y.length) (hl : pre.length + X.length + Y.length + post.length ≤ 100000) :
    Calls Try.prog 111 #[.slice s.a s.n s.c, .int .i64 ((a : Nat) : Int), .int .i64 ((m : Nat) : Int), .int .i64 ((b : Nat) : Int), cv] w fun ε w' => ∃ (γ' : Tg), ε = .returned (.tuple #[]) ∧ Mv (fun ξ => ξ = t) w γ w' γ' ∧ Gs t 55 8 Edit.cells w' γ' s (pre ++ Y ++ X ++ post) := by
 have K0 := Kn.start (fun ξ => ξ = t) w γ
 refine W.enter (ws := [(4, cv), (3, .int .i64 ↑b), (2, .int .i64 ↑m), (1, .int .i64 ↑a), (0, .slice s.a s.n s.c)]) 58 Try.func111 rfl (by kernel_rfl) ?_
 have n1 := hG.len
 refine wp_seq_k fun k1 hk1 => (wp_region_lit ?_)
 refine Zb 12 (.int .i64 ↑m) ?_
 refine Zb 13 (.int .i64 ↑a) ?_
 refine Zc 14 (.int .i64 ↑X.length) (okv (v := .int .i64 (IntKind.i64.wrap ((m : Int) - (a : Int)))) (by kernel_rfl) (wrapn (by omega) (by omega))) ?_
 refine Zb 10 (.int .i64 ↑X.length) ?_
 refine wpList_nil (hk1 _ _ (wp_seq_k fun k2 hk2 => (wp_region_lit ?_)))
 refine Zb 15 (.int .i64 ↑b) ?_
 refine Zb 16 (.int .i64 ↑m) ?_
 refine Zc 17 (.int .i64 ↑Y.length) (okv (v := .int .i64 (IntKind.i64.wrap ((b : Int) - (m : Int)))) (by kernel_rfl) (wrapn (by omega) (by omega))) ?_
 refine Zb 11 (.int .i64 ↑Y.length) ?_
 refine wpList_nil (hk2 _ _ (wp_seq_k fun k3 hk3 => (wp_block ?_)))
 refine W.loop (fun (μ0 : Nat) (ws : List (Nat × Value)) (w' : World) => ∃ (i : Nat) (j : Nat) (P : List Edit) (L : List Edit) (R : List Edit) (Q : List Edit) (γ' : Tg) (ρ0 : List (Nat × Value)), μ0 = i + j ∧ ws = ((11, .int .i64 ↑j) :: (10, .int .i64 ↑i) :: (4, cv) :: (2, .int .i64 ↑m) :: (0, .slice s.a s.n s.c) :: ρ0) ∧ Kn (fun ξ => ξ = t) w γ [] w' γ' ∧ Mv (Rg 1 (t + 1)) w γ w' γ' ∧ (i = L.length) ∧ (j = R.length) ∧ (0 < i) ∧ (0 < j) ∧ (pre ++ Y ++ X ++ post = pre ++ P ++ R ++ L ++ Q ++ post) ∧ (m = pre.length + P.length + L.length) ∧ (pre.length + P.length + L.length + R.length + Q.length + post.length ≤ 100000) ∧ Gs t 55 8 Edit.cells w' γ' s (pre ++ P ++ L ++ R ++ Q ++ post)) (X.length + Y.length) (((((look_eq (t := 0) (v := .slice s.a s.n s.c) rfl).trans (look_eq (t := 2) (v := .int .i64 ↑m) rfl)).trans (look_eq (t := 4) (v := cv) rfl)).trans (look_eq (t := 10) (v := .int .i64 ↑X.length) rfl)).trans (look_eq (t := 11) (v := .int .i64 ↑Y.length) rfl)) ?_ ?_
 ·exact ⟨X.length, Y.length, [], X, Y, [], _, _, rfl, rfl, K0, Mv.refl _ _ _, rfl, rfl, hX, hY, by simp, by simp only [List.length_nil]; omega, by simp only [List.length_nil]; omega, (by have h := hG; rw [show pre ++ X ++ Y ++ post = pre ++ [] ++ X ++ Y ++ [] ++ post by simp] at h; exact h)⟩
 ·rintro _ _ w1 ⟨i, j, P, L, R, Q, g1, r1, rfl, rfl, K1, M1, p1, p2, p3, p4, p5, p6, p7, h1⟩
  have n2 := h1.len
  refine wp_seq_k fun k4 hk4 => (wp_seq_k fun k5 hk5 => (wp_region_lit ?_))
  refine Zb 18 (.int .i64 ↑i) ?_
  refine Zb 19 (.int .i64 ↑j) ?_
  by_cases t1 : ((i : Nat) : Int) = ((j : Nat) : Int)
  ·refine Zc 20 (.bool false) (okv (by kernel_rfl) (congrArg Value.bool (bne_eq_false_iff_eq.2 t1))) ?_
   refine wpList_nil (hk5 _ _ (W.cond false rfl (wp_exit (then_exit (then_exit (block_exit ?_))))))
   refine hk3 _ _ (wp_region_lit ?_)
   refine Zb 50 (.slice s.a s.n s.c) ?_
   refine Zb 51 (.int .i64 ↑m) ?_
   refine Zb 52 (.int .i64 ↑i) ?_
   refine Zc 53 (.int .i64 ((m - i : Nat) : Int)) (okv (v := .int .i64 (IntKind.i64.wrap (((m : Nat) : Int) - ((i : Nat) : Int)))) (by kernel_rfl) (wrapn (by omega) (by omega))) ?_
   refine Zb 54 (.int .i64 ↑m) ?_
   refine Zb 55 (.int .i64 ↑i) ?_
   refine Zb 56 (cv) ?_
   refine W.op (O.call 57 112 #[.slice s.a s.n s.c, .int .i64 ((m - i : Nat) : Int), .int .i64 ↑m, .int .i64 ↑i, cv] (by kernel_rfl) rfl (by kernel_rfl) ((swapEdit_c s (pre ++ P) L [] R (Q ++ post) t (m - i) m i cv w1 g1 (by have h := h1; rw [show pre ++ P ++ L ++ R ++ Q ++ post = (pre ++ P) ++ L ++ [] ++ R ++ (Q ++ post) from by simp [List.append_assoc]] at h; exact h) (by omega) (by first | omega | (simp only [List.length_append, List.length_take, List.length_drop, List.length_nil]; omega)) (by first | omega | (simp only [List.length_append, List.length_take, List.length_drop, List.length_nil]; omega)) (by first | omega | (simp only [List.length_append, List.length_take, List.length_drop, List.length_nil]; omega)) (by first | omega | (simp only [List.length_append, List.length_take, List.length_drop, List.length_nil]; omega)) (by first | omega | (simp only [List.length_append, List.length_take, List.length_drop, List.length_nil]; omega))).mono ?_))
   rintro e1 w2 ⟨g2, rfl, M2, hq1⟩
   have K2 := K1.step M2 (fun _ h => h) (neq (by omega))
   have n3 := hq1.len
   refine ⟨_, rfl, ?_⟩
   refine wpList_nil ?_
   refine W.end0 rfl ?_
   have hG9 := hq1
   rw [show (pre ++ P) ++ R ++ [] ++ L ++ (Q ++ post) = pre ++ Y ++ X ++ post from by rw [p5]; simp [List.append_assoc]] at hG9
   exact ⟨_, rfl, K2.mv, hG9⟩
  ·refine Zc 20 (.bool true) (okv (by kernel_rfl) (congrArg Value.bool (bne_iff_ne.2 t1))) ?_
   refine wpList_nil (hk5 _ _ (W.cond true rfl (wp_skip (hk4 _ _ (wp_block (wp_seq_k fun k6 hk6 => ?_))))))
   refine wp_region_lit ?_
   refine Zb 21 (.int .i64 ↑i) ?_
   refine Zb 22 (.int .i64 ↑j) ?_
   by_cases t2 : ((i : Nat) : Int) > ((j : Nat) : Int)
   ·refine Zc 23 (.bool true) (okv (by kernel_rfl) (congrArg Value.bool (decide_eq_true t2))) ?_
    refine wpList_nil (hk6 _ _ (W.cond true rfl (wp_seq_k fun k7 hk7 => (wp_region_lit ?_))))
    refine Zb 24 (.slice s.a s.n s.c) ?_
    refine Zb 25 (.int .i64 ↑m) ?_
    refine Zb 26 (.int .i64 ↑i) ?_
    refine Zc 27 (.int .i64 ((m - i : Nat) : Int)) (okv (v := .int .i64 (IntKind.i64.wrap (((m : Nat) : Int) - ((i : Nat) : Int)))) (by kernel_rfl) (wrapn (by omega) (by omega))) ?_
    refine Zb 28 (.int .i64 ↑m) ?_
    refine Zb 29 (.int .i64 ↑j) ?_
    refine Zb 30 (cv) ?_
    refine W.op (O.call 31 112 #[.slice s.a s.n s.c, .int .i64 ((m - i : Nat) : Int), .int .i64 ↑m, .int .i64 ↑j, cv] (by kernel_rfl) rfl (by kernel_rfl) ((swapEdit_c s (pre ++ P) (L.take j) (L.drop j) R (Q ++ post) t (m - i) m j cv w1 g1 (by have h := h1; rw [show pre ++ P ++ L ++ R ++ Q ++ post = (pre ++ P) ++ L.take j ++ L.drop j ++ R ++ (Q ++ post) from by rw [List.append_assoc (pre ++ P) (L.take j), List.take_append_drop]; simp [List.append_assoc]] at h; exact h) (by omega) (by first | omega | (simp only [List.length_append, List.length_take, List.length_drop, List.length_nil]; omega)) (by first | omega | (simp only [List.length_append, List.length_take, List.length_drop, List.length_nil]; omega)) (by first | omega | (simp only [List.length_append, List.length_take, List.length_drop, List.length_nil]; omega)) (by first | omega | (simp only [List.length_append, List.length_take, List.length_drop, List.length_nil]; omega)) (by first | omega | (simp only [List.length_append, List.length_take, List.length_drop, List.length_nil]; omega))).mono ?_))
    rintro e2 w3 ⟨g3, rfl, M3, hq2⟩
    have K3 := K1.step M3 (fun _ h => h) (neq (by omega))
    have n4 := hq2.len
    refine ⟨_, rfl, ?_⟩
    refine wpList_nil (hk7 _ _ (wp_region_lit ?_))
    refine Zb 32 (.int .i64 ↑i) ?_
    refine Zb 33 (.int .i64 ↑j) ?_
    refine Zc 34 (.int .i64 ((i - j : Nat) : Int)) (okv (v := .int .i64 (IntKind.i64.wrap (((i : Nat) : Int) - ((j : Nat) : Int)))) (by kernel_rfl) (wrapn (by omega) (by omega))) ?_
    refine Zb 10 (.int .i64 ((i - j : Nat) : Int)) ?_
    refine wpList_nil (block_normal ?_)
    exact ⟨(i - j) + j, _, by omega, (((((look_eq (t := 0) (v := .slice s.a s.n s.c) rfl).trans (look_eq (t := 2) (v := .int .i64 ↑m) rfl)).trans (look_eq (t := 4) (v := cv) rfl)).trans (look_eq (t := 10) (v := .int .i64 (((i - j) : Nat) : Int)) rfl)).trans (look_eq (t := 11) (v := .int .i64 ↑j) rfl)), ⟨(i - j), j, (P ++ R), (L.drop j), (L.take j), Q, _, _, rfl, rfl, K3, (M1.trans (M3.mono (eq_rg (by omega)))), by rw [List.length_drop]; omega, by rw [List.length_take]; omega, by omega, by omega, by rw [p5, show pre ++ P ++ R ++ L ++ Q ++ post = pre ++ P ++ R ++ (L.take j ++ L.drop j) ++ Q ++ post by rw [List.take_append_drop]]; simp [List.append_assoc], by rw [List.length_append, List.length_drop]; omega, by simp only [List.length_append, List.length_take, List.length_drop]; omega, (by have h := hq2; rw [show (pre ++ P) ++ R ++ L.drop j ++ L.take j ++ (Q ++ post) = pre ++ (P ++ R) ++ L.drop j ++ L.take j ++ Q ++ post from by simp [List.append_assoc]] at h; exact h)⟩⟩
   ·refine Zc 23 (.bool false) (okv (by kernel_rfl) (congrArg Value.bool (decide_eq_false t2))) ?_
    refine wpList_nil (hk6 _ _ (W.cond false rfl (wp_seq_k fun k8 hk8 => (wp_region_lit ?_))))
    refine Zb 35 (.slice s.a s.n s.c) ?_
    refine Zb 36 (.int .i64 ↑m) ?_
    refine Zb 37 (.int .i64 ↑i) ?_
    refine Zc 38 (.int .i64 ((m - i : Nat) : Int)) (okv (v := .int .i64 (IntKind.i64.wrap (((m : Nat) : Int) - ((i : Nat) : Int)))) (by kernel_rfl) (wrapn (by omega) (by omega))) ?_
    refine Zb 39 (.int .i64 ↑m) ?_
    refine Zb 40 (.int .i64 ↑j) ?_
    refine Zc 41 (.int .i64 ((m + j : Nat) : Int)) (okv (v := .int .i64 (IntKind.i64.wrap (((m : Nat) : Int) + ((j : Nat) : Int)))) (by kernel_rfl) (wrapn (by omega) (by omega))) ?_
    refine Zb 42 (.int .i64 ↑i) ?_
    refine Zc 43 (.int .i64 ((m + j - i : Nat) : Int)) (okv (v := .int .i64 (IntKind.i64.wrap (((m + j : Nat) : Int) - ((i : Nat) : Int)))) (by kernel_rfl) (wrapn (by omega) (by omega))) ?_
    refine Zb 44 (.int .i64 ↑i) ?_
    refine Zb 45 (cv) ?_
    refine W.op (O.call 46 112 #[.slice s.a s.n s.c, .int .i64 ((m - i : Nat) : Int), .int .i64 ((m + j - i : Nat) : Int), .int .i64 ↑i, cv] (by kernel_rfl) rfl (by kernel_rfl) ((swapEdit_c s (pre ++ P) L (R.take (j - i)) (R.drop (j - i)) (Q ++ post) t (m - i) (m + j - i) i cv w1 g1 (by have h := h1; rw [show pre ++ P ++ L ++ R ++ Q ++ post = (pre ++ P) ++ L ++ R.take (j - i) ++ R.drop (j - i) ++ (Q ++ post) from by rw [List.append_assoc ((pre ++ P) ++ L) (R.take (j - i)), List.take_append_drop]; simp [List.append_assoc]] at h; exact h) (by omega) (by first | omega | (simp only [List.length_append, List.length_take, List.length_drop, List.length_nil]; omega)) (by first | omega | (simp only [List.length_append, List.length_take, List.length_drop, List.length_nil]; omega)) (by first | omega | (simp only [List.length_append, List.length_take, List.length_drop, List.length_nil]; omega)) (by first | omega | (simp only [List.length_append, List.length_take, List.length_drop, List.length_nil]; omega)) (by first | omega | (simp only [List.length_append, List.length_take, List.length_drop, List.length_nil]; omega))).mono ?_))
    rintro e3 w4 ⟨g4, rfl, M4, hq3⟩
    have K4 := K1.step M4 (fun _ h => h) (neq (by omega))
    have n5 := hq3.len
    refine ⟨_, rfl, ?_⟩
    refine wpList_nil (hk8 _ _ (wp_region_lit ?_))
    refine Zb 47 (.int .i64 ↑j) ?_
    refine Zb 48 (.int .i64 ↑i) ?_
    refine Zc 49 (.int .i64 ((j - i : Nat) : Int)) (okv (v := .int .i64 (IntKind.i64.wrap (((j : Nat) : Int) - ((i : Nat) : Int)))) (by kernel_rfl) (wrapn (by omega) (by omega))) ?_
    refine Zb 11 (.int .i64 ((j - i : Nat) : Int)) ?_
    refine wpList_nil (block_normal ?_)
    exact ⟨i + (j - i), _, by omega, (((((look_eq (t := 0) (v := .slice s.a s.n s.c) rfl).trans (look_eq (t := 2) (v := .int .i64 ↑m) rfl)).trans (look_eq (t := 4) (v := cv) rfl)).trans (look_eq (t := 10) (v := .int .i64 ↑i) rfl)).trans (look_eq (t := 11) (v := .int .i64 (((j - i) : Nat) : Int)) rfl)), ⟨i, (j - i), P, (R.drop (j - i)), (R.take (j - i)), (L ++ Q), _, _, rfl, rfl, K4, (M1.trans (M4.mono (eq_rg (by omega)))), by rw [List.length_drop]; omega, by rw [List.length_take]; omega, by omega, by omega, by rw [p5, show pre ++ P ++ R ++ L ++ Q ++ post = pre ++ P ++ (R.take (j - i) ++ R.drop (j - i)) ++ L ++ Q ++ post by rw [List.take_append_drop]]; simp [List.append_assoc], by rw [List.length_drop]; omega, by simp only [List.length_append, List.length_take, List.length_drop]; omega, (by have h := hq3; rw [show (pre ++ P) ++ R.drop (j - i) ++ R.take (j - i) ++ L ++ (Q ++ post) = pre ++ P ++ R.drop (j - i) ++ R.take (j - i) ++ (L ++ Q) ++ post from by simp [List.append_assoc]] at h; exact h)⟩⟩

end Go.Proofs.Ytlfanphdnjoofaa
