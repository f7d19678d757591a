/- Walks: stable sorting. -/
import Derived.Test.YtlfanphdnjoofaaT14
namespace Go.Proofs.Ytlfanphdnjoofaa
open Go.RowKit
set_option linter.unusedSimpArgs false
set_option linter.unusedVariables false
attribute [local irreducible] wpList Code.wp Calls OpS wpG

set_option maxRecDepth 100000 in
set_option maxHeartbeats 1000000 in
theorem stableItem_c (s : Sli) (xs : List Item) (t : Nat) (n : Nat) (w : World) (γ : Tg) (hG : Gs t 50 7 Item.cells w γ s xs) (ht : 2 ≤ t) (hn : n = xs.length) (hl : xs.length ≤ 100000) :
    Calls Try.prog 76 #[.slice s.a s.n s.c, .int .i64 ((n : Nat) : Int), .func (.func 55) #[] #[]] w fun ε w' => ∃ (γ' : Tg), ε = .returned (.tuple #[]) ∧ Mv (fun ξ => ξ = t) w γ w' γ' ∧ Gs t 50 7 Item.cells w' γ' s (isort ltItem xs) := by
 have K0 := Kn.start (fun ξ => ξ = t) w γ
 refine W.enter (ws := [(2, .func (.func 55) #[] #[]), (1, .int .i64 ↑n), (0, .slice s.a s.n s.c)]) 63 Try.func76 rfl (by kernel_rfl) ?_
 have n1 := hG.len
 refine wp_seq_k fun k1 hk1 => (wp_region_lit ?_)
 refine Zb 6 (.int .i64 20) ?_
 refine wpList_nil (hk1 _ _ (wp_seq_k fun k2 hk2 => (wp_region_lit ?_)))
 refine Zb 10 (.int .i64 20) ?_
 refine Zb 7 (.int .i64 0) ?_
 refine Zb 8 (.int .i64 20) ?_
 refine wpList_nil (hk2 _ _ (wp_seq_k fun k3 hk3 => (wp_block ?_)))
 refine W.loop (fun (μ0 : Nat) (ws : List (Nat × Value)) (w' : World) => ∃ (a : Nat) (c : Nat) (γ' : Tg) (ρ0 : List (Nat × Value)), μ0 = n - a ∧ ws = ((8, .int .i64 (((a + 20) : Nat) : Int)) :: (7, .int .i64 ↑a) :: (6, .int .i64 20) :: (2, .func (.func 55) #[] #[]) :: (1, .int .i64 ↑n) :: (0, .slice s.a s.n s.c) :: ρ0) ∧ Kn (fun ξ => ξ = t) w γ [] w' γ' ∧ Mv (Rg 1 (t + 1)) w γ w' γ' ∧ (a = 20 * c) ∧ (a ≤ n) ∧ Gs t 50 7 Item.cells w' γ' s (blks ltItem 20 (xs.take a) ++ xs.drop a)) (n - 0) ((((((look_eq (t := 0) (v := .slice s.a s.n s.c) rfl).trans (look_eq (t := 1) (v := .int .i64 ↑n) rfl)).trans (look_eq (t := 2) (v := .func (.func 55) #[] #[]) rfl)).trans (look_eq (t := 6) (v := .int .i64 20) rfl)).trans (look_eq (t := 7) (v := .int .i64 ↑0) rfl)).trans (look_eq (t := 8) (v := .int .i64 (((0 + 20) : Nat) : Int)) rfl)) ?_ ?_
 ·exact ⟨0, 0, _, _, rfl, rfl, K0, Mv.refl _ _ _, rfl, Nat.zero_le _, (by have h := hG; rw [show xs = blks ltItem 20 (xs.take 0) ++ xs.drop 0 from by rw [List.take_zero, blks_nil]; rfl] at h; exact h)⟩
 ·rintro _ _ w1 ⟨a, c, g1, r1, rfl, rfl, K1, M1, p1, p2, h1⟩
  have n2 := h1.len
  refine wp_seq_k fun k4 hk4 => (wp_seq_k fun k5 hk5 => (wp_region_lit ?_))
  refine Zb 11 (.int .i64 (((a + 20) : Nat) : Int)) ?_
  refine Zb 12 (.int .i64 ↑n) ?_
  by_cases t1 : (((a + 20) : Nat) : Int) ≤ ((n : Nat) : Int)
  ·refine Zc 13 (.bool true) (okv (by kernel_rfl) (congrArg Value.bool (decide_eq_true t1))) ?_
   refine wpList_nil (hk5 _ _ (W.cond true rfl (wp_skip (hk4 _ _ (wp_block (wp_seq_k fun k6 hk6 => ?_))))))
   refine wp_region_lit ?_
   refine Zb 14 (.slice s.a s.n s.c) ?_
   refine Zb 15 (.int .i64 ↑a) ?_
   refine Zb 16 (.int .i64 (((a + 20) : Nat) : Int)) ?_
   refine Zb 17 (.func (.func 55) #[] #[]) ?_
   refine W.op (O.call 18 93 #[.slice s.a s.n s.c, .int .i64 ↑a, .int .i64 (((a + 20) : Nat) : Int), .func (.func 55) #[] #[]] (by kernel_rfl) rfl (by kernel_rfl) ((insItem_c s (blks ltItem 20 (xs.take a)) ((xs.drop a).take 20) (xs.drop (a + 20)) t a (a + 20) w1 g1 (by have h := h1; rw [drop_split xs a 20, ← List.append_assoc] at h; exact h) (by omega) (by simp only [blks_length, List.length_take, List.length_drop, List.length_nil]; omega) (by simp only [blks_length, List.length_take, List.length_drop, List.length_nil]; omega) (by simp only [blks_length, List.length_take, List.length_drop, List.length_nil]; omega)).mono ?_))
   rintro e1 w2 ⟨g2, rfl, M2, hq1⟩
   have K2 := K1.step M2 (fun _ h => h) (neq (by omega))
   have n3 := hq1.len
   refine ⟨_, rfl, ?_⟩
   refine wpList_nil (hk6 _ _ (wp_seq_k fun k7 hk7 => (wp_region_lit ?_)))
   refine Zb 19 (.int .i64 (((a + 20) : Nat) : Int)) ?_
   refine Zb 7 (.int .i64 (((a + 20) : Nat) : Int)) ?_
   refine wpList_nil (hk7 _ _ (wp_region_lit ?_))
   refine Zb 20 (.int .i64 (((a + 20) : Nat) : Int)) ?_
   refine Zb 21 (.int .i64 20) ?_
   refine Zc 22 (.int .i64 (((a + 20) + 20 : Nat) : Int)) (okv (v := .int .i64 (IntKind.i64.wrap ((((a + 20) : Nat) : Int) + 20))) (by kernel_rfl) (wrapn (by omega) (by omega))) ?_
   refine Zb 8 (.int .i64 (((a + 20) + 20 : Nat) : Int)) ?_
   refine wpList_nil (block_normal ?_)
   exact ⟨n - (a + 20), _, by omega, ((((((look_eq (t := 0) (v := .slice s.a s.n s.c) rfl).trans (look_eq (t := 1) (v := .int .i64 ↑n) rfl)).trans (look_eq (t := 2) (v := .func (.func 55) #[] #[]) rfl)).trans (look_eq (t := 6) (v := .int .i64 20) rfl)).trans (look_eq (t := 7) (v := .int .i64 (((a + 20) : Nat) : Int)) rfl)).trans (look_eq (t := 8) (v := .int .i64 ((((a + 20) + 20) : Nat) : Int)) rfl)), ⟨(a + 20), (c + 1), _, _, rfl, rfl, K2, (M1.trans (M2.mono (eq_rg (by omega)))), by omega, by omega, (by have h := hq1; rw [← blks_add (by decide) (c := c) (by rw [List.length_take]; omega) (by rw [List.length_take]; omega), ← take_more] at h; exact h)⟩⟩
  ·refine Zc 13 (.bool false) (okv (by kernel_rfl) (congrArg Value.bool (decide_eq_false t1))) ?_
   refine wpList_nil (hk5 _ _ (W.cond false rfl (wp_exit (then_exit (then_exit (block_exit ?_))))))
   refine hk3 _ _ (wp_seq_k fun k8 hk8 => (wp_region_lit ?_))
   refine Zb 23 (.slice s.a s.n s.c) ?_
   refine Zb 24 (.int .i64 ↑a) ?_
   refine Zb 25 (.int .i64 ↑n) ?_
   refine Zb 26 (.func (.func 55) #[] #[]) ?_
   refine W.op (O.call 27 93 #[.slice s.a s.n s.c, .int .i64 ↑a, .int .i64 ↑n, .func (.func 55) #[] #[]] (by kernel_rfl) rfl (by kernel_rfl) ((insItem_c s (blks ltItem 20 (xs.take a)) (xs.drop a) [] t a n w1 g1 (by have h := h1; rw [← List.append_nil (blks ltItem 20 (xs.take a) ++ xs.drop a)] at h; exact h) (by omega) (by simp only [blks_length, List.length_take, List.length_drop, List.length_nil]; omega) (by simp only [blks_length, List.length_take, List.length_drop, List.length_nil]; omega) (by simp only [blks_length, List.length_take, List.length_drop, List.length_nil]; omega)).mono ?_))
   rintro e2 w3 ⟨g3, rfl, M3, hq2⟩
   have K3 := K1.step M3 (fun _ h => h) (neq (by omega))
   have n4 := hq2.len
   refine ⟨_, rfl, ?_⟩
   refine wpList_nil (hk8 _ _ (wp_block ?_))
   refine W.loop (fun (μ0 : Nat) (ws : List (Nat × Value)) (w' : World) => ∃ (bs : Nat) (γ' : Tg) (ρ0 : List (Nat × Value)), μ0 = n - bs ∧ ws = ((6, .int .i64 ↑bs) :: (2, .func (.func 55) #[] #[]) :: (1, .int .i64 ↑n) :: (0, .slice s.a s.n s.c) :: ρ0) ∧ Kn (fun ξ => ξ = t) w γ [] w' γ' ∧ Mv (Rg 1 (t + 1)) w3 g3 w' γ' ∧ (20 ≤ bs) ∧ (bs ≤ 200000) ∧ Gs t 50 7 Item.cells w' γ' s (blks ltItem bs xs)) (n - 20) ((((look_eq (t := 0) (v := .slice s.a s.n s.c) rfl).trans (look_eq (t := 1) (v := .int .i64 ↑n) rfl)).trans (look_eq (t := 2) (v := .func (.func 55) #[] #[]) rfl)).trans (look_eq (t := 6) (v := .int .i64 ↑20) rfl)) ?_ ?_
   ·exact ⟨20, _, _, rfl, rfl, K3, Mv.refl _ _ _, by omega, by omega, (by have h := hq2; rw [← blks_add (by decide) (c := c) (by rw [List.length_take]; omega) (by rw [List.length_drop]; omega), List.take_append_drop, List.append_nil] at h; exact h)⟩
   ·rintro _ _ w4 ⟨bs, g4, r2, rfl, rfl, K4, M4, p3, p4, h2⟩
    have n5 := h2.len
    refine wp_seq_k fun k9 hk9 => (wp_seq_k fun k10 hk10 => (wp_region_lit ?_))
    refine Zb 28 (.int .i64 ↑bs) ?_
    refine Zb 29 (.int .i64 ↑n) ?_
    by_cases t2 : ((bs : Nat) : Int) < ((n : Nat) : Int)
    ·refine Zc 30 (.bool true) (okv (by kernel_rfl) (congrArg Value.bool (decide_eq_true t2))) ?_
     refine wpList_nil (hk10 _ _ (W.cond true rfl (wp_skip (hk9 _ _ (wp_block (wp_seq_k fun k11 hk11 => ?_))))))
     refine wp_region_lit ?_
     refine Zb 31 (.int .i64 ↑bs) ?_
     refine Zc 32 (.int .i64 ((2 * bs : Nat) : Int)) (okv (v := .int .i64 (IntKind.i64.wrap (2 * ((bs : Nat) : Int)))) (by kernel_rfl) (wrapn (by omega) (by omega))) ?_
     refine Zb 7 (.int .i64 0) ?_
     refine Zb 8 (.int .i64 ((2 * bs : Nat) : Int)) ?_
     refine wpList_nil (hk11 _ _ (wp_seq_k fun k12 hk12 => (wp_block ?_)))
     refine W.loop (fun (μ0 : Nat) (ws : List (Nat × Value)) (w' : World) => ∃ (a : Nat) (c : Nat) (γ' : Tg) (ρ0 : List (Nat × Value)), μ0 = n - a ∧ ws = ((8, .int .i64 (((a + 2 * bs) : Nat) : Int)) :: (7, .int .i64 ↑a) :: (6, .int .i64 ↑bs) :: (2, .func (.func 55) #[] #[]) :: (1, .int .i64 ↑n) :: (0, .slice s.a s.n s.c) :: ρ0) ∧ Kn (fun ξ => ξ = t) w γ [] w' γ' ∧ Mv (Rg 1 (t + 1)) w4 g4 w' γ' ∧ (a = (2 * bs) * c) ∧ (a ≤ n) ∧ Gs t 50 7 Item.cells w' γ' s (blks ltItem (2 * bs) (xs.take a) ++ blks ltItem bs (xs.drop a))) (n - 0) ((((((look_eq (t := 0) (v := .slice s.a s.n s.c) rfl).trans (look_eq (t := 1) (v := .int .i64 ↑n) rfl)).trans (look_eq (t := 2) (v := .func (.func 55) #[] #[]) rfl)).trans (look_eq (t := 6) (v := .int .i64 ↑bs) rfl)).trans (look_eq (t := 7) (v := .int .i64 ↑0) rfl)).trans (look_eq (t := 8) (v := .int .i64 (((0 + 2 * bs) : Nat) : Int)) (nat_v (by omega)))) ?_ ?_
     ·exact ⟨0, 0, _, _, rfl, rfl, K4, Mv.refl _ _ _, rfl, Nat.zero_le _, (by have h := h2; rw [show blks ltItem bs xs = blks ltItem (2 * bs) (xs.take 0) ++ blks ltItem bs (xs.drop 0) from by rw [List.take_zero, blks_nil]; rfl] at h; exact h)⟩
     ·rintro _ _ w5 ⟨a, c, g5, r3, rfl, rfl, K5, M5, p5, p6, h3⟩
      have n6 := h3.len
      refine wp_seq_k fun k13 hk13 => (wp_seq_k fun k14 hk14 => (wp_region_lit ?_))
      refine Zb 33 (.int .i64 (((a + 2 * bs) : Nat) : Int)) ?_
      refine Zb 34 (.int .i64 ↑n) ?_
      by_cases t3 : (((a + 2 * bs) : Nat) : Int) ≤ ((n : Nat) : Int)
      ·refine Zc 35 (.bool true) (okv (by kernel_rfl) (congrArg Value.bool (decide_eq_true t3))) ?_
       refine wpList_nil (hk14 _ _ (W.cond true rfl (wp_skip (hk13 _ _ (wp_block (wp_seq_k fun k15 hk15 => ?_))))))
       refine wp_region_lit ?_
       refine Zb 36 (.slice s.a s.n s.c) ?_
       refine Zb 37 (.int .i64 ↑a) ?_
       refine Zb 38 (.int .i64 ↑a) ?_
       refine Zb 39 (.int .i64 ↑bs) ?_
       refine Zc 40 (.int .i64 ((a + bs : Nat) : Int)) (okv (v := .int .i64 (IntKind.i64.wrap (((a : Nat) : Int) + ((bs : Nat) : Int)))) (by kernel_rfl) (wrapn (by omega) (by omega))) ?_
       refine Zb 41 (.int .i64 (((a + 2 * bs) : Nat) : Int)) ?_
       refine Zb 42 (.func (.func 55) #[] #[]) ?_
       refine W.op (O.call 43 94 #[.slice s.a s.n s.c, .int .i64 ↑a, .int .i64 ((a + bs : Nat) : Int), .int .i64 (((a + 2 * bs) : Nat) : Int), .func (.func 55) #[] #[]] (by kernel_rfl) rfl (by kernel_rfl) ((symItem_c s (blks ltItem (2 * bs) (xs.take a)) (isort ltItem ((xs.drop a).take bs)) (isort ltItem (((xs.drop a).drop bs).take bs)) (blks ltItem bs ((xs.drop a).drop (2 * bs))) t a (a + bs) (a + 2 * bs) w5 g5 (by have h := h3; rw [blks_two (l := xs.drop a) (m := bs) (by omega) (by rw [List.length_drop]; omega)] at h; simp only [← List.append_assoc] at h ⊢; exact h) (by omega) (by simp only [blks_length, isort_length, List.length_take, List.length_drop, List.length_nil]; omega) (by simp only [blks_length, isort_length, List.length_take, List.length_drop, List.length_nil]; omega) (by simp only [blks_length, isort_length, List.length_take, List.length_drop, List.length_nil]; omega) (by simp only [blks_length, isort_length, List.length_take, List.length_drop, List.length_nil]; omega) (by simp only [blks_length, isort_length, List.length_take, List.length_drop, List.length_nil]; omega) (isort_srt Lin.item _) (isort_srt Lin.item _) (by simp only [blks_length, isort_length, List.length_take, List.length_drop, List.length_nil]; omega)).mono ?_))
       rintro e3 w6 ⟨g6, rfl, M6, hq3⟩
       have K6 := K5.step M6 (fun _ h => h) (neq (by omega))
       have n7 := hq3.len
       refine ⟨_, rfl, ?_⟩
       refine wpList_nil (hk15 _ _ (wp_seq_k fun k16 hk16 => (wp_region_lit ?_)))
       refine Zb 44 (.int .i64 (((a + 2 * bs) : Nat) : Int)) ?_
       refine Zb 7 (.int .i64 (((a + 2 * bs) : Nat) : Int)) ?_
       refine wpList_nil (hk16 _ _ (wp_region_lit ?_))
       refine Zb 45 (.int .i64 (((a + 2 * bs) : Nat) : Int)) ?_
       refine Zb 46 (.int .i64 ↑bs) ?_
       refine Zc 47 (.int .i64 ((2 * bs : Nat) : Int)) (okv (v := .int .i64 (IntKind.i64.wrap (2 * ((bs : Nat) : Int)))) (by kernel_rfl) (wrapn (by omega) (by omega))) ?_
       refine Zc 48 (.int .i64 (((a + 2 * bs) + (2 * bs) : Nat) : Int)) (okv (v := .int .i64 (IntKind.i64.wrap ((((a + 2 * bs) : Nat) : Int) + ((2 * bs : Nat) : Int)))) (by kernel_rfl) (wrapn (by omega) (by omega))) ?_
       refine Zb 8 (.int .i64 (((a + 2 * bs) + (2 * bs) : Nat) : Int)) ?_
       refine wpList_nil (block_normal ?_)
       exact ⟨n - (a + 2 * bs), _, by omega, ((((((look_eq (t := 0) (v := .slice s.a s.n s.c) rfl).trans (look_eq (t := 1) (v := .int .i64 ↑n) rfl)).trans (look_eq (t := 2) (v := .func (.func 55) #[] #[]) rfl)).trans (look_eq (t := 6) (v := .int .i64 ↑bs) rfl)).trans (look_eq (t := 7) (v := .int .i64 (((a + 2 * bs) : Nat) : Int)) rfl)).trans (look_eq (t := 8) (v := .int .i64 ((((a + 2 * bs) + 2 * bs) : Nat) : Int)) (nat_v (by omega)))), ⟨(a + 2 * bs), (c + 1), _, _, rfl, rfl, K6, (M5.trans (M6.mono (eq_rg (by omega)))), by rw [p5]; exact (Nat.mul_succ _ _).symm, by omega, (by have h := hq3; rw [← isort_append Lin.item, ← take_more, show bs + bs = 2 * bs by omega] at h; rw [← blks_add (by omega) (c := c) (by rw [List.length_take]; have := p5; omega) (by rw [List.length_take]; omega), ← take_more, List.drop_drop] at h; exact h)⟩⟩
      ·refine Zc 35 (.bool false) (okv (by kernel_rfl) (congrArg Value.bool (decide_eq_false t3))) ?_
       refine wpList_nil (hk14 _ _ (W.cond false rfl (wp_exit (then_exit (then_exit (block_exit ?_))))))
       refine hk12 _ _ (wp_seq_k fun k17 hk17 => (wp_seq_k fun k18 hk18 => (wp_region_lit ?_)))
       refine Zb 49 (.int .i64 ↑a) ?_
       refine Zb 50 (.int .i64 ↑bs) ?_
       refine Zc 51 (.int .i64 ((a + bs : Nat) : Int)) (okv (v := .int .i64 (IntKind.i64.wrap (((a : Nat) : Int) + ((bs : Nat) : Int)))) (by kernel_rfl) (wrapn (by omega) (by omega))) ?_
       refine Zb 9 (.int .i64 ((a + bs : Nat) : Int)) ?_
       refine wpList_nil (hk18 _ _ (wp_seq_k fun k19 hk19 => (wp_region_lit ?_)))
       refine Zb 52 (.int .i64 ((a + bs : Nat) : Int)) ?_
       refine Zb 53 (.int .i64 ↑n) ?_
       by_cases t4 : ((a + bs : Nat) : Int) < ((n : Nat) : Int)
       ·refine Zc 54 (.bool true) (okv (by kernel_rfl) (congrArg Value.bool (decide_eq_true t4))) ?_
        refine wpList_nil (hk19 _ _ (W.cond true rfl (wp_region_lit ?_)))
        refine Zb 55 (.slice s.a s.n s.c) ?_
        refine Zb 56 (.int .i64 ↑a) ?_
        refine Zb 57 (.int .i64 ((a + bs : Nat) : Int)) ?_
        refine Zb 58 (.int .i64 ↑n) ?_
        refine Zb 59 (.func (.func 55) #[] #[]) ?_
        refine W.op (O.call 60 94 #[.slice s.a s.n s.c, .int .i64 ↑a, .int .i64 ((a + bs : Nat) : Int), .int .i64 ↑n, .func (.func 55) #[] #[]] (by kernel_rfl) rfl (by kernel_rfl) ((symItem_c s (blks ltItem (2 * bs) (xs.take a)) (isort ltItem ((xs.drop a).take bs)) (isort ltItem ((xs.drop a).drop bs)) [] t a (a + bs) n w5 g5 (by have h := h3; rw [blks_rest (by omega) (l := xs.drop a) (by rw [List.length_drop]; omega) (by rw [List.length_drop]; omega)] at h; rw [List.append_nil, List.append_assoc]; exact h) (by omega) (by simp only [blks_length, isort_length, List.length_take, List.length_drop, List.length_nil]; omega) (by simp only [blks_length, isort_length, List.length_take, List.length_drop, List.length_nil]; omega) (by simp only [blks_length, isort_length, List.length_take, List.length_drop, List.length_nil]; omega) (by simp only [blks_length, isort_length, List.length_take, List.length_drop, List.length_nil]; omega) (by simp only [blks_length, isort_length, List.length_take, List.length_drop, List.length_nil]; omega) (isort_srt Lin.item _) (isort_srt Lin.item _) (by simp only [blks_length, isort_length, List.length_take, List.length_drop, List.length_nil]; omega)).mono ?_))
        rintro e4 w7 ⟨g7, rfl, M7, hq4⟩
        have K7 := K5.step M7 (fun _ h => h) (neq (by omega))
        have n8 := hq4.len
        refine ⟨_, rfl, ?_⟩
        refine wpList_nil (hk17 _ _ (wp_region_lit ?_))
        refine Zb 61 (.int .i64 ↑bs) ?_
        refine Zc 62 (.int .i64 ((bs * 2 : Nat) : Int)) (okv (v := .int .i64 (IntKind.i64.wrap (((bs : Nat) : Int) * 2))) (by kernel_rfl) (wrapn (by omega) (by omega))) ?_
        refine Zb 6 (.int .i64 ((bs * 2 : Nat) : Int)) ?_
        refine wpList_nil (block_normal ?_)
        exact ⟨n - (bs * 2), _, by omega, ((((look_eq (t := 0) (v := .slice s.a s.n s.c) rfl).trans (look_eq (t := 1) (v := .int .i64 ↑n) rfl)).trans (look_eq (t := 2) (v := .func (.func 55) #[] #[]) rfl)).trans (look_eq (t := 6) (v := .int .i64 (((bs * 2) : Nat) : Int)) rfl)), ⟨(bs * 2), _, _, rfl, rfl, K7, ((M4.trans (M5.mono (fun _ h => h))).trans (M7.mono (eq_rg (by omega)))), by omega, by omega, (by have h := hq4; rw [← isort_append Lin.item, List.take_append_drop, List.append_nil] at h; rw [← blks_add (by omega) (c := c) (by rw [List.length_take]; have := p5; omega) (by rw [List.length_drop]; omega), List.take_append_drop, show 2 * bs = bs * 2 by omega] at h; exact h)⟩⟩
       ·refine Zc 54 (.bool false) (okv (by kernel_rfl) (congrArg Value.bool (decide_eq_false t4))) ?_
        refine wpList_nil (hk19 _ _ (W.cond false rfl (wp_skip (hk17 _ _ (wp_region_lit ?_)))))
        refine Zb 61 (.int .i64 ↑bs) ?_
        refine Zc 62 (.int .i64 ((bs * 2 : Nat) : Int)) (okv (v := .int .i64 (IntKind.i64.wrap (((bs : Nat) : Int) * 2))) (by kernel_rfl) (wrapn (by omega) (by omega))) ?_
        refine Zb 6 (.int .i64 ((bs * 2 : Nat) : Int)) ?_
        refine wpList_nil (block_normal ?_)
        exact ⟨n - (bs * 2), _, by omega, ((((look_eq (t := 0) (v := .slice s.a s.n s.c) rfl).trans (look_eq (t := 1) (v := .int .i64 ↑n) rfl)).trans (look_eq (t := 2) (v := .func (.func 55) #[] #[]) rfl)).trans (look_eq (t := 6) (v := .int .i64 (((bs * 2) : Nat) : Int)) rfl)), ⟨(bs * 2), _, _, rfl, rfl, K5, (M4.trans (M5.mono (fun _ h => h))), by omega, by omega, (by have h := h3; rw [blks_le (l := xs.drop a) (by rw [List.length_drop]; omega), ← blks_add (by omega) (c := c) (by rw [List.length_take]; have := p5; omega) (by rw [List.length_drop]; omega), List.take_append_drop, show 2 * bs = bs * 2 by omega] at h; exact h)⟩⟩
    ·refine Zc 30 (.bool false) (okv (by kernel_rfl) (congrArg Value.bool (decide_eq_false t2))) ?_
     refine wpList_nil (hk10 _ _ (W.cond false rfl (wp_exit (then_exit (then_exit (block_exit ?_))))))
     refine W.end0 rfl ?_
     have hG9 := h2
     rw [blks_le (by omega)] at hG9
     exact ⟨_, rfl, K4.mv, hG9⟩

set_option maxRecDepth 100000 in
set_option maxHeartbeats 1000000 in
theorem sortItem_c (s : Sli) (xs : List Item) (t : Nat) (w : World) (γ : Tg) (hG : Gs t 50 7 Item.cells w γ s xs) (ht : 2 ≤ t) (hl : xs.length ≤ 100000) :
    Calls Try.prog 54 #[.slice s.a s.n s.c, .func (.func 55) #[] #[]] w fun ε w' => ∃ (γ' : Tg), ε = .returned (.tuple #[]) ∧ Mv (fun ξ => ξ = t) w γ w' γ' ∧ Gs t 50 7 Item.cells w' γ' s (isort ltItem xs) := by
 have K0 := Kn.start (fun ξ => ξ = t) w γ
 refine W.enter (ws := [(1, .func (.func 55) #[] #[]), (0, .slice s.a s.n s.c)]) 9 Try.func54 rfl (by kernel_rfl) ?_
 have n1 := hG.len
 refine wp_region_lit ?_
 refine Zb 4 (.slice s.a s.n s.c) ?_
 refine Zb 5 (.slice s.a s.n s.c) ?_
 refine Zb 6 (.int .i64 (s.n : Int)) ?_
 refine Zb 7 (.func (.func 55) #[] #[]) ?_
 refine W.op (O.call 8 76 #[.slice s.a s.n s.c, .int .i64 (s.n : Int), .func (.func 55) #[] #[]] (by kernel_rfl) rfl (by kernel_rfl) ((stableItem_c s xs t s.n w γ hG (by omega) hG.len hl).mono ?_))
 rintro e1 w1 ⟨g1, rfl, M1, hq1⟩
 have K1 := K0.step M1 (fun _ h => h) (neq (by omega))
 have n2 := hq1.len
 refine ⟨_, rfl, ?_⟩
 refine wpList_nil ?_
 refine W.end0 rfl ?_
 exact ⟨_, rfl, K1.mv, hq1⟩

set_option maxRecDepth 100000 in
set_option maxHeartbeats 1000000 in
theorem stableRtd_c (s : Sli) (xs : List Rtd) (t : Nat) (n : Nat) (w : World) (γ : Tg) (hG : Gs t 146 3 Rtd.cells w γ s xs) (ht : 2 ≤ t) (hn : n = xs.length) (hl : xs.length ≤ 100000) :
    Calls Try.prog 86 #[.slice s.a s.n s.c, .int .i64 ((n : Nat) : Int), .func (.func 69) #[] #[]] w fun ε w' => ∃ (γ' : Tg), ε = .returned (.tuple #[]) ∧ Mv (fun ξ => ξ = t) w γ w' γ' ∧ Gs t 146 3 Rtd.cells w' γ' s (isort ltRtd xs) := by
 have K0 := Kn.start (fun ξ => ξ = t) w γ
 refine W.enter (ws := [(2, .func (.func 69) #[] #[]), (1, .int .i64 ↑n), (0, .slice s.a s.n s.c)]) 63 Try.func86 rfl (by kernel_rfl) ?_
 have n1 := hG.len
 refine wp_seq_k fun k1 hk1 => (wp_region_lit ?_)
 refine Zb 6 (.int .i64 20) ?_
 refine wpList_nil (hk1 _ _ (wp_seq_k fun k2 hk2 => (wp_region_lit ?_)))
 refine Zb 10 (.int .i64 20) ?_
 refine Zb 7 (.int .i64 0) ?_
 refine Zb 8 (.int .i64 20) ?_
 refine wpList_nil (hk2 _ _ (wp_seq_k fun k3 hk3 => (wp_block ?_)))
 refine W.loop (fun (μ0 : Nat) (ws : List (Nat × Value)) (w' : World) => ∃ (a : Nat) (c : Nat) (γ' : Tg) (ρ0 : List (Nat × Value)), μ0 = n - a ∧ ws = ((8, .int .i64 (((a + 20) : Nat) : Int)) :: (7, .int .i64 ↑a) :: (6, .int .i64 20) :: (2, .func (.func 69) #[] #[]) :: (1, .int .i64 ↑n) :: (0, .slice s.a s.n s.c) :: ρ0) ∧ Kn (fun ξ => ξ = t) w γ [] w' γ' ∧ Mv (Rg 1 (t + 1)) w γ w' γ' ∧ (a = 20 * c) ∧ (a ≤ n) ∧ Gs t 146 3 Rtd.cells w' γ' s (blks ltRtd 20 (xs.take a) ++ xs.drop a)) (n - 0) ((((((look_eq (t := 0) (v := .slice s.a s.n s.c) rfl).trans (look_eq (t := 1) (v := .int .i64 ↑n) rfl)).trans (look_eq (t := 2) (v := .func (.func 69) #[] #[]) rfl)).trans (look_eq (t := 6) (v := .int .i64 20) rfl)).trans (look_eq (t := 7) (v := .int .i64 ↑0) rfl)).trans (look_eq (t := 8) (v := .int .i64 (((0 + 20) : Nat) : Int)) rfl)) ?_ ?_
 ·exact ⟨0, 0, _, _, rfl, rfl, K0, Mv.refl _ _ _, rfl, Nat.zero_le _, (by have h := hG; rw [show xs = blks ltRtd 20 (xs.take 0) ++ xs.drop 0 from by rw [List.take_zero, blks_nil]; rfl] at h; exact h)⟩
 ·rintro _ _ w1 ⟨a, c, g1, r1, rfl, rfl, K1, M1, p1, p2, h1⟩
  have n2 := h1.len
  refine wp_seq_k fun k4 hk4 => (wp_seq_k fun k5 hk5 => (wp_region_lit ?_))
  refine Zb 11 (.int .i64 (((a + 20) : Nat) : Int)) ?_
  refine Zb 12 (.int .i64 ↑n) ?_
  by_cases t1 : (((a + 20) : Nat) : Int) ≤ ((n : Nat) : Int)
  ·refine Zc 13 (.bool true) (okv (by kernel_rfl) (congrArg Value.bool (decide_eq_true t1))) ?_
   refine wpList_nil (hk5 _ _ (W.cond true rfl (wp_skip (hk4 _ _ (wp_block (wp_seq_k fun k6 hk6 => ?_))))))
   refine wp_region_lit ?_
   refine Zb 14 (.slice s.a s.n s.c) ?_
   refine Zb 15 (.int .i64 ↑a) ?_
   refine Zb 16 (.int .i64 (((a + 20) : Nat) : Int)) ?_
   refine Zb 17 (.func (.func 69) #[] #[]) ?_
   refine W.op (O.call 18 100 #[.slice s.a s.n s.c, .int .i64 ↑a, .int .i64 (((a + 20) : Nat) : Int), .func (.func 69) #[] #[]] (by kernel_rfl) rfl (by kernel_rfl) ((insRtd_c s (blks ltRtd 20 (xs.take a)) ((xs.drop a).take 20) (xs.drop (a + 20)) t a (a + 20) w1 g1 (by have h := h1; rw [drop_split xs a 20, ← List.append_assoc] at h; exact h) (by omega) (by simp only [blks_length, List.length_take, List.length_drop, List.length_nil]; omega) (by simp only [blks_length, List.length_take, List.length_drop, List.length_nil]; omega) (by simp only [blks_length, List.length_take, List.length_drop, List.length_nil]; omega)).mono ?_))
   rintro e1 w2 ⟨g2, rfl, M2, hq1⟩
   have K2 := K1.step M2 (fun _ h => h) (neq (by omega))
   have n3 := hq1.len
   refine ⟨_, rfl, ?_⟩
   refine wpList_nil (hk6 _ _ (wp_seq_k fun k7 hk7 => (wp_region_lit ?_)))
   refine Zb 19 (.int .i64 (((a + 20) : Nat) : Int)) ?_
   refine Zb 7 (.int .i64 (((a + 20) : Nat) : Int)) ?_
   refine wpList_nil (hk7 _ _ (wp_region_lit ?_))
   refine Zb 20 (.int .i64 (((a + 20) : Nat) : Int)) ?_
   refine Zb 21 (.int .i64 20) ?_
   refine Zc 22 (.int .i64 (((a + 20) + 20 : Nat) : Int)) (okv (v := .int .i64 (IntKind.i64.wrap ((((a + 20) : Nat) : Int) + 20))) (by kernel_rfl) (wrapn (by omega) (by omega))) ?_
   refine Zb 8 (.int .i64 (((a + 20) + 20 : Nat) : Int)) ?_
   refine wpList_nil (block_normal ?_)
   exact ⟨n - (a + 20), _, by omega, ((((((look_eq (t := 0) (v := .slice s.a s.n s.c) rfl).trans (look_eq (t := 1) (v := .int .i64 ↑n) rfl)).trans (look_eq (t := 2) (v := .func (.func 69) #[] #[]) rfl)).trans (look_eq (t := 6) (v := .int .i64 20) rfl)).trans (look_eq (t := 7) (v := .int .i64 (((a + 20) : Nat) : Int)) rfl)).trans (look_eq (t := 8) (v := .int .i64 ((((a + 20) + 20) : Nat) : Int)) rfl)), ⟨(a + 20), (c + 1), _, _, rfl, rfl, K2, (M1.trans (M2.mono (eq_rg (by omega)))), by omega, by omega, (by have h := hq1; rw [← blks_add (by decide) (c := c) (by rw [List.length_take]; omega) (by rw [List.length_take]; omega), ← take_more] at h; exact h)⟩⟩
  ·refine Zc 13 (.bool false) (okv (by kernel_rfl) (congrArg Value.bool (decide_eq_false t1))) ?_
   refine wpList_nil (hk5 _ _ (W.cond false rfl (wp_exit (then_exit (then_exit (block_exit ?_))))))
   refine hk3 _ _ (wp_seq_k fun k8 hk8 => (wp_region_lit ?_))
   refine Zb 23 (.slice s.a s.n s.c) ?_
   refine Zb 24 (.int .i64 ↑a) ?_
   refine Zb 25 (.int .i64 ↑n) ?_
   refine Zb 26 (.func (.func 69) #[] #[]) ?_
   refine W.op (O.call 27 100 #[.slice s.a s.n s.c, .int .i64 ↑a, .int .i64 ↑n, .func (.func 69) #[] #[]] (by kernel_rfl) rfl (by kernel_rfl) ((insRtd_c s (blks ltRtd 20 (xs.take a)) (xs.drop a) [] t a n w1 g1 (by have h := h1; rw [← List.append_nil (blks ltRtd 20 (xs.take a) ++ xs.drop a)] at h; exact h) (by omega) (by simp only [blks_length, List.length_take, List.length_drop, List.length_nil]; omega) (by simp only [blks_length, List.length_take, List.length_drop, List.length_nil]; omega) (by simp only [blks_length, List.length_take, List.length_drop, List.length_nil]; omega)).mono ?_))
   rintro e2 w3 ⟨g3, rfl, M3, hq2⟩
   have K3 := K1.step M3 (fun _ h => h) (neq (by omega))
   have n4 := hq2.len
   refine ⟨_, rfl, ?_⟩
   refine wpList_nil (hk8 _ _ (wp_block ?_))
   refine W.loop (fun (μ0 : Nat) (ws : List (Nat × Value)) (w' : World) => ∃ (bs : Nat) (γ' : Tg) (ρ0 : List (Nat × Value)), μ0 = n - bs ∧ ws = ((6, .int .i64 ↑bs) :: (2, .func (.func 69) #[] #[]) :: (1, .int .i64 ↑n) :: (0, .slice s.a s.n s.c) :: ρ0) ∧ Kn (fun ξ => ξ = t) w γ [] w' γ' ∧ Mv (Rg 1 (t + 1)) w3 g3 w' γ' ∧ (20 ≤ bs) ∧ (bs ≤ 200000) ∧ Gs t 146 3 Rtd.cells w' γ' s (blks ltRtd bs xs)) (n - 20) ((((look_eq (t := 0) (v := .slice s.a s.n s.c) rfl).trans (look_eq (t := 1) (v := .int .i64 ↑n) rfl)).trans (look_eq (t := 2) (v := .func (.func 69) #[] #[]) rfl)).trans (look_eq (t := 6) (v := .int .i64 ↑20) rfl)) ?_ ?_
   ·exact ⟨20, _, _, rfl, rfl, K3, Mv.refl _ _ _, by omega, by omega, (by have h := hq2; rw [← blks_add (by decide) (c := c) (by rw [List.length_take]; omega) (by rw [List.length_drop]; omega), List.take_append_drop, List.append_nil] at h; exact h)⟩
   ·rintro _ _ w4 ⟨bs, g4, r2, rfl, rfl, K4, M4, p3, p4, h2⟩
    have n5 := h2.len
    refine wp_seq_k fun k9 hk9 => (wp_seq_k fun k10 hk10 => (wp_region_lit ?_))
    refine Zb 28 (.int .i64 ↑bs) ?_
    refine Zb 29 (.int .i64 ↑n) ?_
    by_cases t2 : ((bs : Nat) : Int) < ((n : Nat) : Int)
    ·refine Zc 30 (.bool true) (okv (by kernel_rfl) (congrArg Value.bool (decide_eq_true t2))) ?_
     refine wpList_nil (hk10 _ _ (W.cond true rfl (wp_skip (hk9 _ _ (wp_block (wp_seq_k fun k11 hk11 => ?_))))))
     refine wp_region_lit ?_
     refine Zb 31 (.int .i64 ↑bs) ?_
     refine Zc 32 (.int .i64 ((2 * bs : Nat) : Int)) (okv (v := .int .i64 (IntKind.i64.wrap (2 * ((bs : Nat) : Int)))) (by kernel_rfl) (wrapn (by omega) (by omega))) ?_
     refine Zb 7 (.int .i64 0) ?_
     refine Zb 8 (.int .i64 ((2 * bs : Nat) : Int)) ?_
     refine wpList_nil (hk11 _ _ (wp_seq_k fun k12 hk12 => (wp_block ?_)))
     refine W.loop (fun (μ0 : Nat) (ws : List (Nat × Value)) (w' : World) => ∃ (a : Nat) (c : Nat) (γ' : Tg) (ρ0 : List (Nat × Value)), μ0 = n - a ∧ ws = ((8, .int .i64 (((a + 2 * bs) : Nat) : Int)) :: (7, .int .i64 ↑a) :: (6, .int .i64 ↑bs) :: (2, .func (.func 69) #[] #[]) :: (1, .int .i64 ↑n) :: (0, .slice s.a s.n s.c) :: ρ0) ∧ Kn (fun ξ => ξ = t) w γ [] w' γ' ∧ Mv (Rg 1 (t + 1)) w4 g4 w' γ' ∧ (a = (2 * bs) * c) ∧ (a ≤ n) ∧ Gs t 146 3 Rtd.cells w' γ' s (blks ltRtd (2 * bs) (xs.take a) ++ blks ltRtd bs (xs.drop a))) (n - 0) ((((((look_eq (t := 0) (v := .slice s.a s.n s.c) rfl).trans (look_eq (t := 1) (v := .int .i64 ↑n) rfl)).trans (look_eq (t := 2) (v := .func (.func 69) #[] #[]) rfl)).trans (look_eq (t := 6) (v := .int .i64 ↑bs) rfl)).trans (look_eq (t := 7) (v := .int .i64 ↑0) rfl)).trans (look_eq (t := 8) (v := .int .i64 (((0 + 2 * bs) : Nat) : Int)) (nat_v (by omega)))) ?_ ?_
     ·exact ⟨0, 0, _, _, rfl, rfl, K4, Mv.refl _ _ _, rfl, Nat.zero_le _, (by have h := h2; rw [show blks ltRtd bs xs = blks ltRtd (2 * bs) (xs.take 0) ++ blks ltRtd bs (xs.drop 0) from by rw [List.take_zero, blks_nil]; rfl] at h; exact h)⟩
     ·rintro _ _ w5 ⟨a, c, g5, r3, rfl, rfl, K5, M5, p5, p6, h3⟩
      have n6 := h3.len
      refine wp_seq_k fun k13 hk13 => (wp_seq_k fun k14 hk14 => (wp_region_lit ?_))
      refine Zb 33 (.int .i64 (((a + 2 * bs) : Nat) : Int)) ?_
      refine Zb 34 (.int .i64 ↑n) ?_
      by_cases t3 : (((a + 2 * bs) : Nat) : Int) ≤ ((n : Nat) : Int)
      ·refine Zc 35 (.bool true) (okv (by kernel_rfl) (congrArg Value.bool (decide_eq_true t3))) ?_
       refine wpList_nil (hk14 _ _ (W.cond true rfl (wp_skip (hk13 _ _ (wp_block (wp_seq_k fun k15 hk15 => ?_))))))
       refine wp_region_lit ?_
       refine Zb 36 (.slice s.a s.n s.c) ?_
       refine Zb 37 (.int .i64 ↑a) ?_
       refine Zb 38 (.int .i64 ↑a) ?_
       refine Zb 39 (.int .i64 ↑bs) ?_
       refine Zc 40 (.int .i64 ((a + bs : Nat) : Int)) (okv (v := .int .i64 (IntKind.i64.wrap (((a : Nat) : Int) + ((bs : Nat) : Int)))) (by kernel_rfl) (wrapn (by omega) (by omega))) ?_
       refine Zb 41 (.int .i64 (((a + 2 * bs) : Nat) : Int)) ?_
       refine Zb 42 (.func (.func 69) #[] #[]) ?_
       refine W.op (O.call 43 101 #[.slice s.a s.n s.c, .int .i64 ↑a, .int .i64 ((a + bs : Nat) : Int), .int .i64 (((a + 2 * bs) : Nat) : Int), .func (.func 69) #[] #[]] (by kernel_rfl) rfl (by kernel_rfl) ((symRtd_c s (blks ltRtd (2 * bs) (xs.take a)) (isort ltRtd ((xs.drop a).take bs)) (isort ltRtd (((xs.drop a).drop bs).take bs)) (blks ltRtd bs ((xs.drop a).drop (2 * bs))) t a (a + bs) (a + 2 * bs) w5 g5 (by have h := h3; rw [blks_two (l := xs.drop a) (m := bs) (by omega) (by rw [List.length_drop]; omega)] at h; simp only [← List.append_assoc] at h ⊢; exact h) (by omega) (by simp only [blks_length, isort_length, List.length_take, List.length_drop, List.length_nil]; omega) (by simp only [blks_length, isort_length, List.length_take, List.length_drop, List.length_nil]; omega) (by simp only [blks_length, isort_length, List.length_take, List.length_drop, List.length_nil]; omega) (by simp only [blks_length, isort_length, List.length_take, List.length_drop, List.length_nil]; omega) (by simp only [blks_length, isort_length, List.length_take, List.length_drop, List.length_nil]; omega) (isort_srt Lin.rtd _) (isort_srt Lin.rtd _) (by simp only [blks_length, isort_length, List.length_take, List.length_drop, List.length_nil]; omega)).mono ?_))
       rintro e3 w6 ⟨g6, rfl, M6, hq3⟩
       have K6 := K5.step M6 (fun _ h => h) (neq (by omega))
       have n7 := hq3.len
       refine ⟨_, rfl, ?_⟩
       refine wpList_nil (hk15 _ _ (wp_seq_k fun k16 hk16 => (wp_region_lit ?_)))
       refine Zb 44 (.int .i64 (((a + 2 * bs) : Nat) : Int)) ?_
       refine Zb 7 (.int .i64 (((a + 2 * bs) : Nat) : Int)) ?_
       refine wpList_nil (hk16 _ _ (wp_region_lit ?_))
       refine Zb 45 (.int .i64 (((a + 2 * bs) : Nat) : Int)) ?_
       refine Zb 46 (.int .i64 ↑bs) ?_
       refine Zc 47 (.int .i64 ((2 * bs : Nat) : Int)) (okv (v := .int .i64 (IntKind.i64.wrap (2 * ((bs : Nat) : Int)))) (by kernel_rfl) (wrapn (by omega) (by omega))) ?_
       refine Zc 48 (.int .i64 (((a + 2 * bs) + (2 * bs) : Nat) : Int)) (okv (v := .int .i64 (IntKind.i64.wrap ((((a + 2 * bs) : Nat) : Int) + ((2 * bs : Nat) : Int)))) (by kernel_rfl) (wrapn (by omega) (by omega))) ?_
       refine Zb 8 (.int .i64 (((a + 2 * bs) + (2 * bs) : Nat) : Int)) ?_
       refine wpList_nil (block_normal ?_)
       exact ⟨n - (a + 2 * bs), _, by omega, ((((((look_eq (t := 0) (v := .slice s.a s.n s.c) rfl).trans (look_eq (t := 1) (v := .int .i64 ↑n) rfl)).trans (look_eq (t := 2) (v := .func (.func 69) #[] #[]) rfl)).trans (look_eq (t := 6) (v := .int .i64 ↑bs) rfl)).trans (look_eq (t := 7) (v := .int .i64 (((a + 2 * bs) : Nat) : Int)) rfl)).trans (look_eq (t := 8) (v := .int .i64 ((((a + 2 * bs) + 2 * bs) : Nat) : Int)) (nat_v (by omega)))), ⟨(a + 2 * bs), (c + 1), _, _, rfl, rfl, K6, (M5.trans (M6.mono (eq_rg (by omega)))), by rw [p5]; exact (Nat.mul_succ _ _).symm, by omega, (by have h := hq3; rw [← isort_append Lin.rtd, ← take_more, show bs + bs = 2 * bs by omega] at h; rw [← blks_add (by omega) (c := c) (by rw [List.length_take]; have := p5; omega) (by rw [List.length_take]; omega), ← take_more, List.drop_drop] at h; exact h)⟩⟩
      ·refine Zc 35 (.bool false) (okv (by kernel_rfl) (congrArg Value.bool (decide_eq_false t3))) ?_
       refine wpList_nil (hk14 _ _ (W.cond false rfl (wp_exit (then_exit (then_exit (block_exit ?_))))))
       refine hk12 _ _ (wp_seq_k fun k17 hk17 => (wp_seq_k fun k18 hk18 => (wp_region_lit ?_)))
       refine Zb 49 (.int .i64 ↑a) ?_
       refine Zb 50 (.int .i64 ↑bs) ?_
       refine Zc 51 (.int .i64 ((a + bs : Nat) : Int)) (okv (v := .int .i64 (IntKind.i64.wrap (((a : Nat) : Int) + ((bs : Nat) : Int)))) (by kernel_rfl) (wrapn (by omega) (by omega))) ?_
       refine Zb 9 (.int .i64 ((a + bs : Nat) : Int)) ?_
       refine wpList_nil (hk18 _ _ (wp_seq_k fun k19 hk19 => (wp_region_lit ?_)))
       refine Zb 52 (.int .i64 ((a + bs : Nat) : Int)) ?_
       refine Zb 53 (.int .i64 ↑n) ?_
       by_cases t4 : ((a + bs : Nat) : Int) < ((n : Nat) : Int)
       ·refine Zc 54 (.bool true) (okv (by kernel_rfl) (congrArg Value.bool (decide_eq_true t4))) ?_
        refine wpList_nil (hk19 _ _ (W.cond true rfl (wp_region_lit ?_)))
        refine Zb 55 (.slice s.a s.n s.c) ?_
        refine Zb 56 (.int .i64 ↑a) ?_
        refine Zb 57 (.int .i64 ((a + bs : Nat) : Int)) ?_
        refine Zb 58 (.int .i64 ↑n) ?_
        refine Zb 59 (.func (.func 69) #[] #[]) ?_
        refine W.op (O.call 60 101 #[.slice s.a s.n s.c, .int .i64 ↑a, .int .i64 ((a + bs : Nat) : Int), .int .i64 ↑n, .func (.func 69) #[] #[]] (by kernel_rfl) rfl (by kernel_rfl) ((symRtd_c s (blks ltRtd (2 * bs) (xs.take a)) (isort ltRtd ((xs.drop a).take bs)) (isort ltRtd ((xs.drop a).drop bs)) [] t a (a + bs) n w5 g5 (by have h := h3; rw [blks_rest (by omega) (l := xs.drop a) (by rw [List.length_drop]; omega) (by rw [List.length_drop]; omega)] at h; rw [List.append_nil, List.append_assoc]; exact h) (by omega) (by simp only [blks_length, isort_length, List.length_take, List.length_drop, List.length_nil]; omega) (by simp only [blks_length, isort_length, List.length_take, List.length_drop, List.length_nil]; omega) (by simp only [blks_length, isort_length, List.length_take, List.length_drop, List.length_nil]; omega) (by simp only [blks_length, isort_length, List.length_take, List.length_drop, List.length_nil]; omega) (by simp only [blks_length, isort_length, List.length_take, List.length_drop, List.length_nil]; omega) (isort_srt Lin.rtd _) (isort_srt Lin.rtd _) (by simp only [blks_length, isort_length, List.length_take, List.length_drop, List.length_nil]; omega)).mono ?_))
        rintro e4 w7 ⟨g7, rfl, M7, hq4⟩
        have K7 := K5.step M7 (fun _ h => h) (neq (by omega))
        have n8 := hq4.len
        refine ⟨_, rfl, ?_⟩
        refine wpList_nil (hk17 _ _ (wp_region_lit ?_))
        refine Zb 61 (.int .i64 ↑bs) ?_
        refine Zc 62 (.int .i64 ((bs * 2 : Nat) : Int)) (okv (v := .int .i64 (IntKind.i64.wrap (((bs : Nat) : Int) * 2))) (by kernel_rfl) (wrapn (by omega) (by omega))) ?_
        refine Zb 6 (.int .i64 ((bs * 2 : Nat) : Int)) ?_
        refine wpList_nil (block_normal ?_)
        exact ⟨n - (bs * 2), _, by omega, ((((look_eq (t := 0) (v := .slice s.a s.n s.c) rfl).trans (look_eq (t := 1) (v := .int .i64 ↑n) rfl)).trans (look_eq (t := 2) (v := .func (.func 69) #[] #[]) rfl)).trans (look_eq (t := 6) (v := .int .i64 (((bs * 2) : Nat) : Int)) rfl)), ⟨(bs * 2), _, _, rfl, rfl, K7, ((M4.trans (M5.mono (fun _ h => h))).trans (M7.mono (eq_rg (by omega)))), by omega, by omega, (by have h := hq4; rw [← isort_append Lin.rtd, List.take_append_drop, List.append_nil] at h; rw [← blks_add (by omega) (c := c) (by rw [List.length_take]; have := p5; omega) (by rw [List.length_drop]; omega), List.take_append_drop, show 2 * bs = bs * 2 by omega] at h; exact h)⟩⟩
       ·refine Zc 54 (.bool false) (okv (by kernel_rfl) (congrArg Value.bool (decide_eq_false t4))) ?_
        refine wpList_nil (hk19 _ _ (W.cond false rfl (wp_skip (hk17 _ _ (wp_region_lit ?_)))))
        refine Zb 61 (.int .i64 ↑bs) ?_
        refine Zc 62 (.int .i64 ((bs * 2 : Nat) : Int)) (okv (v := .int .i64 (IntKind.i64.wrap (((bs : Nat) : Int) * 2))) (by kernel_rfl) (wrapn (by omega) (by omega))) ?_
        refine Zb 6 (.int .i64 ((bs * 2 : Nat) : Int)) ?_
        refine wpList_nil (block_normal ?_)
        exact ⟨n - (bs * 2), _, by omega, ((((look_eq (t := 0) (v := .slice s.a s.n s.c) rfl).trans (look_eq (t := 1) (v := .int .i64 ↑n) rfl)).trans (look_eq (t := 2) (v := .func (.func 69) #[] #[]) rfl)).trans (look_eq (t := 6) (v := .int .i64 (((bs * 2) : Nat) : Int)) rfl)), ⟨(bs * 2), _, _, rfl, rfl, K5, (M4.trans (M5.mono (fun _ h => h))), by omega, by omega, (by have h := h3; rw [blks_le (l := xs.drop a) (by rw [List.length_drop]; omega), ← blks_add (by omega) (c := c) (by rw [List.length_take]; have := p5; omega) (by rw [List.length_drop]; omega), List.take_append_drop, show 2 * bs = bs * 2 by omega] at h; exact h)⟩⟩
    ·refine Zc 30 (.bool false) (okv (by kernel_rfl) (congrArg Value.bool (decide_eq_false t2))) ?_
     refine wpList_nil (hk10 _ _ (W.cond false rfl (wp_exit (then_exit (then_exit (block_exit ?_))))))
     refine W.end0 rfl ?_
     have hG9 := h2
     rw [blks_le (by omega)] at hG9
     exact ⟨_, rfl, K4.mv, hG9⟩

set_option maxRecDepth 100000 in
set_option maxHeartbeats 1000000 in
theorem sortRtd_c (s : Sli) (xs : List Rtd) (t : Nat) (w : World) (γ : Tg) (hG : Gs t 146 3 Rtd.cells w γ s xs) (ht : 2 ≤ t) (hl : xs.length ≤ 100000) :
    Calls Try.prog 68 #[.slice s.a s.n s.c, .func (.func 69) #[] #[]] w fun ε w' => ∃ (γ' : Tg), ε = .returned (.tuple #[]) ∧ Mv (fun ξ => ξ = t) w γ w' γ' ∧ Gs t 146 3 Rtd.cells w' γ' s (isort ltRtd xs) := by
 have K0 := Kn.start (fun ξ => ξ = t) w γ
 refine W.enter (ws := [(1, .func (.func 69) #[] #[]), (0, .slice s.a s.n s.c)]) 9 Try.func68 rfl (by kernel_rfl) ?_
 have n1 := hG.len
 refine wp_region_lit ?_
 refine Zb 4 (.slice s.a s.n s.c) ?_
 refine Zb 5 (.slice s.a s.n s.c) ?_
 refine Zb 6 (.int .i64 (s.n : Int)) ?_
 refine Zb 7 (.func (.func 69) #[] #[]) ?_
 refine W.op (O.call 8 86 #[.slice s.a s.n s.c, .int .i64 (s.n : Int), .func (.func 69) #[] #[]] (by kernel_rfl) rfl (by kernel_rfl) ((stableRtd_c s xs t s.n w γ hG (by omega) hG.len hl).mono ?_))
 rintro e1 w1 ⟨g1, rfl, M1, hq1⟩
 have K1 := K0.step M1 (fun _ h => h) (neq (by omega))
 have n2 := hq1.len
 refine ⟨_, rfl, ?_⟩
 refine wpList_nil ?_
 refine W.end0 rfl ?_
 exact ⟨_, rfl, K1.mv, hq1⟩

set_option maxRecDepth 100000 in
set_option maxHeartbeats 1000000 in
theorem stableEdit_c (s : Sli) (xs : List Edit) (t : Nat) (n : Nat) (cb : Nat) (l : Nat) (w : World) (γ : Tg) (hG : Gs t 55 8 Edit.cells w γ s xs) (ht : 2 ≤ t) (hn : n = xs.length) (hl : xs.length ≤ 100000) (hlv : Cl 0 w γ cb 0 (.int .i64 ((l : Nat) : Int))) (hok : ∀ e ∈ xs, e.it.key.size < 9223372036854775807) :
    Calls Try.prog 105 #[.slice s.a s.n s.c, .int .i64 ((n : Nat) : Int), .func (.func 98) #[] #[.pointer (some ⟨cb, 0, none⟩)]] w fun ε w' => ∃ (γ' : Tg), ε = .returned (.tuple #[]) ∧ Mv (fun ξ => ξ = t) w γ w' γ' ∧ Gs t 55 8 Edit.cells w' γ' s (isort (ltEdit l) xs) := by
 have K0 := Kn.start (fun ξ => ξ = t) w γ
 refine W.enter (ws := [(2, .func (.func 98) #[] #[.pointer (some ⟨cb, 0, none⟩)]), (1, .int .i64 ↑n), (0, .slice s.a s.n s.c)]) 63 Try.func105 rfl (by kernel_rfl) ?_
 have n1 := hG.len
 refine wp_seq_k fun k1 hk1 => (wp_region_lit ?_)
 refine Zb 6 (.int .i64 20) ?_
 refine wpList_nil (hk1 _ _ (wp_seq_k fun k2 hk2 => (wp_region_lit ?_)))
 refine Zb 10 (.int .i64 20) ?_
 refine Zb 7 (.int .i64 0) ?_
 refine Zb 8 (.int .i64 20) ?_
 refine wpList_nil (hk2 _ _ (wp_seq_k fun k3 hk3 => (wp_block ?_)))
 refine W.loop (fun (μ0 : Nat) (ws : List (Nat × Value)) (w' : World) => ∃ (a : Nat) (c : Nat) (γ' : Tg) (ρ0 : List (Nat × Value)), μ0 = n - a ∧ ws = ((8, .int .i64 (((a + 20) : Nat) : Int)) :: (7, .int .i64 ↑a) :: (6, .int .i64 20) :: (2, .func (.func 98) #[] #[.pointer (some ⟨cb, 0, none⟩)]) :: (1, .int .i64 ↑n) :: (0, .slice s.a s.n s.c) :: ρ0) ∧ Kn (fun ξ => ξ = t) w γ [] w' γ' ∧ Mv (Rg 1 (t + 1)) w γ w' γ' ∧ (a = 20 * c) ∧ (a ≤ n) ∧ Gs t 55 8 Edit.cells w' γ' s (blks (ltEdit l) 20 (xs.take a) ++ xs.drop a) ∧ Cl 0 w' γ' cb 0 (.int .i64 ↑l)) (n - 0) ((((((look_eq (t := 0) (v := .slice s.a s.n s.c) rfl).trans (look_eq (t := 1) (v := .int .i64 ↑n) rfl)).trans (look_eq (t := 2) (v := .func (.func 98) #[] #[.pointer (some ⟨cb, 0, none⟩)]) rfl)).trans (look_eq (t := 6) (v := .int .i64 20) rfl)).trans (look_eq (t := 7) (v := .int .i64 ↑0) rfl)).trans (look_eq (t := 8) (v := .int .i64 (((0 + 20) : Nat) : Int)) rfl)) ?_ ?_
 ·exact ⟨0, 0, _, _, rfl, rfl, K0, Mv.refl _ _ _, rfl, Nat.zero_le _, (by have h := hG; rw [show xs = blks (ltEdit l) 20 (xs.take 0) ++ xs.drop 0 from by rw [List.take_zero, blks_nil]; rfl] at h; exact h), hlv⟩
 ·rintro _ _ w1 ⟨a, c, g1, r1, rfl, rfl, K1, M1, p1, p2, h1, h2⟩
  have n2 := h1.len
  refine wp_seq_k fun k4 hk4 => (wp_seq_k fun k5 hk5 => (wp_region_lit ?_))
  refine Zb 11 (.int .i64 (((a + 20) : Nat) : Int)) ?_
  refine Zb 12 (.int .i64 ↑n) ?_
  by_cases t1 : (((a + 20) : Nat) : Int) ≤ ((n : Nat) : Int)
  ·refine Zc 13 (.bool true) (okv (by kernel_rfl) (congrArg Value.bool (decide_eq_true t1))) ?_
   refine wpList_nil (hk5 _ _ (W.cond true rfl (wp_skip (hk4 _ _ (wp_block (wp_seq_k fun k6 hk6 => ?_))))))
   refine wp_region_lit ?_
   refine Zb 14 (.slice s.a s.n s.c) ?_
   refine Zb 15 (.int .i64 ↑a) ?_
   refine Zb 16 (.int .i64 (((a + 20) : Nat) : Int)) ?_
   refine Zb 17 (.func (.func 98) #[] #[.pointer (some ⟨cb, 0, none⟩)]) ?_
   refine W.op (O.call 18 108 #[.slice s.a s.n s.c, .int .i64 ↑a, .int .i64 (((a + 20) : Nat) : Int), .func (.func 98) #[] #[.pointer (some ⟨cb, 0, none⟩)]] (by kernel_rfl) rfl (by kernel_rfl) ((insEdit_c s (blks (ltEdit l) 20 (xs.take a)) ((xs.drop a).take 20) (xs.drop (a + 20)) t a (a + 20) cb 0 l w1 g1 (by have h := h1; rw [drop_split xs a 20, ← List.append_assoc] at h; exact h) (by omega) (by simp only [blks_length, List.length_take, List.length_drop, List.length_nil]; omega) (by simp only [blks_length, List.length_take, List.length_drop, List.length_nil]; omega) (by simp only [blks_length, List.length_take, List.length_drop, List.length_nil]; omega) (fun e he => hok e (List.mem_of_mem_drop (List.mem_of_mem_take he))) h2 rfl).mono ?_))
   rintro e1 w2 ⟨g2, rfl, M2, hq1⟩
   have K2 := K1.step M2 (fun _ h => h) (neq (by omega))
   have n3 := hq1.len
   refine ⟨_, rfl, ?_⟩
   refine wpList_nil (hk6 _ _ (wp_seq_k fun k7 hk7 => (wp_region_lit ?_)))
   refine Zb 19 (.int .i64 (((a + 20) : Nat) : Int)) ?_
   refine Zb 7 (.int .i64 (((a + 20) : Nat) : Int)) ?_
   refine wpList_nil (hk7 _ _ (wp_region_lit ?_))
   refine Zb 20 (.int .i64 (((a + 20) : Nat) : Int)) ?_
   refine Zb 21 (.int .i64 20) ?_
   refine Zc 22 (.int .i64 (((a + 20) + 20 : Nat) : Int)) (okv (v := .int .i64 (IntKind.i64.wrap ((((a + 20) : Nat) : Int) + 20))) (by kernel_rfl) (wrapn (by omega) (by omega))) ?_
   refine Zb 8 (.int .i64 (((a + 20) + 20 : Nat) : Int)) ?_
   refine wpList_nil (block_normal ?_)
   have hhlv_1 := h2.mv M2 (neq (by omega))
   exact ⟨n - (a + 20), _, by omega, ((((((look_eq (t := 0) (v := .slice s.a s.n s.c) rfl).trans (look_eq (t := 1) (v := .int .i64 ↑n) rfl)).trans (look_eq (t := 2) (v := .func (.func 98) #[] #[.pointer (some ⟨cb, 0, none⟩)]) rfl)).trans (look_eq (t := 6) (v := .int .i64 20) rfl)).trans (look_eq (t := 7) (v := .int .i64 (((a + 20) : Nat) : Int)) rfl)).trans (look_eq (t := 8) (v := .int .i64 ((((a + 20) + 20) : Nat) : Int)) rfl)), ⟨(a + 20), (c + 1), _, _, rfl, rfl, K2, (M1.trans (M2.mono (eq_rg (by omega)))), by omega, by omega, (by have h := hq1; rw [← blks_add (by decide) (c := c) (by rw [List.length_take]; omega) (by rw [List.length_take]; omega), ← take_more] at h; exact h), hhlv_1⟩⟩
  ·refine Zc 13 (.bool false) (okv (by kernel_rfl) (congrArg Value.bool (decide_eq_false t1))) ?_
   refine wpList_nil (hk5 _ _ (W.cond false rfl (wp_exit (then_exit (then_exit (block_exit ?_))))))
   refine hk3 _ _ (wp_seq_k fun k8 hk8 => (wp_region_lit ?_))
   refine Zb 23 (.slice s.a s.n s.c) ?_
   refine Zb 24 (.int .i64 ↑a) ?_
   refine Zb 25 (.int .i64 ↑n) ?_
   refine Zb 26 (.func (.func 98) #[] #[.pointer (some ⟨cb, 0, none⟩)]) ?_
   refine W.op (O.call 27 108 #[.slice s.a s.n s.c, .int .i64 ↑a, .int .i64 ↑n, .func (.func 98) #[] #[.pointer (some ⟨cb, 0, none⟩)]] (by kernel_rfl) rfl (by kernel_rfl) ((insEdit_c s (blks (ltEdit l) 20 (xs.take a)) (xs.drop a) [] t a n cb 0 l w1 g1 (by have h := h1; rw [← List.append_nil (blks (ltEdit l) 20 (xs.take a) ++ xs.drop a)] at h; exact h) (by omega) (by simp only [blks_length, List.length_take, List.length_drop, List.length_nil]; omega) (by simp only [blks_length, List.length_take, List.length_drop, List.length_nil]; omega) (by simp only [blks_length, List.length_take, List.length_drop, List.length_nil]; omega) (fun e he => hok e (List.mem_of_mem_drop he)) h2 rfl).mono ?_))
   rintro e2 w3 ⟨g3, rfl, M3, hq2⟩
   have K3 := K1.step M3 (fun _ h => h) (neq (by omega))
   have n4 := hq2.len
   refine ⟨_, rfl, ?_⟩
   refine wpList_nil (hk8 _ _ (wp_block ?_))
   have hhlv_2 := h2.mv M3 (neq (by omega))
   refine W.loop (fun (μ0 : Nat) (ws : List (Nat × Value)) (w' : World) => ∃ (bs : Nat) (γ' : Tg) (ρ0 : List (Nat × Value)), μ0 = n - bs ∧ ws = ((6, .int .i64 ↑bs) :: (2, .func (.func 98) #[] #[.pointer (some ⟨cb, 0, none⟩)]) :: (1, .int .i64 ↑n) :: (0, .slice s.a s.n s.c) :: ρ0) ∧ Kn (fun ξ => ξ = t) w γ [] w' γ' ∧ Mv (Rg 1 (t + 1)) w3 g3 w' γ' ∧ (20 ≤ bs) ∧ (bs ≤ 200000) ∧ Gs t 55 8 Edit.cells w' γ' s (blks (ltEdit l) bs xs) ∧ Cl 0 w' γ' cb 0 (.int .i64 ↑l)) (n - 20) ((((look_eq (t := 0) (v := .slice s.a s.n s.c) rfl).trans (look_eq (t := 1) (v := .int .i64 ↑n) rfl)).trans (look_eq (t := 2) (v := .func (.func 98) #[] #[.pointer (some ⟨cb, 0, none⟩)]) rfl)).trans (look_eq (t := 6) (v := .int .i64 ↑20) rfl)) ?_ ?_
   ·exact ⟨20, _, _, rfl, rfl, K3, Mv.refl _ _ _, by omega, by omega, (by have h := hq2; rw [← blks_add (by decide) (c := c) (by rw [List.length_take]; omega) (by rw [List.length_drop]; omega), List.take_append_drop, List.append_nil] at h; exact h), hhlv_2⟩
   ·rintro _ _ w4 ⟨bs, g4, r2, rfl, rfl, K4, M4, p3, p4, h3, h4⟩
    have n5 := h3.len
    refine wp_seq_k fun k9 hk9 => (wp_seq_k fun k10 hk10 => (wp_region_lit ?_))
    refine Zb 28 (.int .i64 ↑bs) ?_
    refine Zb 29 (.int .i64 ↑n) ?_
    by_cases t2 : ((bs : Nat) : Int) < ((n : Nat) : Int)
    ·refine Zc 30 (.bool true) (okv (by kernel_rfl) (congrArg Value.bool (decide_eq_true t2))) ?_
     refine wpList_nil (hk10 _ _ (W.cond true rfl (wp_skip (hk9 _ _ (wp_block (wp_seq_k fun k11 hk11 => ?_))))))
     refine wp_region_lit ?_
     refine Zb 31 (.int .i64 ↑bs) ?_
     refine Zc 32 (.int .i64 ((2 * bs : Nat) : Int)) (okv (v := .int .i64 (IntKind.i64.wrap (2 * ((bs : Nat) : Int)))) (by kernel_rfl) (wrapn (by omega) (by omega))) ?_
     refine Zb 7 (.int .i64 0) ?_
     refine Zb 8 (.int .i64 ((2 * bs : Nat) : Int)) ?_
     refine wpList_nil (hk11 _ _ (wp_seq_k fun k12 hk12 => (wp_block ?_)))
     refine W.loop (fun (μ0 : Nat) (ws : List (Nat × Value)) (w' : World) => ∃ (a : Nat) (c : Nat) (γ' : Tg) (ρ0 : List (Nat × Value)), μ0 = n - a ∧ ws = ((8, .int .i64 (((a + 2 * bs) : Nat) : Int)) :: (7, .int .i64 ↑a) :: (6, .int .i64 ↑bs) :: (2, .func (.func 98) #[] #[.pointer (some ⟨cb, 0, none⟩)]) :: (1, .int .i64 ↑n) :: (0, .slice s.a s.n s.c) :: ρ0) ∧ Kn (fun ξ => ξ = t) w γ [] w' γ' ∧ Mv (Rg 1 (t + 1)) w4 g4 w' γ' ∧ (a = (2 * bs) * c) ∧ (a ≤ n) ∧ Gs t 55 8 Edit.cells w' γ' s (blks (ltEdit l) (2 * bs) (xs.take a) ++ blks (ltEdit l) bs (xs.drop a)) ∧ Cl 0 w' γ' cb 0 (.int .i64 ↑l)) (n - 0) ((((((look_eq (t := 0) (v := .slice s.a s.n s.c) rfl).trans (look_eq (t := 1) (v := .int .i64 ↑n) rfl)).trans (look_eq (t := 2) (v := .func (.func 98) #[] #[.pointer (some ⟨cb, 0, none⟩)]) rfl)).trans (look_eq (t := 6) (v := .int .i64 ↑bs) rfl)).trans (look_eq (t := 7) (v := .int .i64 ↑0) rfl)).trans (look_eq (t := 8) (v := .int .i64 (((0 + 2 * bs) : Nat) : Int)) (nat_v (by omega)))) ?_ ?_
     ·exact ⟨0, 0, _, _, rfl, rfl, K4, Mv.refl _ _ _, rfl, Nat.zero_le _, (by have h := h3; rw [show blks (ltEdit l) bs xs = blks (ltEdit l) (2 * bs) (xs.take 0) ++ blks (ltEdit l) bs (xs.drop 0) from by rw [List.take_zero, blks_nil]; rfl] at h; exact h), h4⟩
     ·rintro _ _ w5 ⟨a, c, g5, r3, rfl, rfl, K5, M5, p5, p6, h5, h6⟩
      have n6 := h5.len
      refine wp_seq_k fun k13 hk13 => (wp_seq_k fun k14 hk14 => (wp_region_lit ?_))
      refine Zb 33 (.int .i64 (((a + 2 * bs) : Nat) : Int)) ?_
      refine Zb 34 (.int .i64 ↑n) ?_
      by_cases t3 : (((a + 2 * bs) : Nat) : Int) ≤ ((n : Nat) : Int)
      ·refine Zc 35 (.bool true) (okv (by kernel_rfl) (congrArg Value.bool (decide_eq_true t3))) ?_
       refine wpList_nil (hk14 _ _ (W.cond true rfl (wp_skip (hk13 _ _ (wp_block (wp_seq_k fun k15 hk15 => ?_))))))
       refine wp_region_lit ?_
       refine Zb 36 (.slice s.a s.n s.c) ?_
       refine Zb 37 (.int .i64 ↑a) ?_
       refine Zb 38 (.int .i64 ↑a) ?_
       refine Zb 39 (.int .i64 ↑bs) ?_
       refine Zc 40 (.int .i64 ((a + bs : Nat) : Int)) (okv (v := .int .i64 (IntKind.i64.wrap (((a : Nat) : Int) + ((bs : Nat) : Int)))) (by kernel_rfl) (wrapn (by omega) (by omega))) ?_
       refine Zb 41 (.int .i64 (((a + 2 * bs) : Nat) : Int)) ?_
       refine Zb 42 (.func (.func 98) #[] #[.pointer (some ⟨cb, 0, none⟩)]) ?_
       refine W.op (O.call 43 109 #[.slice s.a s.n s.c, .int .i64 ↑a, .int .i64 ((a + bs : Nat) : Int), .int .i64 (((a + 2 * bs) : Nat) : Int), .func (.func 98) #[] #[.pointer (some ⟨cb, 0, none⟩)]] (by kernel_rfl) rfl (by kernel_rfl) ((symEdit_c s (blks (ltEdit l) (2 * bs) (xs.take a)) (isort (ltEdit l) ((xs.drop a).take bs)) (isort (ltEdit l) (((xs.drop a).drop bs).take bs)) (blks (ltEdit l) bs ((xs.drop a).drop (2 * bs))) t a (a + bs) (a + 2 * bs) cb l w5 g5 (by have h := h5; rw [blks_two (l := xs.drop a) (m := bs) (by omega) (by rw [List.length_drop]; omega)] at h; simp only [← List.append_assoc] at h ⊢; exact h) (by omega) (by simp only [blks_length, isort_length, List.length_take, List.length_drop, List.length_nil]; omega) (by simp only [blks_length, isort_length, List.length_take, List.length_drop, List.length_nil]; omega) (by simp only [blks_length, isort_length, List.length_take, List.length_drop, List.length_nil]; omega) (by simp only [blks_length, isort_length, List.length_take, List.length_drop, List.length_nil]; omega) (by simp only [blks_length, isort_length, List.length_take, List.length_drop, List.length_nil]; omega) (isort_srt Lin.edit _) (isort_srt Lin.edit _) (by simp only [blks_length, isort_length, List.length_take, List.length_drop, List.length_nil]; omega) h6 (fun e he => hok e (by rcases List.mem_append.1 he with he | he <;> (have := (isort_mem _ _ _).1 he; first | exact List.mem_of_mem_drop (List.mem_of_mem_take this) | exact List.mem_of_mem_drop (List.mem_of_mem_drop (List.mem_of_mem_take this)) | exact List.mem_of_mem_drop (List.mem_of_mem_drop this))))).mono ?_))
       rintro e3 w6 ⟨g6, rfl, M6, hq3⟩
       have K6 := K5.step M6 (fun _ h => h) (neq (by omega))
       have n7 := hq3.len
       refine ⟨_, rfl, ?_⟩
       refine wpList_nil (hk15 _ _ (wp_seq_k fun k16 hk16 => (wp_region_lit ?_)))
       refine Zb 44 (.int .i64 (((a + 2 * bs) : Nat) : Int)) ?_
       refine Zb 7 (.int .i64 (((a + 2 * bs) : Nat) : Int)) ?_
       refine wpList_nil (hk16 _ _ (wp_region_lit ?_))
       refine Zb 45 (.int .i64 (((a + 2 * bs) : Nat) : Int)) ?_
       refine Zb 46 (.int .i64 ↑bs) ?_
       refine Zc 47 (.int .i64 ((2 * bs : Nat) : Int)) (okv (v := .int .i64 (IntKind.i64.wrap (2 * ((bs : Nat) : Int)))) (by kernel_rfl) (wrapn (by omega) (by omega))) ?_
       refine Zc 48 (.int .i64 (((a + 2 * bs) + (2 * bs) : Nat) : Int)) (okv (v := .int .i64 (IntKind.i64.wrap ((((a + 2 * bs) : Nat) : Int) + ((2 * bs : Nat) : Int)))) (by kernel_rfl) (wrapn (by omega) (by omega))) ?_
       refine Zb 8 (.int .i64 (((a + 2 * bs) + (2 * bs) : Nat) : Int)) ?_
       refine wpList_nil (block_normal ?_)
       have hhlv_3 := h6.mv M6 (neq (by omega))
       exact ⟨n - (a + 2 * bs), _, by omega, ((((((look_eq (t := 0) (v := .slice s.a s.n s.c) rfl).trans (look_eq (t := 1) (v := .int .i64 ↑n) rfl)).trans (look_eq (t := 2) (v := .func (.func 98) #[] #[.pointer (some ⟨cb, 0, none⟩)]) rfl)).trans (look_eq (t := 6) (v := .int .i64 ↑bs) rfl)).trans (look_eq (t := 7) (v := .int .i64 (((a + 2 * bs) : Nat) : Int)) rfl)).trans (look_eq (t := 8) (v := .int .i64 ((((a + 2 * bs) + 2 * bs) : Nat) : Int)) (nat_v (by omega)))), ⟨(a + 2 * bs), (c + 1), _, _, rfl, rfl, K6, (M5.trans (M6.mono (eq_rg (by omega)))), by rw [p5]; exact (Nat.mul_succ _ _).symm, by omega, (by have h := hq3; rw [← isort_append Lin.edit, ← take_more, show bs + bs = 2 * bs by omega] at h; rw [← blks_add (by omega) (c := c) (by rw [List.length_take]; have := p5; omega) (by rw [List.length_take]; omega), ← take_more, List.drop_drop] at h; exact h), hhlv_3⟩⟩
      ·refine Zc 35 (.bool false) (okv (by kernel_rfl) (congrArg Value.bool (decide_eq_false t3))) ?_
       refine wpList_nil (hk14 _ _ (W.cond false rfl (wp_exit (then_exit (then_exit (block_exit ?_))))))
       refine hk12 _ _ (wp_seq_k fun k17 hk17 => (wp_seq_k fun k18 hk18 => (wp_region_lit ?_)))
       refine Zb 49 (.int .i64 ↑a) ?_
       refine Zb 50 (.int .i64 ↑bs) ?_
       refine Zc 51 (.int .i64 ((a + bs : Nat) : Int)) (okv (v := .int .i64 (IntKind.i64.wrap (((a : Nat) : Int) + ((bs : Nat) : Int)))) (by kernel_rfl) (wrapn (by omega) (by omega))) ?_
       refine Zb 9 (.int .i64 ((a + bs : Nat) : Int)) ?_
       refine wpList_nil (hk18 _ _ (wp_seq_k fun k19 hk19 => (wp_region_lit ?_)))
       refine Zb 52 (.int .i64 ((a + bs : Nat) : Int)) ?_
       refine Zb 53 (.int .i64 ↑n) ?_
       by_cases t4 : ((a + bs : Nat) : Int) < ((n : Nat) : Int)
       ·refine Zc 54 (.bool true) (okv (by kernel_rfl) (congrArg Value.bool (decide_eq_true t4))) ?_
        refine wpList_nil (hk19 _ _ (W.cond true rfl (wp_region_lit ?_)))
        refine Zb 55 (.slice s.a s.n s.c) ?_
        refine Zb 56 (.int .i64 ↑a) ?_
        refine Zb 57 (.int .i64 ((a + bs : Nat) : Int)) ?_
        refine Zb 58 (.int .i64 ↑n) ?_
        refine Zb 59 (.func (.func 98) #[] #[.pointer (some ⟨cb, 0, none⟩)]) ?_
        refine W.op (O.call 60 109 #[.slice s.a s.n s.c, .int .i64 ↑a, .int .i64 ((a + bs : Nat) : Int), .int .i64 ↑n, .func (.func 98) #[] #[.pointer (some ⟨cb, 0, none⟩)]] (by kernel_rfl) rfl (by kernel_rfl) ((symEdit_c s (blks (ltEdit l) (2 * bs) (xs.take a)) (isort (ltEdit l) ((xs.drop a).take bs)) (isort (ltEdit l) ((xs.drop a).drop bs)) [] t a (a + bs) n cb l w5 g5 (by have h := h5; rw [blks_rest (by omega) (l := xs.drop a) (by rw [List.length_drop]; omega) (by rw [List.length_drop]; omega)] at h; rw [List.append_nil, List.append_assoc]; exact h) (by omega) (by simp only [blks_length, isort_length, List.length_take, List.length_drop, List.length_nil]; omega) (by simp only [blks_length, isort_length, List.length_take, List.length_drop, List.length_nil]; omega) (by simp only [blks_length, isort_length, List.length_take, List.length_drop, List.length_nil]; omega) (by simp only [blks_length, isort_length, List.length_take, List.length_drop, List.length_nil]; omega) (by simp only [blks_length, isort_length, List.length_take, List.length_drop, List.length_nil]; omega) (isort_srt Lin.edit _) (isort_srt Lin.edit _) (by simp only [blks_length, isort_length, List.length_take, List.length_drop, List.length_nil]; omega) h6 (fun e he => hok e (by rcases List.mem_append.1 he with he | he <;> (have := (isort_mem _ _ _).1 he; first | exact List.mem_of_mem_drop (List.mem_of_mem_take this) | exact List.mem_of_mem_drop (List.mem_of_mem_drop (List.mem_of_mem_take this)) | exact List.mem_of_mem_drop (List.mem_of_mem_drop this))))).mono ?_))
        rintro e4 w7 ⟨g7, rfl, M7, hq4⟩
        have K7 := K5.step M7 (fun _ h => h) (neq (by omega))
        have n8 := hq4.len
        refine ⟨_, rfl, ?_⟩
        refine wpList_nil (hk17 _ _ (wp_region_lit ?_))
        refine Zb 61 (.int .i64 ↑bs) ?_
        refine Zc 62 (.int .i64 ((bs * 2 : Nat) : Int)) (okv (v := .int .i64 (IntKind.i64.wrap (((bs : Nat) : Int) * 2))) (by kernel_rfl) (wrapn (by omega) (by omega))) ?_
        refine Zb 6 (.int .i64 ((bs * 2 : Nat) : Int)) ?_
        refine wpList_nil (block_normal ?_)
        have hhlv_4 := h6.mv M7 (neq (by omega))
        exact ⟨n - (bs * 2), _, by omega, ((((look_eq (t := 0) (v := .slice s.a s.n s.c) rfl).trans (look_eq (t := 1) (v := .int .i64 ↑n) rfl)).trans (look_eq (t := 2) (v := .func (.func 98) #[] #[.pointer (some ⟨cb, 0, none⟩)]) rfl)).trans (look_eq (t := 6) (v := .int .i64 (((bs * 2) : Nat) : Int)) rfl)), ⟨(bs * 2), _, _, rfl, rfl, K7, ((M4.trans (M5.mono (fun _ h => h))).trans (M7.mono (eq_rg (by omega)))), by omega, by omega, (by have h := hq4; rw [← isort_append Lin.edit, List.take_append_drop, List.append_nil] at h; rw [← blks_add (by omega) (c := c) (by rw [List.length_take]; have := p5; omega) (by rw [List.length_drop]; omega), List.take_append_drop, show 2 * bs = bs * 2 by omega] at h; exact h), hhlv_4⟩⟩
       ·refine Zc 54 (.bool false) (okv (by kernel_rfl) (congrArg Value.bool (decide_eq_false t4))) ?_
        refine wpList_nil (hk19 _ _ (W.cond false rfl (wp_skip (hk17 _ _ (wp_region_lit ?_)))))
        refine Zb 61 (.int .i64 ↑bs) ?_
        refine Zc 62 (.int .i64 ((bs * 2 : Nat) : Int)) (okv (v := .int .i64 (IntKind.i64.wrap (((bs : Nat) : Int) * 2))) (by kernel_rfl) (wrapn (by omega) (by omega))) ?_
        refine Zb 6 (.int .i64 ((bs * 2 : Nat) : Int)) ?_
        refine wpList_nil (block_normal ?_)
        exact ⟨n - (bs * 2), _, by omega, ((((look_eq (t := 0) (v := .slice s.a s.n s.c) rfl).trans (look_eq (t := 1) (v := .int .i64 ↑n) rfl)).trans (look_eq (t := 2) (v := .func (.func 98) #[] #[.pointer (some ⟨cb, 0, none⟩)]) rfl)).trans (look_eq (t := 6) (v := .int .i64 (((bs * 2) : Nat) : Int)) rfl)), ⟨(bs * 2), _, _, rfl, rfl, K5, (M4.trans (M5.mono (fun _ h => h))), by omega, by omega, (by have h := h5; rw [blks_le (l := xs.drop a) (by rw [List.length_drop]; omega), ← blks_add (by omega) (c := c) (by rw [List.length_take]; have := p5; omega) (by rw [List.length_drop]; omega), List.take_append_drop, show 2 * bs = bs * 2 by omega] at h; exact h), h6⟩⟩
    ·refine Zc 30 (.bool false) (okv (by kernel_rfl) (congrArg Value.bool (decide_eq_false t2))) ?_
     refine wpList_nil (hk10 _ _ (W.cond false rfl (wp_exit (then_exit (then_exit (block_exit ?_))))))
     refine W.end0 rfl ?_
     have hG9 := h3
     rw [blks_le (by omega)] at hG9
     exact ⟨_, rfl, K4.mv, hG9⟩

set_option maxRecDepth 100000 in
set_option maxHeartbeats 1000000 in
theorem sortEdit_c (s : Sli) (xs : List Edit) (t : Nat) (cb : Nat) (l : Nat) (w : World) (γ : Tg) (hG : Gs t 55 8 Edit.cells w γ s xs) (ht : 2 ≤ t) (hl : xs.length ≤ 100000) (hlv : Cl 0 w γ cb 0 (.int .i64 ((l : Nat) : Int))) (hok : ∀ e ∈ xs, e.it.key.size < 9223372036854775807) :
    Calls Try.prog 97 #[.slice s.a s.n s.c, .func (.func 98) #[] #[.pointer (some ⟨cb, 0, none⟩)]] w fun ε w' => ∃ (γ' : Tg), ε = .returned (.tuple #[]) ∧ Mv (fun ξ => ξ = t) w γ w' γ' ∧ Gs t 55 8 Edit.cells w' γ' s (isort (ltEdit l) xs) := by
 have K0 := Kn.start (fun ξ => ξ = t) w γ
 refine W.enter (ws := [(1, .func (.func 98) #[] #[.pointer (some ⟨cb, 0, none⟩)]), (0, .slice s.a s.n s.c)]) 9 Try.func97 rfl (by kernel_rfl) ?_
 have n1 := hG.len
 refine wp_region_lit ?_
 refine Zb 4 (.slice s.a s.n s.c) ?_
 refine Zb 5 (.slice s.a s.n s.c) ?_
 refine Zb 6 (.int .i64 (s.n : Int)) ?_
 refine Zb 7 (.func (.func 98) #[] #[.pointer (some ⟨cb, 0, none⟩)]) ?_
 refine W.op (O.call 8 105 #[.slice s.a s.n s.c, .int .i64 (s.n : Int), .func (.func 98) #[] #[.pointer (some ⟨cb, 0, none⟩)]] (by kernel_rfl) rfl (by kernel_rfl) ((stableEdit_c s xs t s.n cb l w γ hG (by omega) hG.len hl hlv hok).mono ?_))
 rintro e1 w1 ⟨g1, rfl, M1, hq1⟩
 have K1 := K0.step M1 (fun _ h => h) (neq (by omega))
 have n2 := hq1.len
 refine ⟨_, rfl, ?_⟩
 refine wpList_nil ?_
 refine W.end0 rfl ?_
 exact ⟨_, rfl, K1.mv, hq1⟩

set_option maxRecDepth 100000 in
set_option maxHeartbeats 1000000 in
theorem byKeyAll_c (s : Sli) (xs : List Item) (t : Nat) (w : World) (γ : Tg) (hG : Gs t 50 7 Item.cells w γ s xs) (ht : 2 ≤ t) (hl : xs.length ≤ 100000) :
    Calls Try.prog 37 #[.slice s.a s.n s.c] w fun ε w' => ∃ (γ' : Tg), ε = .returned (.slice s.a s.n s.c) ∧ Mv (fun ξ => ξ = t) w γ w' γ' ∧ Gs t 50 7 Item.cells w' γ' s (isort ltItem xs) := by
 have K0 := Kn.start (fun ξ => ξ = t) w γ
 refine W.enter (ws := [(0, .slice s.a s.n s.c)]) 6 Try.func37 rfl (by kernel_rfl) ?_
 have n1 := hG.len
 refine wp_seq_k fun k1 hk1 => (wp_region_lit ?_)
 refine Zb 2 (.slice none 0 0) ?_
 refine wpList_nil (hk1 _ _ (wp_seq_k fun k2 hk2 => (wp_region_lit ?_)))
 refine Zb 3 (.slice s.a s.n s.c) ?_
 refine W.op (O.call 4 54 #[.slice s.a s.n s.c, .func (.func 55) #[] #[]] (by kernel_rfl) rfl (by kernel_rfl) ((sortItem_c s xs t w γ hG (by omega) (by omega)).mono ?_))
 rintro e1 w1 ⟨g1, rfl, M1, hq1⟩
 have K1 := K0.step M1 (fun _ h => h) (neq (by omega))
 have n2 := hq1.len
 refine ⟨_, rfl, ?_⟩
 refine wpList_nil (hk2 _ _ (wp_seq_k fun k3 hk3 => (wp_region_lit ?_)))
 refine Zb 5 (.slice s.a s.n s.c) ?_
 refine Zb 2 (.slice s.a s.n s.c) ?_
 refine wpList_nil (hk3 _ _ (wp_ret (W.ret1 (v := .slice s.a s.n s.c) rfl (.tmp rfl .nil) ?_)))
 exact ⟨_, rfl, K1.mv, hq1⟩

end Go.Proofs.Ytlfanphdnjoofaa
