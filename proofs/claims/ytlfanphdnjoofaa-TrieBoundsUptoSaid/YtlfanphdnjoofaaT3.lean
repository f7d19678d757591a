/- Walks: slices. -/
import Derived.Test.YtlfanphdnjoofaaT2
namespace Go.Proofs.Ytlfanphdnjoofaa
open Go.RowKit
set_option linter.unusedSimpArgs false
set_option linter.unusedVariables false
attribute [local irreducible] wpList Code.wp Calls OpS wpG

set_option maxRecDepth 100000 in
set_option maxHeartbeats 1000000 in
theorem cloneItems_c (s : Sli) (xs : List Item) (t : Nat) (w : World) (γ : Tg) (hs : Ls 7 Item.cells w γ s xs) (hl : xs.length ≤ 100000) :
    Calls Try.prog 81 #[.slice s.a s.n s.c] w fun ε w' => ∃ γ' s', ε = .returned s'.v ∧ Mv Nt w γ w' γ' ∧ Gs t 50 7 Item.cells w' γ' s' xs := by
 obtain ⟨t0, ht0, hf0⟩ := fresh_tag w γ 2
 have K0 := Kn.start (Lo Nt t0) w γ
 refine W.enter (ws := [(0, .slice s.a s.n s.c)]) 8 Try.func81 rfl (by kernel_rfl) ?_
 have n1 := hs.len
 refine wp_seq_k fun k1 hk1 => (wp_region_lit ?_)
 refine Zb 2 (.slice none 0 0) ?_
 refine wpList_nil (hk1 _ _ (wp_seq_k fun k2 hk2 => (wp_seq_k fun k3 hk3 => (wp_region_lit ?_))))
 refine Zb 3 (.slice s.a s.n s.c) ?_
 rcases bsplit (s.a.isNone) with t1 | t1
 ·refine Zc 4 (.bool true) (okv (exec_eqnil rfl (Nil37 _ _ _ _) rfl rfl) (congrArg Value.bool t1)) ?_
  refine wpList_nil (hk3 _ _ (W.cond true rfl (wp_seq_k fun k4 hk4 => (wp_region_lit ?_))))
  refine Zb 2 (.slice none 0 0) ?_
  refine wpList_nil (hk4 _ _ (wp_ret (then_ret (W.ret1 (v := .slice none 0 0) rfl (.tmp rfl .nil) ?_))))
  exact ⟨_, ⟨none, 0, 0⟩, rfl, (K0.mv.shut hf0), by have h0 : xs = [] := (List.eq_nil_of_length_eq_zero (by rw [← hs.len]; have := hs.nil (Option.isNone_iff_eq_none.1 t1); have := hs.cap; omega)); rw [h0]; exact Gs.nil _ _ _ _ Item.size⟩
 ·refine Zc 4 (.bool false) (okv (exec_eqnil rfl (Nil37 _ _ _ _) rfl rfl) (congrArg Value.bool t1)) ?_
  refine wpList_nil (hk3 _ _ (W.cond false rfl (wp_skip (hk2 _ _ (wp_seq_k fun k5 hk5 => (wp_region_lit ?_))))))
  refine W.op (O.lit0 (E := 50) (f := Item.cells) t0 5 Item.size rfl rfl (by kernel_rfl) K0 fun s1 w1 g1 K1 hG1 M1 => ?_)
  have n2 := hG1.len
  refine Zb 6 (.slice s.a s.n s.c) ?_
  have hs_1 := hs.mv M1 quiet
  refine W.op (O.append (f := Item.cells) 7 xs (by kernel_rfl) rfl rfl (by kernel_rfl) El50 rfl rfl hG1 hs.len hs_1.src (fun _ => rfl) (by simp only [List.length_nil]; omega) (by simp only [List.length_nil]; omega) fun s2 w2 g2 hG2 M2 => ?_)
  have K2 := K1.step M2 (eq_lo (by omega)) (neq (by omega))
  rw [List.nil_append] at hG2
  have n3 := hG2.len
  refine Zb 2 (.slice s2.a s2.n s2.c) ?_
  refine wpList_nil (hk5 _ _ (wp_ret (W.ret1 (v := .slice s2.a s2.n s2.c) rfl (.tmp rfl .nil) ?_)))
  have M3 := Mv.recol w2 g2 t0 t
  have K3 := K2.step M3 (eq_lo (by omega)) (neq (by omega))
  have h1 := hG2.recol t
  exact ⟨_, _, rfl, (K3.mv.shut hf0), h1⟩

set_option maxRecDepth 100000 in
set_option maxHeartbeats 1000000 in
theorem cloneEdits_c (s : Sli) (xs : List Edit) (t : Nat) (w : World) (γ : Tg) (hs : Ls 8 Edit.cells w γ s xs) (hl : xs.length ≤ 100000) :
    Calls Try.prog 96 #[.slice s.a s.n s.c] w fun ε w' => ∃ γ' s', ε = .returned s'.v ∧ Mv Nt w γ w' γ' ∧ Gs t 55 8 Edit.cells w' γ' s' xs := by
 obtain ⟨t0, ht0, hf0⟩ := fresh_tag w γ 2
 have K0 := Kn.start (Lo Nt t0) w γ
 refine W.enter (ws := [(0, .slice s.a s.n s.c)]) 8 Try.func96 rfl (by kernel_rfl) ?_
 have n1 := hs.len
 refine wp_seq_k fun k1 hk1 => (wp_region_lit ?_)
 refine Zb 2 (.slice none 0 0) ?_
 refine wpList_nil (hk1 _ _ (wp_seq_k fun k2 hk2 => (wp_seq_k fun k3 hk3 => (wp_region_lit ?_))))
 refine Zb 3 (.slice s.a s.n s.c) ?_
 rcases bsplit (s.a.isNone) with t1 | t1
 ·refine Zc 4 (.bool true) (okv (exec_eqnil rfl (Nil63 _ _ _ _) rfl rfl) (congrArg Value.bool t1)) ?_
  refine wpList_nil (hk3 _ _ (W.cond true rfl (wp_seq_k fun k4 hk4 => (wp_region_lit ?_))))
  refine Zb 2 (.slice none 0 0) ?_
  refine wpList_nil (hk4 _ _ (wp_ret (then_ret (W.ret1 (v := .slice none 0 0) rfl (.tmp rfl .nil) ?_))))
  exact ⟨_, ⟨none, 0, 0⟩, rfl, (K0.mv.shut hf0), by have h0 : xs = [] := (List.eq_nil_of_length_eq_zero (by rw [← hs.len]; have := hs.nil (Option.isNone_iff_eq_none.1 t1); have := hs.cap; omega)); rw [h0]; exact Gs.nil _ _ _ _ Edit.size⟩
 ·refine Zc 4 (.bool false) (okv (exec_eqnil rfl (Nil63 _ _ _ _) rfl rfl) (congrArg Value.bool t1)) ?_
  refine wpList_nil (hk3 _ _ (W.cond false rfl (wp_skip (hk2 _ _ (wp_seq_k fun k5 hk5 => (wp_region_lit ?_))))))
  refine W.op (O.lit0 (E := 55) (f := Edit.cells) t0 5 Edit.size rfl rfl (by kernel_rfl) K0 fun s1 w1 g1 K1 hG1 M1 => ?_)
  have n2 := hG1.len
  refine Zb 6 (.slice s.a s.n s.c) ?_
  have hs_1 := hs.mv M1 quiet
  refine W.op (O.append (f := Edit.cells) 7 xs (by kernel_rfl) rfl rfl (by kernel_rfl) El55 rfl rfl hG1 hs.len hs_1.src (fun _ => rfl) (by simp only [List.length_nil]; omega) (by simp only [List.length_nil]; omega) fun s2 w2 g2 hG2 M2 => ?_)
  have K2 := K1.step M2 (eq_lo (by omega)) (neq (by omega))
  rw [List.nil_append] at hG2
  have n3 := hG2.len
  refine Zb 2 (.slice s2.a s2.n s2.c) ?_
  refine wpList_nil (hk5 _ _ (wp_ret (W.ret1 (v := .slice s2.a s2.n s2.c) rfl (.tmp rfl .nil) ?_)))
  have M3 := Mv.recol w2 g2 t0 t
  have K3 := K2.step M3 (eq_lo (by omega)) (neq (by omega))
  have h1 := hG2.recol t
  exact ⟨_, _, rfl, (K3.mv.shut hf0), h1⟩

set_option maxRecDepth 100000 in
set_option maxHeartbeats 1000000 in
theorem indexFind_c (s : Sli) (xs : List Item) (b t : Nat) (key : ByteArray) (w : World) (γ : Tg) (hs : Ls 7 Item.cells w γ s xs) (hl : xs.length ≤ 100000) (hk : Cl t w γ b 0 (.string key)) :
    Calls Try.prog 42 #[.slice s.a s.n s.c, .func (.func 43) #[] #[.pointer (some ⟨b, 0, none⟩)]] w fun ε w' => ∃ γ', ε = .returned (.int .i64 (idxI (fun x : Item => x.key.toList == key.toList) xs)) ∧ Mv Nt w γ w' γ' := by
 have K0 := Kn.start Nt w γ
 refine W.enter (ws := [(1, .func (.func 43) #[] #[.pointer (some ⟨b, 0, none⟩)]), (0, .slice s.a s.n s.c)]) 19 Try.func42 rfl (by kernel_rfl) ?_
 have n1 := hs.len
 refine wp_seq_k fun k1 hk1 => (wp_region_lit ?_)
 refine Zb 4 (.int .i64 0) ?_
 refine wpList_nil (hk1 _ _ (wp_seq_k fun k2 hk2 => (wp_seq_k fun k3 hk3 => (wp_region_lit ?_))))
 refine Zb 6 (.slice s.a s.n s.c) ?_
 refine Zb 7 (.int .i64 (s.n : Int)) ?_
 refine Zb 8 (.int .i64 0) ?_
 refine wpList_nil (hk3 _ _ (wp_block ?_))
 refine W.loop (fun (μ0 : Nat) (ws : List (Nat × Value)) (w' : World) => ∃ (k : Nat) (γ' : Tg) (ρ0 : List (Nat × Value)), μ0 = xs.length - k ∧ ws = ((8, .int .i64 ↑k) :: (7, .int .i64 (s.n : Int)) :: (1, .func (.func 43) #[] #[.pointer (some ⟨b, 0, none⟩)]) :: (0, .slice s.a s.n s.c) :: ρ0) ∧ Kn Nt w γ [] w' γ' ∧ Mv Nt w γ w' γ' ∧ (k ≤ xs.length) ∧ (∀ j y, j < k → xs[j]? = some y → (fun x : Item => x.key.toList == key.toList) y = false) ∧ Ls 7 Item.cells w' γ' s xs ∧ Cl t w' γ' b 0 (.string key)) (xs.length - 0) ((((look_eq (t := 0) (v := .slice s.a s.n s.c) rfl).trans (look_eq (t := 1) (v := .func (.func 43) #[] #[.pointer (some ⟨b, 0, none⟩)]) rfl)).trans (look_eq (t := 7) (v := .int .i64 (s.n : Int)) rfl)).trans (look_eq (t := 8) (v := .int .i64 ↑0) rfl)) ?_ ?_
 ·exact ⟨0, _, _, rfl, rfl, K0, Mv.refl _ _ _, Nat.zero_le _, (fun j y hj _ => absurd hj (Nat.not_lt_zero _)), hs, hk⟩
 ·rintro _ _ w1 ⟨k, g1, r1, rfl, rfl, K1, M1, p1, p2, h1, h2⟩
  refine wp_seq_k fun k4 hk4 => (wp_region_lit ?_)
  by_cases t1 : ((k : Nat) : Int) < (s.n : Int)
  ·refine Zc 9 (.bool true) (okv (by kernel_rfl) (congrArg Value.bool (decide_eq_true t1))) ?_
   refine wpList_nil (hk4 _ _ (wp_seq_k fun k5 hk5 => (W.cond true rfl (wp_skip (hk5 _ _ (wp_seq_k fun k6 hk6 => ?_))))))
   refine wp_block (wp_seq_k fun k7 hk7 => (wp_region_lit ?_))
   refine Zb 10 (.int .i64 ↑k) ?_
   refine Zb 5 (.int .i64 ↑k) ?_
   refine wpList_nil (hk7 _ _ (wp_seq_k fun k8 hk8 => (wp_region_lit ?_)))
   refine Zb 11 (.func (.func 43) #[] #[.pointer (some ⟨b, 0, none⟩)]) ?_
   refine Zb 12 (.slice s.a s.n s.c) ?_
   refine Zb 13 (.int .i64 ↑k) ?_
   obtain ⟨x1, hx1⟩ := get_some (xs := xs) (i := k) (by omega)
   obtain ⟨b1, o1, ha1, hib1, hr1⟩ := h1.elt hx1
   refine Zc 14 (.pointer (some ⟨b1, o1 + k * 7, none⟩)) (exec_index (E := 50) (k := k) rfl (by kernel_rfl) (by kernel_rfl) rfl ha1 rfl hib1) ?_
   refine Zc 15 (.agg x1.cells.toArray) (exec_loads (cs := x1.cells) rfl rfl Ty50 rfl hr1.2.2) ?_
   refine W.op (O.call 16 43 #[.agg x1.cells.toArray, .pointer (some ⟨b, 0, none⟩)] (by kernel_rfl) rfl (by kernel_rfl) ((findEq_c x1 b t key w1 g1 h2).mono ?_))
   rintro e1 w2 ⟨g2, rfl, M2⟩
   have K2 := K1.step M2 (fun _ h => h) quiet
   rcases bsplit (x1.key.toList == key.toList) with t2 | t2
   ·refine ⟨_, congrArg Ending.returned (congrArg Value.bool t2), ?_⟩
    refine wpList_nil (hk8 _ _ (W.cond true rfl (wp_seq_k fun k9 hk9 => (wp_region_lit ?_))))
    refine Zb 17 (.int .i64 ↑k) ?_
    refine Zb 4 (.int .i64 ↑k) ?_
    refine wpList_nil (hk9 _ _ (wp_ret (block_ret (then_ret (then_ret (block_ret ?_))))))
    refine then_ret (W.ret1 (v := .int .i64 ↑k) rfl (.tmp rfl .nil) ?_)
    exact ⟨_, by rw [idxI_hit (p := (fun x : Item => x.key.toList == key.toList)) hx1 (by first | exact t1 | exact t2) p2], K2.mv⟩
   ·refine ⟨_, congrArg Ending.returned (congrArg Value.bool t2), ?_⟩
    refine wpList_nil (hk8 _ _ (W.cond false rfl (wp_skip (block_normal (hk6 _ _ (wp_region_lit ?_))))))
    refine Zc 18 (.int .i64 ((k + 1 : Nat) : Int)) (okv (v := .int .i64 (IntKind.i64.wrap (((k : Nat) : Int) + 1))) (by kernel_rfl) (wrapn (by omega) (by omega))) ?_
    refine Zb 8 (.int .i64 ((k + 1 : Nat) : Int)) ?_
    refine wpList_nil ?_
    have hs_1 := h1.mv M2 quiet
    have hk_1 := h2.mv M2 quiet
    exact ⟨xs.length - (k + 1), _, by omega, ((((look_eq (t := 0) (v := .slice s.a s.n s.c) rfl).trans (look_eq (t := 1) (v := .func (.func 43) #[] #[.pointer (some ⟨b, 0, none⟩)]) rfl)).trans (look_eq (t := 7) (v := .int .i64 (s.n : Int)) rfl)).trans (look_eq (t := 8) (v := .int .i64 (((k + 1) : Nat) : Int)) rfl)), ⟨(k + 1), _, _, rfl, rfl, K2, (M1.trans (M2.mono (fun _ h => h))), by omega, (fun j y hj hy => by rcases Nat.lt_or_ge j k with h | h; exact p2 j y h hy; have e : j = k := (by omega); subst e; rw [hx1] at hy; injection hy with hy; subst hy; first | exact t1 | exact t2), hs_1, hk_1⟩⟩
  ·refine Zc 9 (.bool false) (okv (by kernel_rfl) (congrArg Value.bool (decide_eq_false t1))) ?_
   refine wpList_nil (hk4 _ _ (wp_seq_k fun k10 hk10 => (W.cond false rfl (wp_exit (then_exit (then_exit ?_))))))
   refine block_exit (hk2 _ _ (wp_seq_k fun k11 hk11 => (wp_region_lit ?_)))
   refine Zb 4 (.int .i64 (-1)) ?_
   refine wpList_nil (hk11 _ _ (wp_ret (W.ret1 (v := .int .i64 (-1)) rfl (.tmp rfl .nil) ?_)))
   exact ⟨_, by rw [idxI_miss (p := (fun x : Item => x.key.toList == key.toList)) (fun j y hj hy => p2 j y (by omega) hy)], K1.mv⟩

set_option maxRecDepth 100000 in
set_option maxHeartbeats 1000000 in
theorem indexEdited_c (s : Sli) (xs : List Item) (b t : Nat) (ed : Edit) (w : World) (γ : Tg) (hs : Ls 7 Item.cells w γ s xs) (hl : xs.length ≤ 100000) (hk : Bt t w γ b 55 ed.cells) :
    Calls Try.prog 42 #[.slice s.a s.n s.c, .func (.func 82) #[] #[.pointer (some ⟨b, 0, none⟩)]] w fun ε w' => ∃ γ', ε = .returned (.int .i64 (idxI (fun x : Item => x.key.toList == ed.it.key.toList) xs)) ∧ Mv Nt w γ w' γ' := by
 have K0 := Kn.start Nt w γ
 refine W.enter (ws := [(1, .func (.func 82) #[] #[.pointer (some ⟨b, 0, none⟩)]), (0, .slice s.a s.n s.c)]) 19 Try.func42 rfl (by kernel_rfl) ?_
 have n1 := hs.len
 refine wp_seq_k fun k1 hk1 => (wp_region_lit ?_)
 refine Zb 4 (.int .i64 0) ?_
 refine wpList_nil (hk1 _ _ (wp_seq_k fun k2 hk2 => (wp_seq_k fun k3 hk3 => (wp_region_lit ?_))))
 refine Zb 6 (.slice s.a s.n s.c) ?_
 refine Zb 7 (.int .i64 (s.n : Int)) ?_
 refine Zb 8 (.int .i64 0) ?_
 refine wpList_nil (hk3 _ _ (wp_block ?_))
 refine W.loop (fun (μ0 : Nat) (ws : List (Nat × Value)) (w' : World) => ∃ (k : Nat) (γ' : Tg) (ρ0 : List (Nat × Value)), μ0 = xs.length - k ∧ ws = ((8, .int .i64 ↑k) :: (7, .int .i64 (s.n : Int)) :: (1, .func (.func 82) #[] #[.pointer (some ⟨b, 0, none⟩)]) :: (0, .slice s.a s.n s.c) :: ρ0) ∧ Kn Nt w γ [] w' γ' ∧ Mv Nt w γ w' γ' ∧ (k ≤ xs.length) ∧ (∀ j y, j < k → xs[j]? = some y → (fun x : Item => x.key.toList == ed.it.key.toList) y = false) ∧ Ls 7 Item.cells w' γ' s xs ∧ Bt t w' γ' b 55 ed.cells) (xs.length - 0) ((((look_eq (t := 0) (v := .slice s.a s.n s.c) rfl).trans (look_eq (t := 1) (v := .func (.func 82) #[] #[.pointer (some ⟨b, 0, none⟩)]) rfl)).trans (look_eq (t := 7) (v := .int .i64 (s.n : Int)) rfl)).trans (look_eq (t := 8) (v := .int .i64 ↑0) rfl)) ?_ ?_
 ·exact ⟨0, _, _, rfl, rfl, K0, Mv.refl _ _ _, Nat.zero_le _, (fun j y hj _ => absurd hj (Nat.not_lt_zero _)), hs, hk⟩
 ·rintro _ _ w1 ⟨k, g1, r1, rfl, rfl, K1, M1, p1, p2, h1, h2⟩
  refine wp_seq_k fun k4 hk4 => (wp_region_lit ?_)
  by_cases t1 : ((k : Nat) : Int) < (s.n : Int)
  ·refine Zc 9 (.bool true) (okv (by kernel_rfl) (congrArg Value.bool (decide_eq_true t1))) ?_
   refine wpList_nil (hk4 _ _ (wp_seq_k fun k5 hk5 => (W.cond true rfl (wp_skip (hk5 _ _ (wp_seq_k fun k6 hk6 => ?_))))))
   refine wp_block (wp_seq_k fun k7 hk7 => (wp_region_lit ?_))
   refine Zb 10 (.int .i64 ↑k) ?_
   refine Zb 5 (.int .i64 ↑k) ?_
   refine wpList_nil (hk7 _ _ (wp_seq_k fun k8 hk8 => (wp_region_lit ?_)))
   refine Zb 11 (.func (.func 82) #[] #[.pointer (some ⟨b, 0, none⟩)]) ?_
   refine Zb 12 (.slice s.a s.n s.c) ?_
   refine Zb 13 (.int .i64 ↑k) ?_
   obtain ⟨x1, hx1⟩ := get_some (xs := xs) (i := k) (by omega)
   obtain ⟨b1, o1, ha1, hib1, hr1⟩ := h1.elt hx1
   refine Zc 14 (.pointer (some ⟨b1, o1 + k * 7, none⟩)) (exec_index (E := 50) (k := k) rfl (by kernel_rfl) (by kernel_rfl) rfl ha1 rfl hib1) ?_
   refine Zc 15 (.agg x1.cells.toArray) (exec_loads (cs := x1.cells) rfl rfl Ty50 rfl hr1.2.2) ?_
   refine W.op (O.call 16 82 #[.agg x1.cells.toArray, .pointer (some ⟨b, 0, none⟩)] (by kernel_rfl) rfl (by kernel_rfl) ((editedEq_c x1 b t ed w1 g1 h2).mono ?_))
   rintro e1 w2 ⟨g2, rfl, M2⟩
   have K2 := K1.step M2 (fun _ h => h) quiet
   rcases bsplit (x1.key.toList == ed.it.key.toList) with t2 | t2
   ·refine ⟨_, congrArg Ending.returned (congrArg Value.bool t2), ?_⟩
    refine wpList_nil (hk8 _ _ (W.cond true rfl (wp_seq_k fun k9 hk9 => (wp_region_lit ?_))))
    refine Zb 17 (.int .i64 ↑k) ?_
    refine Zb 4 (.int .i64 ↑k) ?_
    refine wpList_nil (hk9 _ _ (wp_ret (block_ret (then_ret (then_ret (block_ret ?_))))))
    refine then_ret (W.ret1 (v := .int .i64 ↑k) rfl (.tmp rfl .nil) ?_)
    exact ⟨_, by rw [idxI_hit (p := (fun x : Item => x.key.toList == ed.it.key.toList)) hx1 (by first | exact t1 | exact t2) p2], K2.mv⟩
   ·refine ⟨_, congrArg Ending.returned (congrArg Value.bool t2), ?_⟩
    refine wpList_nil (hk8 _ _ (W.cond false rfl (wp_skip (block_normal (hk6 _ _ (wp_region_lit ?_))))))
    refine Zc 18 (.int .i64 ((k + 1 : Nat) : Int)) (okv (v := .int .i64 (IntKind.i64.wrap (((k : Nat) : Int) + 1))) (by kernel_rfl) (wrapn (by omega) (by omega))) ?_
    refine Zb 8 (.int .i64 ((k + 1 : Nat) : Int)) ?_
    refine wpList_nil ?_
    have hs_1 := h1.mv M2 quiet
    have hk_1 := h2.mv M2 quiet
    exact ⟨xs.length - (k + 1), _, by omega, ((((look_eq (t := 0) (v := .slice s.a s.n s.c) rfl).trans (look_eq (t := 1) (v := .func (.func 82) #[] #[.pointer (some ⟨b, 0, none⟩)]) rfl)).trans (look_eq (t := 7) (v := .int .i64 (s.n : Int)) rfl)).trans (look_eq (t := 8) (v := .int .i64 (((k + 1) : Nat) : Int)) rfl)), ⟨(k + 1), _, _, rfl, rfl, K2, (M1.trans (M2.mono (fun _ h => h))), by omega, (fun j y hj hy => by rcases Nat.lt_or_ge j k with h | h; exact p2 j y h hy; have e : j = k := (by omega); subst e; rw [hx1] at hy; injection hy with hy; subst hy; first | exact t1 | exact t2), hs_1, hk_1⟩⟩
  ·refine Zc 9 (.bool false) (okv (by kernel_rfl) (congrArg Value.bool (decide_eq_false t1))) ?_
   refine wpList_nil (hk4 _ _ (wp_seq_k fun k10 hk10 => (W.cond false rfl (wp_exit (then_exit (then_exit ?_))))))
   refine block_exit (hk2 _ _ (wp_seq_k fun k11 hk11 => (wp_region_lit ?_)))
   refine Zb 4 (.int .i64 (-1)) ?_
   refine wpList_nil (hk11 _ _ (wp_ret (W.ret1 (v := .int .i64 (-1)) rfl (.tmp rfl .nil) ?_)))
   exact ⟨_, by rw [idxI_miss (p := (fun x : Item => x.key.toList == ed.it.key.toList)) (fun j y hj hy => p2 j y (by omega) hy)], K1.mv⟩

end Go.Proofs.Ytlfanphdnjoofaa
