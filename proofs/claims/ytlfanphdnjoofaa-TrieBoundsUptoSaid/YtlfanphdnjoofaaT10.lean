/- Walks: sorting by insertion. -/
import Derived.Test.YtlfanphdnjoofaaT9
import Derived.Test.YtlfanphdnjoofaaS
namespace Go.Proofs.Ytlfanphdnjoofaa
open Go.RowKit
set_option linter.unusedSimpArgs false
set_option linter.unusedVariables false
attribute [local irreducible] wpList Code.wp Calls OpS wpG

abbrev ltItem (x y : Item) : Bool := decide (Extern.BytealgCompare.cmp x.key y.key < 0)
abbrev ltRtd (x y : Rtd) : Bool := decide (cmpI x.got y.got < 0)
abbrev ltEdit (l : Nat) (x y : Edit) : Bool := decide (cmpI ((digitOf x.it.key l : Nat) : Int) ((digitOf y.it.key l : Nat) : Int) < 0)

set_option maxRecDepth 100000 in
set_option maxHeartbeats 1000000 in
theorem insItem_c (s : Sli) (pre seg post : List Item) (t a b : Nat) (w : World) (γ : Tg) (hG : Gs t 50 7 Item.cells w γ s (pre ++ seg ++ post)) (ht : 2 ≤ t) (ha : a = pre.length) (hb : b = pre.length + seg.length) (hl : pre.length + seg.length + post.length ≤ 100000) :
    Calls Try.prog 93 #[.slice s.a s.n s.c, .int .i64 ((a : Nat) : Int), .int .i64 ((b : Nat) : Int), .func (.func 55) #[] #[]] w fun ε w' => ∃ γ', ε = .returned (.tuple #[]) ∧ Mv (fun ξ => ξ = t) w γ w' γ' ∧ Gs t 50 7 Item.cells w' γ' s (pre ++ isort ltItem seg ++ post) := by
 have K0 := Kn.start (fun ξ => ξ = t) w γ
 refine W.enter (ws := [(3, .func (.func 55) #[] #[]), (2, .int .i64 ↑b), (1, .int .i64 ↑a), (0, .slice s.a s.n s.c)]) 53 Try.func93 rfl (by kernel_rfl) ?_
 have n1 := hG.len
 refine wp_seq_k fun k1 hk1 => (wp_region_lit ?_)
 refine Zb 10 (.int .i64 ↑a) ?_
 refine Zc 11 (.int .i64 ((a + 1 : Nat) : Int)) (okv (v := .int .i64 (IntKind.i64.wrap (((a : Nat) : Int) + 1))) (by kernel_rfl) (wrapn (by omega) (by omega))) ?_
 refine Zb 8 (.int .i64 ((a + 1 : Nat) : Int)) ?_
 refine wpList_nil (hk1 _ _ (wp_block ?_))
 have hG1 := hG
 rw [show pre ++ seg ++ post = pre ++ isort ltItem (seg.take 1) ++ (seg.drop 1 ++ post) from by rw [isort_one _ _ (by rw [List.length_take]; omega)]; cases seg <;> simp] at hG1
 refine W.loop (fun (μ0 : Nat) (ws : List (Nat × Value)) (w' : World) => ∃ (i0 : Nat) (γ' : Tg) (ρ0 : List (Nat × Value)), μ0 = seg.length + 1 - i0 ∧ ws = ((8, .int .i64 (((a + i0) : Nat) : Int)) :: (3, .func (.func 55) #[] #[]) :: (2, .int .i64 ↑b) :: (1, .int .i64 ↑a) :: (0, .slice s.a s.n s.c) :: ρ0) ∧ Kn (fun ξ => ξ = t) w γ [] w' γ' ∧ Mv (Rg 1 (t + 1)) w γ w' γ' ∧ (1 ≤ i0) ∧ (i0 ≤ max 1 seg.length) ∧ Gs t 50 7 Item.cells w' γ' s (pre ++ isort ltItem (seg.take i0) ++ (seg.drop i0 ++ post))) (seg.length + 1 - 1) (((((look_eq (t := 0) (v := .slice s.a s.n s.c) rfl).trans (look_eq (t := 1) (v := .int .i64 ↑a) rfl)).trans (look_eq (t := 2) (v := .int .i64 ↑b) rfl)).trans (look_eq (t := 3) (v := .func (.func 55) #[] #[]) rfl)).trans (look_eq (t := 8) (v := .int .i64 (((a + 1) : Nat) : Int)) rfl)) ?_ ?_
 ·exact ⟨1, _, _, rfl, rfl, K0, Mv.refl _ _ _, Nat.le_refl _, by omega, hG1⟩
 ·rintro _ _ w1 ⟨i0, g1, r1, rfl, rfl, K1, M1, p1, p2, h1⟩
  refine wp_seq_k fun k2 hk2 => (wp_seq_k fun k3 hk3 => (wp_region_lit ?_))
  refine Zb 12 (.int .i64 (((a + i0) : Nat) : Int)) ?_
  refine Zb 13 (.int .i64 ↑b) ?_
  by_cases t1 : (((a + i0) : Nat) : Int) < ((b : Nat) : Int)
  ·refine Zc 14 (.bool true) (okv (by kernel_rfl) (congrArg Value.bool (decide_eq_true t1))) ?_
   refine wpList_nil (hk3 _ _ (W.cond true rfl (wp_skip (hk2 _ _ (wp_seq_k fun k4 hk4 => (wp_block ?_))))))
   refine wp_seq_k fun k5 hk5 => (wp_region_lit ?_)
   refine Zb 17 (.int .i64 (((a + i0) : Nat) : Int)) ?_
   refine Zb 9 (.int .i64 (((a + i0) : Nat) : Int)) ?_
   refine wpList_nil (hk5 _ _ (wp_block ?_))
   obtain ⟨x, hx0⟩ := get_some (xs := seg) (i := i0) (by omega)
   have hG2 := h1
   rw [drop_cons hx0, List.cons_append] at hG2
   refine W.loop (fun (μ0 : Nat) (ws : List (Nat × Value)) (w' : World) => ∃ (j : Nat) (L : List Item) (Q : List Item) (γ' : Tg) (ρ0 : List (Nat × Value)), μ0 = j + 1 ∧ ws = ((9, .int .i64 ↑j) :: (8, .int .i64 (((a + i0) : Nat) : Int)) :: (3, .func (.func 55) #[] #[]) :: (2, .int .i64 ↑b) :: (1, .int .i64 ↑a) :: (0, .slice s.a s.n s.c) :: ρ0) ∧ Kn (fun ξ => ξ = t) w γ [] w' γ' ∧ Mv (Rg 1 (t + 1)) w1 g1 w' γ' ∧ (j = pre.length + L.length) ∧ (pre ++ insE ltItem L x ++ Q = pre ++ insE ltItem (isort ltItem (seg.take i0)) x ++ (seg.drop (i0 + 1) ++ post)) ∧ (j ≤ 100000) ∧ (∀ e ∈ L, True) ∧ Gs t 50 7 Item.cells w' γ' s (pre ++ L ++ x :: Q)) ((a + i0) + 1) ((((((look_eq (t := 0) (v := .slice s.a s.n s.c) rfl).trans (look_eq (t := 1) (v := .int .i64 ↑a) rfl)).trans (look_eq (t := 2) (v := .int .i64 ↑b) rfl)).trans (look_eq (t := 3) (v := .func (.func 55) #[] #[]) rfl)).trans (look_eq (t := 8) (v := .int .i64 (((a + i0) : Nat) : Int)) rfl)).trans (look_eq (t := 9) (v := .int .i64 (((a + i0) : Nat) : Int)) rfl)) ?_ ?_
   ·exact ⟨(a + i0), (isort ltItem (seg.take i0)), (seg.drop (i0 + 1) ++ post), _, _, rfl, rfl, K1, Mv.refl _ _ _, by rw [isort_length, List.length_take]; omega, rfl, by omega, (fun e he => trivial), hG2⟩
   ·rintro _ _ w2 ⟨j, L, Q, g2, r2, rfl, rfl, K2, M2, p3, p4, p5, p6, h2⟩
    refine wp_seq_k fun k6 hk6 => (wp_seq_k fun k7 hk7 => (wp_region_G (SmL [(8, Nt), (13, Nt)] w2 g2) (by kernel_rfl) ?_))
    have K3 := K2.drew
    have M3 : Mv Nt w2 g2 w2.drew g2 := (Mv.refl _ _ _).drew
    refine Yb 0 18 (.int .i64 ↑j) rfl (fun u => by kernel_rfl) ?_
    refine Yb 1 19 (.int .i64 ↑a) rfl (fun u => by kernel_rfl) ?_
    by_cases t2 : ((j : Nat) : Int) > ((a : Nat) : Int)
    ·refine Yb 2 20 (.bool true) rfl (fun u => okv ((fun u => by kernel_rfl) u) (congrArg Value.bool (decide_eq_true t2))) ?_
     refine Yb 3 21 (.bool true) rfl (fun u => by kernel_rfl) ?_
     refine Yb 4 22 (.func (.func 55) #[] #[]) rfl (fun u => by kernel_rfl) ?_
     refine Yb 5 23 (.slice s.a s.n s.c) rfl (fun u => by kernel_rfl) ?_
     refine Yb 6 24 (.int .i64 ↑j) rfl (fun u => by kernel_rfl) ?_
     obtain ⟨b1, ha1, hib1, hr1⟩ := h2.elt (at_x p3)
     refine Yb 7 25 (.pointer (some ⟨b1, 0 + j * 7, none⟩)) rfl (fun u => (exec_index (E := 50) (k := j) rfl (by kernel_rfl) (by kernel_rfl) rfl ha1 rfl hib1)) ?_
     refine G.take 8 26 (.agg x.cells.toArray) rfl (by kernel_rfl) rfl (fun _ _ _ h => h) ((Mv.refl _ _ _).trans (M3.mono (fun _ h => h))).self (by kernel_rfl) (fun u hm => exec_loads (cs := x.cells) rfl rfl Ty50 rfl (hr1.mv hm quiet).2.2) ?_
     refine Yb 9 27 (.slice s.a s.n s.c) rfl (fun u => by kernel_rfl) ?_
     refine Yb 10 28 (.int .i64 ↑j) rfl (fun u => by kernel_rfl) ?_
     refine Yb 11 29 (.int .i64 ((j - 1 : Nat) : Int)) rfl (fun u => okv (v := .int .i64 (IntKind.i64.wrap (((j : Nat) : Int) - 1))) ((fun u => by kernel_rfl) u) (wrapn (by omega) (by omega))) ?_
     obtain ⟨M9, y, hL⟩ := exists_snoc (L := L) (by omega)
     obtain ⟨b2, ha2, hib2, hr2⟩ := h2.elt (at_y p3 hL)
     refine Yb 12 30 (.pointer (some ⟨b2, 0 + (j - 1) * 7, none⟩)) rfl (fun u => (exec_index (E := 50) (k := j - 1) rfl (by kernel_rfl) (by kernel_rfl) rfl ha2 rfl hib2)) ?_
     refine G.take 13 31 (.agg y.cells.toArray) rfl (by kernel_rfl) rfl (fun _ _ _ h => h) ((Mv.refl _ _ _).trans (M3.mono (fun _ h => h))).self (by kernel_rfl) (fun u hm => exec_loads (cs := y.cells) rfl rfl Ty50 rfl (hr2.mv hm quiet).2.2) ?_
     refine G.op 14 (by kernel_rfl) rfl (O.call 32 55 #[.agg x.cells.toArray, .agg y.cells.toArray] (by kernel_rfl) rfl (by kernel_rfl) ((byKey_c x y w2.drew g2).mono ?_))
     rintro e1 w3 ⟨g3, rfl, M4⟩
     have K4 := K3.step M4 nt_le quiet
     refine ⟨_, rfl, ⟨kp_nt ((Mv.refl _ _ _).trans M4) _, ?_⟩⟩
     by_cases t3 : (Extern.BytealgCompare.cmp x.key y.key) < 0
     ·refine Yb 15 33 (.bool true) rfl (fun u => okv ((fun u => by kernel_rfl) u) (congrArg Value.bool (decide_eq_true t3))) ?_
      refine Yb 16 34 (.bool true) rfl (fun u => by kernel_rfl) ?_
      refine G.fin (by kernel_rfl) ?_
      refine hk7 _ _ (W.cond true rfl (wp_skip (hk6 _ _ (wp_seq_k fun k8 hk8 => (wp_block (wp_region_G (SmL [(9, Nt), (13, Nt)] w3 g3) (by kernel_rfl) ?_))))))
      have K5 := K4.drew
      have M5 : Mv Nt w3 g3 w3.drew g3 := (Mv.refl _ _ _).drew
      refine Yb 0 37 (.slice s.a s.n s.c) rfl (fun u => by kernel_rfl) ?_
      refine Yb 1 38 (.int .i64 ↑j) rfl (fun u => by kernel_rfl) ?_
      refine Yb 2 39 (.slice s.a s.n s.c) rfl (fun u => by kernel_rfl) ?_
      refine Yb 3 40 (.int .i64 ↑j) rfl (fun u => by kernel_rfl) ?_
      refine Yb 4 41 (.int .i64 ((j - 1 : Nat) : Int)) rfl (fun u => okv (v := .int .i64 (IntKind.i64.wrap (((j : Nat) : Int) - 1))) ((fun u => by kernel_rfl) u) (wrapn (by omega) (by omega))) ?_
      refine Yb 5 42 (.slice s.a s.n s.c) rfl (fun u => by kernel_rfl) ?_
      refine Yb 6 43 (.int .i64 ↑j) rfl (fun u => by kernel_rfl) ?_
      refine Yb 7 44 (.int .i64 ((j - 1 : Nat) : Int)) rfl (fun u => okv (v := .int .i64 (IntKind.i64.wrap (((j : Nat) : Int) - 1))) ((fun u => by kernel_rfl) u) (wrapn (by omega) (by omega))) ?_
      have hG_1 := h2.mv M3 quiet
      have hG_2 := hG_1.mv M4 quiet
      obtain ⟨b3, ha3, hib3, hr3⟩ := hG_2.elt (at_y p3 hL)
      refine Yb 8 45 (.pointer (some ⟨b3, 0 + (j - 1) * 7, none⟩)) rfl (fun u => (exec_index (E := 50) (k := j - 1) rfl (by kernel_rfl) (by kernel_rfl) rfl ha3 rfl hib3)) ?_
      refine G.take 9 46 (.agg y.cells.toArray) rfl (by kernel_rfl) rfl (fun _ _ _ h => h) ((Mv.refl _ _ _).trans (M5.mono (fun _ h => h))).self (by kernel_rfl) (fun u hm => exec_loads (cs := y.cells) rfl rfl Ty50 rfl (hr3.mv hm quiet).2.2) ?_
      refine Yb 10 47 (.slice s.a s.n s.c) rfl (fun u => by kernel_rfl) ?_
      refine Yb 11 48 (.int .i64 ↑j) rfl (fun u => by kernel_rfl) ?_
      obtain ⟨b4, ha4, hib4, hr4⟩ := hG_2.elt (at_x p3)
      refine Yb 12 49 (.pointer (some ⟨b4, 0 + j * 7, none⟩)) rfl (fun u => (exec_index (E := 50) (k := j) rfl (by kernel_rfl) (by kernel_rfl) rfl ha4 rfl hib4)) ?_
      refine G.take 13 50 (.agg x.cells.toArray) rfl (by kernel_rfl) rfl (fun _ _ _ h => h) ((Mv.refl _ _ _).trans (M5.mono (fun _ h => h))).self (by kernel_rfl) (fun u hm => exec_loads (cs := x.cells) rfl rfl Ty50 rfl (hr4.mv hm quiet).2.2) ?_
      obtain ⟨b5, ha5, hib5, hr5⟩ := hG_2.elt (at_x p3)
      refine Yb 14 51 (.pointer (some ⟨b5, 0 + j * 7, none⟩)) rfl (fun u => (exec_index (E := 50) (k := j) rfl (by kernel_rfl) (by kernel_rfl) rfl ha5 rfl hib5)) ?_
      have hG_3 := h2.mv M3 quiet
      have hG_4 := hG_3.mv M4 quiet
      have hG_5 := hG_4.mv M5 quiet
      refine G.op 15 (by kernel_rfl) rfl (O.gset j y (by kernel_rfl) rfl rfl rfl rfl Ty50 (fun _ => rfl) hG_5 (by first | omega | (simp only [List.length_set, List.length_append, List.length_cons] at *; omega)) ha5 fun w4 hG3 M6 => ⟨(kp_skip (by kernel_rfl) (kp_skip (by kernel_rfl) kp_nil)), ?_⟩)
      have K6 := K5.step M6 (fun _ h => h) (neq (by omega))
      have n2 := hG3.len
      obtain ⟨b6, ha6, hib6, hr6⟩ := hG_2.elt (at_y p3 hL)
      refine Yb 16 52 (.pointer (some ⟨b6, 0 + (j - 1) * 7, none⟩)) rfl (fun u => (exec_index (E := 50) (k := j - 1) rfl (by kernel_rfl) (by kernel_rfl) rfl ha6 rfl hib6)) ?_
      refine G.op 17 (by kernel_rfl) rfl (O.gset (j - 1) x (by kernel_rfl) rfl rfl rfl rfl Ty50 (fun _ => rfl) hG3 (by first | omega | (simp only [List.length_set, List.length_append, List.length_cons] at *; omega)) ha6 fun w5 hG4 M7 => ⟨(kp_skip (by kernel_rfl) (kp_skip (by kernel_rfl) kp_nil)), ?_⟩)
      have K7 := K6.step M7 (fun _ h => h) (neq (by omega))
      have n3 := hG4.len
      refine G.fin (by kernel_rfl) ?_
      refine block_normal (hk8 _ _ (wp_region_lit ?_))
      refine Zb 35 (.int .i64 ↑j) ?_
      refine Zc 36 (.int .i64 ((j - 1 : Nat) : Int)) (okv (v := .int .i64 (IntKind.i64.wrap (((j : Nat) : Int) - 1))) (by kernel_rfl) (wrapn (by omega) (by omega))) ?_
      refine Zb 9 (.int .i64 ((j - 1 : Nat) : Int)) ?_
      refine wpList_nil ?_
      exact ⟨(j - 1) + 1, _, by omega, ((((((look_eq (t := 0) (v := .slice s.a s.n s.c) rfl).trans (look_eq (t := 1) (v := .int .i64 ↑a) rfl)).trans (look_eq (t := 2) (v := .int .i64 ↑b) rfl)).trans (look_eq (t := 3) (v := .func (.func 55) #[] #[]) rfl)).trans (look_eq (t := 8) (v := .int .i64 (((a + i0) : Nat) : Int)) rfl)).trans (look_eq (t := 9) (v := .int .i64 (((j - 1) : Nat) : Int)) rfl)), ⟨(j - 1), M9, (y :: Q), _, _, rfl, rfl, K7, (((((M2.trans (M3.mono nt_le)).trans (M4.mono nt_le)).trans (M5.mono nt_le)).trans (M6.mono (eq_rg (by omega)))).trans (M7.mono (eq_rg (by omega)))), (by have hz := congrArg List.length hL; rw [List.length_append] at hz; simp only [List.length_cons, List.length_nil] at hz; omega), (by rw [← p4, hL, insE_past _ (decide_eq_true t3)]; simp), by omega, (fun e he => p6 e (by rw [hL]; exact List.mem_append_left _ he)), (by have h := hG4; rw [at_swap p3 hL] at h; exact h)⟩⟩
     ·refine Yb 15 33 (.bool false) rfl (fun u => okv ((fun u => by kernel_rfl) u) (congrArg Value.bool (decide_eq_false t3))) ?_
      refine Yb 16 34 (.bool false) rfl (fun u => by kernel_rfl) ?_
      refine G.fin (by kernel_rfl) ?_
      refine hk7 _ _ (W.cond false rfl (wp_exit (then_exit ?_)))
      have hG_6 := h2.mv M3 quiet
      have hG_7 := hG_6.mv M4 quiet
      have hG5 := hG_7
      rw [show (pre ++ L ++ x :: Q) = pre ++ insE ltItem (isort ltItem (seg.take i0)) x ++ (seg.drop (i0 + 1) ++ post) from by rw [← p4, hL, insE_stop _ (decide_eq_false t3)]; simp] at hG5
      refine then_exit (block_exit (block_normal (hk4 _ _ (wp_region_lit ?_))))
      refine Zb 15 (.int .i64 (((a + i0) : Nat) : Int)) ?_
      refine Zc 16 (.int .i64 (((a + i0) + 1 : Nat) : Int)) (okv (v := .int .i64 (IntKind.i64.wrap ((((a + i0) : Nat) : Int) + 1))) (by kernel_rfl) (wrapn (by omega) (by omega))) ?_
      refine Zb 8 (.int .i64 (((a + i0) + 1 : Nat) : Int)) ?_
      refine wpList_nil ?_
      exact ⟨seg.length + 1 - (i0 + 1), _, by omega, (((((look_eq (t := 0) (v := .slice s.a s.n s.c) rfl).trans (look_eq (t := 1) (v := .int .i64 ↑a) rfl)).trans (look_eq (t := 2) (v := .int .i64 ↑b) rfl)).trans (look_eq (t := 3) (v := .func (.func 55) #[] #[]) rfl)).trans (look_eq (t := 8) (v := .int .i64 (((a + (i0 + 1)) : Nat) : Int)) rfl)), ⟨(i0 + 1), _, _, rfl, rfl, K4, (((M1.trans (M2.mono (fun _ h => h))).trans (M3.mono nt_le)).trans (M4.mono nt_le)), by omega, by omega, (by have h := hG5; rw [take_snoc hx0, isort_snoc]; exact h)⟩⟩
    ·refine Yb 2 20 (.bool false) rfl (fun u => okv ((fun u => by kernel_rfl) u) (congrArg Value.bool (decide_eq_false t2))) ?_
     refine Yb 3 21 (.bool false) rfl (fun u => by kernel_rfl) ?_
     refine Ya 4 22 rfl ?_
     refine Ya 5 23 rfl ?_
     refine Ya 6 24 rfl ?_
     refine Ya 7 25 rfl ?_
     refine Ya 8 26 rfl ?_
     refine Ya 9 27 rfl ?_
     refine Ya 10 28 rfl ?_
     refine Ya 11 29 rfl ?_
     refine Ya 12 30 rfl ?_
     refine Ya 13 31 rfl ?_
     refine G.op 14 (by kernel_rfl) rfl (O.no 32 (by kernel_rfl) rfl ⟨fun _ _ h => h, ?_⟩)
     refine Ya 15 33 rfl ?_
     refine Yb 16 34 (.bool false) rfl (fun u => by kernel_rfl) ?_
     refine G.fin (by kernel_rfl) ?_
     refine hk7 _ _ (W.cond false rfl (wp_exit (then_exit ?_)))
     have hG_8 := h2.mv M3 quiet
     have hG6 := hG_8
     have hL0 : L = [] := List.eq_nil_of_length_eq_zero (by omega)
     rw [show (pre ++ L ++ x :: Q) = pre ++ insE ltItem (isort ltItem (seg.take i0)) x ++ (seg.drop (i0 + 1) ++ post) from by rw [← p4, hL0, insE_nil]; simp] at hG6
     refine then_exit (block_exit (block_normal (hk4 _ _ (wp_region_lit ?_))))
     refine Zb 15 (.int .i64 (((a + i0) : Nat) : Int)) ?_
     refine Zc 16 (.int .i64 (((a + i0) + 1 : Nat) : Int)) (okv (v := .int .i64 (IntKind.i64.wrap ((((a + i0) : Nat) : Int) + 1))) (by kernel_rfl) (wrapn (by omega) (by omega))) ?_
     refine Zb 8 (.int .i64 (((a + i0) + 1 : Nat) : Int)) ?_
     refine wpList_nil ?_
     exact ⟨seg.length + 1 - (i0 + 1), _, by omega, (((((look_eq (t := 0) (v := .slice s.a s.n s.c) rfl).trans (look_eq (t := 1) (v := .int .i64 ↑a) rfl)).trans (look_eq (t := 2) (v := .int .i64 ↑b) rfl)).trans (look_eq (t := 3) (v := .func (.func 55) #[] #[]) rfl)).trans (look_eq (t := 8) (v := .int .i64 (((a + (i0 + 1)) : Nat) : Int)) rfl)), ⟨(i0 + 1), _, _, rfl, rfl, K3, ((M1.trans (M2.mono (fun _ h => h))).trans (M3.mono nt_le)), by omega, by omega, (by have h := hG6; rw [take_snoc hx0, isort_snoc]; exact h)⟩⟩
  ·refine Zc 14 (.bool false) (okv (by kernel_rfl) (congrArg Value.bool (decide_eq_false t1))) ?_
   refine wpList_nil (hk3 _ _ (W.cond false rfl (wp_exit (then_exit (then_exit (block_exit ?_))))))
   refine W.end0 rfl ?_
   have hend : pre ++ isort ltItem (seg.take i0) ++ (seg.drop i0 ++ post) = pre ++ isort ltItem seg ++ post := by rw [List.take_of_length_le (by omega), List.drop_eq_nil_of_le (by omega)]; simp
   have h3 := h1
   rw [hend] at h3
   exact ⟨_, rfl, K1.mv, h3⟩

set_option maxRecDepth 100000 in
set_option maxHeartbeats 1000000 in
theorem insRtd_c (s : Sli) (pre seg post : List Rtd) (t a b : Nat) (w : World) (γ : Tg) (hG : Gs t 146 3 Rtd.cells w γ s (pre ++ seg ++ post)) (ht : 2 ≤ t) (ha : a = pre.length) (hb : b = pre.length + seg.length) (hl : pre.length + seg.length + post.length ≤ 100000) :
    Calls Try.prog 100 #[.slice s.a s.n s.c, .int .i64 ((a : Nat) : Int), .int .i64 ((b : Nat) : Int), .func (.func 69) #[] #[]] w fun ε w' => ∃ γ', ε = .returned (.tuple #[]) ∧ Mv (fun ξ => ξ = t) w γ w' γ' ∧ Gs t 146 3 Rtd.cells w' γ' s (pre ++ isort ltRtd seg ++ post) := by
 have K0 := Kn.start (fun ξ => ξ = t) w γ
 refine W.enter (ws := [(3, .func (.func 69) #[] #[]), (2, .int .i64 ↑b), (1, .int .i64 ↑a), (0, .slice s.a s.n s.c)]) 53 Try.func100 rfl (by kernel_rfl) ?_
 have n1 := hG.len
 refine wp_seq_k fun k1 hk1 => (wp_region_lit ?_)
 refine Zb 10 (.int .i64 ↑a) ?_
 refine Zc 11 (.int .i64 ((a + 1 : Nat) : Int)) (okv (v := .int .i64 (IntKind.i64.wrap (((a : Nat) : Int) + 1))) (by kernel_rfl) (wrapn (by omega) (by omega))) ?_
 refine Zb 8 (.int .i64 ((a + 1 : Nat) : Int)) ?_
 refine wpList_nil (hk1 _ _ (wp_block ?_))
 have hG1 := hG
 rw [show pre ++ seg ++ post = pre ++ isort ltRtd (seg.take 1) ++ (seg.drop 1 ++ post) from by rw [isort_one _ _ (by rw [List.length_take]; omega)]; cases seg <;> simp] at hG1
 refine W.loop (fun (μ0 : Nat) (ws : List (Nat × Value)) (w' : World) => ∃ (i0 : Nat) (γ' : Tg) (ρ0 : List (Nat × Value)), μ0 = seg.length + 1 - i0 ∧ ws = ((8, .int .i64 (((a + i0) : Nat) : Int)) :: (3, .func (.func 69) #[] #[]) :: (2, .int .i64 ↑b) :: (1, .int .i64 ↑a) :: (0, .slice s.a s.n s.c) :: ρ0) ∧ Kn (fun ξ => ξ = t) w γ [] w' γ' ∧ Mv (Rg 1 (t + 1)) w γ w' γ' ∧ (1 ≤ i0) ∧ (i0 ≤ max 1 seg.length) ∧ Gs t 146 3 Rtd.cells w' γ' s (pre ++ isort ltRtd (seg.take i0) ++ (seg.drop i0 ++ post))) (seg.length + 1 - 1) (((((look_eq (t := 0) (v := .slice s.a s.n s.c) rfl).trans (look_eq (t := 1) (v := .int .i64 ↑a) rfl)).trans (look_eq (t := 2) (v := .int .i64 ↑b) rfl)).trans (look_eq (t := 3) (v := .func (.func 69) #[] #[]) rfl)).trans (look_eq (t := 8) (v := .int .i64 (((a + 1) : Nat) : Int)) rfl)) ?_ ?_
 ·exact ⟨1, _, _, rfl, rfl, K0, Mv.refl _ _ _, Nat.le_refl _, by omega, hG1⟩
 ·rintro _ _ w1 ⟨i0, g1, r1, rfl, rfl, K1, M1, p1, p2, h1⟩
  refine wp_seq_k fun k2 hk2 => (wp_seq_k fun k3 hk3 => (wp_region_lit ?_))
  refine Zb 12 (.int .i64 (((a + i0) : Nat) : Int)) ?_
  refine Zb 13 (.int .i64 ↑b) ?_
  by_cases t1 : (((a + i0) : Nat) : Int) < ((b : Nat) : Int)
  ·refine Zc 14 (.bool true) (okv (by kernel_rfl) (congrArg Value.bool (decide_eq_true t1))) ?_
   refine wpList_nil (hk3 _ _ (W.cond true rfl (wp_skip (hk2 _ _ (wp_seq_k fun k4 hk4 => (wp_block ?_))))))
   refine wp_seq_k fun k5 hk5 => (wp_region_lit ?_)
   refine Zb 17 (.int .i64 (((a + i0) : Nat) : Int)) ?_
   refine Zb 9 (.int .i64 (((a + i0) : Nat) : Int)) ?_
   refine wpList_nil (hk5 _ _ (wp_block ?_))
   obtain ⟨x, hx0⟩ := get_some (xs := seg) (i := i0) (by omega)
   have hG2 := h1
   rw [drop_cons hx0, List.cons_append] at hG2
   refine W.loop (fun (μ0 : Nat) (ws : List (Nat × Value)) (w' : World) => ∃ (j : Nat) (L : List Rtd) (Q : List Rtd) (γ' : Tg) (ρ0 : List (Nat × Value)), μ0 = j + 1 ∧ ws = ((9, .int .i64 ↑j) :: (8, .int .i64 (((a + i0) : Nat) : Int)) :: (3, .func (.func 69) #[] #[]) :: (2, .int .i64 ↑b) :: (1, .int .i64 ↑a) :: (0, .slice s.a s.n s.c) :: ρ0) ∧ Kn (fun ξ => ξ = t) w γ [] w' γ' ∧ Mv (Rg 1 (t + 1)) w1 g1 w' γ' ∧ (j = pre.length + L.length) ∧ (pre ++ insE ltRtd L x ++ Q = pre ++ insE ltRtd (isort ltRtd (seg.take i0)) x ++ (seg.drop (i0 + 1) ++ post)) ∧ (j ≤ 100000) ∧ (∀ e ∈ L, True) ∧ Gs t 146 3 Rtd.cells w' γ' s (pre ++ L ++ x :: Q)) ((a + i0) + 1) ((((((look_eq (t := 0) (v := .slice s.a s.n s.c) rfl).trans (look_eq (t := 1) (v := .int .i64 ↑a) rfl)).trans (look_eq (t := 2) (v := .int .i64 ↑b) rfl)).trans (look_eq (t := 3) (v := .func (.func 69) #[] #[]) rfl)).trans (look_eq (t := 8) (v := .int .i64 (((a + i0) : Nat) : Int)) rfl)).trans (look_eq (t := 9) (v := .int .i64 (((a + i0) : Nat) : Int)) rfl)) ?_ ?_
   ·exact ⟨(a + i0), (isort ltRtd (seg.take i0)), (seg.drop (i0 + 1) ++ post), _, _, rfl, rfl, K1, Mv.refl _ _ _, by rw [isort_length, List.length_take]; omega, rfl, by omega, (fun e he => trivial), hG2⟩
   ·rintro _ _ w2 ⟨j, L, Q, g2, r2, rfl, rfl, K2, M2, p3, p4, p5, p6, h2⟩
    refine wp_seq_k fun k6 hk6 => (wp_seq_k fun k7 hk7 => (wp_region_G (SmL [(8, Nt), (13, Nt)] w2 g2) (by kernel_rfl) ?_))
    have K3 := K2.drew
    have M3 : Mv Nt w2 g2 w2.drew g2 := (Mv.refl _ _ _).drew
    refine Yb 0 18 (.int .i64 ↑j) rfl (fun u => by kernel_rfl) ?_
    refine Yb 1 19 (.int .i64 ↑a) rfl (fun u => by kernel_rfl) ?_
    by_cases t2 : ((j : Nat) : Int) > ((a : Nat) : Int)
    ·refine Yb 2 20 (.bool true) rfl (fun u => okv ((fun u => by kernel_rfl) u) (congrArg Value.bool (decide_eq_true t2))) ?_
     refine Yb 3 21 (.bool true) rfl (fun u => by kernel_rfl) ?_
     refine Yb 4 22 (.func (.func 69) #[] #[]) rfl (fun u => by kernel_rfl) ?_
     refine Yb 5 23 (.slice s.a s.n s.c) rfl (fun u => by kernel_rfl) ?_
     refine Yb 6 24 (.int .i64 ↑j) rfl (fun u => by kernel_rfl) ?_
     obtain ⟨b1, ha1, hib1, hr1⟩ := h2.elt (at_x p3)
     refine Yb 7 25 (.pointer (some ⟨b1, 0 + j * 3, none⟩)) rfl (fun u => (exec_index (E := 146) (k := j) rfl (by kernel_rfl) (by kernel_rfl) rfl ha1 rfl hib1)) ?_
     refine G.take 8 26 (.agg x.cells.toArray) rfl (by kernel_rfl) rfl (fun _ _ _ h => h) ((Mv.refl _ _ _).trans (M3.mono (fun _ h => h))).self (by kernel_rfl) (fun u hm => exec_loads (cs := x.cells) rfl rfl Ty146 rfl (hr1.mv hm quiet).2.2) ?_
     refine Yb 9 27 (.slice s.a s.n s.c) rfl (fun u => by kernel_rfl) ?_
     refine Yb 10 28 (.int .i64 ↑j) rfl (fun u => by kernel_rfl) ?_
     refine Yb 11 29 (.int .i64 ((j - 1 : Nat) : Int)) rfl (fun u => okv (v := .int .i64 (IntKind.i64.wrap (((j : Nat) : Int) - 1))) ((fun u => by kernel_rfl) u) (wrapn (by omega) (by omega))) ?_
     obtain ⟨M9, y, hL⟩ := exists_snoc (L := L) (by omega)
     obtain ⟨b2, ha2, hib2, hr2⟩ := h2.elt (at_y p3 hL)
     refine Yb 12 30 (.pointer (some ⟨b2, 0 + (j - 1) * 3, none⟩)) rfl (fun u => (exec_index (E := 146) (k := j - 1) rfl (by kernel_rfl) (by kernel_rfl) rfl ha2 rfl hib2)) ?_
     refine G.take 13 31 (.agg y.cells.toArray) rfl (by kernel_rfl) rfl (fun _ _ _ h => h) ((Mv.refl _ _ _).trans (M3.mono (fun _ h => h))).self (by kernel_rfl) (fun u hm => exec_loads (cs := y.cells) rfl rfl Ty146 rfl (hr2.mv hm quiet).2.2) ?_
     refine G.op 14 (by kernel_rfl) rfl (O.call 32 69 #[.agg x.cells.toArray, .agg y.cells.toArray] (by kernel_rfl) rfl (by kernel_rfl) ((told_c x y w2.drew g2).mono ?_))
     rintro e1 w3 ⟨g3, rfl, M4⟩
     have K4 := K3.step M4 nt_le quiet
     refine ⟨_, rfl, ⟨kp_nt ((Mv.refl _ _ _).trans M4) _, ?_⟩⟩
     by_cases t3 : (cmpI x.got y.got) < 0
     ·refine Yb 15 33 (.bool true) rfl (fun u => okv ((fun u => by kernel_rfl) u) (congrArg Value.bool (decide_eq_true t3))) ?_
      refine Yb 16 34 (.bool true) rfl (fun u => by kernel_rfl) ?_
      refine G.fin (by kernel_rfl) ?_
      refine hk7 _ _ (W.cond true rfl (wp_skip (hk6 _ _ (wp_seq_k fun k8 hk8 => (wp_block (wp_region_G (SmL [(9, Nt), (13, Nt)] w3 g3) (by kernel_rfl) ?_))))))
      have K5 := K4.drew
      have M5 : Mv Nt w3 g3 w3.drew g3 := (Mv.refl _ _ _).drew
      refine Yb 0 37 (.slice s.a s.n s.c) rfl (fun u => by kernel_rfl) ?_
      refine Yb 1 38 (.int .i64 ↑j) rfl (fun u => by kernel_rfl) ?_
      refine Yb 2 39 (.slice s.a s.n s.c) rfl (fun u => by kernel_rfl) ?_
      refine Yb 3 40 (.int .i64 ↑j) rfl (fun u => by kernel_rfl) ?_
      refine Yb 4 41 (.int .i64 ((j - 1 : Nat) : Int)) rfl (fun u => okv (v := .int .i64 (IntKind.i64.wrap (((j : Nat) : Int) - 1))) ((fun u => by kernel_rfl) u) (wrapn (by omega) (by omega))) ?_
      refine Yb 5 42 (.slice s.a s.n s.c) rfl (fun u => by kernel_rfl) ?_
      refine Yb 6 43 (.int .i64 ↑j) rfl (fun u => by kernel_rfl) ?_
      refine Yb 7 44 (.int .i64 ((j - 1 : Nat) : Int)) rfl (fun u => okv (v := .int .i64 (IntKind.i64.wrap (((j : Nat) : Int) - 1))) ((fun u => by kernel_rfl) u) (wrapn (by omega) (by omega))) ?_
      have hG_1 := h2.mv M3 quiet
      have hG_2 := hG_1.mv M4 quiet
      obtain ⟨b3, ha3, hib3, hr3⟩ := hG_2.elt (at_y p3 hL)
      refine Yb 8 45 (.pointer (some ⟨b3, 0 + (j - 1) * 3, none⟩)) rfl (fun u => (exec_index (E := 146) (k := j - 1) rfl (by kernel_rfl) (by kernel_rfl) rfl ha3 rfl hib3)) ?_
      refine G.take 9 46 (.agg y.cells.toArray) rfl (by kernel_rfl) rfl (fun _ _ _ h => h) ((Mv.refl _ _ _).trans (M5.mono (fun _ h => h))).self (by kernel_rfl) (fun u hm => exec_loads (cs := y.cells) rfl rfl Ty146 rfl (hr3.mv hm quiet).2.2) ?_
      refine Yb 10 47 (.slice s.a s.n s.c) rfl (fun u => by kernel_rfl) ?_
      refine Yb 11 48 (.int .i64 ↑j) rfl (fun u => by kernel_rfl) ?_
      obtain ⟨b4, ha4, hib4, hr4⟩ := hG_2.elt (at_x p3)
      refine Yb 12 49 (.pointer (some ⟨b4, 0 + j * 3, none⟩)) rfl (fun u => (exec_index (E := 146) (k := j) rfl (by kernel_rfl) (by kernel_rfl) rfl ha4 rfl hib4)) ?_
      refine G.take 13 50 (.agg x.cells.toArray) rfl (by kernel_rfl) rfl (fun _ _ _ h => h) ((Mv.refl _ _ _).trans (M5.mono (fun _ h => h))).self (by kernel_rfl) (fun u hm => exec_loads (cs := x.cells) rfl rfl Ty146 rfl (hr4.mv hm quiet).2.2) ?_
      obtain ⟨b5, ha5, hib5, hr5⟩ := hG_2.elt (at_x p3)
      refine Yb 14 51 (.pointer (some ⟨b5, 0 + j * 3, none⟩)) rfl (fun u => (exec_index (E := 146) (k := j) rfl (by kernel_rfl) (by kernel_rfl) rfl ha5 rfl hib5)) ?_
      have hG_3 := h2.mv M3 quiet
      have hG_4 := hG_3.mv M4 quiet
      have hG_5 := hG_4.mv M5 quiet
      refine G.op 15 (by kernel_rfl) rfl (O.gset j y (by kernel_rfl) rfl rfl rfl rfl Ty146 (fun _ => rfl) hG_5 (by first | omega | (simp only [List.length_set, List.length_append, List.length_cons] at *; omega)) ha5 fun w4 hG3 M6 => ⟨(kp_skip (by kernel_rfl) (kp_skip (by kernel_rfl) kp_nil)), ?_⟩)
      have K6 := K5.step M6 (fun _ h => h) (neq (by omega))
      have n2 := hG3.len
      obtain ⟨b6, ha6, hib6, hr6⟩ := hG_2.elt (at_y p3 hL)
      refine Yb 16 52 (.pointer (some ⟨b6, 0 + (j - 1) * 3, none⟩)) rfl (fun u => (exec_index (E := 146) (k := j - 1) rfl (by kernel_rfl) (by kernel_rfl) rfl ha6 rfl hib6)) ?_
      refine G.op 17 (by kernel_rfl) rfl (O.gset (j - 1) x (by kernel_rfl) rfl rfl rfl rfl Ty146 (fun _ => rfl) hG3 (by first | omega | (simp only [List.length_set, List.length_append, List.length_cons] at *; omega)) ha6 fun w5 hG4 M7 => ⟨(kp_skip (by kernel_rfl) (kp_skip (by kernel_rfl) kp_nil)), ?_⟩)
      have K7 := K6.step M7 (fun _ h => h) (neq (by omega))
      have n3 := hG4.len
      refine G.fin (by kernel_rfl) ?_
      refine block_normal (hk8 _ _ (wp_region_lit ?_))
      refine Zb 35 (.int .i64 ↑j) ?_
      refine Zc 36 (.int .i64 ((j - 1 : Nat) : Int)) (okv (v := .int .i64 (IntKind.i64.wrap (((j : Nat) : Int) - 1))) (by kernel_rfl) (wrapn (by omega) (by omega))) ?_
      refine Zb 9 (.int .i64 ((j - 1 : Nat) : Int)) ?_
      refine wpList_nil ?_
      exact ⟨(j - 1) + 1, _, by omega, ((((((look_eq (t := 0) (v := .slice s.a s.n s.c) rfl).trans (look_eq (t := 1) (v := .int .i64 ↑a) rfl)).trans (look_eq (t := 2) (v := .int .i64 ↑b) rfl)).trans (look_eq (t := 3) (v := .func (.func 69) #[] #[]) rfl)).trans (look_eq (t := 8) (v := .int .i64 (((a + i0) : Nat) : Int)) rfl)).trans (look_eq (t := 9) (v := .int .i64 (((j - 1) : Nat) : Int)) rfl)), ⟨(j - 1), M9, (y :: Q), _, _, rfl, rfl, K7, (((((M2.trans (M3.mono nt_le)).trans (M4.mono nt_le)).trans (M5.mono nt_le)).trans (M6.mono (eq_rg (by omega)))).trans (M7.mono (eq_rg (by omega)))), (by have hz := congrArg List.length hL; rw [List.length_append] at hz; simp only [List.length_cons, List.length_nil] at hz; omega), (by rw [← p4, hL, insE_past _ (decide_eq_true t3)]; simp), by omega, (fun e he => p6 e (by rw [hL]; exact List.mem_append_left _ he)), (by have h := hG4; rw [at_swap p3 hL] at h; exact h)⟩⟩
     ·refine Yb 15 33 (.bool false) rfl (fun u => okv ((fun u => by kernel_rfl) u) (congrArg Value.bool (decide_eq_false t3))) ?_
      refine Yb 16 34 (.bool false) rfl (fun u => by kernel_rfl) ?_
      refine G.fin (by kernel_rfl) ?_
      refine hk7 _ _ (W.cond false rfl (wp_exit (then_exit ?_)))
      have hG_6 := h2.mv M3 quiet
      have hG_7 := hG_6.mv M4 quiet
      have hG5 := hG_7
      rw [show (pre ++ L ++ x :: Q) = pre ++ insE ltRtd (isort ltRtd (seg.take i0)) x ++ (seg.drop (i0 + 1) ++ post) from by rw [← p4, hL, insE_stop _ (decide_eq_false t3)]; simp] at hG5
      refine then_exit (block_exit (block_normal (hk4 _ _ (wp_region_lit ?_))))
      refine Zb 15 (.int .i64 (((a + i0) : Nat) : Int)) ?_
      refine Zc 16 (.int .i64 (((a + i0) + 1 : Nat) : Int)) (okv (v := .int .i64 (IntKind.i64.wrap ((((a + i0) : Nat) : Int) + 1))) (by kernel_rfl) (wrapn (by omega) (by omega))) ?_
      refine Zb 8 (.int .i64 (((a + i0) + 1 : Nat) : Int)) ?_
      refine wpList_nil ?_
      exact ⟨seg.length + 1 - (i0 + 1), _, by omega, (((((look_eq (t := 0) (v := .slice s.a s.n s.c) rfl).trans (look_eq (t := 1) (v := .int .i64 ↑a) rfl)).trans (look_eq (t := 2) (v := .int .i64 ↑b) rfl)).trans (look_eq (t := 3) (v := .func (.func 69) #[] #[]) rfl)).trans (look_eq (t := 8) (v := .int .i64 (((a + (i0 + 1)) : Nat) : Int)) rfl)), ⟨(i0 + 1), _, _, rfl, rfl, K4, (((M1.trans (M2.mono (fun _ h => h))).trans (M3.mono nt_le)).trans (M4.mono nt_le)), by omega, by omega, (by have h := hG5; rw [take_snoc hx0, isort_snoc]; exact h)⟩⟩
    ·refine Yb 2 20 (.bool false) rfl (fun u => okv ((fun u => by kernel_rfl) u) (congrArg Value.bool (decide_eq_false t2))) ?_
     refine Yb 3 21 (.bool false) rfl (fun u => by kernel_rfl) ?_
     refine Ya 4 22 rfl ?_
     refine Ya 5 23 rfl ?_
     refine Ya 6 24 rfl ?_
     refine Ya 7 25 rfl ?_
     refine Ya 8 26 rfl ?_
     refine Ya 9 27 rfl ?_
     refine Ya 10 28 rfl ?_
     refine Ya 11 29 rfl ?_
     refine Ya 12 30 rfl ?_
     refine Ya 13 31 rfl ?_
     refine G.op 14 (by kernel_rfl) rfl (O.no 32 (by kernel_rfl) rfl ⟨fun _ _ h => h, ?_⟩)
     refine Ya 15 33 rfl ?_
     refine Yb 16 34 (.bool false) rfl (fun u => by kernel_rfl) ?_
     refine G.fin (by kernel_rfl) ?_
     refine hk7 _ _ (W.cond false rfl (wp_exit (then_exit ?_)))
     have hG_8 := h2.mv M3 quiet
     have hG6 := hG_8
     have hL0 : L = [] := List.eq_nil_of_length_eq_zero (by omega)
     rw [show (pre ++ L ++ x :: Q) = pre ++ insE ltRtd (isort ltRtd (seg.take i0)) x ++ (seg.drop (i0 + 1) ++ post) from by rw [← p4, hL0, insE_nil]; simp] at hG6
     refine then_exit (block_exit (block_normal (hk4 _ _ (wp_region_lit ?_))))
     refine Zb 15 (.int .i64 (((a + i0) : Nat) : Int)) ?_
     refine Zc 16 (.int .i64 (((a + i0) + 1 : Nat) : Int)) (okv (v := .int .i64 (IntKind.i64.wrap ((((a + i0) : Nat) : Int) + 1))) (by kernel_rfl) (wrapn (by omega) (by omega))) ?_
     refine Zb 8 (.int .i64 (((a + i0) + 1 : Nat) : Int)) ?_
     refine wpList_nil ?_
     exact ⟨seg.length + 1 - (i0 + 1), _, by omega, (((((look_eq (t := 0) (v := .slice s.a s.n s.c) rfl).trans (look_eq (t := 1) (v := .int .i64 ↑a) rfl)).trans (look_eq (t := 2) (v := .int .i64 ↑b) rfl)).trans (look_eq (t := 3) (v := .func (.func 69) #[] #[]) rfl)).trans (look_eq (t := 8) (v := .int .i64 (((a + (i0 + 1)) : Nat) : Int)) rfl)), ⟨(i0 + 1), _, _, rfl, rfl, K3, ((M1.trans (M2.mono (fun _ h => h))).trans (M3.mono nt_le)), by omega, by omega, (by have h := hG6; rw [take_snoc hx0, isort_snoc]; exact h)⟩⟩
  ·refine Zc 14 (.bool false) (okv (by kernel_rfl) (congrArg Value.bool (decide_eq_false t1))) ?_
   refine wpList_nil (hk3 _ _ (W.cond false rfl (wp_exit (then_exit (then_exit (block_exit ?_))))))
   refine W.end0 rfl ?_
   have hend : pre ++ isort ltRtd (seg.take i0) ++ (seg.drop i0 ++ post) = pre ++ isort ltRtd seg ++ post := by rw [List.take_of_length_le (by omega), List.drop_eq_nil_of_le (by omega)]; simp
   have h3 := h1
   rw [hend] at h3
   exact ⟨_, rfl, K1.mv, h3⟩

set_option maxRecDepth 100000 in
set_option maxHeartbeats 1000000 in
theorem insEdit_c (s : Sli) (pre seg post : List Edit) (t a b : Nat) (cb tc l : Nat) (w : World) (γ : Tg) (hG : Gs t 55 8 Edit.cells w γ s (pre ++ seg ++ post)) (ht : 2 ≤ t) (ha : a = pre.length) (hb : b = pre.length + seg.length) (hl : pre.length + seg.length + post.length ≤ 100000) (hok : ∀ e ∈ seg, e.it.key.size < 9223372036854775807) (hlv : Cl tc w γ cb 0 (.int .i64 (l : Int))) (htc : tc = 0) :
    Calls Try.prog 108 #[.slice s.a s.n s.c, .int .i64 ((a : Nat) : Int), .int .i64 ((b : Nat) : Int), .func (.func 98) #[] #[.pointer (some ⟨cb, 0, none⟩)]] w fun ε w' => ∃ γ', ε = .returned (.tuple #[]) ∧ Mv (fun ξ => ξ = t) w γ w' γ' ∧ Gs t 55 8 Edit.cells w' γ' s (pre ++ isort (ltEdit l) seg ++ post) := by
 have K0 := Kn.start (fun ξ => ξ = t) w γ
 refine W.enter (ws := [(3, .func (.func 98) #[] #[.pointer (some ⟨cb, 0, none⟩)]), (2, .int .i64 ↑b), (1, .int .i64 ↑a), (0, .slice s.a s.n s.c)]) 53 Try.func108 rfl (by kernel_rfl) ?_
 have n1 := hG.len
 refine wp_seq_k fun k1 hk1 => (wp_region_lit ?_)
 refine Zb 10 (.int .i64 ↑a) ?_
 refine Zc 11 (.int .i64 ((a + 1 : Nat) : Int)) (okv (v := .int .i64 (IntKind.i64.wrap (((a : Nat) : Int) + 1))) (by kernel_rfl) (wrapn (by omega) (by omega))) ?_
 refine Zb 8 (.int .i64 ((a + 1 : Nat) : Int)) ?_
 refine wpList_nil (hk1 _ _ (wp_block ?_))
 have hG1 := hG
 rw [show pre ++ seg ++ post = pre ++ isort (ltEdit l) (seg.take 1) ++ (seg.drop 1 ++ post) from by rw [isort_one _ _ (by rw [List.length_take]; omega)]; cases seg <;> simp] at hG1
 refine W.loop (fun (μ0 : Nat) (ws : List (Nat × Value)) (w' : World) => ∃ (i0 : Nat) (γ' : Tg) (ρ0 : List (Nat × Value)), μ0 = seg.length + 1 - i0 ∧ ws = ((8, .int .i64 (((a + i0) : Nat) : Int)) :: (3, .func (.func 98) #[] #[.pointer (some ⟨cb, 0, none⟩)]) :: (2, .int .i64 ↑b) :: (1, .int .i64 ↑a) :: (0, .slice s.a s.n s.c) :: ρ0) ∧ Kn (fun ξ => ξ = t) w γ [] w' γ' ∧ Mv (Rg 1 (t + 1)) w γ w' γ' ∧ (1 ≤ i0) ∧ (i0 ≤ max 1 seg.length) ∧ Gs t 55 8 Edit.cells w' γ' s (pre ++ isort (ltEdit l) (seg.take i0) ++ (seg.drop i0 ++ post)) ∧ Cl tc w' γ' cb 0 (.int .i64 (l : Int))) (seg.length + 1 - 1) (((((look_eq (t := 0) (v := .slice s.a s.n s.c) rfl).trans (look_eq (t := 1) (v := .int .i64 ↑a) rfl)).trans (look_eq (t := 2) (v := .int .i64 ↑b) rfl)).trans (look_eq (t := 3) (v := .func (.func 98) #[] #[.pointer (some ⟨cb, 0, none⟩)]) rfl)).trans (look_eq (t := 8) (v := .int .i64 (((a + 1) : Nat) : Int)) rfl)) ?_ ?_
 ·exact ⟨1, _, _, rfl, rfl, K0, Mv.refl _ _ _, Nat.le_refl _, by omega, hG1, hlv⟩
 ·rintro _ _ w1 ⟨i0, g1, r1, rfl, rfl, K1, M1, p1, p2, h1, h2⟩
  refine wp_seq_k fun k2 hk2 => (wp_seq_k fun k3 hk3 => (wp_region_lit ?_))
  refine Zb 12 (.int .i64 (((a + i0) : Nat) : Int)) ?_
  refine Zb 13 (.int .i64 ↑b) ?_
  by_cases t1 : (((a + i0) : Nat) : Int) < ((b : Nat) : Int)
  ·refine Zc 14 (.bool true) (okv (by kernel_rfl) (congrArg Value.bool (decide_eq_true t1))) ?_
   refine wpList_nil (hk3 _ _ (W.cond true rfl (wp_skip (hk2 _ _ (wp_seq_k fun k4 hk4 => (wp_block ?_))))))
   refine wp_seq_k fun k5 hk5 => (wp_region_lit ?_)
   refine Zb 17 (.int .i64 (((a + i0) : Nat) : Int)) ?_
   refine Zb 9 (.int .i64 (((a + i0) : Nat) : Int)) ?_
   refine wpList_nil (hk5 _ _ (wp_block ?_))
   obtain ⟨x, hx0⟩ := get_some (xs := seg) (i := i0) (by omega)
   have hG2 := h1
   rw [drop_cons hx0, List.cons_append] at hG2
   refine W.loop (fun (μ0 : Nat) (ws : List (Nat × Value)) (w' : World) => ∃ (j : Nat) (L : List Edit) (Q : List Edit) (γ' : Tg) (ρ0 : List (Nat × Value)), μ0 = j + 1 ∧ ws = ((9, .int .i64 ↑j) :: (8, .int .i64 (((a + i0) : Nat) : Int)) :: (3, .func (.func 98) #[] #[.pointer (some ⟨cb, 0, none⟩)]) :: (2, .int .i64 ↑b) :: (1, .int .i64 ↑a) :: (0, .slice s.a s.n s.c) :: ρ0) ∧ Kn (fun ξ => ξ = t) w γ [] w' γ' ∧ Mv (Rg 1 (t + 1)) w1 g1 w' γ' ∧ (j = pre.length + L.length) ∧ (pre ++ insE (ltEdit l) L x ++ Q = pre ++ insE (ltEdit l) (isort (ltEdit l) (seg.take i0)) x ++ (seg.drop (i0 + 1) ++ post)) ∧ (j ≤ 100000) ∧ (∀ e ∈ L, e.it.key.size < 9223372036854775807) ∧ Gs t 55 8 Edit.cells w' γ' s (pre ++ L ++ x :: Q) ∧ Cl tc w' γ' cb 0 (.int .i64 (l : Int))) ((a + i0) + 1) ((((((look_eq (t := 0) (v := .slice s.a s.n s.c) rfl).trans (look_eq (t := 1) (v := .int .i64 ↑a) rfl)).trans (look_eq (t := 2) (v := .int .i64 ↑b) rfl)).trans (look_eq (t := 3) (v := .func (.func 98) #[] #[.pointer (some ⟨cb, 0, none⟩)]) rfl)).trans (look_eq (t := 8) (v := .int .i64 (((a + i0) : Nat) : Int)) rfl)).trans (look_eq (t := 9) (v := .int .i64 (((a + i0) : Nat) : Int)) rfl)) ?_ ?_
   ·exact ⟨(a + i0), (isort (ltEdit l) (seg.take i0)), (seg.drop (i0 + 1) ++ post), _, _, rfl, rfl, K1, Mv.refl _ _ _, by rw [isort_length, List.length_take]; omega, rfl, by omega, (fun e he => hok e (List.mem_of_mem_take ((isort_mem _ _ _).1 he))), hG2, h2⟩
   ·rintro _ _ w2 ⟨j, L, Q, g2, r2, rfl, rfl, K2, M2, p3, p4, p5, p6, h3, h4⟩
    refine wp_seq_k fun k6 hk6 => (wp_seq_k fun k7 hk7 => (wp_region_G (SmL [(8, Nt), (13, Nt)] w2 g2) (by kernel_rfl) ?_))
    have K3 := K2.drew
    have M3 : Mv Nt w2 g2 w2.drew g2 := (Mv.refl _ _ _).drew
    refine Yb 0 18 (.int .i64 ↑j) rfl (fun u => by kernel_rfl) ?_
    refine Yb 1 19 (.int .i64 ↑a) rfl (fun u => by kernel_rfl) ?_
    by_cases t2 : ((j : Nat) : Int) > ((a : Nat) : Int)
    ·refine Yb 2 20 (.bool true) rfl (fun u => okv ((fun u => by kernel_rfl) u) (congrArg Value.bool (decide_eq_true t2))) ?_
     refine Yb 3 21 (.bool true) rfl (fun u => by kernel_rfl) ?_
     refine Yb 4 22 (.func (.func 98) #[] #[.pointer (some ⟨cb, 0, none⟩)]) rfl (fun u => by kernel_rfl) ?_
     refine Yb 5 23 (.slice s.a s.n s.c) rfl (fun u => by kernel_rfl) ?_
     refine Yb 6 24 (.int .i64 ↑j) rfl (fun u => by kernel_rfl) ?_
     obtain ⟨b1, ha1, hib1, hr1⟩ := h3.elt (at_x p3)
     refine Yb 7 25 (.pointer (some ⟨b1, 0 + j * 8, none⟩)) rfl (fun u => (exec_index (E := 55) (k := j) rfl (by kernel_rfl) (by kernel_rfl) rfl ha1 rfl hib1)) ?_
     refine G.take 8 26 (.agg x.cells.toArray) rfl (by kernel_rfl) rfl (fun _ _ _ h => h) ((Mv.refl _ _ _).trans (M3.mono (fun _ h => h))).self (by kernel_rfl) (fun u hm => exec_loads (cs := x.cells) rfl rfl Ty55 rfl (hr1.mv hm quiet).2.2) ?_
     refine Yb 9 27 (.slice s.a s.n s.c) rfl (fun u => by kernel_rfl) ?_
     refine Yb 10 28 (.int .i64 ↑j) rfl (fun u => by kernel_rfl) ?_
     refine Yb 11 29 (.int .i64 ((j - 1 : Nat) : Int)) rfl (fun u => okv (v := .int .i64 (IntKind.i64.wrap (((j : Nat) : Int) - 1))) ((fun u => by kernel_rfl) u) (wrapn (by omega) (by omega))) ?_
     obtain ⟨M9, y, hL⟩ := exists_snoc (L := L) (by omega)
     obtain ⟨b2, ha2, hib2, hr2⟩ := h3.elt (at_y p3 hL)
     refine Yb 12 30 (.pointer (some ⟨b2, 0 + (j - 1) * 8, none⟩)) rfl (fun u => (exec_index (E := 55) (k := j - 1) rfl (by kernel_rfl) (by kernel_rfl) rfl ha2 rfl hib2)) ?_
     refine G.take 13 31 (.agg y.cells.toArray) rfl (by kernel_rfl) rfl (fun _ _ _ h => h) ((Mv.refl _ _ _).trans (M3.mono (fun _ h => h))).self (by kernel_rfl) (fun u hm => exec_loads (cs := y.cells) rfl rfl Ty55 rfl (hr2.mv hm quiet).2.2) ?_
     have hlv_1 := h4.mv M3 quiet
     refine G.op 14 (by kernel_rfl) rfl (O.call 32 98 #[.agg x.cells.toArray, .agg y.cells.toArray, .pointer (some ⟨cb, 0, none⟩)] (by kernel_rfl) rfl (by kernel_rfl) ((partedCmp_c x y cb tc l w2.drew g2 hlv_1 (hok x (List.mem_of_getElem? hx0)) (p6 y (by rw [hL]; simp))).mono ?_))
     rintro e1 w3 ⟨g3, rfl, M4⟩
     have K4 := K3.step M4 nt_le quiet
     refine ⟨_, rfl, ⟨kp_nt ((Mv.refl _ _ _).trans M4) _, ?_⟩⟩
     by_cases t3 : (cmpI ((digitOf x.it.key l : Nat) : Int) ((digitOf y.it.key l : Nat) : Int)) < 0
     ·refine Yb 15 33 (.bool true) rfl (fun u => okv ((fun u => by kernel_rfl) u) (congrArg Value.bool (decide_eq_true t3))) ?_
      refine Yb 16 34 (.bool true) rfl (fun u => by kernel_rfl) ?_
      refine G.fin (by kernel_rfl) ?_
      refine hk7 _ _ (W.cond true rfl (wp_skip (hk6 _ _ (wp_seq_k fun k8 hk8 => (wp_block (wp_region_G (SmL [(9, Nt), (13, Nt)] w3 g3) (by kernel_rfl) ?_))))))
      have K5 := K4.drew
      have M5 : Mv Nt w3 g3 w3.drew g3 := (Mv.refl _ _ _).drew
      refine Yb 0 37 (.slice s.a s.n s.c) rfl (fun u => by kernel_rfl) ?_
      refine Yb 1 38 (.int .i64 ↑j) rfl (fun u => by kernel_rfl) ?_
      refine Yb 2 39 (.slice s.a s.n s.c) rfl (fun u => by kernel_rfl) ?_
      refine Yb 3 40 (.int .i64 ↑j) rfl (fun u => by kernel_rfl) ?_
      refine Yb 4 41 (.int .i64 ((j - 1 : Nat) : Int)) rfl (fun u => okv (v := .int .i64 (IntKind.i64.wrap (((j : Nat) : Int) - 1))) ((fun u => by kernel_rfl) u) (wrapn (by omega) (by omega))) ?_
      refine Yb 5 42 (.slice s.a s.n s.c) rfl (fun u => by kernel_rfl) ?_
      refine Yb 6 43 (.int .i64 ↑j) rfl (fun u => by kernel_rfl) ?_
      refine Yb 7 44 (.int .i64 ((j - 1 : Nat) : Int)) rfl (fun u => okv (v := .int .i64 (IntKind.i64.wrap (((j : Nat) : Int) - 1))) ((fun u => by kernel_rfl) u) (wrapn (by omega) (by omega))) ?_
      have hG_1 := h3.mv M3 quiet
      have hG_2 := hG_1.mv M4 quiet
      obtain ⟨b3, ha3, hib3, hr3⟩ := hG_2.elt (at_y p3 hL)
      refine Yb 8 45 (.pointer (some ⟨b3, 0 + (j - 1) * 8, none⟩)) rfl (fun u => (exec_index (E := 55) (k := j - 1) rfl (by kernel_rfl) (by kernel_rfl) rfl ha3 rfl hib3)) ?_
      refine G.take 9 46 (.agg y.cells.toArray) rfl (by kernel_rfl) rfl (fun _ _ _ h => h) ((Mv.refl _ _ _).trans (M5.mono (fun _ h => h))).self (by kernel_rfl) (fun u hm => exec_loads (cs := y.cells) rfl rfl Ty55 rfl (hr3.mv hm quiet).2.2) ?_
      refine Yb 10 47 (.slice s.a s.n s.c) rfl (fun u => by kernel_rfl) ?_
      refine Yb 11 48 (.int .i64 ↑j) rfl (fun u => by kernel_rfl) ?_
      obtain ⟨b4, ha4, hib4, hr4⟩ := hG_2.elt (at_x p3)
      refine Yb 12 49 (.pointer (some ⟨b4, 0 + j * 8, none⟩)) rfl (fun u => (exec_index (E := 55) (k := j) rfl (by kernel_rfl) (by kernel_rfl) rfl ha4 rfl hib4)) ?_
      refine G.take 13 50 (.agg x.cells.toArray) rfl (by kernel_rfl) rfl (fun _ _ _ h => h) ((Mv.refl _ _ _).trans (M5.mono (fun _ h => h))).self (by kernel_rfl) (fun u hm => exec_loads (cs := x.cells) rfl rfl Ty55 rfl (hr4.mv hm quiet).2.2) ?_
      obtain ⟨b5, ha5, hib5, hr5⟩ := hG_2.elt (at_x p3)
      refine Yb 14 51 (.pointer (some ⟨b5, 0 + j * 8, none⟩)) rfl (fun u => (exec_index (E := 55) (k := j) rfl (by kernel_rfl) (by kernel_rfl) rfl ha5 rfl hib5)) ?_
      have hG_3 := h3.mv M3 quiet
      have hG_4 := hG_3.mv M4 quiet
      have hG_5 := hG_4.mv M5 quiet
      refine G.op 15 (by kernel_rfl) rfl (O.gset j y (by kernel_rfl) rfl rfl rfl rfl Ty55 (fun _ => rfl) hG_5 (by first | omega | (simp only [List.length_set, List.length_append, List.length_cons] at *; omega)) ha5 fun w4 hG3 M6 => ⟨(kp_skip (by kernel_rfl) (kp_skip (by kernel_rfl) kp_nil)), ?_⟩)
      have K6 := K5.step M6 (fun _ h => h) (neq (by omega))
      have n2 := hG3.len
      obtain ⟨b6, ha6, hib6, hr6⟩ := hG_2.elt (at_y p3 hL)
      refine Yb 16 52 (.pointer (some ⟨b6, 0 + (j - 1) * 8, none⟩)) rfl (fun u => (exec_index (E := 55) (k := j - 1) rfl (by kernel_rfl) (by kernel_rfl) rfl ha6 rfl hib6)) ?_
      refine G.op 17 (by kernel_rfl) rfl (O.gset (j - 1) x (by kernel_rfl) rfl rfl rfl rfl Ty55 (fun _ => rfl) hG3 (by first | omega | (simp only [List.length_set, List.length_append, List.length_cons] at *; omega)) ha6 fun w5 hG4 M7 => ⟨(kp_skip (by kernel_rfl) (kp_skip (by kernel_rfl) kp_nil)), ?_⟩)
      have K7 := K6.step M7 (fun _ h => h) (neq (by omega))
      have n3 := hG4.len
      refine G.fin (by kernel_rfl) ?_
      refine block_normal (hk8 _ _ (wp_region_lit ?_))
      refine Zb 35 (.int .i64 ↑j) ?_
      refine Zc 36 (.int .i64 ((j - 1 : Nat) : Int)) (okv (v := .int .i64 (IntKind.i64.wrap (((j : Nat) : Int) - 1))) (by kernel_rfl) (wrapn (by omega) (by omega))) ?_
      refine Zb 9 (.int .i64 ((j - 1 : Nat) : Int)) ?_
      refine wpList_nil ?_
      have hlv_2 := hlv_1.mv M4 quiet
      have hlv_3 := hlv_2.mv M5 quiet
      have hlv_4 := hlv_3.mv M6 (neq (by omega))
      have hlv_5 := hlv_4.mv M7 (neq (by omega))
      exact ⟨(j - 1) + 1, _, by omega, ((((((look_eq (t := 0) (v := .slice s.a s.n s.c) rfl).trans (look_eq (t := 1) (v := .int .i64 ↑a) rfl)).trans (look_eq (t := 2) (v := .int .i64 ↑b) rfl)).trans (look_eq (t := 3) (v := .func (.func 98) #[] #[.pointer (some ⟨cb, 0, none⟩)]) rfl)).trans (look_eq (t := 8) (v := .int .i64 (((a + i0) : Nat) : Int)) rfl)).trans (look_eq (t := 9) (v := .int .i64 (((j - 1) : Nat) : Int)) rfl)), ⟨(j - 1), M9, (y :: Q), _, _, rfl, rfl, K7, (((((M2.trans (M3.mono nt_le)).trans (M4.mono nt_le)).trans (M5.mono nt_le)).trans (M6.mono (eq_rg (by omega)))).trans (M7.mono (eq_rg (by omega)))), (by have hz := congrArg List.length hL; rw [List.length_append] at hz; simp only [List.length_cons, List.length_nil] at hz; omega), (by rw [← p4, hL, insE_past _ (decide_eq_true t3)]; simp), by omega, (fun e he => p6 e (by rw [hL]; exact List.mem_append_left _ he)), (by have h := hG4; rw [at_swap p3 hL] at h; exact h), hlv_5⟩⟩
     ·refine Yb 15 33 (.bool false) rfl (fun u => okv ((fun u => by kernel_rfl) u) (congrArg Value.bool (decide_eq_false t3))) ?_
      refine Yb 16 34 (.bool false) rfl (fun u => by kernel_rfl) ?_
      refine G.fin (by kernel_rfl) ?_
      refine hk7 _ _ (W.cond false rfl (wp_exit (then_exit ?_)))
      have hG_6 := h3.mv M3 quiet
      have hG_7 := hG_6.mv M4 quiet
      have hG5 := hG_7
      rw [show (pre ++ L ++ x :: Q) = pre ++ insE (ltEdit l) (isort (ltEdit l) (seg.take i0)) x ++ (seg.drop (i0 + 1) ++ post) from by rw [← p4, hL, insE_stop _ (decide_eq_false t3)]; simp] at hG5
      refine then_exit (block_exit (block_normal (hk4 _ _ (wp_region_lit ?_))))
      refine Zb 15 (.int .i64 (((a + i0) : Nat) : Int)) ?_
      refine Zc 16 (.int .i64 (((a + i0) + 1 : Nat) : Int)) (okv (v := .int .i64 (IntKind.i64.wrap ((((a + i0) : Nat) : Int) + 1))) (by kernel_rfl) (wrapn (by omega) (by omega))) ?_
      refine Zb 8 (.int .i64 (((a + i0) + 1 : Nat) : Int)) ?_
      refine wpList_nil ?_
      have hlv_6 := hlv_1.mv M4 quiet
      exact ⟨seg.length + 1 - (i0 + 1), _, by omega, (((((look_eq (t := 0) (v := .slice s.a s.n s.c) rfl).trans (look_eq (t := 1) (v := .int .i64 ↑a) rfl)).trans (look_eq (t := 2) (v := .int .i64 ↑b) rfl)).trans (look_eq (t := 3) (v := .func (.func 98) #[] #[.pointer (some ⟨cb, 0, none⟩)]) rfl)).trans (look_eq (t := 8) (v := .int .i64 (((a + (i0 + 1)) : Nat) : Int)) rfl)), ⟨(i0 + 1), _, _, rfl, rfl, K4, (((M1.trans (M2.mono (fun _ h => h))).trans (M3.mono nt_le)).trans (M4.mono nt_le)), by omega, by omega, (by have h := hG5; rw [take_snoc hx0, isort_snoc]; exact h), hlv_6⟩⟩
    ·refine Yb 2 20 (.bool false) rfl (fun u => okv ((fun u => by kernel_rfl) u) (congrArg Value.bool (decide_eq_false t2))) ?_
     refine Yb 3 21 (.bool false) rfl (fun u => by kernel_rfl) ?_
     refine Ya 4 22 rfl ?_
     refine Ya 5 23 rfl ?_
     refine Ya 6 24 rfl ?_
     refine Ya 7 25 rfl ?_
     refine Ya 8 26 rfl ?_
     refine Ya 9 27 rfl ?_
     refine Ya 10 28 rfl ?_
     refine Ya 11 29 rfl ?_
     refine Ya 12 30 rfl ?_
     refine Ya 13 31 rfl ?_
     refine G.op 14 (by kernel_rfl) rfl (O.no 32 (by kernel_rfl) rfl ⟨fun _ _ h => h, ?_⟩)
     refine Ya 15 33 rfl ?_
     refine Yb 16 34 (.bool false) rfl (fun u => by kernel_rfl) ?_
     refine G.fin (by kernel_rfl) ?_
     refine hk7 _ _ (W.cond false rfl (wp_exit (then_exit ?_)))
     have hG_8 := h3.mv M3 quiet
     have hG6 := hG_8
     have hL0 : L = [] := List.eq_nil_of_length_eq_zero (by omega)
     rw [show (pre ++ L ++ x :: Q) = pre ++ insE (ltEdit l) (isort (ltEdit l) (seg.take i0)) x ++ (seg.drop (i0 + 1) ++ post) from by rw [← p4, hL0, insE_nil]; simp] at hG6
     refine then_exit (block_exit (block_normal (hk4 _ _ (wp_region_lit ?_))))
     refine Zb 15 (.int .i64 (((a + i0) : Nat) : Int)) ?_
     refine Zc 16 (.int .i64 (((a + i0) + 1 : Nat) : Int)) (okv (v := .int .i64 (IntKind.i64.wrap ((((a + i0) : Nat) : Int) + 1))) (by kernel_rfl) (wrapn (by omega) (by omega))) ?_
     refine Zb 8 (.int .i64 (((a + i0) + 1 : Nat) : Int)) ?_
     refine wpList_nil ?_
     have hlv_7 := h4.mv M3 quiet
     exact ⟨seg.length + 1 - (i0 + 1), _, by omega, (((((look_eq (t := 0) (v := .slice s.a s.n s.c) rfl).trans (look_eq (t := 1) (v := .int .i64 ↑a) rfl)).trans (look_eq (t := 2) (v := .int .i64 ↑b) rfl)).trans (look_eq (t := 3) (v := .func (.func 98) #[] #[.pointer (some ⟨cb, 0, none⟩)]) rfl)).trans (look_eq (t := 8) (v := .int .i64 (((a + (i0 + 1)) : Nat) : Int)) rfl)), ⟨(i0 + 1), _, _, rfl, rfl, K3, ((M1.trans (M2.mono (fun _ h => h))).trans (M3.mono nt_le)), by omega, by omega, (by have h := hG6; rw [take_snoc hx0, isort_snoc]; exact h), hlv_7⟩⟩
  ·refine Zc 14 (.bool false) (okv (by kernel_rfl) (congrArg Value.bool (decide_eq_false t1))) ?_
   refine wpList_nil (hk3 _ _ (W.cond false rfl (wp_exit (then_exit (then_exit (block_exit ?_))))))
   refine W.end0 rfl ?_
   have hend : pre ++ isort (ltEdit l) (seg.take i0) ++ (seg.drop i0 ++ post) = pre ++ isort (ltEdit l) seg ++ post := by rw [List.take_of_length_le (by omega), List.drop_eq_nil_of_le (by omega)]; simp
   have h5 := h1
   rw [hend] at h5
   exact ⟨_, rfl, K1.mv, h5⟩

set_option maxRecDepth 100000 in
set_option maxHeartbeats 1000000 in
theorem stableItem_c20 (s : Sli) (xs : List Item) (t n : Nat) (w : World) (γ : Tg) (hG : Gs t 50 7 Item.cells w γ s xs) (ht : 2 ≤ t) (hn : n = xs.length) (h20 : n < 20) :
    Calls Try.prog 76 #[.slice s.a s.n s.c, .int .i64 ((n : Nat) : Int), .func (.func 55) #[] #[]] w fun ε w' => ∃ γ', ε = .returned (.tuple #[]) ∧ Mv (fun ξ => ξ = t) w γ w' γ' ∧ Gs t 50 7 Item.cells w' γ' s (isort ltItem xs) := by
 have K0 := Kn.start (fun ξ => ξ = t) w γ
 refine W.enter (ws := [(2, .func (.func 55) #[] #[]), (1, .int .i64 ↑n), (0, .slice s.a s.n s.c)]) 63 Try.func76 rfl (by kernel_rfl) ?_
 have n1 := hG.len
 refine wp_seq_k fun k1 hk1 => (wp_region_lit ?_)
 refine Zb 6 (.int .i64 20) ?_
 refine wpList_nil (hk1 _ _ (wp_seq_k fun k2 hk2 => (wp_region_lit ?_)))
 refine Zb 10 (.int .i64 20) ?_
 refine Zb 7 (.int .i64 0) ?_
 refine Zb 8 (.int .i64 20) ?_
 refine wpList_nil (hk2 _ _ (wp_seq_k fun k3 hk3 => (wp_block ?_)))
 refine W.loop (fun (μ0 : Nat) (ws : List (Nat × Value)) (w' : World) => ∃  (γ' : Tg) (ρ0 : List (Nat × Value)), μ0 = 0 ∧ ws = ((8, .int .i64 20) :: (7, .int .i64 0) :: (6, .int .i64 20) :: (2, .func (.func 55) #[] #[]) :: (1, .int .i64 ↑n) :: (0, .slice s.a s.n s.c) :: ρ0) ∧ Kn (fun ξ => ξ = t) w γ [] w' γ' ∧ Mv Nt w γ w' γ' ∧ Gs t 50 7 Item.cells w' γ' s xs) (0) ((((((look_eq (t := 0) (v := .slice s.a s.n s.c) rfl).trans (look_eq (t := 1) (v := .int .i64 ↑n) rfl)).trans (look_eq (t := 2) (v := .func (.func 55) #[] #[]) rfl)).trans (look_eq (t := 6) (v := .int .i64 20) rfl)).trans (look_eq (t := 7) (v := .int .i64 0) rfl)).trans (look_eq (t := 8) (v := .int .i64 20) rfl)) ?_ ?_
 ·exact ⟨_, _, rfl, rfl, K0, Mv.refl _ _ _, hG⟩
 ·rintro _ _ w1 ⟨g1, r1, rfl, rfl, K1, M1, h1⟩
  refine wp_seq_k fun k4 hk4 => (wp_seq_k fun k5 hk5 => (wp_region_lit ?_))
  refine Zb 11 (.int .i64 20) ?_
  refine Zb 12 (.int .i64 ↑n) ?_
  by_cases t1 : 20 ≤ ((n : Nat) : Int)
  ·exfalso; omega
  ·refine Zc 13 (.bool false) (okv (by kernel_rfl) (congrArg Value.bool (decide_eq_false t1))) ?_
   refine wpList_nil (hk5 _ _ (W.cond false rfl (wp_exit (then_exit (then_exit (block_exit ?_))))))
   refine hk3 _ _ (wp_seq_k fun k6 hk6 => (wp_region_lit ?_))
   refine Zb 23 (.slice s.a s.n s.c) ?_
   refine Zb 24 (.int .i64 0) ?_
   refine Zb 25 (.int .i64 ↑n) ?_
   refine Zb 26 (.func (.func 55) #[] #[]) ?_
   refine W.op (O.call 27 93 #[.slice s.a s.n s.c, .int .i64 0, .int .i64 ↑n, .func (.func 55) #[] #[]] (by kernel_rfl) rfl (by kernel_rfl) ((insItem_c s [] xs [] t 0 n w1 g1 (by rw [List.nil_append, List.append_nil]; exact h1) ht rfl (by simp; omega) (by simp; omega)).mono ?_))
   rintro e1 w2 ⟨g2, rfl, M2, hG1⟩
   have K2 := K1.step M2 (fun _ h => h) (neq (by omega))
   refine ⟨_, rfl, ?_⟩
   refine wpList_nil (hk6 _ _ (wp_block ?_))
   refine W.loop (fun (μ0 : Nat) (ws : List (Nat × Value)) (w' : World) => ∃  (γ' : Tg) (ρ0 : List (Nat × Value)), μ0 = 0 ∧ ws = ((6, .int .i64 20) :: (2, .func (.func 55) #[] #[]) :: (1, .int .i64 ↑n) :: (0, .slice s.a s.n s.c) :: ρ0) ∧ Kn (fun ξ => ξ = t) w γ [] w' γ' ∧ Mv Nt w2 g2 w' γ' ∧ Gs t 50 7 Item.cells w' γ' s ([] ++ isort ltItem xs ++ [])) (0) ((((look_eq (t := 0) (v := .slice s.a s.n s.c) rfl).trans (look_eq (t := 1) (v := .int .i64 ↑n) rfl)).trans (look_eq (t := 2) (v := .func (.func 55) #[] #[]) rfl)).trans (look_eq (t := 6) (v := .int .i64 20) rfl)) ?_ ?_
   ·exact ⟨_, _, rfl, rfl, K2, Mv.refl _ _ _, hG1⟩
   ·rintro _ _ w3 ⟨g3, r2, rfl, rfl, K3, M3, h2⟩
    refine wp_seq_k fun k7 hk7 => (wp_seq_k fun k8 hk8 => (wp_region_lit ?_))
    refine Zb 28 (.int .i64 20) ?_
    refine Zb 29 (.int .i64 ↑n) ?_
    by_cases t2 : 20 < ((n : Nat) : Int)
    ·exfalso; omega
    ·refine Zc 30 (.bool false) (okv (by kernel_rfl) (congrArg Value.bool (decide_eq_false t2))) ?_
     refine wpList_nil (hk8 _ _ (W.cond false rfl (wp_exit (then_exit (then_exit (block_exit ?_))))))
     refine W.end0 rfl ?_
     have h3 := h2
     rw [List.nil_append, List.append_nil] at h3
     exact ⟨_, rfl, K3.mv, h3⟩

set_option maxRecDepth 100000 in
set_option maxHeartbeats 1000000 in
theorem stableRtd_c20 (s : Sli) (xs : List Rtd) (t n : Nat) (w : World) (γ : Tg) (hG : Gs t 146 3 Rtd.cells w γ s xs) (ht : 2 ≤ t) (hn : n = xs.length) (h20 : n < 20) :
    Calls Try.prog 86 #[.slice s.a s.n s.c, .int .i64 ((n : Nat) : Int), .func (.func 69) #[] #[]] w fun ε w' => ∃ γ', ε = .returned (.tuple #[]) ∧ Mv (fun ξ => ξ = t) w γ w' γ' ∧ Gs t 146 3 Rtd.cells w' γ' s (isort ltRtd xs) := by
 have K0 := Kn.start (fun ξ => ξ = t) w γ
 refine W.enter (ws := [(2, .func (.func 69) #[] #[]), (1, .int .i64 ↑n), (0, .slice s.a s.n s.c)]) 63 Try.func86 rfl (by kernel_rfl) ?_
 have n1 := hG.len
 refine wp_seq_k fun k1 hk1 => (wp_region_lit ?_)
 refine Zb 6 (.int .i64 20) ?_
 refine wpList_nil (hk1 _ _ (wp_seq_k fun k2 hk2 => (wp_region_lit ?_)))
 refine Zb 10 (.int .i64 20) ?_
 refine Zb 7 (.int .i64 0) ?_
 refine Zb 8 (.int .i64 20) ?_
 refine wpList_nil (hk2 _ _ (wp_seq_k fun k3 hk3 => (wp_block ?_)))
 refine W.loop (fun (μ0 : Nat) (ws : List (Nat × Value)) (w' : World) => ∃  (γ' : Tg) (ρ0 : List (Nat × Value)), μ0 = 0 ∧ ws = ((8, .int .i64 20) :: (7, .int .i64 0) :: (6, .int .i64 20) :: (2, .func (.func 69) #[] #[]) :: (1, .int .i64 ↑n) :: (0, .slice s.a s.n s.c) :: ρ0) ∧ Kn (fun ξ => ξ = t) w γ [] w' γ' ∧ Mv Nt w γ w' γ' ∧ Gs t 146 3 Rtd.cells w' γ' s xs) (0) ((((((look_eq (t := 0) (v := .slice s.a s.n s.c) rfl).trans (look_eq (t := 1) (v := .int .i64 ↑n) rfl)).trans (look_eq (t := 2) (v := .func (.func 69) #[] #[]) rfl)).trans (look_eq (t := 6) (v := .int .i64 20) rfl)).trans (look_eq (t := 7) (v := .int .i64 0) rfl)).trans (look_eq (t := 8) (v := .int .i64 20) rfl)) ?_ ?_
 ·exact ⟨_, _, rfl, rfl, K0, Mv.refl _ _ _, hG⟩
 ·rintro _ _ w1 ⟨g1, r1, rfl, rfl, K1, M1, h1⟩
  refine wp_seq_k fun k4 hk4 => (wp_seq_k fun k5 hk5 => (wp_region_lit ?_))
  refine Zb 11 (.int .i64 20) ?_
  refine Zb 12 (.int .i64 ↑n) ?_
  by_cases t1 : 20 ≤ ((n : Nat) : Int)
  ·exfalso; omega
  ·refine Zc 13 (.bool false) (okv (by kernel_rfl) (congrArg Value.bool (decide_eq_false t1))) ?_
   refine wpList_nil (hk5 _ _ (W.cond false rfl (wp_exit (then_exit (then_exit (block_exit ?_))))))
   refine hk3 _ _ (wp_seq_k fun k6 hk6 => (wp_region_lit ?_))
   refine Zb 23 (.slice s.a s.n s.c) ?_
   refine Zb 24 (.int .i64 0) ?_
   refine Zb 25 (.int .i64 ↑n) ?_
   refine Zb 26 (.func (.func 69) #[] #[]) ?_
   refine W.op (O.call 27 100 #[.slice s.a s.n s.c, .int .i64 0, .int .i64 ↑n, .func (.func 69) #[] #[]] (by kernel_rfl) rfl (by kernel_rfl) ((insRtd_c s [] xs [] t 0 n w1 g1 (by rw [List.nil_append, List.append_nil]; exact h1) ht rfl (by simp; omega) (by simp; omega)).mono ?_))
   rintro e1 w2 ⟨g2, rfl, M2, hG1⟩
   have K2 := K1.step M2 (fun _ h => h) (neq (by omega))
   refine ⟨_, rfl, ?_⟩
   refine wpList_nil (hk6 _ _ (wp_block ?_))
   refine W.loop (fun (μ0 : Nat) (ws : List (Nat × Value)) (w' : World) => ∃  (γ' : Tg) (ρ0 : List (Nat × Value)), μ0 = 0 ∧ ws = ((6, .int .i64 20) :: (2, .func (.func 69) #[] #[]) :: (1, .int .i64 ↑n) :: (0, .slice s.a s.n s.c) :: ρ0) ∧ Kn (fun ξ => ξ = t) w γ [] w' γ' ∧ Mv Nt w2 g2 w' γ' ∧ Gs t 146 3 Rtd.cells w' γ' s ([] ++ isort ltRtd xs ++ [])) (0) ((((look_eq (t := 0) (v := .slice s.a s.n s.c) rfl).trans (look_eq (t := 1) (v := .int .i64 ↑n) rfl)).trans (look_eq (t := 2) (v := .func (.func 69) #[] #[]) rfl)).trans (look_eq (t := 6) (v := .int .i64 20) rfl)) ?_ ?_
   ·exact ⟨_, _, rfl, rfl, K2, Mv.refl _ _ _, hG1⟩
   ·rintro _ _ w3 ⟨g3, r2, rfl, rfl, K3, M3, h2⟩
    refine wp_seq_k fun k7 hk7 => (wp_seq_k fun k8 hk8 => (wp_region_lit ?_))
    refine Zb 28 (.int .i64 20) ?_
    refine Zb 29 (.int .i64 ↑n) ?_
    by_cases t2 : 20 < ((n : Nat) : Int)
    ·exfalso; omega
    ·refine Zc 30 (.bool false) (okv (by kernel_rfl) (congrArg Value.bool (decide_eq_false t2))) ?_
     refine wpList_nil (hk8 _ _ (W.cond false rfl (wp_exit (then_exit (then_exit (block_exit ?_))))))
     refine W.end0 rfl ?_
     have h3 := h2
     rw [List.nil_append, List.append_nil] at h3
     exact ⟨_, rfl, K3.mv, h3⟩

set_option maxRecDepth 100000 in
set_option maxHeartbeats 1000000 in
theorem sortItem_c20 (s : Sli) (xs : List Item) (t : Nat) (w : World) (γ : Tg) (hG : Gs t 50 7 Item.cells w γ s xs) (ht : 2 ≤ t) (h20 : xs.length < 20) :
    Calls Try.prog 54 #[.slice s.a s.n s.c, .func (.func 55) #[] #[]] w fun ε w' => ∃ γ', ε = .returned (.tuple #[]) ∧ Mv (fun ξ => ξ = t) w γ w' γ' ∧ Gs t 50 7 Item.cells w' γ' s (isort ltItem xs) := by
 have K0 := Kn.start (fun ξ => ξ = t) w γ
 refine W.enter (ws := [(1, .func (.func 55) #[] #[]), (0, .slice s.a s.n s.c)]) 9 Try.func54 rfl (by kernel_rfl) ?_
 have n1 := hG.len
 refine wp_region_lit ?_
 refine Zb 4 (.slice s.a s.n s.c) ?_
 refine Zb 5 (.slice s.a s.n s.c) ?_
 refine Zb 6 (.int .i64 (s.n : Int)) ?_
 refine Zb 7 (.func (.func 55) #[] #[]) ?_
 refine W.op (O.call 8 76 #[.slice s.a s.n s.c, .int .i64 (s.n : Int), .func (.func 55) #[] #[]] (by kernel_rfl) rfl (by kernel_rfl) ((stableItem_c20 s xs t s.n w γ hG ht hG.len (by have := hG.len; omega)).mono ?_))
 rintro e1 w1 ⟨g1, rfl, M1, hG1⟩
 have K1 := K0.step M1 (fun _ h => h) (neq (by omega))
 refine ⟨_, rfl, ?_⟩
 refine wpList_nil ?_
 refine W.end0 rfl ?_
 exact ⟨_, rfl, K1.mv, hG1⟩

set_option maxRecDepth 100000 in
set_option maxHeartbeats 1000000 in
theorem sortRtd_c20 (s : Sli) (xs : List Rtd) (t : Nat) (w : World) (γ : Tg) (hG : Gs t 146 3 Rtd.cells w γ s xs) (ht : 2 ≤ t) (h20 : xs.length < 20) :
    Calls Try.prog 68 #[.slice s.a s.n s.c, .func (.func 69) #[] #[]] w fun ε w' => ∃ γ', ε = .returned (.tuple #[]) ∧ Mv (fun ξ => ξ = t) w γ w' γ' ∧ Gs t 146 3 Rtd.cells w' γ' s (isort ltRtd xs) := by
 have K0 := Kn.start (fun ξ => ξ = t) w γ
 refine W.enter (ws := [(1, .func (.func 69) #[] #[]), (0, .slice s.a s.n s.c)]) 9 Try.func68 rfl (by kernel_rfl) ?_
 have n1 := hG.len
 refine wp_region_lit ?_
 refine Zb 4 (.slice s.a s.n s.c) ?_
 refine Zb 5 (.slice s.a s.n s.c) ?_
 refine Zb 6 (.int .i64 (s.n : Int)) ?_
 refine Zb 7 (.func (.func 69) #[] #[]) ?_
 refine W.op (O.call 8 86 #[.slice s.a s.n s.c, .int .i64 (s.n : Int), .func (.func 69) #[] #[]] (by kernel_rfl) rfl (by kernel_rfl) ((stableRtd_c20 s xs t s.n w γ hG ht hG.len (by have := hG.len; omega)).mono ?_))
 rintro e1 w1 ⟨g1, rfl, M1, hG1⟩
 have K1 := K0.step M1 (fun _ h => h) (neq (by omega))
 refine ⟨_, rfl, ?_⟩
 refine wpList_nil ?_
 refine W.end0 rfl ?_
 exact ⟨_, rfl, K1.mv, hG1⟩

end Go.Proofs.Ytlfanphdnjoofaa
