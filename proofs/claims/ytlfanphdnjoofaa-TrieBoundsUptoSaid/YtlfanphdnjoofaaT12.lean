/- Walks: ranges are swapped. -/
import Derived.Test.YtlfanphdnjoofaaT11
import Derived.Test.YtlfanphdnjoofaaS
namespace Go.Proofs.Ytlfanphdnjoofaa
open Go.RowKit
set_option linter.unusedSimpArgs false
set_option linter.unusedVariables false
attribute [local irreducible] wpList Code.wp Calls OpS wpG

set_option maxRecDepth 100000 in
set_option maxHeartbeats 1000000 in
theorem swapItem_c (s : Sli) (pre : List Item) (X : List Item) (mid : List Item) (Y : List Item) (post : List Item) (t : Nat) (a : Nat) (b : Nat) (n : Nat) (cv : Value) (w : World) (γ : Tg) (hG : Gs t 50 7 Item.cells w γ s (pre ++ X ++ mid ++ Y ++ post)) (ht : 2 ≤ t) (ha : a = pre.length) (hb : b = pre.length + X.length + mid.length) (hX : X.length = n) (hY : Y.length = n) (hl : pre.length + X.length + mid.length + Y.length + post.length ≤ 100000) :
    Calls Try.prog 107 #[.slice s.a s.n s.c, .int .i64 ((a : Nat) : Int), .int .i64 ((b : Nat) : Int), .int .i64 ((n : Nat) : Int), cv] w fun ε w' => ∃ (γ' : Tg), ε = .returned (.tuple #[]) ∧ Mv (fun ξ => ξ = t) w γ w' γ' ∧ Gs t 50 7 Item.cells w' γ' s (pre ++ Y ++ mid ++ X ++ post) := by
 have K0 := Kn.start (fun ξ => ξ = t) w γ
 refine W.enter (ws := [(4, cv), (3, .int .i64 ↑n), (2, .int .i64 ↑b), (1, .int .i64 ↑a), (0, .slice s.a s.n s.c)]) 38 Try.func107 rfl (by kernel_rfl) ?_
 have n1 := hG.len
 refine wp_seq_k fun k1 hk1 => (wp_region_lit ?_)
 refine Zb 10 (.int .i64 0) ?_
 refine wpList_nil (hk1 _ _ (wp_block ?_))
 refine W.loop (fun (μ0 : Nat) (ws : List (Nat × Value)) (w' : World) => ∃ (k : Nat) (X1 : List Item) (X2 : List Item) (Y1 : List Item) (Y2 : List Item) (γ' : Tg) (ρ0 : List (Nat × Value)), μ0 = n - k ∧ ws = ((10, .int .i64 ↑k) :: (3, .int .i64 ↑n) :: (2, .int .i64 ↑b) :: (1, .int .i64 ↑a) :: (0, .slice s.a s.n s.c) :: ρ0) ∧ Kn (fun ξ => ξ = t) w γ [] w' γ' ∧ Mv (Rg 1 (t + 1)) w γ w' γ' ∧ (k = X1.length) ∧ (k = Y1.length) ∧ (X = X1 ++ X2) ∧ (Y = Y1 ++ Y2) ∧ Gs t 50 7 Item.cells w' γ' s (pre ++ (Y1 ++ X2) ++ mid ++ (X1 ++ Y2) ++ post)) (n - 0) (((((look_eq (t := 0) (v := .slice s.a s.n s.c) rfl).trans (look_eq (t := 1) (v := .int .i64 ↑a) rfl)).trans (look_eq (t := 2) (v := .int .i64 ↑b) rfl)).trans (look_eq (t := 3) (v := .int .i64 ↑n) rfl)).trans (look_eq (t := 10) (v := .int .i64 ↑0) rfl)) ?_ ?_
 ·exact ⟨0, [], X, [], Y, _, _, rfl, rfl, K0, Mv.refl _ _ _, rfl, rfl, rfl, rfl, (by have h := hG; rw [show pre ++ X ++ mid ++ Y ++ post = pre ++ ([] ++ X) ++ mid ++ ([] ++ Y) ++ post by simp] at h; exact h)⟩
 ·rintro _ _ w1 ⟨k, X1, X2, Y1, Y2, g1, r1, rfl, rfl, K1, M1, p1, p2, p3, p4, h1⟩
  have n2 := h1.len
  refine wp_seq_k fun k2 hk2 => (wp_seq_k fun k3 hk3 => (wp_region_lit ?_))
  refine Zb 11 (.int .i64 ↑k) ?_
  refine Zb 12 (.int .i64 ↑n) ?_
  by_cases t1 : ((k : Nat) : Int) < ((n : Nat) : Int)
  ·refine Zc 13 (.bool true) (okv (by kernel_rfl) (congrArg Value.bool (decide_eq_true t1))) ?_
   refine wpList_nil (hk3 _ _ (W.cond true rfl (wp_skip (hk2 _ _ (wp_seq_k fun k4 hk4 => (wp_block ?_))))))
   refine wp_region_G (SmL [(13, Nt), (19, Nt)] w1 g1) (by kernel_rfl) ?_
   have K2 := K1.drew
   have M2 : Mv Nt w1 g1 w1.drew g1 := (Mv.refl _ _ _).drew
   refine Yb 0 16 (.slice s.a s.n s.c) rfl (fun u => by kernel_rfl) ?_
   refine Yb 1 17 (.int .i64 ↑a) rfl (fun u => by kernel_rfl) ?_
   refine Yb 2 18 (.int .i64 ↑k) rfl (fun u => by kernel_rfl) ?_
   refine Yb 3 19 (.int .i64 ((a + k : Nat) : Int)) rfl (fun u => okv (v := .int .i64 (IntKind.i64.wrap (((a : Nat) : Int) + ((k : Nat) : Int)))) ((fun u => by kernel_rfl) u) (wrapn (by omega) (by omega))) ?_
   refine Yb 4 20 (.slice s.a s.n s.c) rfl (fun u => by kernel_rfl) ?_
   refine Yb 5 21 (.int .i64 ↑b) rfl (fun u => by kernel_rfl) ?_
   refine Yb 6 22 (.int .i64 ↑k) rfl (fun u => by kernel_rfl) ?_
   refine Yb 7 23 (.int .i64 ((b + k : Nat) : Int)) rfl (fun u => okv (v := .int .i64 (IntKind.i64.wrap (((b : Nat) : Int) + ((k : Nat) : Int)))) ((fun u => by kernel_rfl) u) (wrapn (by omega) (by omega))) ?_
   refine Yb 8 24 (.slice s.a s.n s.c) rfl (fun u => by kernel_rfl) ?_
   refine Yb 9 25 (.int .i64 ↑b) rfl (fun u => by kernel_rfl) ?_
   refine Yb 10 26 (.int .i64 ↑k) rfl (fun u => by kernel_rfl) ?_
   refine Yb 11 27 (.int .i64 ((b + k : Nat) : Int)) rfl (fun u => okv (v := .int .i64 (IntKind.i64.wrap (((b : Nat) : Int) + ((k : Nat) : Int)))) ((fun u => by kernel_rfl) u) (wrapn (by omega) (by omega))) ?_
   have hlx : X2.length = Y2.length := by have h1 := congrArg List.length p3; have h2 := congrArg List.length p4; simp only [List.length_append] at h1 h2; omega
   have hx0 : 0 < X2.length := by have h1 := congrArg List.length p3; simp only [List.length_append] at h1; omega
   obtain ⟨x, X3, hX3⟩ := cons_of hx0
   obtain ⟨y, Y3, hY3⟩ := cons_of (l := Y2) (by omega)
   have hlX := congrArg List.length p3
   rw [List.length_append] at hlX
   have hl3 := congrArg List.length hX3
   rw [List.length_cons] at hl3
   have sw := swap_at (l := pre ++ (Y1 ++ X2) ++ mid ++ (X1 ++ Y2) ++ post) (x := x) (y := y) (A := pre ++ Y1) (M := X3 ++ mid ++ X1) (C := Y3 ++ post) (i := a + k) (j := b + k) (by rw [hX3, hY3]; simp) (by rw [List.length_append]; omega) (by simp only [List.length_append]; omega)
   obtain ⟨b1, ha1, hib1, hr1⟩ := h1.elt sw.2.2.2.1
   refine Yb 12 28 (.pointer (some ⟨b1, 0 + (b + k) * 7, none⟩)) rfl (fun u => (exec_index (E := 50) (k := b + k) rfl (by kernel_rfl) (by kernel_rfl) rfl ha1 rfl hib1)) ?_
   refine G.take 13 29 (.agg y.cells.toArray) rfl (by kernel_rfl) rfl (fun _ _ _ h => h) ((Mv.refl _ _ _).trans (M2.mono (fun _ h => h))).self (by kernel_rfl) (fun u hm => exec_loads (cs := y.cells) rfl rfl Ty50 rfl (hr1.mv hm quiet).2.2) ?_
   refine Yb 14 30 (.slice s.a s.n s.c) rfl (fun u => by kernel_rfl) ?_
   refine Yb 15 31 (.int .i64 ↑a) rfl (fun u => by kernel_rfl) ?_
   refine Yb 16 32 (.int .i64 ↑k) rfl (fun u => by kernel_rfl) ?_
   refine Yb 17 33 (.int .i64 ((a + k : Nat) : Int)) rfl (fun u => okv (v := .int .i64 (IntKind.i64.wrap (((a : Nat) : Int) + ((k : Nat) : Int)))) ((fun u => by kernel_rfl) u) (wrapn (by omega) (by omega))) ?_
   obtain ⟨b2, ha2, hib2, hr2⟩ := h1.elt sw.2.2.1
   refine Yb 18 34 (.pointer (some ⟨b2, 0 + (a + k) * 7, none⟩)) rfl (fun u => (exec_index (E := 50) (k := a + k) rfl (by kernel_rfl) (by kernel_rfl) rfl ha2 rfl hib2)) ?_
   refine G.take 19 35 (.agg x.cells.toArray) rfl (by kernel_rfl) rfl (fun _ _ _ h => h) ((Mv.refl _ _ _).trans (M2.mono (fun _ h => h))).self (by kernel_rfl) (fun u hm => exec_loads (cs := x.cells) rfl rfl Ty50 rfl (hr2.mv hm quiet).2.2) ?_
   obtain ⟨b3, ha3, hib3, hr3⟩ := h1.elt sw.2.2.1
   refine Yb 20 36 (.pointer (some ⟨b3, 0 + (a + k) * 7, none⟩)) rfl (fun u => (exec_index (E := 50) (k := a + k) rfl (by kernel_rfl) (by kernel_rfl) rfl ha3 rfl hib3)) ?_
   have hhG_1 := h1.mv M2 quiet
   refine G.op 21 (by kernel_rfl) rfl (O.gset (a + k) y (by kernel_rfl) rfl rfl rfl rfl Ty50 (fun _ => rfl) hhG_1 (by first | omega | (simp only [List.length_set, List.length_append, List.length_cons] at *; omega)) ha3 fun w2 hG1 M3 => ⟨(kp_skip (by kernel_rfl) (kp_skip (by kernel_rfl) kp_nil)), ?_⟩)
   have K3 := K2.step M3 (fun _ h => h) (neq (by omega))
   have n3 := hG1.len
   obtain ⟨b4, ha4, hib4, hr4⟩ := h1.elt sw.2.2.2.1
   refine Yb 22 37 (.pointer (some ⟨b4, 0 + (b + k) * 7, none⟩)) rfl (fun u => (exec_index (E := 50) (k := b + k) rfl (by kernel_rfl) (by kernel_rfl) rfl ha4 rfl hib4)) ?_
   refine G.op 23 (by kernel_rfl) rfl (O.gset (b + k) x (by kernel_rfl) rfl rfl rfl rfl Ty50 (fun _ => rfl) hG1 (by first | omega | (simp only [List.length_set, List.length_append, List.length_cons] at *; omega)) ha4 fun w3 hG2 M4 => ⟨(kp_skip (by kernel_rfl) (kp_skip (by kernel_rfl) kp_nil)), ?_⟩)
   have K4 := K3.step M4 (fun _ h => h) (neq (by omega))
   have n4 := hG2.len
   refine G.fin (by kernel_rfl) ?_
   refine block_normal (hk4 _ _ (wp_region_lit ?_))
   refine Zb 14 (.int .i64 ↑k) ?_
   refine Zc 15 (.int .i64 ((k + 1 : Nat) : Int)) (okv (v := .int .i64 (IntKind.i64.wrap (((k : Nat) : Int) + 1))) (by kernel_rfl) (wrapn (by omega) (by omega))) ?_
   refine Zb 10 (.int .i64 ((k + 1 : Nat) : Int)) ?_
   refine wpList_nil ?_
   exact ⟨n - (k + 1), _, by omega, (((((look_eq (t := 0) (v := .slice s.a s.n s.c) rfl).trans (look_eq (t := 1) (v := .int .i64 ↑a) rfl)).trans (look_eq (t := 2) (v := .int .i64 ↑b) rfl)).trans (look_eq (t := 3) (v := .int .i64 ↑n) rfl)).trans (look_eq (t := 10) (v := .int .i64 (((k + 1) : Nat) : Int)) rfl)), ⟨(k + 1), (X1 ++ [x]), X3, (Y1 ++ [y]), Y3, _, _, rfl, rfl, K4, (((M1.trans (M2.mono nt_le)).trans (M3.mono (eq_rg (by omega)))).trans (M4.mono (eq_rg (by omega)))), by rw [List.length_append, ← p1]; rfl, by rw [List.length_append, ← p2]; rfl, by rw [p3, hX3]; simp, by rw [p4, hY3]; simp, (by have h := hG2; rw [sw.1] at h; rw [show pre ++ ((Y1 ++ [y]) ++ X3) ++ mid ++ ((X1 ++ [x]) ++ Y3) ++ post = (pre ++ Y1) ++ y :: ((X3 ++ mid ++ X1) ++ x :: (Y3 ++ post)) by simp]; exact h)⟩⟩
  ·refine Zc 13 (.bool false) (okv (by kernel_rfl) (congrArg Value.bool (decide_eq_false t1))) ?_
   refine wpList_nil (hk3 _ _ (W.cond false rfl (wp_exit (then_exit (then_exit (block_exit ?_))))))
   refine W.end0 rfl ?_
   have hlX := congrArg List.length p3
   have hlY := congrArg List.length p4
   rw [List.length_append] at hlX hlY
   obtain rfl : X2 = [] := List.eq_nil_of_length_eq_zero (by omega)
   obtain rfl : Y2 = [] := List.eq_nil_of_length_eq_zero (by omega)
   have hG9 := h1
   rw [show pre ++ (Y1 ++ []) ++ mid ++ (X1 ++ []) ++ post = pre ++ Y ++ mid ++ X ++ post by (rw [p3, p4]) <;> simp] at hG9
   exact ⟨_, rfl, K1.mv, hG9⟩

set_option maxRecDepth 100000 in
set_option maxHeartbeats 1000000 in
theorem swapRtd_c (s : Sli) (pre : List Rtd) (X : List Rtd) (mid : List Rtd) (Y : List Rtd) (post : List Rtd) (t : Nat) (a : Nat) (b : Nat) (n : Nat) (cv : Value) (w : World) (γ : Tg) (hG : Gs t 146 3 Rtd.cells w γ s (pre ++ X ++ mid ++ Y ++ post)) (ht : 2 ≤ t) (ha : a = pre.length) (hb : b = pre.length + X.length + mid.length) (hX : X.length = n) (hY : Y.length = n) (hl : pre.length + X.length + mid.length + Y.length + post.length ≤ 100000) :
    Calls Try.prog 110 #[.slice s.a s.n s.c, .int .i64 ((a : Nat) : Int), .int .i64 ((b : Nat) : Int), .int .i64 ((n : Nat) : Int), cv] w fun ε w' => ∃ (γ' : Tg), ε = .returned (.tuple #[]) ∧ Mv (fun ξ => ξ = t) w γ w' γ' ∧ Gs t 146 3 Rtd.cells w' γ' s (pre ++ Y ++ mid ++ X ++ post) := by
 have K0 := Kn.start (fun ξ => ξ = t) w γ
 refine W.enter (ws := [(4, cv), (3, .int .i64 ↑n), (2, .int .i64 ↑b), (1, .int .i64 ↑a), (0, .slice s.a s.n s.c)]) 38 Try.func110 rfl (by kernel_rfl) ?_
 have n1 := hG.len
 refine wp_seq_k fun k1 hk1 => (wp_region_lit ?_)
 refine Zb 10 (.int .i64 0) ?_
 refine wpList_nil (hk1 _ _ (wp_block ?_))
 refine W.loop (fun (μ0 : Nat) (ws : List (Nat × Value)) (w' : World) => ∃ (k : Nat) (X1 : List Rtd) (X2 : List Rtd) (Y1 : List Rtd) (Y2 : List Rtd) (γ' : Tg) (ρ0 : List (Nat × Value)), μ0 = n - k ∧ ws = ((10, .int .i64 ↑k) :: (3, .int .i64 ↑n) :: (2, .int .i64 ↑b) :: (1, .int .i64 ↑a) :: (0, .slice s.a s.n s.c) :: ρ0) ∧ Kn (fun ξ => ξ = t) w γ [] w' γ' ∧ Mv (Rg 1 (t + 1)) w γ w' γ' ∧ (k = X1.length) ∧ (k = Y1.length) ∧ (X = X1 ++ X2) ∧ (Y = Y1 ++ Y2) ∧ Gs t 146 3 Rtd.cells w' γ' s (pre ++ (Y1 ++ X2) ++ mid ++ (X1 ++ Y2) ++ post)) (n - 0) (((((look_eq (t := 0) (v := .slice s.a s.n s.c) rfl).trans (look_eq (t := 1) (v := .int .i64 ↑a) rfl)).trans (look_eq (t := 2) (v := .int .i64 ↑b) rfl)).trans (look_eq (t := 3) (v := .int .i64 ↑n) rfl)).trans (look_eq (t := 10) (v := .int .i64 ↑0) rfl)) ?_ ?_
 ·exact ⟨0, [], X, [], Y, _, _, rfl, rfl, K0, Mv.refl _ _ _, rfl, rfl, rfl, rfl, (by have h := hG; rw [show pre ++ X ++ mid ++ Y ++ post = pre ++ ([] ++ X) ++ mid ++ ([] ++ Y) ++ post by simp] at h; exact h)⟩
 ·rintro _ _ w1 ⟨k, X1, X2, Y1, Y2, g1, r1, rfl, rfl, K1, M1, p1, p2, p3, p4, h1⟩
  have n2 := h1.len
  refine wp_seq_k fun k2 hk2 => (wp_seq_k fun k3 hk3 => (wp_region_lit ?_))
  refine Zb 11 (.int .i64 ↑k) ?_
  refine Zb 12 (.int .i64 ↑n) ?_
  by_cases t1 : ((k : Nat) : Int) < ((n : Nat) : Int)
  ·refine Zc 13 (.bool true) (okv (by kernel_rfl) (congrArg Value.bool (decide_eq_true t1))) ?_
   refine wpList_nil (hk3 _ _ (W.cond true rfl (wp_skip (hk2 _ _ (wp_seq_k fun k4 hk4 => (wp_block ?_))))))
   refine wp_region_G (SmL [(13, Nt), (19, Nt)] w1 g1) (by kernel_rfl) ?_
   have K2 := K1.drew
   have M2 : Mv Nt w1 g1 w1.drew g1 := (Mv.refl _ _ _).drew
   refine Yb 0 16 (.slice s.a s.n s.c) rfl (fun u => by kernel_rfl) ?_
   refine Yb 1 17 (.int .i64 ↑a) rfl (fun u => by kernel_rfl) ?_
   refine Yb 2 18 (.int .i64 ↑k) rfl (fun u => by kernel_rfl) ?_
   refine Yb 3 19 (.int .i64 ((a + k : Nat) : Int)) rfl (fun u => okv (v := .int .i64 (IntKind.i64.wrap (((a : Nat) : Int) + ((k : Nat) : Int)))) ((fun u => by kernel_rfl) u) (wrapn (by omega) (by omega))) ?_
   refine Yb 4 20 (.slice s.a s.n s.c) rfl (fun u => by kernel_rfl) ?_
   refine Yb 5 21 (.int .i64 ↑b) rfl (fun u => by kernel_rfl) ?_
   refine Yb 6 22 (.int .i64 ↑k) rfl (fun u => by kernel_rfl) ?_
   refine Yb 7 23 (.int .i64 ((b + k : Nat) : Int)) rfl (fun u => okv (v := .int .i64 (IntKind.i64.wrap (((b : Nat) : Int) + ((k : Nat) : Int)))) ((fun u => by kernel_rfl) u) (wrapn (by omega) (by omega))) ?_
   refine Yb 8 24 (.slice s.a s.n s.c) rfl (fun u => by kernel_rfl) ?_
   refine Yb 9 25 (.int .i64 ↑b) rfl (fun u => by kernel_rfl) ?_
   refine Yb 10 26 (.int .i64 ↑k) rfl (fun u => by kernel_rfl) ?_
   refine Yb 11 27 (.int .i64 ((b + k : Nat) : Int)) rfl (fun u => okv (v := .int .i64 (IntKind.i64.wrap (((b : Nat) : Int) + ((k : Nat) : Int)))) ((fun u => by kernel_rfl) u) (wrapn (by omega) (by omega))) ?_
   have hlx : X2.length = Y2.length := by have h1 := congrArg List.length p3; have h2 := congrArg List.length p4; simp only [List.length_append] at h1 h2; omega
   have hx0 : 0 < X2.length := by have h1 := congrArg List.length p3; simp only [List.length_append] at h1; omega
   obtain ⟨x, X3, hX3⟩ := cons_of hx0
   obtain ⟨y, Y3, hY3⟩ := cons_of (l := Y2) (by omega)
   have hlX := congrArg List.length p3
   rw [List.length_append] at hlX
   have hl3 := congrArg List.length hX3
   rw [List.length_cons] at hl3
   have sw := swap_at (l := pre ++ (Y1 ++ X2) ++ mid ++ (X1 ++ Y2) ++ post) (x := x) (y := y) (A := pre ++ Y1) (M := X3 ++ mid ++ X1) (C := Y3 ++ post) (i := a + k) (j := b + k) (by rw [hX3, hY3]; simp) (by rw [List.length_append]; omega) (by simp only [List.length_append]; omega)
   obtain ⟨b1, ha1, hib1, hr1⟩ := h1.elt sw.2.2.2.1
   refine Yb 12 28 (.pointer (some ⟨b1, 0 + (b + k) * 3, none⟩)) rfl (fun u => (exec_index (E := 146) (k := b + k) rfl (by kernel_rfl) (by kernel_rfl) rfl ha1 rfl hib1)) ?_
   refine G.take 13 29 (.agg y.cells.toArray) rfl (by kernel_rfl) rfl (fun _ _ _ h => h) ((Mv.refl _ _ _).trans (M2.mono (fun _ h => h))).self (by kernel_rfl) (fun u hm => exec_loads (cs := y.cells) rfl rfl Ty146 rfl (hr1.mv hm quiet).2.2) ?_
   refine Yb 14 30 (.slice s.a s.n s.c) rfl (fun u => by kernel_rfl) ?_
   refine Yb 15 31 (.int .i64 ↑a) rfl (fun u => by kernel_rfl) ?_
   refine Yb 16 32 (.int .i64 ↑k) rfl (fun u => by kernel_rfl) ?_
   refine Yb 17 33 (.int .i64 ((a + k : Nat) : Int)) rfl (fun u => okv (v := .int .i64 (IntKind.i64.wrap (((a : Nat) : Int) + ((k : Nat) : Int)))) ((fun u => by kernel_rfl) u) (wrapn (by omega) (by omega))) ?_
   obtain ⟨b2, ha2, hib2, hr2⟩ := h1.elt sw.2.2.1
   refine Yb 18 34 (.pointer (some ⟨b2, 0 + (a + k) * 3, none⟩)) rfl (fun u => (exec_index (E := 146) (k := a + k) rfl (by kernel_rfl) (by kernel_rfl) rfl ha2 rfl hib2)) ?_
   refine G.take 19 35 (.agg x.cells.toArray) rfl (by kernel_rfl) rfl (fun _ _ _ h => h) ((Mv.refl _ _ _).trans (M2.mono (fun _ h => h))).self (by kernel_rfl) (fun u hm => exec_loads (cs := x.cells) rfl rfl Ty146 rfl (hr2.mv hm quiet).2.2) ?_
   obtain ⟨b3, ha3, hib3, hr3⟩ := h1.elt sw.2.2.1
   refine Yb 20 36 (.pointer (some ⟨b3, 0 + (a + k) * 3, none⟩)) rfl (fun u => (exec_index (E := 146) (k := a + k) rfl (by kernel_rfl) (by kernel_rfl) rfl ha3 rfl hib3)) ?_
   have hhG_1 := h1.mv M2 quiet
   refine G.op 21 (by kernel_rfl) rfl (O.gset (a + k) y (by kernel_rfl) rfl rfl rfl rfl Ty146 (fun _ => rfl) hhG_1 (by first | omega | (simp only [List.length_set, List.length_append, List.length_cons] at *; omega)) ha3 fun w2 hG1 M3 => ⟨(kp_skip (by kernel_rfl) (kp_skip (by kernel_rfl) kp_nil)), ?_⟩)
   have K3 := K2.step M3 (fun _ h => h) (neq (by omega))
   have n3 := hG1.len
   obtain ⟨b4, ha4, hib4, hr4⟩ := h1.elt sw.2.2.2.1
   refine Yb 22 37 (.pointer (some ⟨b4, 0 + (b + k) * 3, none⟩)) rfl (fun u => (exec_index (E := 146) (k := b + k) rfl (by kernel_rfl) (by kernel_rfl) rfl ha4 rfl hib4)) ?_
   refine G.op 23 (by kernel_rfl) rfl (O.gset (b + k) x (by kernel_rfl) rfl rfl rfl rfl Ty146 (fun _ => rfl) hG1 (by first | omega | (simp only [List.length_set, List.length_append, List.length_cons] at *; omega)) ha4 fun w3 hG2 M4 => ⟨(kp_skip (by kernel_rfl) (kp_skip (by kernel_rfl) kp_nil)), ?_⟩)
   have K4 := K3.step M4 (fun _ h => h) (neq (by omega))
   have n4 := hG2.len
   refine G.fin (by kernel_rfl) ?_
   refine block_normal (hk4 _ _ (wp_region_lit ?_))
   refine Zb 14 (.int .i64 ↑k) ?_
   refine Zc 15 (.int .i64 ((k + 1 : Nat) : Int)) (okv (v := .int .i64 (IntKind.i64.wrap (((k : Nat) : Int) + 1))) (by kernel_rfl) (wrapn (by omega) (by omega))) ?_
   refine Zb 10 (.int .i64 ((k + 1 : Nat) : Int)) ?_
   refine wpList_nil ?_
   exact ⟨n - (k + 1), _, by omega, (((((look_eq (t := 0) (v := .slice s.a s.n s.c) rfl).trans (look_eq (t := 1) (v := .int .i64 ↑a) rfl)).trans (look_eq (t := 2) (v := .int .i64 ↑b) rfl)).trans (look_eq (t := 3) (v := .int .i64 ↑n) rfl)).trans (look_eq (t := 10) (v := .int .i64 (((k + 1) : Nat) : Int)) rfl)), ⟨(k + 1), (X1 ++ [x]), X3, (Y1 ++ [y]), Y3, _, _, rfl, rfl, K4, (((M1.trans (M2.mono nt_le)).trans (M3.mono (eq_rg (by omega)))).trans (M4.mono (eq_rg (by omega)))), by rw [List.length_append, ← p1]; rfl, by rw [List.length_append, ← p2]; rfl, by rw [p3, hX3]; simp, by rw [p4, hY3]; simp, (by have h := hG2; rw [sw.1] at h; rw [show pre ++ ((Y1 ++ [y]) ++ X3) ++ mid ++ ((X1 ++ [x]) ++ Y3) ++ post = (pre ++ Y1) ++ y :: ((X3 ++ mid ++ X1) ++ x :: (Y3 ++ post)) by simp]; exact h)⟩⟩
  ·refine Zc 13 (.bool false) (okv (by kernel_rfl) (congrArg Value.bool (decide_eq_false t1))) ?_
   refine wpList_nil (hk3 _ _ (W.cond false rfl (wp_exit (then_exit (then_exit (block_exit ?_))))))
   refine W.end0 rfl ?_
   have hlX := congrArg List.length p3
   have hlY := congrArg List.length p4
   rw [List.length_append] at hlX hlY
   obtain rfl : X2 = [] := List.eq_nil_of_length_eq_zero (by omega)
   obtain rfl : Y2 = [] := List.eq_nil_of_length_eq_zero (by omega)
   have hG9 := h1
   rw [show pre ++ (Y1 ++ []) ++ mid ++ (X1 ++ []) ++ post = pre ++ Y ++ mid ++ X ++ post by (rw [p3, p4]) <;> simp] at hG9
   exact ⟨_, rfl, K1.mv, hG9⟩

set_option maxRecDepth 100000 in
set_option maxHeartbeats 1000000 in
theorem swapEdit_c (s : Sli) (pre : List Edit) (X : List Edit) (mid : List Edit) (Y : List Edit) (post : List Edit) (t : Nat) (a : Nat) (b : Nat) (n : Nat) (cv : Value) (w : World) (γ : Tg) (hG : Gs t 55 8 Edit.cells w γ s (pre ++ X ++ mid ++ Y ++ post)) (ht : 2 ≤ t) (ha : a = pre.length) (hb : b = pre.length + X.length + mid.length) (hX : X.length = n) (hY : Y.length = n) (hl : pre.length + X.length + mid.length + Y.length + post.length ≤ 100000) :
    Calls Try.prog 112 #[.slice s.a s.n s.c, .int .i64 ((a : Nat) : Int), .int .i64 ((b : Nat) : Int), .int .i64 ((n : Nat) : Int), cv] w fun ε w' => ∃ (γ' : Tg), ε = .returned (.tuple #[]) ∧ Mv (fun ξ => ξ = t) w γ w' γ' ∧ Gs t 55 8 Edit.cells w' γ' s (pre ++ Y ++ mid ++ X ++ post) := by
 have K0 := Kn.start (fun ξ => ξ = t) w γ
 refine W.enter (ws := [(4, cv), (3, .int .i64 ↑n), (2, .int .i64 ↑b), (1, .int .i64 ↑a), (0, .slice s.a s.n s.c)]) 38 Try.func112 rfl (by kernel_rfl) ?_
 have n1 := hG.len
 refine wp_seq_k fun k1 hk1 => (wp_region_lit ?_)
 refine Zb 10 (.int .i64 0) ?_
 refine wpList_nil (hk1 _ _ (wp_block ?_))
 refine W.loop (fun (μ0 : Nat) (ws : List (Nat × Value)) (w' : World) => ∃ (k : Nat) (X1 : List Edit) (X2 : List Edit) (Y1 : List Edit) (Y2 : List Edit) (γ' : Tg) (ρ0 : List (Nat × Value)), μ0 = n - k ∧ ws = ((10, .int .i64 ↑k) :: (3, .int .i64 ↑n) :: (2, .int .i64 ↑b) :: (1, .int .i64 ↑a) :: (0, .slice s.a s.n s.c) :: ρ0) ∧ Kn (fun ξ => ξ = t) w γ [] w' γ' ∧ Mv (Rg 1 (t + 1)) w γ w' γ' ∧ (k = X1.length) ∧ (k = Y1.length) ∧ (X = X1 ++ X2) ∧ (Y = Y1 ++ Y2) ∧ Gs t 55 8 Edit.cells w' γ' s (pre ++ (Y1 ++ X2) ++ mid ++ (X1 ++ Y2) ++ post)) (n - 0) (((((look_eq (t := 0) (v := .slice s.a s.n s.c) rfl).trans (look_eq (t := 1) (v := .int .i64 ↑a) rfl)).trans (look_eq (t := 2) (v := .int .i64 ↑b) rfl)).trans (look_eq (t := 3) (v := .int .i64 ↑n) rfl)).trans (look_eq (t := 10) (v := .int .i64 ↑0) rfl)) ?_ ?_
 ·exact ⟨0, [], X, [], Y, _, _, rfl, rfl, K0, Mv.refl _ _ _, rfl, rfl, rfl, rfl, (by have h := hG; rw [show pre ++ X ++ mid ++ Y ++ post = pre ++ ([] ++ X) ++ mid ++ ([] ++ Y) ++ post by simp] at h; exact h)⟩
 ·rintro _ _ w1 ⟨k, X1, X2, Y1, Y2, g1, r1, rfl, rfl, K1, M1, p1, p2, p3, p4, h1⟩
  have n2 := h1.len
  refine wp_seq_k fun k2 hk2 => (wp_seq_k fun k3 hk3 => (wp_region_lit ?_))
  refine Zb 11 (.int .i64 ↑k) ?_
  refine Zb 12 (.int .i64 ↑n) ?_
  by_cases t1 : ((k : Nat) : Int) < ((n : Nat) : Int)
  ·refine Zc 13 (.bool true) (okv (by kernel_rfl) (congrArg Value.bool (decide_eq_true t1))) ?_
   refine wpList_nil (hk3 _ _ (W.cond true rfl (wp_skip (hk2 _ _ (wp_seq_k fun k4 hk4 => (wp_block ?_))))))
   refine wp_region_G (SmL [(13, Nt), (19, Nt)] w1 g1) (by kernel_rfl) ?_
   have K2 := K1.drew
   have M2 : Mv Nt w1 g1 w1.drew g1 := (Mv.refl _ _ _).drew
   refine Yb 0 16 (.slice s.a s.n s.c) rfl (fun u => by kernel_rfl) ?_
   refine Yb 1 17 (.int .i64 ↑a) rfl (fun u => by kernel_rfl) ?_
   refine Yb 2 18 (.int .i64 ↑k) rfl (fun u => by kernel_rfl) ?_
   refine Yb 3 19 (.int .i64 ((a + k : Nat) : Int)) rfl (fun u => okv (v := .int .i64 (IntKind.i64.wrap (((a : Nat) : Int) + ((k : Nat) : Int)))) ((fun u => by kernel_rfl) u) (wrapn (by omega) (by omega))) ?_
   refine Yb 4 20 (.slice s.a s.n s.c) rfl (fun u => by kernel_rfl) ?_
   refine Yb 5 21 (.int .i64 ↑b) rfl (fun u => by kernel_rfl) ?_
   refine Yb 6 22 (.int .i64 ↑k) rfl (fun u => by kernel_rfl) ?_
   refine Yb 7 23 (.int .i64 ((b + k : Nat) : Int)) rfl (fun u => okv (v := .int .i64 (IntKind.i64.wrap (((b : Nat) : Int) + ((k : Nat) : Int)))) ((fun u => by kernel_rfl) u) (wrapn (by omega) (by omega))) ?_
   refine Yb 8 24 (.slice s.a s.n s.c) rfl (fun u => by kernel_rfl) ?_
   refine Yb 9 25 (.int .i64 ↑b) rfl (fun u => by kernel_rfl) ?_
   refine Yb 10 26 (.int .i64 ↑k) rfl (fun u => by kernel_rfl) ?_
   refine Yb 11 27 (.int .i64 ((b + k : Nat) : Int)) rfl (fun u => okv (v := .int .i64 (IntKind.i64.wrap (((b : Nat) : Int) + ((k : Nat) : Int)))) ((fun u => by kernel_rfl) u) (wrapn (by omega) (by omega))) ?_
   have hlx : X2.length = Y2.length := by have h1 := congrArg List.length p3; have h2 := congrArg List.length p4; simp only [List.length_append] at h1 h2; omega
   have hx0 : 0 < X2.length := by have h1 := congrArg List.length p3; simp only [List.length_append] at h1; omega
   obtain ⟨x, X3, hX3⟩ := cons_of hx0
   obtain ⟨y, Y3, hY3⟩ := cons_of (l := Y2) (by omega)
   have hlX := congrArg List.length p3
   rw [List.length_append] at hlX
   have hl3 := congrArg List.length hX3
   rw [List.length_cons] at hl3
   have sw := swap_at (l := pre ++ (Y1 ++ X2) ++ mid ++ (X1 ++ Y2) ++ post) (x := x) (y := y) (A := pre ++ Y1) (M := X3 ++ mid ++ X1) (C := Y3 ++ post) (i := a + k) (j := b + k) (by rw [hX3, hY3]; simp) (by rw [List.length_append]; omega) (by simp only [List.length_append]; omega)
   obtain ⟨b1, ha1, hib1, hr1⟩ := h1.elt sw.2.2.2.1
   refine Yb 12 28 (.pointer (some ⟨b1, 0 + (b + k) * 8, none⟩)) rfl (fun u => (exec_index (E := 55) (k := b + k) rfl (by kernel_rfl) (by kernel_rfl) rfl ha1 rfl hib1)) ?_
   refine G.take 13 29 (.agg y.cells.toArray) rfl (by kernel_rfl) rfl (fun _ _ _ h => h) ((Mv.refl _ _ _).trans (M2.mono (fun _ h => h))).self (by kernel_rfl) (fun u hm => exec_loads (cs := y.cells) rfl rfl Ty55 rfl (hr1.mv hm quiet).2.2) ?_
   refine Yb 14 30 (.slice s.a s.n s.c) rfl (fun u => by kernel_rfl) ?_
   refine Yb 15 31 (.int .i64 ↑a) rfl (fun u => by kernel_rfl) ?_
   refine Yb 16 32 (.int .i64 ↑k) rfl (fun u => by kernel_rfl) ?_
   refine Yb 17 33 (.int .i64 ((a + k : Nat) : Int)) rfl (fun u => okv (v := .int .i64 (IntKind.i64.wrap (((a : Nat) : Int) + ((k : Nat) : Int)))) ((fun u => by kernel_rfl) u) (wrapn (by omega) (by omega))) ?_
   obtain ⟨b2, ha2, hib2, hr2⟩ := h1.elt sw.2.2.1
   refine Yb 18 34 (.pointer (some ⟨b2, 0 + (a + k) * 8, none⟩)) rfl (fun u => (exec_index (E := 55) (k := a + k) rfl (by kernel_rfl) (by kernel_rfl) rfl ha2 rfl hib2)) ?_
   refine G.take 19 35 (.agg x.cells.toArray) rfl (by kernel_rfl) rfl (fun _ _ _ h => h) ((Mv.refl _ _ _).trans (M2.mono (fun _ h => h))).self (by kernel_rfl) (fun u hm => exec_loads (cs := x.cells) rfl rfl Ty55 rfl (hr2.mv hm quiet).2.2) ?_
   obtain ⟨b3, ha3, hib3, hr3⟩ := h1.elt sw.2.2.1
   refine Yb 20 36 (.pointer (some ⟨b3, 0 + (a + k) * 8, none⟩)) rfl (fun u => (exec_index (E := 55) (k := a + k) rfl (by kernel_rfl) (by kernel_rfl) rfl ha3 rfl hib3)) ?_
   have hhG_1 := h1.mv M2 quiet
   refine G.op 21 (by kernel_rfl) rfl (O.gset (a + k) y (by kernel_rfl) rfl rfl rfl rfl Ty55 (fun _ => rfl) hhG_1 (by first | omega | (simp only [List.length_set, List.length_append, List.length_cons] at *; omega)) ha3 fun w2 hG1 M3 => ⟨(kp_skip (by kernel_rfl) (kp_skip (by kernel_rfl) kp_nil)), ?_⟩)
   have K3 := K2.step M3 (fun _ h => h) (neq (by omega))
   have n3 := hG1.len
   obtain ⟨b4, ha4, hib4, hr4⟩ := h1.elt sw.2.2.2.1
   refine Yb 22 37 (.pointer (some ⟨b4, 0 + (b + k) * 8, none⟩)) rfl (fun u => (exec_index (E := 55) (k := b + k) rfl (by kernel_rfl) (by kernel_rfl) rfl ha4 rfl hib4)) ?_
   refine G.op 23 (by kernel_rfl) rfl (O.gset (b + k) x (by kernel_rfl) rfl rfl rfl rfl Ty55 (fun _ => rfl) hG1 (by first | omega | (simp only [List.length_set, List.length_append, List.length_cons] at *; omega)) ha4 fun w3 hG2 M4 => ⟨(kp_skip (by kernel_rfl) (kp_skip (by kernel_rfl) kp_nil)), ?_⟩)
   have K4 := K3.step M4 (fun _ h => h) (neq (by omega))
   have n4 := hG2.len
   refine G.fin (by kernel_rfl) ?_
   refine block_normal (hk4 _ _ (wp_region_lit ?_))
   refine Zb 14 (.int .i64 ↑k) ?_
   refine Zc 15 (.int .i64 ((k + 1 : Nat) : Int)) (okv (v := .int .i64 (IntKind.i64.wrap (((k : Nat) : Int) + 1))) (by kernel_rfl) (wrapn (by omega) (by omega))) ?_
   refine Zb 10 (.int .i64 ((k + 1 : Nat) : Int)) ?_
   refine wpList_nil ?_
   exact ⟨n - (k + 1), _, by omega, (((((look_eq (t := 0) (v := .slice s.a s.n s.c) rfl).trans (look_eq (t := 1) (v := .int .i64 ↑a) rfl)).trans (look_eq (t := 2) (v := .int .i64 ↑b) rfl)).trans (look_eq (t := 3) (v := .int .i64 ↑n) rfl)).trans (look_eq (t := 10) (v := .int .i64 (((k + 1) : Nat) : Int)) rfl)), ⟨(k + 1), (X1 ++ [x]), X3, (Y1 ++ [y]), Y3, _, _, rfl, rfl, K4, (((M1.trans (M2.mono nt_le)).trans (M3.mono (eq_rg (by omega)))).trans (M4.mono (eq_rg (by omega)))), by rw [List.length_append, ← p1]; rfl, by rw [List.length_append, ← p2]; rfl, by rw [p3, hX3]; simp, by rw [p4, hY3]; simp, (by have h := hG2; rw [sw.1] at h; rw [show pre ++ ((Y1 ++ [y]) ++ X3) ++ mid ++ ((X1 ++ [x]) ++ Y3) ++ post = (pre ++ Y1) ++ y :: ((X3 ++ mid ++ X1) ++ x :: (Y3 ++ post)) by simp]; exact h)⟩⟩
  ·refine Zc 13 (.bool false) (okv (by kernel_rfl) (congrArg Value.bool (decide_eq_false t1))) ?_
   refine wpList_nil (hk3 _ _ (W.cond false rfl (wp_exit (then_exit (then_exit (block_exit ?_))))))
   refine W.end0 rfl ?_
   have hlX := congrArg List.length p3
   have hlY := congrArg List.length p4
   rw [List.length_append] at hlX hlY
   obtain rfl : X2 = [] := List.eq_nil_of_length_eq_zero (by omega)
   obtain rfl : Y2 = [] := List.eq_nil_of_length_eq_zero (by omega)
   have hG9 := h1
   rw [show pre ++ (Y1 ++ []) ++ mid ++ (X1 ++ []) ++ post = pre ++ Y ++ mid ++ X ++ post by (rw [p3, p4]) <;> simp] at hG9
   exact ⟨_, rfl, K1.mv, hG9⟩

end Go.Proofs.Ytlfanphdnjoofaa
