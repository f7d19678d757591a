/- Walks: merging. -/
import Derived.Test.YtlfanphdnjoofaaT13
import Derived.Test.YtlfanphdnjoofaaK
namespace Go.Proofs.Ytlfanphdnjoofaa
open Go.RowKit
set_option linter.unusedSimpArgs false
set_option linter.unusedVariables false
attribute [local irreducible] wpList Code.wp Calls OpS wpG

theorem Lin.item : Lin ltItem :=
  ⟨fun x y h => decide_eq_false fun h2 => List.lt_asymm ((cmp_neg _ _).1 (of_decide_eq_true h)) ((cmp_neg _ _).1 h2),
   fun x y z h1 h2 => decide_eq_false fun h3 => ltl_le (fun h => of_decide_eq_false h1 ((cmp_neg _ _).2 h)) (fun h => of_decide_eq_false h2 ((cmp_neg _ _).2 h)) ((cmp_neg _ _).1 h3)⟩
theorem cmpI_neg (x y : Int) : cmpI x y < 0 ↔ x < y := by unfold cmpI; split <;> (try split) <;> omega
theorem Lin.rtd : Lin ltRtd :=
  ⟨fun x y h => decide_eq_false fun h2 => by have a := (cmpI_neg _ _).1 (of_decide_eq_true h); have b := (cmpI_neg _ _).1 h2; omega,
   fun x y z h1 h2 => decide_eq_false fun h3 => by have a := mt (cmpI_neg _ _).2 (of_decide_eq_false h1); have b := mt (cmpI_neg _ _).2 (of_decide_eq_false h2); have c := (cmpI_neg _ _).1 h3; omega⟩
theorem Lin.edit {l : Nat} : Lin (ltEdit l) :=
  ⟨fun x y h => decide_eq_false fun h2 => by have a := (cmpI_neg _ _).1 (of_decide_eq_true h); have b := (cmpI_neg _ _).1 h2; omega,
   fun x y z h1 h2 => decide_eq_false fun h3 => by have a := mt (cmpI_neg _ _).2 (of_decide_eq_false h1); have b := mt (cmpI_neg _ _).2 (of_decide_eq_false h2); have c := (cmpI_neg _ _).1 h3; omega⟩
theorem up64_v {n : Nat} (h : n < 18446744073709551616) : Value.int .u64 (IntKind.u64.wrap (n : Int)) = .int .u64 ((n : Nat) : Int) := by
  rw [wrap_u64]; congr 1; omega
theorem shr1_v {n : Nat} : Value.int .u64 ((n : Int).fdiv (2 ^ (min (1 : Int).toNat 64))) = .int .u64 ((n / 2 : Nat) : Int) := by
  congr 1
  rw [show (min (Int.toNat 1) 64) = 1 from rfl, Int.fdiv_eq_ediv_of_nonneg _ (by decide)]
  omega
theorem nat_v {a b : Nat} (h : a = b) : Value.int .i64 ((a : Nat) : Int) = .int .i64 ((b : Nat) : Int) := by rw [h]
theorem mrg_srt {α : Type} {lt : α → α → Bool} (hl : Lin lt) {A B : List α} (hA : Srt lt A) (hB : Srt lt B) (X Y : List α) (eA : A = isort lt X) (eB : B = isort lt Y) : Srt lt (mrg lt A B) := by
  rw [eA, eB, ← isort_append hl]; exact isort_srt hl _

set_option maxRecDepth 100000 in
set_option maxHeartbeats 1000000 in
theorem symLItem (s : Sli) (pre : List Item) (x : Item) (B : List Item) (post : List Item) (t : Nat) (a : Nat) (m : Nat) (b : Nat) (w : World) (γ : Tg) (hG : Gs t 50 7 Item.cells w γ s (pre ++ [x] ++ B ++ post)) (ht : 2 ≤ t) (ha : a = pre.length) (hm : m = pre.length + [x].length) (hb : b = pre.length + [x].length + B.length) (hA0 : 0 < [x].length) (hB0 : 0 < B.length) (hsA : Srt ltItem [x]) (hsB : Srt ltItem B) (hl : pre.length + [x].length + B.length + post.length ≤ 100000) :
    Calls Try.prog 94 #[.slice s.a s.n s.c, .int .i64 ((a : Nat) : Int), .int .i64 ((m : Nat) : Int), .int .i64 ((b : Nat) : Int), .func (.func 55) #[] #[]] w fun ε w' => ∃ (γ' : Tg), ε = .returned (.tuple #[]) ∧ Mv (fun ξ => ξ = t) w γ w' γ' ∧ Gs t 50 7 Item.cells w' γ' s (pre ++ mrg ltItem [x] B ++ post) := by
 have hm' : m = pre.length + 1 := hm
 have hb' : b = pre.length + 1 + B.length := hb
 have hl' : pre.length + 1 + B.length + post.length ≤ 100000 := hl
 have K0 := Kn.start (fun ξ => ξ = t) w γ
 refine W.enter (ws := [(4, .func (.func 55) #[] #[]), (3, .int .i64 ↑b), (2, .int .i64 ↑m), (1, .int .i64 ↑a), (0, .slice s.a s.n s.c)]) 220 Try.func94 rfl (by kernel_rfl) ?_
 have n1 := hG.len
 refine wp_seq_k fun k1 hk1 => (wp_seq_k fun k2 hk2 => (wp_region_lit ?_))
 refine Zb 25 (.int .i64 ↑m) ?_
 refine Zb 26 (.int .i64 ↑a) ?_
 refine Zc 27 (.int .i64 (((m : Nat) : Int) - ((a : Nat) : Int))) (okv (v := .int .i64 (IntKind.i64.wrap (((m : Nat) : Int) - ((a : Nat) : Int)))) (by kernel_rfl) (wrapi (by omega) (by omega))) ?_
 by_cases t1 : (((m : Nat) : Int) - ((a : Nat) : Int)) = 1
 ·refine Zc 28 (.bool true) (okv (by kernel_rfl) (congrArg Value.bool (beq_iff_eq.2 t1))) ?_
  refine wpList_nil (hk2 _ _ (W.cond true rfl (wp_seq_k fun k3 hk3 => (wp_region_lit ?_))))
  refine Zb 29 (.int .i64 ↑m) ?_
  refine Zb 10 (.int .i64 ↑m) ?_
  refine wpList_nil (hk3 _ _ (wp_seq_k fun k4 hk4 => (wp_region_lit ?_)))
  refine Zb 30 (.int .i64 ↑b) ?_
  refine Zb 11 (.int .i64 ↑b) ?_
  refine wpList_nil (hk4 _ _ (wp_seq_k fun k5 hk5 => (wp_block ?_)))
  refine W.loop (fun (μ0 : Nat) (ws : List (Nat × Value)) (w' : World) => ∃ (i0 : Nat) (j0 : Nat) (γ' : Tg) (ρ0 : List (Nat × Value)), μ0 = j0 - i0 ∧ ws = ((11, .int .i64 (((m + j0) : Nat) : Int)) :: (10, .int .i64 (((m + i0) : Nat) : Int)) :: (4, .func (.func 55) #[] #[]) :: (1, .int .i64 ↑a) :: (0, .slice s.a s.n s.c) :: ρ0) ∧ Kn (fun ξ => ξ = t) w γ [] w' γ' ∧ Mv (Rg 1 (t + 1)) w γ w' γ' ∧ (i0 ≤ j0) ∧ (j0 ≤ B.length) ∧ (∀ z ∈ B.take i0, ltItem z x = true) ∧ (∀ z ∈ B.drop j0, ltItem z x = false) ∧ Gs t 50 7 Item.cells w' γ' s (pre ++ [x] ++ B ++ post)) (B.length - 0) (((((look_eq (t := 0) (v := .slice s.a s.n s.c) rfl).trans (look_eq (t := 1) (v := .int .i64 ↑a) rfl)).trans (look_eq (t := 4) (v := .func (.func 55) #[] #[]) rfl)).trans (look_eq (t := 10) (v := .int .i64 (((m + 0) : Nat) : Int)) rfl)).trans (look_eq (t := 11) (v := .int .i64 (((m + B.length) : Nat) : Int)) (nat_v (by omega)))) ?_ ?_
  ·exact ⟨0, B.length, _, _, rfl, rfl, K0, Mv.refl _ _ _, by omega, by omega, by simp, by simp, hG⟩
  ·rintro _ _ w1 ⟨i0, j0, g1, r1, rfl, rfl, K1, M1, p1, p2, p3, p4, h1⟩
   have n2 := h1.len
   refine wp_seq_k fun k6 hk6 => (wp_seq_k fun k7 hk7 => (wp_region_lit ?_))
   refine Zb 31 (.int .i64 (((m + i0) : Nat) : Int)) ?_
   refine Zb 32 (.int .i64 (((m + j0) : Nat) : Int)) ?_
   by_cases t2 : (((m + i0) : Nat) : Int) < (((m + j0) : Nat) : Int)
   ·refine Zc 33 (.bool true) (okv (by kernel_rfl) (congrArg Value.bool (decide_eq_true t2))) ?_
    refine wpList_nil (hk7 _ _ (W.cond true rfl (wp_skip (hk6 _ _ (wp_block (wp_seq_k fun k8 hk8 => ?_))))))
    refine wp_region_lit ?_
    refine Zb 34 (.int .i64 (((m + i0) : Nat) : Int)) ?_
    refine Zb 35 (.int .i64 (((m + j0) : Nat) : Int)) ?_
    refine Zc 36 (.int .i64 (((m + i0) + (m + j0) : Nat) : Int)) (okv (v := .int .i64 (IntKind.i64.wrap ((((m + i0) : Nat) : Int) + (((m + j0) : Nat) : Int)))) (by kernel_rfl) (wrapn (by omega) (by omega))) ?_
    refine Zc 37 (.int .u64 ((m + i0 + (m + j0) : Nat) : Int)) (okv (by kernel_rfl) (up64_v (by omega))) ?_
    refine Zc 38 (.int .u64 (((m + i0 + (m + j0)) / 2 : Nat) : Int)) (okv (by kernel_rfl) (shr1_v)) ?_
    refine Zc 39 (.int .i64 (((m + (i0 + j0) / 2) : Nat) : Int)) (okv (by kernel_rfl) ((to_i64 (a := (m + i0 + (m + j0)) / 2) (by omega)).trans (nat_v (a := (m + i0 + (m + j0)) / 2) (b := m + (i0 + j0) / 2) (by omega)))) ?_
    refine Zb 12 (.int .i64 (((m + (i0 + j0) / 2) : Nat) : Int)) ?_
    refine wpList_nil (hk8 _ _ (wp_seq_k fun k9 hk9 => (wp_region_G (SmL [(4, Nt), (8, Nt)] w1 g1) (by kernel_rfl) ?_)))
    have K2 := K1.drew
    have M2 : Mv Nt w1 g1 w1.drew g1 := (Mv.refl _ _ _).drew
    refine Yb 0 40 (.func (.func 55) #[] #[]) rfl (fun u => by kernel_rfl) ?_
    refine Yb 1 41 (.slice s.a s.n s.c) rfl (fun u => by kernel_rfl) ?_
    refine Yb 2 42 (.int .i64 (((m + (i0 + j0) / 2) : Nat) : Int)) rfl (fun u => by kernel_rfl) ?_
    obtain ⟨z, hz⟩ := get_some (xs := B) (i := (i0 + j0) / 2) (by omega)
    obtain ⟨b1, ha1, hib1, hr1⟩ := h1.elt (get_mid (i := (m + (i0 + j0) / 2)) (A := pre ++ [x]) (B := B) (C := post) rfl hz (by simp only [List.length_append, List.length_cons, List.length_nil]; omega))
    refine Yb 3 43 (.pointer (some ⟨b1, 0 + (m + (i0 + j0) / 2) * 7, none⟩)) rfl (fun u => (exec_index (E := 50) (k := (m + (i0 + j0) / 2)) rfl (by kernel_rfl) (by kernel_rfl) rfl ha1 rfl hib1)) ?_
    refine G.take 4 44 (.agg z.cells.toArray) rfl (by kernel_rfl) rfl (fun _ _ _ h => h) ((Mv.refl _ _ _).trans (M2.mono (fun _ h => h))).self (by kernel_rfl) (fun u hm => exec_loads (cs := z.cells) rfl rfl Ty50 rfl (hr1.mv hm quiet).2.2) ?_
    refine Yb 5 45 (.slice s.a s.n s.c) rfl (fun u => by kernel_rfl) ?_
    refine Yb 6 46 (.int .i64 ↑a) rfl (fun u => by kernel_rfl) ?_
    obtain ⟨b2, ha2, hib2, hr2⟩ := h1.elt (get_at (i := a) (x := x) (A := pre) (B := B ++ post) (by simp) ha)
    refine Yb 7 47 (.pointer (some ⟨b2, 0 + a * 7, none⟩)) rfl (fun u => (exec_index (E := 50) (k := a) rfl (by kernel_rfl) (by kernel_rfl) rfl ha2 rfl hib2)) ?_
    refine G.take 8 48 (.agg x.cells.toArray) rfl (by kernel_rfl) rfl (fun _ _ _ h => h) ((Mv.refl _ _ _).trans (M2.mono (fun _ h => h))).self (by kernel_rfl) (fun u hm => exec_loads (cs := x.cells) rfl rfl Ty50 rfl (hr2.mv hm quiet).2.2) ?_
    refine G.op 9 (by kernel_rfl) rfl (O.call 49 55 #[.agg z.cells.toArray, .agg x.cells.toArray] (by kernel_rfl) rfl (by kernel_rfl) ((byKey_c z x w1.drew g1).mono ?_))
    rintro e1 w2 ⟨g2, rfl, M3⟩
    have K3 := K2.step M3 nt_le quiet
    refine ⟨_, rfl, ⟨kp_nt ((Mv.refl _ _ _).trans M3) _, ?_⟩⟩
    by_cases t3 : (Extern.BytealgCompare.cmp z.key x.key) < 0
    ·refine Yb 10 50 (.bool true) rfl (fun u => okv ((fun u => by kernel_rfl) u) (congrArg Value.bool (decide_eq_true t3))) ?_
     refine G.fin (by kernel_rfl) ?_
     refine hk9 _ _ (W.cond true rfl (wp_region_lit ?_))
     refine Zb 51 (.int .i64 (((m + (i0 + j0) / 2) : Nat) : Int)) ?_
     refine Zc 52 (.int .i64 (((m + (i0 + j0) / 2) + 1 : Nat) : Int)) (okv (v := .int .i64 (IntKind.i64.wrap ((((m + (i0 + j0) / 2) : Nat) : Int) + 1))) (by kernel_rfl) (wrapn (by omega) (by omega))) ?_
     refine Zb 10 (.int .i64 (((m + (i0 + j0) / 2) + 1 : Nat) : Int)) ?_
     refine wpList_nil (block_normal ?_)
     have hhG_1 := h1.mv M2 quiet
     have hhG_2 := hhG_1.mv M3 quiet
     exact ⟨j0 - ((i0 + j0) / 2 + 1), _, by omega, (((((look_eq (t := 0) (v := .slice s.a s.n s.c) rfl).trans (look_eq (t := 1) (v := .int .i64 ↑a) rfl)).trans (look_eq (t := 4) (v := .func (.func 55) #[] #[]) rfl)).trans (look_eq (t := 10) (v := .int .i64 (((m + ((i0 + j0) / 2 + 1)) : Nat) : Int)) rfl)).trans (look_eq (t := 11) (v := .int .i64 (((m + j0) : Nat) : Int)) rfl)), ⟨((i0 + j0) / 2 + 1), j0, _, _, rfl, rfl, K3, ((M1.trans (M2.mono nt_le)).trans (M3.mono nt_le)), by omega, p2, srch_up Lin.item hsB hz (decide_eq_true t3), p4, hhG_2⟩⟩
    ·refine Yb 10 50 (.bool false) rfl (fun u => okv ((fun u => by kernel_rfl) u) (congrArg Value.bool (decide_eq_false t3))) ?_
     refine G.fin (by kernel_rfl) ?_
     refine hk9 _ _ (W.cond false rfl (wp_region_lit ?_))
     refine Zb 53 (.int .i64 (((m + (i0 + j0) / 2) : Nat) : Int)) ?_
     refine Zb 11 (.int .i64 (((m + (i0 + j0) / 2) : Nat) : Int)) ?_
     refine wpList_nil (block_normal ?_)
     have hhG_3 := h1.mv M2 quiet
     have hhG_4 := hhG_3.mv M3 quiet
     exact ⟨((i0 + j0) / 2) - i0, _, by omega, (((((look_eq (t := 0) (v := .slice s.a s.n s.c) rfl).trans (look_eq (t := 1) (v := .int .i64 ↑a) rfl)).trans (look_eq (t := 4) (v := .func (.func 55) #[] #[]) rfl)).trans (look_eq (t := 10) (v := .int .i64 (((m + i0) : Nat) : Int)) rfl)).trans (look_eq (t := 11) (v := .int .i64 (((m + ((i0 + j0) / 2)) : Nat) : Int)) rfl)), ⟨i0, ((i0 + j0) / 2), _, _, rfl, rfl, K3, ((M1.trans (M2.mono nt_le)).trans (M3.mono nt_le)), by omega, by omega, p3, srch_dn Lin.item hsB hz (decide_eq_false t3), hhG_4⟩⟩
   ·refine Zc 33 (.bool false) (okv (by kernel_rfl) (congrArg Value.bool (decide_eq_false t2))) ?_
    refine wpList_nil (hk7 _ _ (W.cond false rfl (wp_exit (then_exit ?_))))
    have hij : i0 = j0 := by omega
    refine then_exit (block_exit (hk5 _ _ (wp_seq_k fun k10 hk10 => (wp_seq_k fun k11 hk11 => (wp_region_lit ?_)))))
    refine Zb 54 (.int .i64 ↑a) ?_
    refine Zb 13 (.int .i64 ↑a) ?_
    refine wpList_nil (hk11 _ _ (wp_block ?_))
    refine W.loop (fun (μ0 : Nat) (ws : List (Nat × Value)) (w' : World) => ∃ (k : Nat) (U : List Item) (V : List Item) (γ' : Tg) (ρ0 : List (Nat × Value)), μ0 = a + i0 - k ∧ ws = ((13, .int .i64 ↑k) :: (10, .int .i64 (((m + i0) : Nat) : Int)) :: (0, .slice s.a s.n s.c) :: ρ0) ∧ Kn (fun ξ => ξ = t) w γ [] w' γ' ∧ Mv (Rg 1 (t + 1)) w1 g1 w' γ' ∧ (B.take i0 = U ++ V) ∧ (k = a + U.length) ∧ Gs t 50 7 Item.cells w' γ' s (pre ++ U ++ x :: V ++ (B.drop i0 ++ post))) (a + i0 - a) (((look_eq (t := 0) (v := .slice s.a s.n s.c) rfl).trans (look_eq (t := 10) (v := .int .i64 (((m + i0) : Nat) : Int)) rfl)).trans (look_eq (t := 13) (v := .int .i64 ↑a) rfl)) ?_ ?_
    ·exact ⟨a, [], (B.take i0), _, _, rfl, rfl, K1, Mv.refl _ _ _, by simp, rfl, (by have h := h1; rw [show pre ++ [x] ++ B ++ post = pre ++ [] ++ x :: B.take i0 ++ (B.drop i0 ++ post) from by rw [show x :: B.take i0 = [x] ++ B.take i0 from rfl]; simp only [List.append_assoc, List.nil_append]; rw [← List.append_assoc (B.take i0), List.take_append_drop]] at h; exact h)⟩
    ·rintro _ _ w3 ⟨k, U, V, g3, r2, rfl, rfl, K4, M4, p5, p6, h2⟩
     have n3 := h2.len
     refine wp_seq_k fun k12 hk12 => (wp_seq_k fun k13 hk13 => (wp_region_lit ?_))
     refine Zb 55 (.int .i64 ↑k) ?_
     refine Zb 56 (.int .i64 (((m + i0) : Nat) : Int)) ?_
     refine Zc 57 (.int .i64 (((m + i0) - 1 : Nat) : Int)) (okv (v := .int .i64 (IntKind.i64.wrap ((((m + i0) : Nat) : Int) - 1))) (by kernel_rfl) (wrapn (by omega) (by omega))) ?_
     by_cases t4 : ((k : Nat) : Int) < (((m + i0) - 1 : Nat) : Int)
     ·refine Zc 58 (.bool true) (okv (by kernel_rfl) (congrArg Value.bool (decide_eq_true t4))) ?_
      refine wpList_nil (hk13 _ _ (W.cond true rfl (wp_skip (hk12 _ _ (wp_seq_k fun k14 hk14 => (wp_block ?_))))))
      refine wp_region_G (SmL [(9, Nt), (13, Nt)] w3 g3) (by kernel_rfl) ?_
      have K5 := K4.drew
      have M5 : Mv Nt w3 g3 w3.drew g3 := (Mv.refl _ _ _).drew
      refine Yb 0 61 (.slice s.a s.n s.c) rfl (fun u => by kernel_rfl) ?_
      refine Yb 1 62 (.int .i64 ↑k) rfl (fun u => by kernel_rfl) ?_
      refine Yb 2 63 (.slice s.a s.n s.c) rfl (fun u => by kernel_rfl) ?_
      refine Yb 3 64 (.int .i64 ↑k) rfl (fun u => by kernel_rfl) ?_
      refine Yb 4 65 (.int .i64 ((k + 1 : Nat) : Int)) rfl (fun u => okv (v := .int .i64 (IntKind.i64.wrap (((k : Nat) : Int) + 1))) ((fun u => by kernel_rfl) u) (wrapn (by omega) (by omega))) ?_
      refine Yb 5 66 (.slice s.a s.n s.c) rfl (fun u => by kernel_rfl) ?_
      refine Yb 6 67 (.int .i64 ↑k) rfl (fun u => by kernel_rfl) ?_
      refine Yb 7 68 (.int .i64 ((k + 1 : Nat) : Int)) rfl (fun u => okv (v := .int .i64 (IntKind.i64.wrap (((k : Nat) : Int) + 1))) ((fun u => by kernel_rfl) u) (wrapn (by omega) (by omega))) ?_
      have hlV : 0 < V.length := by have h1 := congrArg List.length p5; simp only [List.length_append, List.length_take] at h1; omega
      obtain ⟨y, V2, hV2⟩ := cons_of hlV
      have sw := swap_at (l := pre ++ U ++ x :: V ++ (B.drop i0 ++ post)) (x := x) (y := y) (A := pre ++ U) (M := []) (C := V2 ++ (B.drop i0 ++ post)) (i := k) (j := k + 1) (by rw [hV2]; simp) (by rw [List.length_append]; omega) (by simp only [List.length_append, List.length_nil]; omega)
      obtain ⟨b3, ha3, hib3, hr3⟩ := h2.elt sw.2.2.2.1
      refine Yb 8 69 (.pointer (some ⟨b3, 0 + (k + 1) * 7, none⟩)) rfl (fun u => (exec_index (E := 50) (k := k + 1) rfl (by kernel_rfl) (by kernel_rfl) rfl ha3 rfl hib3)) ?_
      refine G.take 9 70 (.agg y.cells.toArray) rfl (by kernel_rfl) rfl (fun _ _ _ h => h) ((Mv.refl _ _ _).trans (M5.mono (fun _ h => h))).self (by kernel_rfl) (fun u hm => exec_loads (cs := y.cells) rfl rfl Ty50 rfl (hr3.mv hm quiet).2.2) ?_
      refine Yb 10 71 (.slice s.a s.n s.c) rfl (fun u => by kernel_rfl) ?_
      refine Yb 11 72 (.int .i64 ↑k) rfl (fun u => by kernel_rfl) ?_
      obtain ⟨b4, ha4, hib4, hr4⟩ := h2.elt sw.2.2.1
      refine Yb 12 73 (.pointer (some ⟨b4, 0 + k * 7, none⟩)) rfl (fun u => (exec_index (E := 50) (k := k) rfl (by kernel_rfl) (by kernel_rfl) rfl ha4 rfl hib4)) ?_
      refine G.take 13 74 (.agg x.cells.toArray) rfl (by kernel_rfl) rfl (fun _ _ _ h => h) ((Mv.refl _ _ _).trans (M5.mono (fun _ h => h))).self (by kernel_rfl) (fun u hm => exec_loads (cs := x.cells) rfl rfl Ty50 rfl (hr4.mv hm quiet).2.2) ?_
      obtain ⟨b5, ha5, hib5, hr5⟩ := h2.elt sw.2.2.1
      refine Yb 14 75 (.pointer (some ⟨b5, 0 + k * 7, none⟩)) rfl (fun u => (exec_index (E := 50) (k := k) rfl (by kernel_rfl) (by kernel_rfl) rfl ha5 rfl hib5)) ?_
      have hhG_5 := h2.mv M5 quiet
      refine G.op 15 (by kernel_rfl) rfl (O.gset k y (by kernel_rfl) rfl rfl rfl rfl Ty50 (fun _ => rfl) hhG_5 (by first | omega | (simp only [List.length_set, List.length_append, List.length_cons] at *; omega)) ha5 fun w4 hG1 M6 => ⟨(kp_skip (by kernel_rfl) (kp_skip (by kernel_rfl) kp_nil)), ?_⟩)
      have K6 := K5.step M6 (fun _ h => h) (neq (by omega))
      have n4 := hG1.len
      obtain ⟨b6, ha6, hib6, hr6⟩ := h2.elt sw.2.2.2.1
      refine Yb 16 76 (.pointer (some ⟨b6, 0 + (k + 1) * 7, none⟩)) rfl (fun u => (exec_index (E := 50) (k := k + 1) rfl (by kernel_rfl) (by kernel_rfl) rfl ha6 rfl hib6)) ?_
      refine G.op 17 (by kernel_rfl) rfl (O.gset (k + 1) x (by kernel_rfl) rfl rfl rfl rfl Ty50 (fun _ => rfl) hG1 (by first | omega | (simp only [List.length_set, List.length_append, List.length_cons] at *; omega)) ha6 fun w5 hG2 M7 => ⟨(kp_skip (by kernel_rfl) (kp_skip (by kernel_rfl) kp_nil)), ?_⟩)
      have K7 := K6.step M7 (fun _ h => h) (neq (by omega))
      have n5 := hG2.len
      refine G.fin (by kernel_rfl) ?_
      refine block_normal (hk14 _ _ (wp_region_lit ?_))
      refine Zb 59 (.int .i64 ↑k) ?_
      refine Zc 60 (.int .i64 ((k + 1 : Nat) : Int)) (okv (v := .int .i64 (IntKind.i64.wrap (((k : Nat) : Int) + 1))) (by kernel_rfl) (wrapn (by omega) (by omega))) ?_
      refine Zb 13 (.int .i64 ((k + 1 : Nat) : Int)) ?_
      refine wpList_nil ?_
      exact ⟨a + i0 - (k + 1), _, by omega, (((look_eq (t := 0) (v := .slice s.a s.n s.c) rfl).trans (look_eq (t := 10) (v := .int .i64 (((m + i0) : Nat) : Int)) rfl)).trans (look_eq (t := 13) (v := .int .i64 (((k + 1) : Nat) : Int)) rfl)), ⟨(k + 1), (U ++ [y]), V2, _, _, rfl, rfl, K7, (((M4.trans (M5.mono nt_le)).trans (M6.mono (eq_rg (by omega)))).trans (M7.mono (eq_rg (by omega)))), by rw [p5, hV2]; simp, by rw [List.length_append, p6]; rfl, (by have h := hG2; rw [sw.1] at h; rw [show pre ++ (U ++ [y]) ++ x :: V2 ++ (B.drop i0 ++ post) = (pre ++ U) ++ y :: ([] ++ x :: (V2 ++ (B.drop i0 ++ post))) by simp]; exact h)⟩⟩
     ·refine Zc 58 (.bool false) (okv (by kernel_rfl) (congrArg Value.bool (decide_eq_false t4))) ?_
      refine wpList_nil (hk13 _ _ (W.cond false rfl (wp_exit (then_exit (then_exit (block_exit ?_))))))
      refine hk10 _ _ (wp_ret (then_ret (W.rets (vs := []) rfl .nil (by simp) ?_)))
      have hV9 : V = [] := List.eq_nil_of_length_eq_zero (by have h1 := congrArg List.length p5; simp only [List.length_append, List.length_take] at h1; omega)
      have hM9 := mrg_one_left ltItem x (B.take i0) (B.drop i0) p3 (by rw [hij]; exact p4)
      rw [List.take_append_drop] at hM9
      have hG9 := h2
      rw [show pre ++ U ++ x :: V ++ (B.drop i0 ++ post) = pre ++ mrg ltItem [x] B ++ post from by rw [hM9, hV9, p5, hV9]; simp] at hG9
      exact ⟨_, rfl, K4.mv, hG9⟩
 ·exfalso; omega

set_option maxRecDepth 100000 in
set_option maxHeartbeats 1000000 in
theorem symRItem (s : Sli) (pre : List Item) (A : List Item) (y : Item) (post : List Item) (t : Nat) (a : Nat) (m : Nat) (b : Nat) (w : World) (γ : Tg) (hG : Gs t 50 7 Item.cells w γ s (pre ++ A ++ [y] ++ post)) (ht : 2 ≤ t) (ha : a = pre.length) (hm : m = pre.length + A.length) (hb : b = pre.length + A.length + [y].length) (hA0 : 0 < A.length) (hB0 : 0 < [y].length) (hsA : Srt ltItem A) (hsB : Srt ltItem [y]) (hl : pre.length + A.length + [y].length + post.length ≤ 100000) (h1 : 1 < A.length) :
    Calls Try.prog 94 #[.slice s.a s.n s.c, .int .i64 ((a : Nat) : Int), .int .i64 ((m : Nat) : Int), .int .i64 ((b : Nat) : Int), .func (.func 55) #[] #[]] w fun ε w' => ∃ (γ' : Tg), ε = .returned (.tuple #[]) ∧ Mv (fun ξ => ξ = t) w γ w' γ' ∧ Gs t 50 7 Item.cells w' γ' s (pre ++ mrg ltItem A [y] ++ post) := by
 have hb' : b = pre.length + A.length + 1 := hb
 have hl' : pre.length + A.length + 1 + post.length ≤ 100000 := hl
 have K0 := Kn.start (fun ξ => ξ = t) w γ
 refine W.enter (ws := [(4, .func (.func 55) #[] #[]), (3, .int .i64 ↑b), (2, .int .i64 ↑m), (1, .int .i64 ↑a), (0, .slice s.a s.n s.c)]) 220 Try.func94 rfl (by kernel_rfl) ?_
 have n1 := hG.len
 refine wp_seq_k fun k1 hk1 => (wp_seq_k fun k2 hk2 => (wp_region_lit ?_))
 refine Zb 25 (.int .i64 ↑m) ?_
 refine Zb 26 (.int .i64 ↑a) ?_
 refine Zc 27 (.int .i64 (((m : Nat) : Int) - ((a : Nat) : Int))) (okv (v := .int .i64 (IntKind.i64.wrap (((m : Nat) : Int) - ((a : Nat) : Int)))) (by kernel_rfl) (wrapi (by omega) (by omega))) ?_
 by_cases t1 : (((m : Nat) : Int) - ((a : Nat) : Int)) = 1
 ·exfalso; omega
 ·refine Zc 28 (.bool false) (okv (by kernel_rfl) (congrArg Value.bool (beq_eq_false_iff_ne.2 t1))) ?_
  refine wpList_nil (hk2 _ _ (W.cond false rfl (wp_skip (hk1 _ _ (wp_seq_k fun k3 hk3 => (wp_seq_k fun k4 hk4 => ?_))))))
  refine wp_region_lit ?_
  refine Zb 77 (.int .i64 ↑b) ?_
  refine Zb 78 (.int .i64 ↑m) ?_
  refine Zc 79 (.int .i64 (((b : Nat) : Int) - ((m : Nat) : Int))) (okv (v := .int .i64 (IntKind.i64.wrap (((b : Nat) : Int) - ((m : Nat) : Int)))) (by kernel_rfl) (wrapi (by omega) (by omega))) ?_
  by_cases t2 : (((b : Nat) : Int) - ((m : Nat) : Int)) = 1
  ·refine Zc 80 (.bool true) (okv (by kernel_rfl) (congrArg Value.bool (beq_iff_eq.2 t2))) ?_
   refine wpList_nil (hk4 _ _ (W.cond true rfl (wp_seq_k fun k5 hk5 => (wp_region_lit ?_))))
   refine Zb 81 (.int .i64 ↑a) ?_
   refine Zb 14 (.int .i64 ↑a) ?_
   refine wpList_nil (hk5 _ _ (wp_seq_k fun k6 hk6 => (wp_region_lit ?_)))
   refine Zb 82 (.int .i64 ↑m) ?_
   refine Zb 15 (.int .i64 ↑m) ?_
   refine wpList_nil (hk6 _ _ (wp_seq_k fun k7 hk7 => (wp_block ?_)))
   refine W.loop (fun (μ0 : Nat) (ws : List (Nat × Value)) (w' : World) => ∃ (i0 : Nat) (j0 : Nat) (γ' : Tg) (ρ0 : List (Nat × Value)), μ0 = j0 - i0 ∧ ws = ((15, .int .i64 (((a + j0) : Nat) : Int)) :: (14, .int .i64 (((a + i0) : Nat) : Int)) :: (4, .func (.func 55) #[] #[]) :: (2, .int .i64 ↑m) :: (0, .slice s.a s.n s.c) :: ρ0) ∧ Kn (fun ξ => ξ = t) w γ [] w' γ' ∧ Mv (Rg 1 (t + 1)) w γ w' γ' ∧ (i0 ≤ j0) ∧ (j0 ≤ A.length) ∧ (∀ z ∈ A.take i0, ltItem y z = false) ∧ (∀ z ∈ A.drop j0, ltItem y z = true) ∧ Gs t 50 7 Item.cells w' γ' s (pre ++ A ++ [y] ++ post)) (A.length - 0) (((((look_eq (t := 0) (v := .slice s.a s.n s.c) rfl).trans (look_eq (t := 2) (v := .int .i64 ↑m) rfl)).trans (look_eq (t := 4) (v := .func (.func 55) #[] #[]) rfl)).trans (look_eq (t := 14) (v := .int .i64 (((a + 0) : Nat) : Int)) rfl)).trans (look_eq (t := 15) (v := .int .i64 (((a + A.length) : Nat) : Int)) (nat_v (by omega)))) ?_ ?_
   ·exact ⟨0, A.length, _, _, rfl, rfl, K0, Mv.refl _ _ _, by omega, by omega, by simp, by simp, hG⟩
   ·rintro _ _ w1 ⟨i0, j0, g1, r1, rfl, rfl, K1, M1, p1, p2, p3, p4, h1⟩
    have n2 := h1.len
    refine wp_seq_k fun k8 hk8 => (wp_seq_k fun k9 hk9 => (wp_region_lit ?_))
    refine Zb 83 (.int .i64 (((a + i0) : Nat) : Int)) ?_
    refine Zb 84 (.int .i64 (((a + j0) : Nat) : Int)) ?_
    by_cases t3 : (((a + i0) : Nat) : Int) < (((a + j0) : Nat) : Int)
    ·refine Zc 85 (.bool true) (okv (by kernel_rfl) (congrArg Value.bool (decide_eq_true t3))) ?_
     refine wpList_nil (hk9 _ _ (W.cond true rfl (wp_skip (hk8 _ _ (wp_block (wp_seq_k fun k10 hk10 => ?_))))))
     refine wp_region_lit ?_
     refine Zb 86 (.int .i64 (((a + i0) : Nat) : Int)) ?_
     refine Zb 87 (.int .i64 (((a + j0) : Nat) : Int)) ?_
     refine Zc 88 (.int .i64 (((a + i0) + (a + j0) : Nat) : Int)) (okv (v := .int .i64 (IntKind.i64.wrap ((((a + i0) : Nat) : Int) + (((a + j0) : Nat) : Int)))) (by kernel_rfl) (wrapn (by omega) (by omega))) ?_
     refine Zc 89 (.int .u64 ((a + i0 + (a + j0) : Nat) : Int)) (okv (by kernel_rfl) (up64_v (by omega))) ?_
     refine Zc 90 (.int .u64 (((a + i0 + (a + j0)) / 2 : Nat) : Int)) (okv (by kernel_rfl) (shr1_v)) ?_
     refine Zc 91 (.int .i64 (((a + (i0 + j0) / 2) : Nat) : Int)) (okv (by kernel_rfl) ((to_i64 (a := (a + i0 + (a + j0)) / 2) (by omega)).trans (nat_v (a := (a + i0 + (a + j0)) / 2) (b := a + (i0 + j0) / 2) (by omega)))) ?_
     refine Zb 16 (.int .i64 (((a + (i0 + j0) / 2) : Nat) : Int)) ?_
     refine wpList_nil (hk10 _ _ (wp_seq_k fun k11 hk11 => (wp_region_G (SmL [(4, Nt), (8, Nt)] w1 g1) (by kernel_rfl) ?_)))
     have K2 := K1.drew
     have M2 : Mv Nt w1 g1 w1.drew g1 := (Mv.refl _ _ _).drew
     refine Yb 0 92 (.func (.func 55) #[] #[]) rfl (fun u => by kernel_rfl) ?_
     refine Yb 1 93 (.slice s.a s.n s.c) rfl (fun u => by kernel_rfl) ?_
     refine Yb 2 94 (.int .i64 ↑m) rfl (fun u => by kernel_rfl) ?_
     obtain ⟨b1, ha1, hib1, hr1⟩ := h1.elt (get_at (i := m) (x := y) (A := pre ++ A) (B := post) (by simp) (by rw [List.length_append]; omega))
     refine Yb 3 95 (.pointer (some ⟨b1, 0 + m * 7, none⟩)) rfl (fun u => (exec_index (E := 50) (k := m) rfl (by kernel_rfl) (by kernel_rfl) rfl ha1 rfl hib1)) ?_
     refine G.take 4 96 (.agg y.cells.toArray) rfl (by kernel_rfl) rfl (fun _ _ _ h => h) ((Mv.refl _ _ _).trans (M2.mono (fun _ h => h))).self (by kernel_rfl) (fun u hm => exec_loads (cs := y.cells) rfl rfl Ty50 rfl (hr1.mv hm quiet).2.2) ?_
     refine Yb 5 97 (.slice s.a s.n s.c) rfl (fun u => by kernel_rfl) ?_
     refine Yb 6 98 (.int .i64 (((a + (i0 + j0) / 2) : Nat) : Int)) rfl (fun u => by kernel_rfl) ?_
     obtain ⟨z, hz⟩ := get_some (xs := A) (i := (i0 + j0) / 2) (by omega)
     obtain ⟨b2, ha2, hib2, hr2⟩ := h1.elt (get_mid (i := (a + (i0 + j0) / 2)) (A := pre) (B := A) (C := [y] ++ post) (by simp) hz (by omega))
     refine Yb 7 99 (.pointer (some ⟨b2, 0 + (a + (i0 + j0) / 2) * 7, none⟩)) rfl (fun u => (exec_index (E := 50) (k := (a + (i0 + j0) / 2)) rfl (by kernel_rfl) (by kernel_rfl) rfl ha2 rfl hib2)) ?_
     refine G.take 8 100 (.agg z.cells.toArray) rfl (by kernel_rfl) rfl (fun _ _ _ h => h) ((Mv.refl _ _ _).trans (M2.mono (fun _ h => h))).self (by kernel_rfl) (fun u hm => exec_loads (cs := z.cells) rfl rfl Ty50 rfl (hr2.mv hm quiet).2.2) ?_
     refine G.op 9 (by kernel_rfl) rfl (O.call 101 55 #[.agg y.cells.toArray, .agg z.cells.toArray] (by kernel_rfl) rfl (by kernel_rfl) ((byKey_c y z w1.drew g1).mono ?_))
     rintro e1 w2 ⟨g2, rfl, M3⟩
     have K3 := K2.step M3 nt_le quiet
     refine ⟨_, rfl, ⟨kp_nt ((Mv.refl _ _ _).trans M3) _, ?_⟩⟩
     by_cases t4 : (Extern.BytealgCompare.cmp y.key z.key) < 0
     ·refine Yb 10 102 (.bool true) rfl (fun u => okv ((fun u => by kernel_rfl) u) (congrArg Value.bool (decide_eq_true t4))) ?_
      refine Yb 11 103 (.bool false) rfl (fun u => by kernel_rfl) ?_
      refine G.fin (by kernel_rfl) ?_
      refine hk11 _ _ (W.cond false rfl (wp_region_lit ?_))
      refine Zb 106 (.int .i64 (((a + (i0 + j0) / 2) : Nat) : Int)) ?_
      refine Zb 15 (.int .i64 (((a + (i0 + j0) / 2) : Nat) : Int)) ?_
      refine wpList_nil (block_normal ?_)
      have hhG_1 := h1.mv M2 quiet
      have hhG_2 := hhG_1.mv M3 quiet
      exact ⟨((i0 + j0) / 2) - i0, _, by omega, (((((look_eq (t := 0) (v := .slice s.a s.n s.c) rfl).trans (look_eq (t := 2) (v := .int .i64 ↑m) rfl)).trans (look_eq (t := 4) (v := .func (.func 55) #[] #[]) rfl)).trans (look_eq (t := 14) (v := .int .i64 (((a + i0) : Nat) : Int)) rfl)).trans (look_eq (t := 15) (v := .int .i64 (((a + ((i0 + j0) / 2)) : Nat) : Int)) rfl)), ⟨i0, ((i0 + j0) / 2), _, _, rfl, rfl, K3, ((M1.trans (M2.mono nt_le)).trans (M3.mono nt_le)), by omega, by omega, p3, srch_dn2 Lin.item hsA hz (decide_eq_true t4), hhG_2⟩⟩
     ·refine Yb 10 102 (.bool false) rfl (fun u => okv ((fun u => by kernel_rfl) u) (congrArg Value.bool (decide_eq_false t4))) ?_
      refine Yb 11 103 (.bool true) rfl (fun u => by kernel_rfl) ?_
      refine G.fin (by kernel_rfl) ?_
      refine hk11 _ _ (W.cond true rfl (wp_region_lit ?_))
      refine Zb 104 (.int .i64 (((a + (i0 + j0) / 2) : Nat) : Int)) ?_
      refine Zc 105 (.int .i64 (((a + (i0 + j0) / 2) + 1 : Nat) : Int)) (okv (v := .int .i64 (IntKind.i64.wrap ((((a + (i0 + j0) / 2) : Nat) : Int) + 1))) (by kernel_rfl) (wrapn (by omega) (by omega))) ?_
      refine Zb 14 (.int .i64 (((a + (i0 + j0) / 2) + 1 : Nat) : Int)) ?_
      refine wpList_nil (block_normal ?_)
      have hhG_3 := h1.mv M2 quiet
      have hhG_4 := hhG_3.mv M3 quiet
      exact ⟨j0 - ((i0 + j0) / 2 + 1), _, by omega, (((((look_eq (t := 0) (v := .slice s.a s.n s.c) rfl).trans (look_eq (t := 2) (v := .int .i64 ↑m) rfl)).trans (look_eq (t := 4) (v := .func (.func 55) #[] #[]) rfl)).trans (look_eq (t := 14) (v := .int .i64 (((a + ((i0 + j0) / 2 + 1)) : Nat) : Int)) rfl)).trans (look_eq (t := 15) (v := .int .i64 (((a + j0) : Nat) : Int)) rfl)), ⟨((i0 + j0) / 2 + 1), j0, _, _, rfl, rfl, K3, ((M1.trans (M2.mono nt_le)).trans (M3.mono nt_le)), by omega, p2, srch_up2 Lin.item hsA hz (decide_eq_false t4), p4, hhG_4⟩⟩
    ·refine Zc 85 (.bool false) (okv (by kernel_rfl) (congrArg Value.bool (decide_eq_false t3))) ?_
     refine wpList_nil (hk9 _ _ (W.cond false rfl (wp_exit (then_exit ?_))))
     have hij : i0 = j0 := by omega
     refine then_exit (block_exit (hk7 _ _ (wp_seq_k fun k12 hk12 => (wp_seq_k fun k13 hk13 => (wp_region_lit ?_)))))
     refine Zb 107 (.int .i64 ↑m) ?_
     refine Zb 17 (.int .i64 ↑m) ?_
     refine wpList_nil (hk13 _ _ (wp_block ?_))
     refine W.loop (fun (μ0 : Nat) (ws : List (Nat × Value)) (w' : World) => ∃ (k : Nat) (U : List Item) (V : List Item) (γ' : Tg) (ρ0 : List (Nat × Value)), μ0 = k + 1 ∧ ws = ((17, .int .i64 ↑k) :: (14, .int .i64 (((a + i0) : Nat) : Int)) :: (0, .slice s.a s.n s.c) :: ρ0) ∧ Kn (fun ξ => ξ = t) w γ [] w' γ' ∧ Mv (Rg 1 (t + 1)) w1 g1 w' γ' ∧ (A.drop i0 = U ++ V) ∧ (k = a + i0 + U.length) ∧ (k ≤ 100000) ∧ Gs t 50 7 Item.cells w' γ' s (pre ++ A.take i0 ++ U ++ y :: V ++ post)) (m + 1) (((look_eq (t := 0) (v := .slice s.a s.n s.c) rfl).trans (look_eq (t := 14) (v := .int .i64 (((a + i0) : Nat) : Int)) rfl)).trans (look_eq (t := 17) (v := .int .i64 ↑m) rfl)) ?_ ?_
     ·exact ⟨m, (A.drop i0), [], _, _, rfl, rfl, K1, Mv.refl _ _ _, by simp, by rw [List.length_drop]; omega, by omega, (by have h := h1; rw [show pre ++ A ++ [y] ++ post = pre ++ A.take i0 ++ A.drop i0 ++ y :: [] ++ post from by rw [List.append_assoc pre (A.take i0) (A.drop i0), List.take_append_drop]] at h; exact h)⟩
     ·rintro _ _ w3 ⟨k, U, V, g3, r2, rfl, rfl, K4, M4, p5, p6, p7, h2⟩
      have n3 := h2.len
      refine wp_seq_k fun k14 hk14 => (wp_seq_k fun k15 hk15 => (wp_region_lit ?_))
      refine Zb 108 (.int .i64 ↑k) ?_
      refine Zb 109 (.int .i64 (((a + i0) : Nat) : Int)) ?_
      by_cases t5 : ((k : Nat) : Int) > (((a + i0) : Nat) : Int)
      ·refine Zc 110 (.bool true) (okv (by kernel_rfl) (congrArg Value.bool (decide_eq_true t5))) ?_
       refine wpList_nil (hk15 _ _ (W.cond true rfl (wp_skip (hk14 _ _ (wp_seq_k fun k16 hk16 => (wp_block ?_))))))
       refine wp_region_G (SmL [(9, Nt), (13, Nt)] w3 g3) (by kernel_rfl) ?_
       have K5 := K4.drew
       have M5 : Mv Nt w3 g3 w3.drew g3 := (Mv.refl _ _ _).drew
       refine Yb 0 113 (.slice s.a s.n s.c) rfl (fun u => by kernel_rfl) ?_
       refine Yb 1 114 (.int .i64 ↑k) rfl (fun u => by kernel_rfl) ?_
       refine Yb 2 115 (.slice s.a s.n s.c) rfl (fun u => by kernel_rfl) ?_
       refine Yb 3 116 (.int .i64 ↑k) rfl (fun u => by kernel_rfl) ?_
       refine Yb 4 117 (.int .i64 ((k - 1 : Nat) : Int)) rfl (fun u => okv (v := .int .i64 (IntKind.i64.wrap (((k : Nat) : Int) - 1))) ((fun u => by kernel_rfl) u) (wrapn (by omega) (by omega))) ?_
       refine Yb 5 118 (.slice s.a s.n s.c) rfl (fun u => by kernel_rfl) ?_
       refine Yb 6 119 (.int .i64 ↑k) rfl (fun u => by kernel_rfl) ?_
       refine Yb 7 120 (.int .i64 ((k - 1 : Nat) : Int)) rfl (fun u => okv (v := .int .i64 (IntKind.i64.wrap (((k : Nat) : Int) - 1))) ((fun u => by kernel_rfl) u) (wrapn (by omega) (by omega))) ?_
       obtain ⟨U2, e9, hU2⟩ := exists_snoc (L := U) (by omega)
       have hlU := congrArg List.length hU2
       rw [List.length_append] at hlU
       simp only [List.length_cons, List.length_nil] at hlU
       have sw := swap_at (l := pre ++ A.take i0 ++ U ++ y :: V ++ post) (x := e9) (y := y) (A := pre ++ A.take i0 ++ U2) (M := []) (C := V ++ post) (i := k - 1) (j := k) (by rw [hU2]; simp) (by simp only [List.length_append, List.length_take]; omega) (by simp only [List.length_append, List.length_take, List.length_nil]; omega)
       obtain ⟨b3, ha3, hib3, hr3⟩ := h2.elt sw.2.2.1
       refine Yb 8 121 (.pointer (some ⟨b3, 0 + (k - 1) * 7, none⟩)) rfl (fun u => (exec_index (E := 50) (k := k - 1) rfl (by kernel_rfl) (by kernel_rfl) rfl ha3 rfl hib3)) ?_
       refine G.take 9 122 (.agg e9.cells.toArray) rfl (by kernel_rfl) rfl (fun _ _ _ h => h) ((Mv.refl _ _ _).trans (M5.mono (fun _ h => h))).self (by kernel_rfl) (fun u hm => exec_loads (cs := e9.cells) rfl rfl Ty50 rfl (hr3.mv hm quiet).2.2) ?_
       refine Yb 10 123 (.slice s.a s.n s.c) rfl (fun u => by kernel_rfl) ?_
       refine Yb 11 124 (.int .i64 ↑k) rfl (fun u => by kernel_rfl) ?_
       obtain ⟨b4, ha4, hib4, hr4⟩ := h2.elt sw.2.2.2.1
       refine Yb 12 125 (.pointer (some ⟨b4, 0 + k * 7, none⟩)) rfl (fun u => (exec_index (E := 50) (k := k) rfl (by kernel_rfl) (by kernel_rfl) rfl ha4 rfl hib4)) ?_
       refine G.take 13 126 (.agg y.cells.toArray) rfl (by kernel_rfl) rfl (fun _ _ _ h => h) ((Mv.refl _ _ _).trans (M5.mono (fun _ h => h))).self (by kernel_rfl) (fun u hm => exec_loads (cs := y.cells) rfl rfl Ty50 rfl (hr4.mv hm quiet).2.2) ?_
       obtain ⟨b5, ha5, hib5, hr5⟩ := h2.elt sw.2.2.2.1
       refine Yb 14 127 (.pointer (some ⟨b5, 0 + k * 7, none⟩)) rfl (fun u => (exec_index (E := 50) (k := k) rfl (by kernel_rfl) (by kernel_rfl) rfl ha5 rfl hib5)) ?_
       have hhG_5 := h2.mv M5 quiet
       refine G.op 15 (by kernel_rfl) rfl (O.gset k e9 (by kernel_rfl) rfl rfl rfl rfl Ty50 (fun _ => rfl) hhG_5 (by first | omega | (simp only [List.length_set, List.length_append, List.length_cons] at *; omega)) ha5 fun w4 hG1 M6 => ⟨(kp_skip (by kernel_rfl) (kp_skip (by kernel_rfl) kp_nil)), ?_⟩)
       have K6 := K5.step M6 (fun _ h => h) (neq (by omega))
       have n4 := hG1.len
       obtain ⟨b6, ha6, hib6, hr6⟩ := h2.elt sw.2.2.1
       refine Yb 16 128 (.pointer (some ⟨b6, 0 + (k - 1) * 7, none⟩)) rfl (fun u => (exec_index (E := 50) (k := k - 1) rfl (by kernel_rfl) (by kernel_rfl) rfl ha6 rfl hib6)) ?_
       refine G.op 17 (by kernel_rfl) rfl (O.gset (k - 1) y (by kernel_rfl) rfl rfl rfl rfl Ty50 (fun _ => rfl) hG1 (by first | omega | (simp only [List.length_set, List.length_append, List.length_cons] at *; omega)) ha6 fun w5 hG2 M7 => ⟨(kp_skip (by kernel_rfl) (kp_skip (by kernel_rfl) kp_nil)), ?_⟩)
       have K7 := K6.step M7 (fun _ h => h) (neq (by omega))
       have n5 := hG2.len
       refine G.fin (by kernel_rfl) ?_
       refine block_normal (hk16 _ _ (wp_region_lit ?_))
       refine Zb 111 (.int .i64 ↑k) ?_
       refine Zc 112 (.int .i64 ((k - 1 : Nat) : Int)) (okv (v := .int .i64 (IntKind.i64.wrap (((k : Nat) : Int) - 1))) (by kernel_rfl) (wrapn (by omega) (by omega))) ?_
       refine Zb 17 (.int .i64 ((k - 1 : Nat) : Int)) ?_
       refine wpList_nil ?_
       exact ⟨(k - 1) + 1, _, by omega, (((look_eq (t := 0) (v := .slice s.a s.n s.c) rfl).trans (look_eq (t := 14) (v := .int .i64 (((a + i0) : Nat) : Int)) rfl)).trans (look_eq (t := 17) (v := .int .i64 (((k - 1) : Nat) : Int)) rfl)), ⟨(k - 1), U2, (e9 :: V), _, _, rfl, rfl, K7, (((M4.trans (M5.mono nt_le)).trans (M6.mono (eq_rg (by omega)))).trans (M7.mono (eq_rg (by omega)))), by rw [p5, hU2]; simp, by omega, by omega, (by have h := hG2; rw [sw.2.1] at h; rw [show pre ++ A.take i0 ++ U2 ++ y :: (e9 :: V) ++ post = (pre ++ A.take i0 ++ U2) ++ y :: ([] ++ e9 :: (V ++ post)) by simp]; exact h)⟩⟩
      ·refine Zc 110 (.bool false) (okv (by kernel_rfl) (congrArg Value.bool (decide_eq_false t5))) ?_
       refine wpList_nil (hk15 _ _ (W.cond false rfl (wp_exit (then_exit (then_exit (block_exit ?_))))))
       refine hk12 _ _ (wp_ret (then_ret (W.rets (vs := []) rfl .nil (by simp) ?_)))
       have hU9 : U = [] := List.eq_nil_of_length_eq_zero (by omega)
       have hM9 := mrg_one_right ltItem y (A.take i0) (A.drop i0) p3 (by rw [hij]; exact p4)
       rw [List.take_append_drop] at hM9
       have hG9 := h2
       rw [show pre ++ A.take i0 ++ U ++ y :: V ++ post = pre ++ mrg ltItem A [y] ++ post from by rw [hM9, hU9, p5, hU9]; simp] at hG9
       exact ⟨_, rfl, K4.mv, hG9⟩
  ·exfalso; omega

set_option maxRecDepth 100000 in
set_option maxHeartbeats 1000000 in
theorem symMItem (s : Sli) (pre : List Item) (A : List Item) (B : List Item) (post : List Item) (t : Nat) (a : Nat) (m : Nat) (b : Nat) (w : World) (γ : Tg) (hG : Gs t 50 7 Item.cells w γ s (pre ++ A ++ B ++ post)) (ht : 2 ≤ t) (ha : a = pre.length) (hm : m = pre.length + A.length) (hb : b = pre.length + A.length + B.length) (hA0 : 0 < A.length) (hB0 : 0 < B.length) (hsA : Srt ltItem A) (hsB : Srt ltItem B) (hl : pre.length + A.length + B.length + post.length ≤ 100000) (h1 : 1 < A.length) (h2 : 1 < B.length) (hrec : ∀ (pre' A' B' post' : List Item) (a' m' b' : Nat) (w : World) (γ : Tg), (Gs t 50 7 Item.cells w γ s (pre' ++ A' ++ B' ++ post')) → (2 ≤ t) → (a' = pre'.length) → (m' = pre'.length + A'.length) → (b' = pre'.length + A'.length + B'.length) → (0 < A'.length) → (0 < B'.length) → (Srt ltItem A') → (Srt ltItem B') → (pre'.length + A'.length + B'.length + post'.length ≤ 100000) → A'.length + B'.length < A.length + B.length → Calls Try.prog 94 #[.slice s.a s.n s.c, .int .i64 ((a' : Nat) : Int), .int .i64 ((m' : Nat) : Int), .int .i64 ((b' : Nat) : Int), .func (.func 55) #[] #[]] w fun ε w' => ∃ γ', ε = .returned (.tuple #[]) ∧ Mv (fun ξ => ξ = t) w γ w' γ' ∧ Gs t 50 7 Item.cells w' γ' s (pre' ++ mrg ltItem A' B' ++ post')) :
    Calls Try.prog 94 #[.slice s.a s.n s.c, .int .i64 ((a : Nat) : Int), .int .i64 ((m : Nat) : Int), .int .i64 ((b : Nat) : Int), .func (.func 55) #[] #[]] w fun ε w' => ∃ (γ' : Tg), ε = .returned (.tuple #[]) ∧ Mv (fun ξ => ξ = t) w γ w' γ' ∧ Gs t 50 7 Item.cells w' γ' s (pre ++ mrg ltItem A B ++ post) := by
 obtain ⟨q, hq⟩ : ∃ q, q = (A.length + B.length) / 2 := ⟨_, rfl⟩
 have K0 := Kn.start (fun ξ => ξ = t) w γ
 refine W.enter (ws := [(4, .func (.func 55) #[] #[]), (3, .int .i64 ↑b), (2, .int .i64 ↑m), (1, .int .i64 ↑a), (0, .slice s.a s.n s.c)]) 220 Try.func94 rfl (by kernel_rfl) ?_
 have n1 := hG.len
 refine wp_seq_k fun k1 hk1 => (wp_seq_k fun k2 hk2 => (wp_region_lit ?_))
 refine Zb 25 (.int .i64 ↑m) ?_
 refine Zb 26 (.int .i64 ↑a) ?_
 refine Zc 27 (.int .i64 (((m : Nat) : Int) - ((a : Nat) : Int))) (okv (v := .int .i64 (IntKind.i64.wrap (((m : Nat) : Int) - ((a : Nat) : Int)))) (by kernel_rfl) (wrapi (by omega) (by omega))) ?_
 by_cases t1 : (((m : Nat) : Int) - ((a : Nat) : Int)) = 1
 ·exfalso; omega
 ·refine Zc 28 (.bool false) (okv (by kernel_rfl) (congrArg Value.bool (beq_eq_false_iff_ne.2 t1))) ?_
  refine wpList_nil (hk2 _ _ (W.cond false rfl (wp_skip (hk1 _ _ (wp_seq_k fun k3 hk3 => (wp_seq_k fun k4 hk4 => ?_))))))
  refine wp_region_lit ?_
  refine Zb 77 (.int .i64 ↑b) ?_
  refine Zb 78 (.int .i64 ↑m) ?_
  refine Zc 79 (.int .i64 (((b : Nat) : Int) - ((m : Nat) : Int))) (okv (v := .int .i64 (IntKind.i64.wrap (((b : Nat) : Int) - ((m : Nat) : Int)))) (by kernel_rfl) (wrapi (by omega) (by omega))) ?_
  by_cases t2 : (((b : Nat) : Int) - ((m : Nat) : Int)) = 1
  ·exfalso; omega
  ·refine Zc 80 (.bool false) (okv (by kernel_rfl) (congrArg Value.bool (beq_eq_false_iff_ne.2 t2))) ?_
   refine wpList_nil (hk4 _ _ (W.cond false rfl (wp_skip (hk3 _ _ (wp_seq_k fun k5 hk5 => (wp_region_lit ?_))))))
   refine Zb 129 (.int .i64 ↑a) ?_
   refine Zb 130 (.int .i64 ↑b) ?_
   refine Zc 131 (.int .i64 ((a + b : Nat) : Int)) (okv (v := .int .i64 (IntKind.i64.wrap (((a : Nat) : Int) + ((b : Nat) : Int)))) (by kernel_rfl) (wrapn (by omega) (by omega))) ?_
   refine Zc 132 (.int .u64 ((a + b : Nat) : Int)) (okv (by kernel_rfl) (up64_v (by omega))) ?_
   refine Zc 133 (.int .u64 (((a + b) / 2 : Nat) : Int)) (okv (by kernel_rfl) (shr1_v)) ?_
   refine Zc 134 (.int .i64 (((a + q) : Nat) : Int)) (okv (by kernel_rfl) ((to_i64 (a := (a + b) / 2) (by omega)).trans (nat_v (a := (a + b) / 2) (b := a + q) (by omega)))) ?_
   refine Zb 18 (.int .i64 (((a + q) : Nat) : Int)) ?_
   refine wpList_nil (hk5 _ _ (wp_seq_k fun k6 hk6 => (wp_region_lit ?_)))
   refine Zb 135 (.int .i64 (((a + q) : Nat) : Int)) ?_
   refine Zb 136 (.int .i64 ↑m) ?_
   refine Zc 137 (.int .i64 (((a + q) + m : Nat) : Int)) (okv (v := .int .i64 (IntKind.i64.wrap ((((a + q) : Nat) : Int) + ((m : Nat) : Int)))) (by kernel_rfl) (wrapn (by omega) (by omega))) ?_
   refine Zb 19 (.int .i64 (((a + q) + m : Nat) : Int)) ?_
   refine wpList_nil (hk6 _ _ (wp_seq_k fun k7 hk7 => (wp_region_lit ?_)))
   refine Zb 20 (.int .i64 0) ?_
   refine Zb 21 (.int .i64 0) ?_
   refine wpList_nil (hk7 _ _ ?_)
   refine W.join (fun (ws : List (Nat × Value)) (w' : World) => ∃ (S : Nat) (R : Nat) (γ' : Tg) (ρ0 : List (Nat × Value)), ws = ((21, .int .i64 (((a + R) : Nat) : Int)) :: (20, .int .i64 (((a + S) : Nat) : Int)) :: (19, .int .i64 (((a + q) + m : Nat) : Int)) :: (18, .int .i64 (((a + q) : Nat) : Int)) :: (4, .func (.func 55) #[] #[]) :: (3, .int .i64 ↑b) :: (2, .int .i64 ↑m) :: (1, .int .i64 ↑a) :: (0, .slice s.a s.n s.c) :: ρ0) ∧ Kn (fun ξ => ξ = t) w γ [] w' γ' ∧ Mv (Rg 1 (t + 1)) w γ w' γ' ∧ (S = 0 ∨ q = B.length + S) ∧ (R = A.length ∨ R = q) ∧ (S ≤ R) ∧ (R ≤ A.length) ∧ (R ≤ q) ∧ (q ≤ B.length + S) ∧ Gs t 50 7 Item.cells w' γ' s (pre ++ A ++ B ++ post)) ?_ ?_
   ·refine wp_seq_k fun k8 hk8 => (wp_region_lit ?_)
    refine Zb 138 (.int .i64 ↑m) ?_
    refine Zb 139 (.int .i64 (((a + q) : Nat) : Int)) ?_
    by_cases t3 : ((m : Nat) : Int) > (((a + q) : Nat) : Int)
    ·refine Zc 140 (.bool true) (okv (by kernel_rfl) (congrArg Value.bool (decide_eq_true t3))) ?_
     refine wpList_nil (hk8 _ _ (W.cond true rfl (wp_seq_k fun k9 hk9 => (wp_region_lit ?_))))
     refine Zb 141 (.int .i64 (((a + q) + m : Nat) : Int)) ?_
     refine Zb 142 (.int .i64 ↑b) ?_
     refine Zc 143 (.int .i64 (((a + (q - B.length)) : Nat) : Int)) (okv (v := .int .i64 (IntKind.i64.wrap ((((a + q) + m : Nat) : Int) - ((b : Nat) : Int)))) (by kernel_rfl) (wrapn (by omega) (by omega))) ?_
     refine Zb 20 (.int .i64 (((a + (q - B.length)) : Nat) : Int)) ?_
     refine wpList_nil (hk9 _ _ (wp_region_lit ?_))
     refine Zb 144 (.int .i64 (((a + q) : Nat) : Int)) ?_
     refine Zb 21 (.int .i64 (((a + q) : Nat) : Int)) ?_
     refine wpList_nil ?_
     exact ⟨_, (((((((((look_eq (t := 0) (v := .slice s.a s.n s.c) rfl).trans (look_eq (t := 1) (v := .int .i64 ↑a) rfl)).trans (look_eq (t := 2) (v := .int .i64 ↑m) rfl)).trans (look_eq (t := 3) (v := .int .i64 ↑b) rfl)).trans (look_eq (t := 4) (v := .func (.func 55) #[] #[]) rfl)).trans (look_eq (t := 18) (v := .int .i64 (((a + q) : Nat) : Int)) rfl)).trans (look_eq (t := 19) (v := .int .i64 (((a + q) + m : Nat) : Int)) rfl)).trans (look_eq (t := 20) (v := .int .i64 (((a + (q - B.length)) : Nat) : Int)) rfl)).trans (look_eq (t := 21) (v := .int .i64 (((a + q) : Nat) : Int)) rfl)), ⟨(q - B.length), q, _, _, rfl, K0, (Mv.refl _ _ _), by omega, by omega, by omega, by omega, by omega, by omega, hG⟩⟩
    ·refine Zc 140 (.bool false) (okv (by kernel_rfl) (congrArg Value.bool (decide_eq_false t3))) ?_
     refine wpList_nil (hk8 _ _ (W.cond false rfl (wp_seq_k fun k10 hk10 => (wp_region_lit ?_))))
     refine Zb 145 (.int .i64 ↑a) ?_
     refine Zb 20 (.int .i64 ↑a) ?_
     refine wpList_nil (hk10 _ _ (wp_region_lit ?_))
     refine Zb 146 (.int .i64 ↑m) ?_
     refine Zb 21 (.int .i64 ↑m) ?_
     refine wpList_nil ?_
     exact ⟨_, (((((((((look_eq (t := 0) (v := .slice s.a s.n s.c) rfl).trans (look_eq (t := 1) (v := .int .i64 ↑a) rfl)).trans (look_eq (t := 2) (v := .int .i64 ↑m) rfl)).trans (look_eq (t := 3) (v := .int .i64 ↑b) rfl)).trans (look_eq (t := 4) (v := .func (.func 55) #[] #[]) rfl)).trans (look_eq (t := 18) (v := .int .i64 (((a + q) : Nat) : Int)) rfl)).trans (look_eq (t := 19) (v := .int .i64 (((a + q) + m : Nat) : Int)) rfl)).trans (look_eq (t := 20) (v := .int .i64 (((a + 0) : Nat) : Int)) rfl)).trans (look_eq (t := 21) (v := .int .i64 (((a + A.length) : Nat) : Int)) (nat_v (by omega)))), ⟨0, A.length, _, _, rfl, K0, (Mv.refl _ _ _), by omega, by omega, by omega, by omega, by omega, by omega, hG⟩⟩
   ·rintro _ w1 ⟨S, R, g1, r1, rfl, K1, M1, p1, p2, p3, p4, p5, p6, h1⟩
    have n2 := h1.len
    refine wp_seq_k fun k11 hk11 => (wp_region_lit ?_)
    refine Zb 147 (.int .i64 (((a + q) + m : Nat) : Int)) ?_
    refine Zc 148 (.int .i64 (((a + q) + m - 1 : Nat) : Int)) (okv (v := .int .i64 (IntKind.i64.wrap ((((a + q) + m : Nat) : Int) - 1))) (by kernel_rfl) (wrapn (by omega) (by omega))) ?_
    refine Zb 22 (.int .i64 (((a + q) + m - 1 : Nat) : Int)) ?_
    refine wpList_nil (hk11 _ _ (wp_seq_k fun k12 hk12 => (wp_block ?_)))
    refine W.loop (fun (μ0 : Nat) (ws : List (Nat × Value)) (w' : World) => ∃ (s0 : Nat) (r0 : Nat) (γ' : Tg) (ρ0 : List (Nat × Value)), μ0 = r0 - s0 ∧ ws = ((22, .int .i64 (((a + q) + m - 1 : Nat) : Int)) :: (21, .int .i64 (((a + r0) : Nat) : Int)) :: (20, .int .i64 (((a + s0) : Nat) : Int)) :: (19, .int .i64 (((a + q) + m : Nat) : Int)) :: (18, .int .i64 (((a + q) : Nat) : Int)) :: (4, .func (.func 55) #[] #[]) :: (3, .int .i64 ↑b) :: (2, .int .i64 ↑m) :: (1, .int .i64 ↑a) :: (0, .slice s.a s.n s.c) :: ρ0) ∧ Kn (fun ξ => ξ = t) w γ [] w' γ' ∧ Mv (Rg 1 (t + 1)) w1 g1 w' γ' ∧ (S ≤ s0) ∧ (s0 ≤ r0) ∧ (r0 ≤ R) ∧ (s0 = S ∨ ∃ x y, A[s0 - 1]? = some x ∧ B[q - s0]? = some y ∧ ltItem y x = false) ∧ (r0 = R ∨ ∃ x y, A[r0]? = some x ∧ B[q - 1 - r0]? = some y ∧ ltItem y x = true) ∧ Gs t 50 7 Item.cells w' γ' s (pre ++ A ++ B ++ post)) (R - S) ((((((((((look_eq (t := 0) (v := .slice s.a s.n s.c) rfl).trans (look_eq (t := 1) (v := .int .i64 ↑a) rfl)).trans (look_eq (t := 2) (v := .int .i64 ↑m) rfl)).trans (look_eq (t := 3) (v := .int .i64 ↑b) rfl)).trans (look_eq (t := 4) (v := .func (.func 55) #[] #[]) rfl)).trans (look_eq (t := 18) (v := .int .i64 (((a + q) : Nat) : Int)) rfl)).trans (look_eq (t := 19) (v := .int .i64 (((a + q) + m : Nat) : Int)) rfl)).trans (look_eq (t := 20) (v := .int .i64 (((a + S) : Nat) : Int)) rfl)).trans (look_eq (t := 21) (v := .int .i64 (((a + R) : Nat) : Int)) rfl)).trans (look_eq (t := 22) (v := .int .i64 (((a + q) + m - 1 : Nat) : Int)) rfl)) ?_ ?_
    ·exact ⟨S, R, _, _, rfl, rfl, K1, Mv.refl _ _ _, by omega, by omega, by omega, .inl rfl, .inl rfl, h1⟩
    ·rintro _ _ w2 ⟨s0, r0, g2, r2, rfl, rfl, K2, M2, p7, p8, p9, p10, p11, h2⟩
     have n3 := h2.len
     refine wp_seq_k fun k13 hk13 => (wp_seq_k fun k14 hk14 => (wp_region_lit ?_))
     refine Zb 149 (.int .i64 (((a + s0) : Nat) : Int)) ?_
     refine Zb 150 (.int .i64 (((a + r0) : Nat) : Int)) ?_
     by_cases t4 : (((a + s0) : Nat) : Int) < (((a + r0) : Nat) : Int)
     ·refine Zc 151 (.bool true) (okv (by kernel_rfl) (congrArg Value.bool (decide_eq_true t4))) ?_
      refine wpList_nil (hk14 _ _ (W.cond true rfl (wp_skip (hk13 _ _ (wp_block (wp_seq_k fun k15 hk15 => ?_))))))
      refine wp_region_lit ?_
      refine Zb 152 (.int .i64 (((a + s0) : Nat) : Int)) ?_
      refine Zb 153 (.int .i64 (((a + r0) : Nat) : Int)) ?_
      refine Zc 154 (.int .i64 (((a + s0) + (a + r0) : Nat) : Int)) (okv (v := .int .i64 (IntKind.i64.wrap ((((a + s0) : Nat) : Int) + (((a + r0) : Nat) : Int)))) (by kernel_rfl) (wrapn (by omega) (by omega))) ?_
      refine Zc 155 (.int .u64 ((a + s0 + (a + r0) : Nat) : Int)) (okv (by kernel_rfl) (up64_v (by omega))) ?_
      refine Zc 156 (.int .u64 (((a + s0 + (a + r0)) / 2 : Nat) : Int)) (okv (by kernel_rfl) (shr1_v)) ?_
      refine Zc 157 (.int .i64 (((a + (s0 + r0) / 2) : Nat) : Int)) (okv (by kernel_rfl) ((to_i64 (a := (a + s0 + (a + r0)) / 2) (by omega)).trans (nat_v (a := (a + s0 + (a + r0)) / 2) (b := a + (s0 + r0) / 2) (by omega)))) ?_
      refine Zb 23 (.int .i64 (((a + (s0 + r0) / 2) : Nat) : Int)) ?_
      refine wpList_nil (hk15 _ _ (wp_seq_k fun k16 hk16 => (wp_region_G (SmL [(6, Nt), (10, Nt)] w2 g2) (by kernel_rfl) ?_)))
      have K3 := K2.drew
      have M3 : Mv Nt w2 g2 w2.drew g2 := (Mv.refl _ _ _).drew
      refine Yb 0 158 (.func (.func 55) #[] #[]) rfl (fun u => by kernel_rfl) ?_
      refine Yb 1 159 (.slice s.a s.n s.c) rfl (fun u => by kernel_rfl) ?_
      refine Yb 2 160 (.int .i64 (((a + q) + m - 1 : Nat) : Int)) rfl (fun u => by kernel_rfl) ?_
      refine Yb 3 161 (.int .i64 (((a + (s0 + r0) / 2) : Nat) : Int)) rfl (fun u => by kernel_rfl) ?_
      refine Yb 4 162 (.int .i64 (((m + (q - 1 - (s0 + r0) / 2)) : Nat) : Int)) rfl (fun u => okv (v := .int .i64 (IntKind.i64.wrap ((((a + q) + m - 1 : Nat) : Int) - (((a + (s0 + r0) / 2) : Nat) : Int)))) ((fun u => by kernel_rfl) u) (wrapn (by omega) (by omega))) ?_
      obtain ⟨x, hx⟩ := get_some (xs := A) (i := (s0 + r0) / 2) (by omega)
      obtain ⟨y, hy⟩ := get_some (xs := B) (i := q - 1 - (s0 + r0) / 2) (by omega)
      obtain ⟨b1, ha1, hib1, hr1⟩ := h2.elt (get_mid (i := (m + (q - 1 - (s0 + r0) / 2))) (A := pre ++ A) (B := B) (C := post) rfl hy (by simp only [List.length_append]; omega))
      refine Yb 5 163 (.pointer (some ⟨b1, 0 + (m + (q - 1 - (s0 + r0) / 2)) * 7, none⟩)) rfl (fun u => (exec_index (E := 50) (k := (m + (q - 1 - (s0 + r0) / 2))) rfl (by kernel_rfl) (by kernel_rfl) rfl ha1 rfl hib1)) ?_
      refine G.take 6 164 (.agg y.cells.toArray) rfl (by kernel_rfl) rfl (fun _ _ _ h => h) ((Mv.refl _ _ _).trans (M3.mono (fun _ h => h))).self (by kernel_rfl) (fun u hm => exec_loads (cs := y.cells) rfl rfl Ty50 rfl (hr1.mv hm quiet).2.2) ?_
      refine Yb 7 165 (.slice s.a s.n s.c) rfl (fun u => by kernel_rfl) ?_
      refine Yb 8 166 (.int .i64 (((a + (s0 + r0) / 2) : Nat) : Int)) rfl (fun u => by kernel_rfl) ?_
      obtain ⟨b2, ha2, hib2, hr2⟩ := h2.elt (get_mid (i := (a + (s0 + r0) / 2)) (A := pre) (B := A) (C := B ++ post) (by simp) hx (by omega))
      refine Yb 9 167 (.pointer (some ⟨b2, 0 + (a + (s0 + r0) / 2) * 7, none⟩)) rfl (fun u => (exec_index (E := 50) (k := (a + (s0 + r0) / 2)) rfl (by kernel_rfl) (by kernel_rfl) rfl ha2 rfl hib2)) ?_
      refine G.take 10 168 (.agg x.cells.toArray) rfl (by kernel_rfl) rfl (fun _ _ _ h => h) ((Mv.refl _ _ _).trans (M3.mono (fun _ h => h))).self (by kernel_rfl) (fun u hm => exec_loads (cs := x.cells) rfl rfl Ty50 rfl (hr2.mv hm quiet).2.2) ?_
      refine G.op 11 (by kernel_rfl) rfl (O.call 169 55 #[.agg y.cells.toArray, .agg x.cells.toArray] (by kernel_rfl) rfl (by kernel_rfl) ((byKey_c y x w2.drew g2).mono ?_))
      rintro e1 w3 ⟨g3, rfl, M4⟩
      have K4 := K3.step M4 nt_le quiet
      refine ⟨_, rfl, ⟨kp_nt ((Mv.refl _ _ _).trans M4) _, ?_⟩⟩
      by_cases t5 : (Extern.BytealgCompare.cmp y.key x.key) < 0
      ·refine Yb 12 170 (.bool true) rfl (fun u => okv ((fun u => by kernel_rfl) u) (congrArg Value.bool (decide_eq_true t5))) ?_
       refine Yb 13 171 (.bool false) rfl (fun u => by kernel_rfl) ?_
       refine G.fin (by kernel_rfl) ?_
       refine hk16 _ _ (W.cond false rfl (wp_region_lit ?_))
       refine Zb 174 (.int .i64 (((a + (s0 + r0) / 2) : Nat) : Int)) ?_
       refine Zb 21 (.int .i64 (((a + (s0 + r0) / 2) : Nat) : Int)) ?_
       refine wpList_nil (block_normal ?_)
       have hhG_1 := h2.mv M3 quiet
       have hhG_2 := hhG_1.mv M4 quiet
       exact ⟨((s0 + r0) / 2) - s0, _, by omega, ((((((((((look_eq (t := 0) (v := .slice s.a s.n s.c) rfl).trans (look_eq (t := 1) (v := .int .i64 ↑a) rfl)).trans (look_eq (t := 2) (v := .int .i64 ↑m) rfl)).trans (look_eq (t := 3) (v := .int .i64 ↑b) rfl)).trans (look_eq (t := 4) (v := .func (.func 55) #[] #[]) rfl)).trans (look_eq (t := 18) (v := .int .i64 (((a + q) : Nat) : Int)) rfl)).trans (look_eq (t := 19) (v := .int .i64 (((a + q) + m : Nat) : Int)) rfl)).trans (look_eq (t := 20) (v := .int .i64 (((a + s0) : Nat) : Int)) rfl)).trans (look_eq (t := 21) (v := .int .i64 (((a + ((s0 + r0) / 2)) : Nat) : Int)) rfl)).trans (look_eq (t := 22) (v := .int .i64 (((a + q) + m - 1 : Nat) : Int)) rfl)), ⟨s0, ((s0 + r0) / 2), _, _, rfl, rfl, K4, ((M2.trans (M3.mono nt_le)).trans (M4.mono nt_le)), p7, by omega, by omega, p10, .inr ⟨x, y, hx, hy, decide_eq_true t5⟩, hhG_2⟩⟩
      ·refine Yb 12 170 (.bool false) rfl (fun u => okv ((fun u => by kernel_rfl) u) (congrArg Value.bool (decide_eq_false t5))) ?_
       refine Yb 13 171 (.bool true) rfl (fun u => by kernel_rfl) ?_
       refine G.fin (by kernel_rfl) ?_
       refine hk16 _ _ (W.cond true rfl (wp_region_lit ?_))
       refine Zb 172 (.int .i64 (((a + (s0 + r0) / 2) : Nat) : Int)) ?_
       refine Zc 173 (.int .i64 (((a + (s0 + r0) / 2) + 1 : Nat) : Int)) (okv (v := .int .i64 (IntKind.i64.wrap ((((a + (s0 + r0) / 2) : Nat) : Int) + 1))) (by kernel_rfl) (wrapn (by omega) (by omega))) ?_
       refine Zb 20 (.int .i64 (((a + (s0 + r0) / 2) + 1 : Nat) : Int)) ?_
       refine wpList_nil (block_normal ?_)
       have hhG_3 := h2.mv M3 quiet
       have hhG_4 := hhG_3.mv M4 quiet
       exact ⟨r0 - ((s0 + r0) / 2 + 1), _, by omega, ((((((((((look_eq (t := 0) (v := .slice s.a s.n s.c) rfl).trans (look_eq (t := 1) (v := .int .i64 ↑a) rfl)).trans (look_eq (t := 2) (v := .int .i64 ↑m) rfl)).trans (look_eq (t := 3) (v := .int .i64 ↑b) rfl)).trans (look_eq (t := 4) (v := .func (.func 55) #[] #[]) rfl)).trans (look_eq (t := 18) (v := .int .i64 (((a + q) : Nat) : Int)) rfl)).trans (look_eq (t := 19) (v := .int .i64 (((a + q) + m : Nat) : Int)) rfl)).trans (look_eq (t := 20) (v := .int .i64 (((a + ((s0 + r0) / 2 + 1)) : Nat) : Int)) rfl)).trans (look_eq (t := 21) (v := .int .i64 (((a + r0) : Nat) : Int)) rfl)).trans (look_eq (t := 22) (v := .int .i64 (((a + q) + m - 1 : Nat) : Int)) rfl)), ⟨((s0 + r0) / 2 + 1), r0, _, _, rfl, rfl, K4, ((M2.trans (M3.mono nt_le)).trans (M4.mono nt_le)), by omega, by omega, p9, .inr ⟨x, y, by rw [show (s0 + r0) / 2 + 1 - 1 = (s0 + r0) / 2 by omega]; exact hx, by rw [show q - ((s0 + r0) / 2 + 1) = q - 1 - (s0 + r0) / 2 by omega]; exact hy, decide_eq_false t5⟩, p11, hhG_4⟩⟩
     ·refine Zc 151 (.bool false) (okv (by kernel_rfl) (congrArg Value.bool (decide_eq_false t4))) ?_
      refine wpList_nil (hk14 _ _ (W.cond false rfl (wp_exit (then_exit ?_))))
      have hr9 : r0 = s0 := by omega
      have hR9 := p11
      rw [hr9] at hR9
      have key := sym_cut Lin.item hsA hsB p1 p2 (s := s0) (by omega) (by omega) (by omega) p10 hR9 p7
      obtain ⟨A1, hA1⟩ : ∃ l, l = A.take s0 := ⟨_, rfl⟩
      obtain ⟨A2, hA2⟩ : ∃ l, l = A.drop s0 := ⟨_, rfl⟩
      obtain ⟨B1, hB1⟩ : ∃ l, l = B.take (q - s0) := ⟨_, rfl⟩
      obtain ⟨B2, hB2⟩ : ∃ l, l = B.drop (q - s0) := ⟨_, rfl⟩
      rw [← hA1, ← hA2, ← hB1, ← hB2] at key
      have lA1 : A1.length = s0 := by rw [hA1, List.length_take]; omega
      have lA2 : A2.length = A.length - s0 := by rw [hA2, List.length_drop]
      have lB1 : B1.length = q - s0 := by rw [hB1, List.length_take]; omega
      have lB2 : B2.length = B.length - (q - s0) := by rw [hB2, List.length_drop]
      have eA : A = A1 ++ A2 := by rw [hA1, hA2, List.take_append_drop]
      have eB : B = B1 ++ B2 := by rw [hB1, hB2, List.take_append_drop]
      have sA1 : Srt ltItem A1 := hsA.sublist (by rw [hA1]; exact List.take_sublist _ _)
      have sA2 : Srt ltItem A2 := hsA.sublist (by rw [hA2]; exact List.drop_sublist _ _)
      have sB1 : Srt ltItem B1 := hsB.sublist (by rw [hB1]; exact List.take_sublist _ _)
      have sB2 : Srt ltItem B2 := hsB.sublist (by rw [hB2]; exact List.drop_sublist _ _)
      have hG1 := h2
      rw [show pre ++ A ++ B ++ post = pre ++ A1 ++ A2 ++ B1 ++ B2 ++ post from by rw [eA, eB]; simp only [List.append_assoc]] at hG1
      have n4 := hG1.len
      refine then_exit (block_exit (hk12 _ _ (wp_seq_k fun k17 hk17 => (wp_region_lit ?_))))
      refine Zb 175 (.int .i64 (((a + q) + m : Nat) : Int)) ?_
      refine Zb 176 (.int .i64 (((a + s0) : Nat) : Int)) ?_
      refine Zc 177 (.int .i64 (((m + (q - s0)) : Nat) : Int)) (okv (v := .int .i64 (IntKind.i64.wrap ((((a + q) + m : Nat) : Int) - (((a + s0) : Nat) : Int)))) (by kernel_rfl) (wrapn (by omega) (by omega))) ?_
      refine Zb 24 (.int .i64 (((m + (q - s0)) : Nat) : Int)) ?_
      refine wpList_nil (hk17 _ _ ?_)
      refine W.join (fun (ws : List (Nat × Value)) (w' : World) => ∃  (γ' : Tg) (ρ0 : List (Nat × Value)), ws = ((24, .int .i64 (((m + (q - s0)) : Nat) : Int)) :: (20, .int .i64 (((a + s0) : Nat) : Int)) :: (18, .int .i64 (((a + q) : Nat) : Int)) :: (4, .func (.func 55) #[] #[]) :: (3, .int .i64 ↑b) :: (1, .int .i64 ↑a) :: (0, .slice s.a s.n s.c) :: ρ0) ∧ Kn (fun ξ => ξ = t) w γ [] w' γ' ∧ Mv (Rg 1 (t + 1)) w2 g2 w' γ' ∧ Gs t 50 7 Item.cells w' γ' s (pre ++ A1 ++ B1 ++ A2 ++ B2 ++ post)) ?_ ?_
      ·refine wp_seq_k fun k18 hk18 => (wp_region_lit ?_)
       refine Zb 178 (.int .i64 (((a + s0) : Nat) : Int)) ?_
       refine Zb 179 (.int .i64 ↑m) ?_
       by_cases t6 : (((a + s0) : Nat) : Int) < ((m : Nat) : Int)
       ·refine Zc 180 (.bool true) (okv (by kernel_rfl) (congrArg Value.bool (decide_eq_true t6))) ?_
        refine Zb 181 (.bool true) ?_
        refine Zd 182 (.int .i64 ↑m) ?_
        refine Zd 183 (.int .i64 (((m + (q - s0)) : Nat) : Int)) ?_
        by_cases t7 : ((m : Nat) : Int) < (((m + (q - s0)) : Nat) : Int)
        ·refine W.op (O.gv 184 (.bool true) (by kernel_rfl) rfl (okv (by kernel_rfl) (congrArg Value.bool (decide_eq_true t7))) ?_)
         refine Zb 185 (.bool true) ?_
         refine wpList_nil (hk18 _ _ (W.cond true rfl (wp_region_lit ?_)))
         refine Zb 186 (.slice s.a s.n s.c) ?_
         refine Zb 187 (.int .i64 (((a + s0) : Nat) : Int)) ?_
         refine Zb 188 (.int .i64 ↑m) ?_
         refine Zb 189 (.int .i64 (((m + (q - s0)) : Nat) : Int)) ?_
         refine Zb 190 (.func (.func 55) #[] #[]) ?_
         refine W.op (O.call 191 104 #[.slice s.a s.n s.c, .int .i64 (((a + s0) : Nat) : Int), .int .i64 ↑m, .int .i64 (((m + (q - s0)) : Nat) : Int), .func (.func 55) #[] #[]] (by kernel_rfl) rfl (by kernel_rfl) ((rotItem_c s (pre ++ A1) A2 B1 (B2 ++ post) t (a + s0) m (m + (q - s0)) (.func (.func 55) #[] #[]) w2 g2 (by have h := hG1; rw [show pre ++ A1 ++ A2 ++ B1 ++ B2 ++ post = (pre ++ A1) ++ A2 ++ B1 ++ (B2 ++ post) from by simp only [List.append_assoc]] at h; exact h) (by omega) (by first | omega | (simp only [List.length_append]; omega)) (by first | omega | (simp only [List.length_append]; omega)) (by first | omega | (simp only [List.length_append]; omega)) (by first | omega | (simp only [List.length_append]; omega)) (by first | omega | (simp only [List.length_append]; omega)) (by first | omega | (simp only [List.length_append]; omega))).mono ?_))
         rintro e2 w4 ⟨g4, rfl, M5, hq1⟩
         have K5 := K2.step M5 (fun _ h => h) (neq (by omega))
         have n5 := hq1.len
         refine ⟨_, rfl, ?_⟩
         refine wpList_nil ?_
         exact ⟨_, (((((((look_eq (t := 0) (v := .slice s.a s.n s.c) rfl).trans (look_eq (t := 1) (v := .int .i64 ↑a) rfl)).trans (look_eq (t := 3) (v := .int .i64 ↑b) rfl)).trans (look_eq (t := 4) (v := .func (.func 55) #[] #[]) rfl)).trans (look_eq (t := 18) (v := .int .i64 (((a + q) : Nat) : Int)) rfl)).trans (look_eq (t := 20) (v := .int .i64 (((a + s0) : Nat) : Int)) rfl)).trans (look_eq (t := 24) (v := .int .i64 (((m + (q - s0)) : Nat) : Int)) rfl)), ⟨_, _, rfl, K5, ((Mv.refl _ _ _).trans (M5.mono (eq_rg (by omega)))), (by have h := hq1; rw [show (pre ++ A1) ++ B1 ++ A2 ++ (B2 ++ post) = pre ++ A1 ++ B1 ++ A2 ++ B2 ++ post from by simp only [List.append_assoc]] at h; exact h)⟩⟩
        ·refine W.op (O.gv 184 (.bool false) (by kernel_rfl) rfl (okv (by kernel_rfl) (congrArg Value.bool (decide_eq_false t7))) ?_)
         refine Zb 185 (.bool false) ?_
         refine wpList_nil (hk18 _ _ (W.cond false rfl (wp_skip ?_)))
         exact ⟨_, (((((((look_eq (t := 0) (v := .slice s.a s.n s.c) rfl).trans (look_eq (t := 1) (v := .int .i64 ↑a) rfl)).trans (look_eq (t := 3) (v := .int .i64 ↑b) rfl)).trans (look_eq (t := 4) (v := .func (.func 55) #[] #[]) rfl)).trans (look_eq (t := 18) (v := .int .i64 (((a + q) : Nat) : Int)) rfl)).trans (look_eq (t := 20) (v := .int .i64 (((a + s0) : Nat) : Int)) rfl)).trans (look_eq (t := 24) (v := .int .i64 (((m + (q - s0)) : Nat) : Int)) rfl)), ⟨_, _, rfl, K2, (Mv.refl _ _ _), (by have h := hG1; rw [show pre ++ A1 ++ A2 ++ B1 ++ B2 ++ post = pre ++ A1 ++ B1 ++ A2 ++ B2 ++ post from (by rcases (show A2.length = 0 ∨ B1.length = 0 by omega) with h9 | h9 <;> (rw [List.eq_nil_of_length_eq_zero h9]; simp))] at h; exact h)⟩⟩
       ·refine Zc 180 (.bool false) (okv (by kernel_rfl) (congrArg Value.bool (decide_eq_false t6))) ?_
        refine Zb 181 (.bool false) ?_
        refine Za 182 ?_
        refine Za 183 ?_
        refine Za 184 ?_
        refine Zb 185 (.bool false) ?_
        refine wpList_nil (hk18 _ _ (W.cond false rfl (wp_skip ?_)))
        exact ⟨_, (((((((look_eq (t := 0) (v := .slice s.a s.n s.c) rfl).trans (look_eq (t := 1) (v := .int .i64 ↑a) rfl)).trans (look_eq (t := 3) (v := .int .i64 ↑b) rfl)).trans (look_eq (t := 4) (v := .func (.func 55) #[] #[]) rfl)).trans (look_eq (t := 18) (v := .int .i64 (((a + q) : Nat) : Int)) rfl)).trans (look_eq (t := 20) (v := .int .i64 (((a + s0) : Nat) : Int)) rfl)).trans (look_eq (t := 24) (v := .int .i64 (((m + (q - s0)) : Nat) : Int)) rfl)), ⟨_, _, rfl, K2, (Mv.refl _ _ _), (by have h := hG1; rw [show pre ++ A1 ++ A2 ++ B1 ++ B2 ++ post = pre ++ A1 ++ B1 ++ A2 ++ B2 ++ post from (by rcases (show A2.length = 0 ∨ B1.length = 0 by omega) with h9 | h9 <;> (rw [List.eq_nil_of_length_eq_zero h9]; simp))] at h; exact h)⟩⟩
      ·rintro _ w5 ⟨g5, r3, rfl, K6, M6, h3⟩
       have n6 := h3.len
       refine W.join (fun (ws : List (Nat × Value)) (w' : World) => ∃  (γ' : Tg) (ρ0 : List (Nat × Value)), ws = ((24, .int .i64 (((m + (q - s0)) : Nat) : Int)) :: (18, .int .i64 (((a + q) : Nat) : Int)) :: (4, .func (.func 55) #[] #[]) :: (3, .int .i64 ↑b) :: (0, .slice s.a s.n s.c) :: ρ0) ∧ Kn (fun ξ => ξ = t) w γ [] w' γ' ∧ Mv (Rg 1 (t + 1)) w5 g5 w' γ' ∧ Gs t 50 7 Item.cells w' γ' s (pre ++ mrg ltItem A1 B1 ++ A2 ++ B2 ++ post)) ?_ ?_
       ·refine wp_seq_k fun k19 hk19 => (wp_region_lit ?_)
        refine Zb 192 (.int .i64 ↑a) ?_
        refine Zb 193 (.int .i64 (((a + s0) : Nat) : Int)) ?_
        by_cases t8 : ((a : Nat) : Int) < (((a + s0) : Nat) : Int)
        ·refine Zc 194 (.bool true) (okv (by kernel_rfl) (congrArg Value.bool (decide_eq_true t8))) ?_
         refine Zb 195 (.bool true) ?_
         refine Zd 196 (.int .i64 (((a + s0) : Nat) : Int)) ?_
         refine Zd 197 (.int .i64 (((a + q) : Nat) : Int)) ?_
         by_cases t9 : (((a + s0) : Nat) : Int) < (((a + q) : Nat) : Int)
         ·refine W.op (O.gv 198 (.bool true) (by kernel_rfl) rfl (okv (by kernel_rfl) (congrArg Value.bool (decide_eq_true t9))) ?_)
          refine Zb 199 (.bool true) ?_
          refine wpList_nil (hk19 _ _ (W.cond true rfl (wp_region_lit ?_)))
          refine Zb 200 (.slice s.a s.n s.c) ?_
          refine Zb 201 (.int .i64 ↑a) ?_
          refine Zb 202 (.int .i64 (((a + s0) : Nat) : Int)) ?_
          refine Zb 203 (.int .i64 (((a + q) : Nat) : Int)) ?_
          refine Zb 204 (.func (.func 55) #[] #[]) ?_
          refine W.op (O.call 205 94 #[.slice s.a s.n s.c, .int .i64 ↑a, .int .i64 (((a + s0) : Nat) : Int), .int .i64 (((a + q) : Nat) : Int), .func (.func 55) #[] #[]] (by kernel_rfl) rfl (by kernel_rfl) ((hrec pre A1 B1 (A2 ++ B2 ++ post) a (a + s0) (a + q) w5 g5 (by have h := h3; rw [show pre ++ A1 ++ B1 ++ A2 ++ B2 ++ post = pre ++ A1 ++ B1 ++ (A2 ++ B2 ++ post) from by simp only [List.append_assoc]] at h; exact h) (by omega) (by first | omega | (simp only [List.length_append, mrg_length]; omega)) (by first | omega | (simp only [List.length_append, mrg_length]; omega)) (by first | omega | (simp only [List.length_append, mrg_length]; omega)) (by first | omega | (simp only [List.length_append, mrg_length]; omega)) (by first | omega | (simp only [List.length_append, mrg_length]; omega)) sA1 sB1 (by first | omega | (simp only [List.length_append, mrg_length]; omega)) (by first | omega | (simp only [List.length_append, mrg_length]; omega))).mono ?_))
          rintro e3 w6 ⟨g6, rfl, M7, hq2⟩
          have K7 := K6.step M7 (fun _ h => h) (neq (by omega))
          have n7 := hq2.len
          refine ⟨_, rfl, ?_⟩
          refine wpList_nil ?_
          exact ⟨_, (((((look_eq (t := 0) (v := .slice s.a s.n s.c) rfl).trans (look_eq (t := 3) (v := .int .i64 ↑b) rfl)).trans (look_eq (t := 4) (v := .func (.func 55) #[] #[]) rfl)).trans (look_eq (t := 18) (v := .int .i64 (((a + q) : Nat) : Int)) rfl)).trans (look_eq (t := 24) (v := .int .i64 (((m + (q - s0)) : Nat) : Int)) rfl)), ⟨_, _, rfl, K7, ((Mv.refl _ _ _).trans (M7.mono (eq_rg (by omega)))), (by have h := hq2; rw [show pre ++ mrg ltItem A1 B1 ++ (A2 ++ B2 ++ post) = pre ++ mrg ltItem A1 B1 ++ A2 ++ B2 ++ post from by simp only [List.append_assoc]] at h; exact h)⟩⟩
         ·refine W.op (O.gv 198 (.bool false) (by kernel_rfl) rfl (okv (by kernel_rfl) (congrArg Value.bool (decide_eq_false t9))) ?_)
          refine Zb 199 (.bool false) ?_
          refine wpList_nil (hk19 _ _ (W.cond false rfl (wp_skip ?_)))
          exact ⟨_, (((((look_eq (t := 0) (v := .slice s.a s.n s.c) rfl).trans (look_eq (t := 3) (v := .int .i64 ↑b) rfl)).trans (look_eq (t := 4) (v := .func (.func 55) #[] #[]) rfl)).trans (look_eq (t := 18) (v := .int .i64 (((a + q) : Nat) : Int)) rfl)).trans (look_eq (t := 24) (v := .int .i64 (((m + (q - s0)) : Nat) : Int)) rfl)), ⟨_, _, rfl, K6, (Mv.refl _ _ _), (by have h := h3; rw [show pre ++ A1 ++ B1 ++ A2 ++ B2 ++ post = pre ++ mrg ltItem A1 B1 ++ A2 ++ B2 ++ post from (by rcases (show A1.length = 0 ∨ B1.length = 0 by omega) with h9 | h9 <;> (rw [List.eq_nil_of_length_eq_zero h9]; simp [mrg_nil, nil_mrg]))] at h; exact h)⟩⟩
        ·refine Zc 194 (.bool false) (okv (by kernel_rfl) (congrArg Value.bool (decide_eq_false t8))) ?_
         refine Zb 195 (.bool false) ?_
         refine Za 196 ?_
         refine Za 197 ?_
         refine Za 198 ?_
         refine Zb 199 (.bool false) ?_
         refine wpList_nil (hk19 _ _ (W.cond false rfl (wp_skip ?_)))
         exact ⟨_, (((((look_eq (t := 0) (v := .slice s.a s.n s.c) rfl).trans (look_eq (t := 3) (v := .int .i64 ↑b) rfl)).trans (look_eq (t := 4) (v := .func (.func 55) #[] #[]) rfl)).trans (look_eq (t := 18) (v := .int .i64 (((a + q) : Nat) : Int)) rfl)).trans (look_eq (t := 24) (v := .int .i64 (((m + (q - s0)) : Nat) : Int)) rfl)), ⟨_, _, rfl, K6, (Mv.refl _ _ _), (by have h := h3; rw [show pre ++ A1 ++ B1 ++ A2 ++ B2 ++ post = pre ++ mrg ltItem A1 B1 ++ A2 ++ B2 ++ post from (by rcases (show A1.length = 0 ∨ B1.length = 0 by omega) with h9 | h9 <;> (rw [List.eq_nil_of_length_eq_zero h9]; simp [mrg_nil, nil_mrg]))] at h; exact h)⟩⟩
       ·rintro _ w7 ⟨g7, r4, rfl, K8, M8, h4⟩
        have n8 := h4.len
        refine wp_seq_k fun k20 hk20 => (wp_region_lit ?_)
        refine Zb 206 (.int .i64 (((a + q) : Nat) : Int)) ?_
        refine Zb 207 (.int .i64 (((m + (q - s0)) : Nat) : Int)) ?_
        by_cases t10 : (((a + q) : Nat) : Int) < (((m + (q - s0)) : Nat) : Int)
        ·refine Zc 208 (.bool true) (okv (by kernel_rfl) (congrArg Value.bool (decide_eq_true t10))) ?_
         refine Zb 209 (.bool true) ?_
         refine Zd 210 (.int .i64 (((m + (q - s0)) : Nat) : Int)) ?_
         refine Zd 211 (.int .i64 ↑b) ?_
         by_cases t11 : (((m + (q - s0)) : Nat) : Int) < ((b : Nat) : Int)
         ·refine W.op (O.gv 212 (.bool true) (by kernel_rfl) rfl (okv (by kernel_rfl) (congrArg Value.bool (decide_eq_true t11))) ?_)
          refine Zb 213 (.bool true) ?_
          refine wpList_nil (hk20 _ _ (W.cond true rfl (wp_region_lit ?_)))
          refine Zb 214 (.slice s.a s.n s.c) ?_
          refine Zb 215 (.int .i64 (((a + q) : Nat) : Int)) ?_
          refine Zb 216 (.int .i64 (((m + (q - s0)) : Nat) : Int)) ?_
          refine Zb 217 (.int .i64 ↑b) ?_
          refine Zb 218 (.func (.func 55) #[] #[]) ?_
          refine W.op (O.call 219 94 #[.slice s.a s.n s.c, .int .i64 (((a + q) : Nat) : Int), .int .i64 (((m + (q - s0)) : Nat) : Int), .int .i64 ↑b, .func (.func 55) #[] #[]] (by kernel_rfl) rfl (by kernel_rfl) ((hrec (pre ++ mrg ltItem A1 B1) A2 B2 post (a + q) (m + (q - s0)) b w7 g7 (by have h := h4; rw [show pre ++ mrg ltItem A1 B1 ++ A2 ++ B2 ++ post = (pre ++ mrg ltItem A1 B1) ++ A2 ++ B2 ++ post from by simp only [List.append_assoc]] at h; exact h) (by omega) (by first | omega | (simp only [List.length_append, mrg_length]; omega)) (by first | omega | (simp only [List.length_append, mrg_length]; omega)) (by first | omega | (simp only [List.length_append, mrg_length]; omega)) (by first | omega | (simp only [List.length_append, mrg_length]; omega)) (by first | omega | (simp only [List.length_append, mrg_length]; omega)) sA2 sB2 (by first | omega | (simp only [List.length_append, mrg_length]; omega)) (by first | omega | (simp only [List.length_append, mrg_length]; omega))).mono ?_))
          rintro e4 w8 ⟨g8, rfl, M9, hq3⟩
          have K9 := K8.step M9 (fun _ h => h) (neq (by omega))
          have n9 := hq3.len
          refine ⟨_, rfl, ?_⟩
          refine wpList_nil ?_
          refine W.end0 rfl ?_
          have hG9 := hq3
          rw [show (pre ++ mrg ltItem A1 B1) ++ mrg ltItem A2 B2 ++ post = pre ++ mrg ltItem A B ++ post from by rw [key]; simp only [List.append_assoc]] at hG9
          exact ⟨_, rfl, K9.mv, hG9⟩
         ·refine W.op (O.gv 212 (.bool false) (by kernel_rfl) rfl (okv (by kernel_rfl) (congrArg Value.bool (decide_eq_false t11))) ?_)
          refine Zb 213 (.bool false) ?_
          refine wpList_nil (hk20 _ _ (W.cond false rfl (wp_skip ?_)))
          refine W.end0 rfl ?_
          have hG9 := h4
          rw [show pre ++ mrg ltItem A1 B1 ++ A2 ++ B2 ++ post = pre ++ mrg ltItem A B ++ post from by rw [key]; rcases (show A2.length = 0 ∨ B2.length = 0 by omega) with h9 | h9 <;> (rw [List.eq_nil_of_length_eq_zero h9]; simp [mrg_nil, nil_mrg])] at hG9
          exact ⟨_, rfl, K8.mv, hG9⟩
        ·refine Zc 208 (.bool false) (okv (by kernel_rfl) (congrArg Value.bool (decide_eq_false t10))) ?_
         refine Zb 209 (.bool false) ?_
         refine Za 210 ?_
         refine Za 211 ?_
         refine Za 212 ?_
         refine Zb 213 (.bool false) ?_
         refine wpList_nil (hk20 _ _ (W.cond false rfl (wp_skip ?_)))
         refine W.end0 rfl ?_
         have hG9 := h4
         rw [show pre ++ mrg ltItem A1 B1 ++ A2 ++ B2 ++ post = pre ++ mrg ltItem A B ++ post from by rw [key]; rcases (show A2.length = 0 ∨ B2.length = 0 by omega) with h9 | h9 <;> (rw [List.eq_nil_of_length_eq_zero h9]; simp [mrg_nil, nil_mrg])] at hG9
         exact ⟨_, rfl, K8.mv, hG9⟩

theorem symItem_c (s : Sli) (pre : List Item) (A : List Item) (B : List Item) (post : List Item) (t : Nat) (a : Nat) (m : Nat) (b : Nat) (w : World) (γ : Tg) (hG : Gs t 50 7 Item.cells w γ s (pre ++ A ++ B ++ post)) (ht : 2 ≤ t) (ha : a = pre.length) (hm : m = pre.length + A.length) (hb : b = pre.length + A.length + B.length) (hA0 : 0 < A.length) (hB0 : 0 < B.length) (hsA : Srt ltItem A) (hsB : Srt ltItem B) (hl : pre.length + A.length + B.length + post.length ≤ 100000) :
    Calls Try.prog 94 #[.slice s.a s.n s.c, .int .i64 ((a : Nat) : Int), .int .i64 ((m : Nat) : Int), .int .i64 ((b : Nat) : Int), .func (.func 55) #[] #[]] w fun ε w' => ∃ γ', ε = .returned (.tuple #[]) ∧ Mv (fun ξ => ξ = t) w γ w' γ' ∧ Gs t 50 7 Item.cells w' γ' s (pre ++ mrg ltItem A B ++ post) := by
  obtain ⟨n, hn⟩ : ∃ n, n = A.length + B.length := ⟨_, rfl⟩
  induction n using Nat.strongRecOn generalizing pre A B post a m b w γ with
  | _ n ih =>
    by_cases h1 : A.length = 1
    · obtain ⟨x, rfl⟩ := List.length_eq_one_iff.1 h1
      exact symLItem s pre x B post t a m b w γ hG ht ha hm hb hA0 hB0 hsA hsB hl
    · by_cases h2 : B.length = 1
      · obtain ⟨y, rfl⟩ := List.length_eq_one_iff.1 h2
        exact symRItem s pre A y post t a m b w γ hG ht ha hm hb hA0 hB0 hsA hsB hl (by omega)
      · exact symMItem s pre A B post t a m b w γ hG ht ha hm hb hA0 hB0 hsA hsB hl (by omega) (by omega) (fun pre' A' B' post' a' m' b' w' γ' k1 k2 k3 k4 k5 k6 k7 k8 k9 k10  hlt => ih (A'.length + B'.length) (by omega) pre' A' B' post' a' m' b' w' γ' k1 k3 k4 k5 k6 k7 k8 k9 k10  rfl)

set_option maxRecDepth 100000 in
set_option maxHeartbeats 1000000 in
theorem symLRtd (s : Sli) (pre : List Rtd) (x : Rtd) (B : List Rtd) (post : List Rtd) (t : Nat) (a : Nat) (m : Nat) (b : Nat) (w : World) (γ : Tg) (hG : Gs t 146 3 Rtd.cells w γ s (pre ++ [x] ++ B ++ post)) (ht : 2 ≤ t) (ha : a = pre.length) (hm : m = pre.length + [x].length) (hb : b = pre.length + [x].length + B.length) (hA0 : 0 < [x].length) (hB0 : 0 < B.length) (hsA : Srt ltRtd [x]) (hsB : Srt ltRtd B) (hl : pre.length + [x].length + B.length + post.length ≤ 100000) :
    Calls Try.prog 101 #[.slice s.a s.n s.c, .int .i64 ((a : Nat) : Int), .int .i64 ((m : Nat) : Int), .int .i64 ((b : Nat) : Int), .func (.func 69) #[] #[]] w fun ε w' => ∃ (γ' : Tg), ε = .returned (.tuple #[]) ∧ Mv (fun ξ => ξ = t) w γ w' γ' ∧ Gs t 146 3 Rtd.cells w' γ' s (pre ++ mrg ltRtd [x] B ++ post) := by
 have hm' : m = pre.length + 1 := hm
 have hb' : b = pre.length + 1 + B.length := hb
 have hl' : pre.length + 1 + B.length + post.length ≤ 100000 := hl
 have K0 := Kn.start (fun ξ => ξ = t) w γ
 refine W.enter (ws := [(4, .func (.func 69) #[] #[]), (3, .int .i64 ↑b), (2, .int .i64 ↑m), (1, .int .i64 ↑a), (0, .slice s.a s.n s.c)]) 220 Try.func101 rfl (by kernel_rfl) ?_
 have n1 := hG.len
 refine wp_seq_k fun k1 hk1 => (wp_seq_k fun k2 hk2 => (wp_region_lit ?_))
 refine Zb 25 (.int .i64 ↑m) ?_
 refine Zb 26 (.int .i64 ↑a) ?_
 refine Zc 27 (.int .i64 (((m : Nat) : Int) - ((a : Nat) : Int))) (okv (v := .int .i64 (IntKind.i64.wrap (((m : Nat) : Int) - ((a : Nat) : Int)))) (by kernel_rfl) (wrapi (by omega) (by omega))) ?_
 by_cases t1 : (((m : Nat) : Int) - ((a : Nat) : Int)) = 1
 ·refine Zc 28 (.bool true) (okv (by kernel_rfl) (congrArg Value.bool (beq_iff_eq.2 t1))) ?_
  refine wpList_nil (hk2 _ _ (W.cond true rfl (wp_seq_k fun k3 hk3 => (wp_region_lit ?_))))
  refine Zb 29 (.int .i64 ↑m) ?_
  refine Zb 10 (.int .i64 ↑m) ?_
  refine wpList_nil (hk3 _ _ (wp_seq_k fun k4 hk4 => (wp_region_lit ?_)))
  refine Zb 30 (.int .i64 ↑b) ?_
  refine Zb 11 (.int .i64 ↑b) ?_
  refine wpList_nil (hk4 _ _ (wp_seq_k fun k5 hk5 => (wp_block ?_)))
  refine W.loop (fun (μ0 : Nat) (ws : List (Nat × Value)) (w' : World) => ∃ (i0 : Nat) (j0 : Nat) (γ' : Tg) (ρ0 : List (Nat × Value)), μ0 = j0 - i0 ∧ ws = ((11, .int .i64 (((m + j0) : Nat) : Int)) :: (10, .int .i64 (((m + i0) : Nat) : Int)) :: (4, .func (.func 69) #[] #[]) :: (1, .int .i64 ↑a) :: (0, .slice s.a s.n s.c) :: ρ0) ∧ Kn (fun ξ => ξ = t) w γ [] w' γ' ∧ Mv (Rg 1 (t + 1)) w γ w' γ' ∧ (i0 ≤ j0) ∧ (j0 ≤ B.length) ∧ (∀ z ∈ B.take i0, ltRtd z x = true) ∧ (∀ z ∈ B.drop j0, ltRtd z x = false) ∧ Gs t 146 3 Rtd.cells w' γ' s (pre ++ [x] ++ B ++ post)) (B.length - 0) (((((look_eq (t := 0) (v := .slice s.a s.n s.c) rfl).trans (look_eq (t := 1) (v := .int .i64 ↑a) rfl)).trans (look_eq (t := 4) (v := .func (.func 69) #[] #[]) rfl)).trans (look_eq (t := 10) (v := .int .i64 (((m + 0) : Nat) : Int)) rfl)).trans (look_eq (t := 11) (v := .int .i64 (((m + B.length) : Nat) : Int)) (nat_v (by omega)))) ?_ ?_
  ·exact ⟨0, B.length, _, _, rfl, rfl, K0, Mv.refl _ _ _, by omega, by omega, by simp, by simp, hG⟩
  ·rintro _ _ w1 ⟨i0, j0, g1, r1, rfl, rfl, K1, M1, p1, p2, p3, p4, h1⟩
   have n2 := h1.len
   refine wp_seq_k fun k6 hk6 => (wp_seq_k fun k7 hk7 => (wp_region_lit ?_))
   refine Zb 31 (.int .i64 (((m + i0) : Nat) : Int)) ?_
   refine Zb 32 (.int .i64 (((m + j0) : Nat) : Int)) ?_
   by_cases t2 : (((m + i0) : Nat) : Int) < (((m + j0) : Nat) : Int)
   ·refine Zc 33 (.bool true) (okv (by kernel_rfl) (congrArg Value.bool (decide_eq_true t2))) ?_
    refine wpList_nil (hk7 _ _ (W.cond true rfl (wp_skip (hk6 _ _ (wp_block (wp_seq_k fun k8 hk8 => ?_))))))
    refine wp_region_lit ?_
    refine Zb 34 (.int .i64 (((m + i0) : Nat) : Int)) ?_
    refine Zb 35 (.int .i64 (((m + j0) : Nat) : Int)) ?_
    refine Zc 36 (.int .i64 (((m + i0) + (m + j0) : Nat) : Int)) (okv (v := .int .i64 (IntKind.i64.wrap ((((m + i0) : Nat) : Int) + (((m + j0) : Nat) : Int)))) (by kernel_rfl) (wrapn (by omega) (by omega))) ?_
    refine Zc 37 (.int .u64 ((m + i0 + (m + j0) : Nat) : Int)) (okv (by kernel_rfl) (up64_v (by omega))) ?_
    refine Zc 38 (.int .u64 (((m + i0 + (m + j0)) / 2 : Nat) : Int)) (okv (by kernel_rfl) (shr1_v)) ?_
    refine Zc 39 (.int .i64 (((m + (i0 + j0) / 2) : Nat) : Int)) (okv (by kernel_rfl) ((to_i64 (a := (m + i0 + (m + j0)) / 2) (by omega)).trans (nat_v (a := (m + i0 + (m + j0)) / 2) (b := m + (i0 + j0) / 2) (by omega)))) ?_
    refine Zb 12 (.int .i64 (((m + (i0 + j0) / 2) : Nat) : Int)) ?_
    refine wpList_nil (hk8 _ _ (wp_seq_k fun k9 hk9 => (wp_region_G (SmL [(4, Nt), (8, Nt)] w1 g1) (by kernel_rfl) ?_)))
    have K2 := K1.drew
    have M2 : Mv Nt w1 g1 w1.drew g1 := (Mv.refl _ _ _).drew
    refine Yb 0 40 (.func (.func 69) #[] #[]) rfl (fun u => by kernel_rfl) ?_
    refine Yb 1 41 (.slice s.a s.n s.c) rfl (fun u => by kernel_rfl) ?_
    refine Yb 2 42 (.int .i64 (((m + (i0 + j0) / 2) : Nat) : Int)) rfl (fun u => by kernel_rfl) ?_
    obtain ⟨z, hz⟩ := get_some (xs := B) (i := (i0 + j0) / 2) (by omega)
    obtain ⟨b1, ha1, hib1, hr1⟩ := h1.elt (get_mid (i := (m + (i0 + j0) / 2)) (A := pre ++ [x]) (B := B) (C := post) rfl hz (by simp only [List.length_append, List.length_cons, List.length_nil]; omega))
    refine Yb 3 43 (.pointer (some ⟨b1, 0 + (m + (i0 + j0) / 2) * 3, none⟩)) rfl (fun u => (exec_index (E := 146) (k := (m + (i0 + j0) / 2)) rfl (by kernel_rfl) (by kernel_rfl) rfl ha1 rfl hib1)) ?_
    refine G.take 4 44 (.agg z.cells.toArray) rfl (by kernel_rfl) rfl (fun _ _ _ h => h) ((Mv.refl _ _ _).trans (M2.mono (fun _ h => h))).self (by kernel_rfl) (fun u hm => exec_loads (cs := z.cells) rfl rfl Ty146 rfl (hr1.mv hm quiet).2.2) ?_
    refine Yb 5 45 (.slice s.a s.n s.c) rfl (fun u => by kernel_rfl) ?_
    refine Yb 6 46 (.int .i64 ↑a) rfl (fun u => by kernel_rfl) ?_
    obtain ⟨b2, ha2, hib2, hr2⟩ := h1.elt (get_at (i := a) (x := x) (A := pre) (B := B ++ post) (by simp) ha)
    refine Yb 7 47 (.pointer (some ⟨b2, 0 + a * 3, none⟩)) rfl (fun u => (exec_index (E := 146) (k := a) rfl (by kernel_rfl) (by kernel_rfl) rfl ha2 rfl hib2)) ?_
    refine G.take 8 48 (.agg x.cells.toArray) rfl (by kernel_rfl) rfl (fun _ _ _ h => h) ((Mv.refl _ _ _).trans (M2.mono (fun _ h => h))).self (by kernel_rfl) (fun u hm => exec_loads (cs := x.cells) rfl rfl Ty146 rfl (hr2.mv hm quiet).2.2) ?_
    refine G.op 9 (by kernel_rfl) rfl (O.call 49 69 #[.agg z.cells.toArray, .agg x.cells.toArray] (by kernel_rfl) rfl (by kernel_rfl) ((told_c z x w1.drew g1).mono ?_))
    rintro e1 w2 ⟨g2, rfl, M3⟩
    have K3 := K2.step M3 nt_le quiet
    refine ⟨_, rfl, ⟨kp_nt ((Mv.refl _ _ _).trans M3) _, ?_⟩⟩
    by_cases t3 : (cmpI z.got x.got) < 0
    ·refine Yb 10 50 (.bool true) rfl (fun u => okv ((fun u => by kernel_rfl) u) (congrArg Value.bool (decide_eq_true t3))) ?_
     refine G.fin (by kernel_rfl) ?_
     refine hk9 _ _ (W.cond true rfl (wp_region_lit ?_))
     refine Zb 51 (.int .i64 (((m + (i0 + j0) / 2) : Nat) : Int)) ?_
     refine Zc 52 (.int .i64 (((m + (i0 + j0) / 2) + 1 : Nat) : Int)) (okv (v := .int .i64 (IntKind.i64.wrap ((((m + (i0 + j0) / 2) : Nat) : Int) + 1))) (by kernel_rfl) (wrapn (by omega) (by omega))) ?_
     refine Zb 10 (.int .i64 (((m + (i0 + j0) / 2) + 1 : Nat) : Int)) ?_
     refine wpList_nil (block_normal ?_)
     have hhG_1 := h1.mv M2 quiet
     have hhG_2 := hhG_1.mv M3 quiet
     exact ⟨j0 - ((i0 + j0) / 2 + 1), _, by omega, (((((look_eq (t := 0) (v := .slice s.a s.n s.c) rfl).trans (look_eq (t := 1) (v := .int .i64 ↑a) rfl)).trans (look_eq (t := 4) (v := .func (.func 69) #[] #[]) rfl)).trans (look_eq (t := 10) (v := .int .i64 (((m + ((i0 + j0) / 2 + 1)) : Nat) : Int)) rfl)).trans (look_eq (t := 11) (v := .int .i64 (((m + j0) : Nat) : Int)) rfl)), ⟨((i0 + j0) / 2 + 1), j0, _, _, rfl, rfl, K3, ((M1.trans (M2.mono nt_le)).trans (M3.mono nt_le)), by omega, p2, srch_up Lin.rtd hsB hz (decide_eq_true t3), p4, hhG_2⟩⟩
    ·refine Yb 10 50 (.bool false) rfl (fun u => okv ((fun u => by kernel_rfl) u) (congrArg Value.bool (decide_eq_false t3))) ?_
     refine G.fin (by kernel_rfl) ?_
     refine hk9 _ _ (W.cond false rfl (wp_region_lit ?_))
     refine Zb 53 (.int .i64 (((m + (i0 + j0) / 2) : Nat) : Int)) ?_
     refine Zb 11 (.int .i64 (((m + (i0 + j0) / 2) : Nat) : Int)) ?_
     refine wpList_nil (block_normal ?_)
     have hhG_3 := h1.mv M2 quiet
     have hhG_4 := hhG_3.mv M3 quiet
     exact ⟨((i0 + j0) / 2) - i0, _, by omega, (((((look_eq (t := 0) (v := .slice s.a s.n s.c) rfl).trans (look_eq (t := 1) (v := .int .i64 ↑a) rfl)).trans (look_eq (t := 4) (v := .func (.func 69) #[] #[]) rfl)).trans (look_eq (t := 10) (v := .int .i64 (((m + i0) : Nat) : Int)) rfl)).trans (look_eq (t := 11) (v := .int .i64 (((m + ((i0 + j0) / 2)) : Nat) : Int)) rfl)), ⟨i0, ((i0 + j0) / 2), _, _, rfl, rfl, K3, ((M1.trans (M2.mono nt_le)).trans (M3.mono nt_le)), by omega, by omega, p3, srch_dn Lin.rtd hsB hz (decide_eq_false t3), hhG_4⟩⟩
   ·refine Zc 33 (.bool false) (okv (by kernel_rfl) (congrArg Value.bool (decide_eq_false t2))) ?_
    refine wpList_nil (hk7 _ _ (W.cond false rfl (wp_exit (then_exit ?_))))
    have hij : i0 = j0 := by omega
    refine then_exit (block_exit (hk5 _ _ (wp_seq_k fun k10 hk10 => (wp_seq_k fun k11 hk11 => (wp_region_lit ?_)))))
    refine Zb 54 (.int .i64 ↑a) ?_
    refine Zb 13 (.int .i64 ↑a) ?_
    refine wpList_nil (hk11 _ _ (wp_block ?_))
    refine W.loop (fun (μ0 : Nat) (ws : List (Nat × Value)) (w' : World) => ∃ (k : Nat) (U : List Rtd) (V : List Rtd) (γ' : Tg) (ρ0 : List (Nat × Value)), μ0 = a + i0 - k ∧ ws = ((13, .int .i64 ↑k) :: (10, .int .i64 (((m + i0) : Nat) : Int)) :: (0, .slice s.a s.n s.c) :: ρ0) ∧ Kn (fun ξ => ξ = t) w γ [] w' γ' ∧ Mv (Rg 1 (t + 1)) w1 g1 w' γ' ∧ (B.take i0 = U ++ V) ∧ (k = a + U.length) ∧ Gs t 146 3 Rtd.cells w' γ' s (pre ++ U ++ x :: V ++ (B.drop i0 ++ post))) (a + i0 - a) (((look_eq (t := 0) (v := .slice s.a s.n s.c) rfl).trans (look_eq (t := 10) (v := .int .i64 (((m + i0) : Nat) : Int)) rfl)).trans (look_eq (t := 13) (v := .int .i64 ↑a) rfl)) ?_ ?_
    ·exact ⟨a, [], (B.take i0), _, _, rfl, rfl, K1, Mv.refl _ _ _, by simp, rfl, (by have h := h1; rw [show pre ++ [x] ++ B ++ post = pre ++ [] ++ x :: B.take i0 ++ (B.drop i0 ++ post) from by rw [show x :: B.take i0 = [x] ++ B.take i0 from rfl]; simp only [List.append_assoc, List.nil_append]; rw [← List.append_assoc (B.take i0), List.take_append_drop]] at h; exact h)⟩
    ·rintro _ _ w3 ⟨k, U, V, g3, r2, rfl, rfl, K4, M4, p5, p6, h2⟩
     have n3 := h2.len
     refine wp_seq_k fun k12 hk12 => (wp_seq_k fun k13 hk13 => (wp_region_lit ?_))
     refine Zb 55 (.int .i64 ↑k) ?_
     refine Zb 56 (.int .i64 (((m + i0) : Nat) : Int)) ?_
     refine Zc 57 (.int .i64 (((m + i0) - 1 : Nat) : Int)) (okv (v := .int .i64 (IntKind.i64.wrap ((((m + i0) : Nat) : Int) - 1))) (by kernel_rfl) (wrapn (by omega) (by omega))) ?_
     by_cases t4 : ((k : Nat) : Int) < (((m + i0) - 1 : Nat) : Int)
     ·refine Zc 58 (.bool true) (okv (by kernel_rfl) (congrArg Value.bool (decide_eq_true t4))) ?_
      refine wpList_nil (hk13 _ _ (W.cond true rfl (wp_skip (hk12 _ _ (wp_seq_k fun k14 hk14 => (wp_block ?_))))))
      refine wp_region_G (SmL [(9, Nt), (13, Nt)] w3 g3) (by kernel_rfl) ?_
      have K5 := K4.drew
      have M5 : Mv Nt w3 g3 w3.drew g3 := (Mv.refl _ _ _).drew
      refine Yb 0 61 (.slice s.a s.n s.c) rfl (fun u => by kernel_rfl) ?_
      refine Yb 1 62 (.int .i64 ↑k) rfl (fun u => by kernel_rfl) ?_
      refine Yb 2 63 (.slice s.a s.n s.c) rfl (fun u => by kernel_rfl) ?_
      refine Yb 3 64 (.int .i64 ↑k) rfl (fun u => by kernel_rfl) ?_
      refine Yb 4 65 (.int .i64 ((k + 1 : Nat) : Int)) rfl (fun u => okv (v := .int .i64 (IntKind.i64.wrap (((k : Nat) : Int) + 1))) ((fun u => by kernel_rfl) u) (wrapn (by omega) (by omega))) ?_
      refine Yb 5 66 (.slice s.a s.n s.c) rfl (fun u => by kernel_rfl) ?_
      refine Yb 6 67 (.int .i64 ↑k) rfl (fun u => by kernel_rfl) ?_
      refine Yb 7 68 (.int .i64 ((k + 1 : Nat) : Int)) rfl (fun u => okv (v := .int .i64 (IntKind.i64.wrap (((k : Nat) : Int) + 1))) ((fun u => by kernel_rfl) u) (wrapn (by omega) (by omega))) ?_
      have hlV : 0 < V.length := by have h1 := congrArg List.length p5; simp only [List.length_append, List.length_take] at h1; omega
      obtain ⟨y, V2, hV2⟩ := cons_of hlV
      have sw := swap_at (l := pre ++ U ++ x :: V ++ (B.drop i0 ++ post)) (x := x) (y := y) (A := pre ++ U) (M := []) (C := V2 ++ (B.drop i0 ++ post)) (i := k) (j := k + 1) (by rw [hV2]; simp) (by rw [List.length_append]; omega) (by simp only [List.length_append, List.length_nil]; omega)
      obtain ⟨b3, ha3, hib3, hr3⟩ := h2.elt sw.2.2.2.1
      refine Yb 8 69 (.pointer (some ⟨b3, 0 + (k + 1) * 3, none⟩)) rfl (fun u => (exec_index (E := 146) (k := k + 1) rfl (by kernel_rfl) (by kernel_rfl) rfl ha3 rfl hib3)) ?_
      refine G.take 9 70 (.agg y.cells.toArray) rfl (by kernel_rfl) rfl (fun _ _ _ h => h) ((Mv.refl _ _ _).trans (M5.mono (fun _ h => h))).self (by kernel_rfl) (fun u hm => exec_loads (cs := y.cells) rfl rfl Ty146 rfl (hr3.mv hm quiet).2.2) ?_
      refine Yb 10 71 (.slice s.a s.n s.c) rfl (fun u => by kernel_rfl) ?_
      refine Yb 11 72 (.int .i64 ↑k) rfl (fun u => by kernel_rfl) ?_
      obtain ⟨b4, ha4, hib4, hr4⟩ := h2.elt sw.2.2.1
      refine Yb 12 73 (.pointer (some ⟨b4, 0 + k * 3, none⟩)) rfl (fun u => (exec_index (E := 146) (k := k) rfl (by kernel_rfl) (by kernel_rfl) rfl ha4 rfl hib4)) ?_
      refine G.take 13 74 (.agg x.cells.toArray) rfl (by kernel_rfl) rfl (fun _ _ _ h => h) ((Mv.refl _ _ _).trans (M5.mono (fun _ h => h))).self (by kernel_rfl) (fun u hm => exec_loads (cs := x.cells) rfl rfl Ty146 rfl (hr4.mv hm quiet).2.2) ?_
      obtain ⟨b5, ha5, hib5, hr5⟩ := h2.elt sw.2.2.1
      refine Yb 14 75 (.pointer (some ⟨b5, 0 + k * 3, none⟩)) rfl (fun u => (exec_index (E := 146) (k := k) rfl (by kernel_rfl) (by kernel_rfl) rfl ha5 rfl hib5)) ?_
      have hhG_5 := h2.mv M5 quiet
      refine G.op 15 (by kernel_rfl) rfl (O.gset k y (by kernel_rfl) rfl rfl rfl rfl Ty146 (fun _ => rfl) hhG_5 (by first | omega | (simp only [List.length_set, List.length_append, List.length_cons] at *; omega)) ha5 fun w4 hG1 M6 => ⟨(kp_skip (by kernel_rfl) (kp_skip (by kernel_rfl) kp_nil)), ?_⟩)
      have K6 := K5.step M6 (fun _ h => h) (neq (by omega))
      have n4 := hG1.len
      obtain ⟨b6, ha6, hib6, hr6⟩ := h2.elt sw.2.2.2.1
      refine Yb 16 76 (.pointer (some ⟨b6, 0 + (k + 1) * 3, none⟩)) rfl (fun u => (exec_index (E := 146) (k := k + 1) rfl (by kernel_rfl) (by kernel_rfl) rfl ha6 rfl hib6)) ?_
      refine G.op 17 (by kernel_rfl) rfl (O.gset (k + 1) x (by kernel_rfl) rfl rfl rfl rfl Ty146 (fun _ => rfl) hG1 (by first | omega | (simp only [List.length_set, List.length_append, List.length_cons] at *; omega)) ha6 fun w5 hG2 M7 => ⟨(kp_skip (by kernel_rfl) (kp_skip (by kernel_rfl) kp_nil)), ?_⟩)
      have K7 := K6.step M7 (fun _ h => h) (neq (by omega))
      have n5 := hG2.len
      refine G.fin (by kernel_rfl) ?_
      refine block_normal (hk14 _ _ (wp_region_lit ?_))
      refine Zb 59 (.int .i64 ↑k) ?_
      refine Zc 60 (.int .i64 ((k + 1 : Nat) : Int)) (okv (v := .int .i64 (IntKind.i64.wrap (((k : Nat) : Int) + 1))) (by kernel_rfl) (wrapn (by omega) (by omega))) ?_
      refine Zb 13 (.int .i64 ((k + 1 : Nat) : Int)) ?_
      refine wpList_nil ?_
      exact ⟨a + i0 - (k + 1), _, by omega, (((look_eq (t := 0) (v := .slice s.a s.n s.c) rfl).trans (look_eq (t := 10) (v := .int .i64 (((m + i0) : Nat) : Int)) rfl)).trans (look_eq (t := 13) (v := .int .i64 (((k + 1) : Nat) : Int)) rfl)), ⟨(k + 1), (U ++ [y]), V2, _, _, rfl, rfl, K7, (((M4.trans (M5.mono nt_le)).trans (M6.mono (eq_rg (by omega)))).trans (M7.mono (eq_rg (by omega)))), by rw [p5, hV2]; simp, by rw [List.length_append, p6]; rfl, (by have h := hG2; rw [sw.1] at h; rw [show pre ++ (U ++ [y]) ++ x :: V2 ++ (B.drop i0 ++ post) = (pre ++ U) ++ y :: ([] ++ x :: (V2 ++ (B.drop i0 ++ post))) by simp]; exact h)⟩⟩
     ·refine Zc 58 (.bool false) (okv (by kernel_rfl) (congrArg Value.bool (decide_eq_false t4))) ?_
      refine wpList_nil (hk13 _ _ (W.cond false rfl (wp_exit (then_exit (then_exit (block_exit ?_))))))
      refine hk10 _ _ (wp_ret (then_ret (W.rets (vs := []) rfl .nil (by simp) ?_)))
      have hV9 : V = [] := List.eq_nil_of_length_eq_zero (by have h1 := congrArg List.length p5; simp only [List.length_append, List.length_take] at h1; omega)
      have hM9 := mrg_one_left ltRtd x (B.take i0) (B.drop i0) p3 (by rw [hij]; exact p4)
      rw [List.take_append_drop] at hM9
      have hG9 := h2
      rw [show pre ++ U ++ x :: V ++ (B.drop i0 ++ post) = pre ++ mrg ltRtd [x] B ++ post from by rw [hM9, hV9, p5, hV9]; simp] at hG9
      exact ⟨_, rfl, K4.mv, hG9⟩
 ·exfalso; omega

set_option maxRecDepth 100000 in
set_option maxHeartbeats 1000000 in
theorem symRRtd (s : Sli) (pre : List Rtd) (A : List Rtd) (y : Rtd) (post : List Rtd) (t : Nat) (a : Nat) (m : Nat) (b : Nat) (w : World) (γ : Tg) (hG : Gs t 146 3 Rtd.cells w γ s (pre ++ A ++ [y] ++ post)) (ht : 2 ≤ t) (ha : a = pre.length) (hm : m = pre.length + A.length) (hb : b = pre.length + A.length + [y].length) (hA0 : 0 < A.length) (hB0 : 0 < [y].length) (hsA : Srt ltRtd A) (hsB : Srt ltRtd [y]) (hl : pre.length + A.length + [y].length + post.length ≤ 100000) (h1 : 1 < A.length) :
    Calls Try.prog 101 #[.slice s.a s.n s.c, .int .i64 ((a : Nat) : Int), .int .i64 ((m : Nat) : Int), .int .i64 ((b : Nat) : Int), .func (.func 69) #[] #[]] w fun ε w' => ∃ (γ' : Tg), ε = .returned (.tuple #[]) ∧ Mv (fun ξ => ξ = t) w γ w' γ' ∧ Gs t 146 3 Rtd.cells w' γ' s (pre ++ mrg ltRtd A [y] ++ post) := by
 have hb' : b = pre.length + A.length + 1 := hb
 have hl' : pre.length + A.length + 1 + post.length ≤ 100000 := hl
 have K0 := Kn.start (fun ξ => ξ = t) w γ
 refine W.enter (ws := [(4, .func (.func 69) #[] #[]), (3, .int .i64 ↑b), (2, .int .i64 ↑m), (1, .int .i64 ↑a), (0, .slice s.a s.n s.c)]) 220 Try.func101 rfl (by kernel_rfl) ?_
 have n1 := hG.len
 refine wp_seq_k fun k1 hk1 => (wp_seq_k fun k2 hk2 => (wp_region_lit ?_))
 refine Zb 25 (.int .i64 ↑m) ?_
 refine Zb 26 (.int .i64 ↑a) ?_
 refine Zc 27 (.int .i64 (((m : Nat) : Int) - ((a : Nat) : Int))) (okv (v := .int .i64 (IntKind.i64.wrap (((m : Nat) : Int) - ((a : Nat) : Int)))) (by kernel_rfl) (wrapi (by omega) (by omega))) ?_
 by_cases t1 : (((m : Nat) : Int) - ((a : Nat) : Int)) = 1
 ·exfalso; omega
 ·refine Zc 28 (.bool false) (okv (by kernel_rfl) (congrArg Value.bool (beq_eq_false_iff_ne.2 t1))) ?_
  refine wpList_nil (hk2 _ _ (W.cond false rfl (wp_skip (hk1 _ _ (wp_seq_k fun k3 hk3 => (wp_seq_k fun k4 hk4 => ?_))))))
  refine wp_region_lit ?_
  refine Zb 77 (.int .i64 ↑b) ?_
  refine Zb 78 (.int .i64 ↑m) ?_
  refine Zc 79 (.int .i64 (((b : Nat) : Int) - ((m : Nat) : Int))) (okv (v := .int .i64 (IntKind.i64.wrap (((b : Nat) : Int) - ((m : Nat) : Int)))) (by kernel_rfl) (wrapi (by omega) (by omega))) ?_
  by_cases t2 : (((b : Nat) : Int) - ((m : Nat) : Int)) = 1
  ·refine Zc 80 (.bool true) (okv (by kernel_rfl) (congrArg Value.bool (beq_iff_eq.2 t2))) ?_
   refine wpList_nil (hk4 _ _ (W.cond true rfl (wp_seq_k fun k5 hk5 => (wp_region_lit ?_))))
   refine Zb 81 (.int .i64 ↑a) ?_
   refine Zb 14 (.int .i64 ↑a) ?_
   refine wpList_nil (hk5 _ _ (wp_seq_k fun k6 hk6 => (wp_region_lit ?_)))
   refine Zb 82 (.int .i64 ↑m) ?_
   refine Zb 15 (.int .i64 ↑m) ?_
   refine wpList_nil (hk6 _ _ (wp_seq_k fun k7 hk7 => (wp_block ?_)))
   refine W.loop (fun (μ0 : Nat) (ws : List (Nat × Value)) (w' : World) => ∃ (i0 : Nat) (j0 : Nat) (γ' : Tg) (ρ0 : List (Nat × Value)), μ0 = j0 - i0 ∧ ws = ((15, .int .i64 (((a + j0) : Nat) : Int)) :: (14, .int .i64 (((a + i0) : Nat) : Int)) :: (4, .func (.func 69) #[] #[]) :: (2, .int .i64 ↑m) :: (0, .slice s.a s.n s.c) :: ρ0) ∧ Kn (fun ξ => ξ = t) w γ [] w' γ' ∧ Mv (Rg 1 (t + 1)) w γ w' γ' ∧ (i0 ≤ j0) ∧ (j0 ≤ A.length) ∧ (∀ z ∈ A.take i0, ltRtd y z = false) ∧ (∀ z ∈ A.drop j0, ltRtd y z = true) ∧ Gs t 146 3 Rtd.cells w' γ' s (pre ++ A ++ [y] ++ post)) (A.length - 0) (((((look_eq (t := 0) (v := .slice s.a s.n s.c) rfl).trans (look_eq (t := 2) (v := .int .i64 ↑m) rfl)).trans (look_eq (t := 4) (v := .func (.func 69) #[] #[]) rfl)).trans (look_eq (t := 14) (v := .int .i64 (((a + 0) : Nat) : Int)) rfl)).trans (look_eq (t := 15) (v := .int .i64 (((a + A.length) : Nat) : Int)) (nat_v (by omega)))) ?_ ?_
   ·exact ⟨0, A.length, _, _, rfl, rfl, K0, Mv.refl _ _ _, by omega, by omega, by simp, by simp, hG⟩
   ·rintro _ _ w1 ⟨i0, j0, g1, r1, rfl, rfl, K1, M1, p1, p2, p3, p4, h1⟩
    have n2 := h1.len
    refine wp_seq_k fun k8 hk8 => (wp_seq_k fun k9 hk9 => (wp_region_lit ?_))
    refine Zb 83 (.int .i64 (((a + i0) : Nat) : Int)) ?_
    refine Zb 84 (.int .i64 (((a + j0) : Nat) : Int)) ?_
    by_cases t3 : (((a + i0) : Nat) : Int) < (((a + j0) : Nat) : Int)
    ·refine Zc 85 (.bool true) (okv (by kernel_rfl) (congrArg Value.bool (decide_eq_true t3))) ?_
     refine wpList_nil (hk9 _ _ (W.cond true rfl (wp_skip (hk8 _ _ (wp_block (wp_seq_k fun k10 hk10 => ?_))))))
     refine wp_region_lit ?_
     refine Zb 86 (.int .i64 (((a + i0) : Nat) : Int)) ?_
     refine Zb 87 (.int .i64 (((a + j0) : Nat) : Int)) ?_
     refine Zc 88 (.int .i64 (((a + i0) + (a + j0) : Nat) : Int)) (okv (v := .int .i64 (IntKind.i64.wrap ((((a + i0) : Nat) : Int) + (((a + j0) : Nat) : Int)))) (by kernel_rfl) (wrapn (by omega) (by omega))) ?_
     refine Zc 89 (.int .u64 ((a + i0 + (a + j0) : Nat) : Int)) (okv (by kernel_rfl) (up64_v (by omega))) ?_
     refine Zc 90 (.int .u64 (((a + i0 + (a + j0)) / 2 : Nat) : Int)) (okv (by kernel_rfl) (shr1_v)) ?_
     refine Zc 91 (.int .i64 (((a + (i0 + j0) / 2) : Nat) : Int)) (okv (by kernel_rfl) ((to_i64 (a := (a + i0 + (a + j0)) / 2) (by omega)).trans (nat_v (a := (a + i0 + (a + j0)) / 2) (b := a + (i0 + j0) / 2) (by omega)))) ?_
     refine Zb 16 (.int .i64 (((a + (i0 + j0) / 2) : Nat) : Int)) ?_
     refine wpList_nil (hk10 _ _ (wp_seq_k fun k11 hk11 => (wp_region_G (SmL [(4, Nt), (8, Nt)] w1 g1) (by kernel_rfl) ?_)))
     have K2 := K1.drew
     have M2 : Mv Nt w1 g1 w1.drew g1 := (Mv.refl _ _ _).drew
     refine Yb 0 92 (.func (.func 69) #[] #[]) rfl (fun u => by kernel_rfl) ?_
     refine Yb 1 93 (.slice s.a s.n s.c) rfl (fun u => by kernel_rfl) ?_
     refine Yb 2 94 (.int .i64 ↑m) rfl (fun u => by kernel_rfl) ?_
     obtain ⟨b1, ha1, hib1, hr1⟩ := h1.elt (get_at (i := m) (x := y) (A := pre ++ A) (B := post) (by simp) (by rw [List.length_append]; omega))
     refine Yb 3 95 (.pointer (some ⟨b1, 0 + m * 3, none⟩)) rfl (fun u => (exec_index (E := 146) (k := m) rfl (by kernel_rfl) (by kernel_rfl) rfl ha1 rfl hib1)) ?_
     refine G.take 4 96 (.agg y.cells.toArray) rfl (by kernel_rfl) rfl (fun _ _ _ h => h) ((Mv.refl _ _ _).trans (M2.mono (fun _ h => h))).self (by kernel_rfl) (fun u hm => exec_loads (cs := y.cells) rfl rfl Ty146 rfl (hr1.mv hm quiet).2.2) ?_
     refine Yb 5 97 (.slice s.a s.n s.c) rfl (fun u => by kernel_rfl) ?_
     refine Yb 6 98 (.int .i64 (((a + (i0 + j0) / 2) : Nat) : Int)) rfl (fun u => by kernel_rfl) ?_
     obtain ⟨z, hz⟩ := get_some (xs := A) (i := (i0 + j0) / 2) (by omega)
     obtain ⟨b2, ha2, hib2, hr2⟩ := h1.elt (get_mid (i := (a + (i0 + j0) / 2)) (A := pre) (B := A) (C := [y] ++ post) (by simp) hz (by omega))
     refine Yb 7 99 (.pointer (some ⟨b2, 0 + (a + (i0 + j0) / 2) * 3, none⟩)) rfl (fun u => (exec_index (E := 146) (k := (a + (i0 + j0) / 2)) rfl (by kernel_rfl) (by kernel_rfl) rfl ha2 rfl hib2)) ?_
     refine G.take 8 100 (.agg z.cells.toArray) rfl (by kernel_rfl) rfl (fun _ _ _ h => h) ((Mv.refl _ _ _).trans (M2.mono (fun _ h => h))).self (by kernel_rfl) (fun u hm => exec_loads (cs := z.cells) rfl rfl Ty146 rfl (hr2.mv hm quiet).2.2) ?_
     refine G.op 9 (by kernel_rfl) rfl (O.call 101 69 #[.agg y.cells.toArray, .agg z.cells.toArray] (by kernel_rfl) rfl (by kernel_rfl) ((told_c y z w1.drew g1).mono ?_))
     rintro e1 w2 ⟨g2, rfl, M3⟩
     have K3 := K2.step M3 nt_le quiet
     refine ⟨_, rfl, ⟨kp_nt ((Mv.refl _ _ _).trans M3) _, ?_⟩⟩
     by_cases t4 : (cmpI y.got z.got) < 0
     ·refine Yb 10 102 (.bool true) rfl (fun u => okv ((fun u => by kernel_rfl) u) (congrArg Value.bool (decide_eq_true t4))) ?_
      refine Yb 11 103 (.bool false) rfl (fun u => by kernel_rfl) ?_
      refine G.fin (by kernel_rfl) ?_
      refine hk11 _ _ (W.cond false rfl (wp_region_lit ?_))
      refine Zb 106 (.int .i64 (((a + (i0 + j0) / 2) : Nat) : Int)) ?_
      refine Zb 15 (.int .i64 (((a + (i0 + j0) / 2) : Nat) : Int)) ?_
      refine wpList_nil (block_normal ?_)
      have hhG_1 := h1.mv M2 quiet
      have hhG_2 := hhG_1.mv M3 quiet
      exact ⟨((i0 + j0) / 2) - i0, _, by omega, (((((look_eq (t := 0) (v := .slice s.a s.n s.c) rfl).trans (look_eq (t := 2) (v := .int .i64 ↑m) rfl)).trans (look_eq (t := 4) (v := .func (.func 69) #[] #[]) rfl)).trans (look_eq (t := 14) (v := .int .i64 (((a + i0) : Nat) : Int)) rfl)).trans (look_eq (t := 15) (v := .int .i64 (((a + ((i0 + j0) / 2)) : Nat) : Int)) rfl)), ⟨i0, ((i0 + j0) / 2), _, _, rfl, rfl, K3, ((M1.trans (M2.mono nt_le)).trans (M3.mono nt_le)), by omega, by omega, p3, srch_dn2 Lin.rtd hsA hz (decide_eq_true t4), hhG_2⟩⟩
     ·refine Yb 10 102 (.bool false) rfl (fun u => okv ((fun u => by kernel_rfl) u) (congrArg Value.bool (decide_eq_false t4))) ?_
      refine Yb 11 103 (.bool true) rfl (fun u => by kernel_rfl) ?_
      refine G.fin (by kernel_rfl) ?_
      refine hk11 _ _ (W.cond true rfl (wp_region_lit ?_))
      refine Zb 104 (.int .i64 (((a + (i0 + j0) / 2) : Nat) : Int)) ?_
      refine Zc 105 (.int .i64 (((a + (i0 + j0) / 2) + 1 : Nat) : Int)) (okv (v := .int .i64 (IntKind.i64.wrap ((((a + (i0 + j0) / 2) : Nat) : Int) + 1))) (by kernel_rfl) (wrapn (by omega) (by omega))) ?_
      refine Zb 14 (.int .i64 (((a + (i0 + j0) / 2) + 1 : Nat) : Int)) ?_
      refine wpList_nil (block_normal ?_)
      have hhG_3 := h1.mv M2 quiet
      have hhG_4 := hhG_3.mv M3 quiet
      exact ⟨j0 - ((i0 + j0) / 2 + 1), _, by omega, (((((look_eq (t := 0) (v := .slice s.a s.n s.c) rfl).trans (look_eq (t := 2) (v := .int .i64 ↑m) rfl)).trans (look_eq (t := 4) (v := .func (.func 69) #[] #[]) rfl)).trans (look_eq (t := 14) (v := .int .i64 (((a + ((i0 + j0) / 2 + 1)) : Nat) : Int)) rfl)).trans (look_eq (t := 15) (v := .int .i64 (((a + j0) : Nat) : Int)) rfl)), ⟨((i0 + j0) / 2 + 1), j0, _, _, rfl, rfl, K3, ((M1.trans (M2.mono nt_le)).trans (M3.mono nt_le)), by omega, p2, srch_up2 Lin.rtd hsA hz (decide_eq_false t4), p4, hhG_4⟩⟩
    ·refine Zc 85 (.bool false) (okv (by kernel_rfl) (congrArg Value.bool (decide_eq_false t3))) ?_
     refine wpList_nil (hk9 _ _ (W.cond false rfl (wp_exit (then_exit ?_))))
     have hij : i0 = j0 := by omega
     refine then_exit (block_exit (hk7 _ _ (wp_seq_k fun k12 hk12 => (wp_seq_k fun k13 hk13 => (wp_region_lit ?_)))))
     refine Zb 107 (.int .i64 ↑m) ?_
     refine Zb 17 (.int .i64 ↑m) ?_
     refine wpList_nil (hk13 _ _ (wp_block ?_))
     refine W.loop (fun (μ0 : Nat) (ws : List (Nat × Value)) (w' : World) => ∃ (k : Nat) (U : List Rtd) (V : List Rtd) (γ' : Tg) (ρ0 : List (Nat × Value)), μ0 = k + 1 ∧ ws = ((17, .int .i64 ↑k) :: (14, .int .i64 (((a + i0) : Nat) : Int)) :: (0, .slice s.a s.n s.c) :: ρ0) ∧ Kn (fun ξ => ξ = t) w γ [] w' γ' ∧ Mv (Rg 1 (t + 1)) w1 g1 w' γ' ∧ (A.drop i0 = U ++ V) ∧ (k = a + i0 + U.length) ∧ (k ≤ 100000) ∧ Gs t 146 3 Rtd.cells w' γ' s (pre ++ A.take i0 ++ U ++ y :: V ++ post)) (m + 1) (((look_eq (t := 0) (v := .slice s.a s.n s.c) rfl).trans (look_eq (t := 14) (v := .int .i64 (((a + i0) : Nat) : Int)) rfl)).trans (look_eq (t := 17) (v := .int .i64 ↑m) rfl)) ?_ ?_
     ·exact ⟨m, (A.drop i0), [], _, _, rfl, rfl, K1, Mv.refl _ _ _, by simp, by rw [List.length_drop]; omega, by omega, (by have h := h1; rw [show pre ++ A ++ [y] ++ post = pre ++ A.take i0 ++ A.drop i0 ++ y :: [] ++ post from by rw [List.append_assoc pre (A.take i0) (A.drop i0), List.take_append_drop]] at h; exact h)⟩
     ·rintro _ _ w3 ⟨k, U, V, g3, r2, rfl, rfl, K4, M4, p5, p6, p7, h2⟩
      have n3 := h2.len
      refine wp_seq_k fun k14 hk14 => (wp_seq_k fun k15 hk15 => (wp_region_lit ?_))
      refine Zb 108 (.int .i64 ↑k) ?_
      refine Zb 109 (.int .i64 (((a + i0) : Nat) : Int)) ?_
      by_cases t5 : ((k : Nat) : Int) > (((a + i0) : Nat) : Int)
      ·refine Zc 110 (.bool true) (okv (by kernel_rfl) (congrArg Value.bool (decide_eq_true t5))) ?_
       refine wpList_nil (hk15 _ _ (W.cond true rfl (wp_skip (hk14 _ _ (wp_seq_k fun k16 hk16 => (wp_block ?_))))))
       refine wp_region_G (SmL [(9, Nt), (13, Nt)] w3 g3) (by kernel_rfl) ?_
       have K5 := K4.drew
       have M5 : Mv Nt w3 g3 w3.drew g3 := (Mv.refl _ _ _).drew
       refine Yb 0 113 (.slice s.a s.n s.c) rfl (fun u => by kernel_rfl) ?_
       refine Yb 1 114 (.int .i64 ↑k) rfl (fun u => by kernel_rfl) ?_
       refine Yb 2 115 (.slice s.a s.n s.c) rfl (fun u => by kernel_rfl) ?_
       refine Yb 3 116 (.int .i64 ↑k) rfl (fun u => by kernel_rfl) ?_
       refine Yb 4 117 (.int .i64 ((k - 1 : Nat) : Int)) rfl (fun u => okv (v := .int .i64 (IntKind.i64.wrap (((k : Nat) : Int) - 1))) ((fun u => by kernel_rfl) u) (wrapn (by omega) (by omega))) ?_
       refine Yb 5 118 (.slice s.a s.n s.c) rfl (fun u => by kernel_rfl) ?_
       refine Yb 6 119 (.int .i64 ↑k) rfl (fun u => by kernel_rfl) ?_
       refine Yb 7 120 (.int .i64 ((k - 1 : Nat) : Int)) rfl (fun u => okv (v := .int .i64 (IntKind.i64.wrap (((k : Nat) : Int) - 1))) ((fun u => by kernel_rfl) u) (wrapn (by omega) (by omega))) ?_
       obtain ⟨U2, e9, hU2⟩ := exists_snoc (L := U) (by omega)
       have hlU := congrArg List.length hU2
       rw [List.length_append] at hlU
       simp only [List.length_cons, List.length_nil] at hlU
       have sw := swap_at (l := pre ++ A.take i0 ++ U ++ y :: V ++ post) (x := e9) (y := y) (A := pre ++ A.take i0 ++ U2) (M := []) (C := V ++ post) (i := k - 1) (j := k) (by rw [hU2]; simp) (by simp only [List.length_append, List.length_take]; omega) (by simp only [List.length_append, List.length_take, List.length_nil]; omega)
       obtain ⟨b3, ha3, hib3, hr3⟩ := h2.elt sw.2.2.1
       refine Yb 8 121 (.pointer (some ⟨b3, 0 + (k - 1) * 3, none⟩)) rfl (fun u => (exec_index (E := 146) (k := k - 1) rfl (by kernel_rfl) (by kernel_rfl) rfl ha3 rfl hib3)) ?_
       refine G.take 9 122 (.agg e9.cells.toArray) rfl (by kernel_rfl) rfl (fun _ _ _ h => h) ((Mv.refl _ _ _).trans (M5.mono (fun _ h => h))).self (by kernel_rfl) (fun u hm => exec_loads (cs := e9.cells) rfl rfl Ty146 rfl (hr3.mv hm quiet).2.2) ?_
       refine Yb 10 123 (.slice s.a s.n s.c) rfl (fun u => by kernel_rfl) ?_
       refine Yb 11 124 (.int .i64 ↑k) rfl (fun u => by kernel_rfl) ?_
       obtain ⟨b4, ha4, hib4, hr4⟩ := h2.elt sw.2.2.2.1
       refine Yb 12 125 (.pointer (some ⟨b4, 0 + k * 3, none⟩)) rfl (fun u => (exec_index (E := 146) (k := k) rfl (by kernel_rfl) (by kernel_rfl) rfl ha4 rfl hib4)) ?_
       refine G.take 13 126 (.agg y.cells.toArray) rfl (by kernel_rfl) rfl (fun _ _ _ h => h) ((Mv.refl _ _ _).trans (M5.mono (fun _ h => h))).self (by kernel_rfl) (fun u hm => exec_loads (cs := y.cells) rfl rfl Ty146 rfl (hr4.mv hm quiet).2.2) ?_
       obtain ⟨b5, ha5, hib5, hr5⟩ := h2.elt sw.2.2.2.1
       refine Yb 14 127 (.pointer (some ⟨b5, 0 + k * 3, none⟩)) rfl (fun u => (exec_index (E := 146) (k := k) rfl (by kernel_rfl) (by kernel_rfl) rfl ha5 rfl hib5)) ?_
       have hhG_5 := h2.mv M5 quiet
       refine G.op 15 (by kernel_rfl) rfl (O.gset k e9 (by kernel_rfl) rfl rfl rfl rfl Ty146 (fun _ => rfl) hhG_5 (by first | omega | (simp only [List.length_set, List.length_append, List.length_cons] at *; omega)) ha5 fun w4 hG1 M6 => ⟨(kp_skip (by kernel_rfl) (kp_skip (by kernel_rfl) kp_nil)), ?_⟩)
       have K6 := K5.step M6 (fun _ h => h) (neq (by omega))
       have n4 := hG1.len
       obtain ⟨b6, ha6, hib6, hr6⟩ := h2.elt sw.2.2.1
       refine Yb 16 128 (.pointer (some ⟨b6, 0 + (k - 1) * 3, none⟩)) rfl (fun u => (exec_index (E := 146) (k := k - 1) rfl (by kernel_rfl) (by kernel_rfl) rfl ha6 rfl hib6)) ?_
       refine G.op 17 (by kernel_rfl) rfl (O.gset (k - 1) y (by kernel_rfl) rfl rfl rfl rfl Ty146 (fun _ => rfl) hG1 (by first | omega | (simp only [List.length_set, List.length_append, List.length_cons] at *; omega)) ha6 fun w5 hG2 M7 => ⟨(kp_skip (by kernel_rfl) (kp_skip (by kernel_rfl) kp_nil)), ?_⟩)
       have K7 := K6.step M7 (fun _ h => h) (neq (by omega))
       have n5 := hG2.len
       refine G.fin (by kernel_rfl) ?_
       refine block_normal (hk16 _ _ (wp_region_lit ?_))
       refine Zb 111 (.int .i64 ↑k) ?_
       refine Zc 112 (.int .i64 ((k - 1 : Nat) : Int)) (okv (v := .int .i64 (IntKind.i64.wrap (((k : Nat) : Int) - 1))) (by kernel_rfl) (wrapn (by omega) (by omega))) ?_
       refine Zb 17 (.int .i64 ((k - 1 : Nat) : Int)) ?_
       refine wpList_nil ?_
       exact ⟨(k - 1) + 1, _, by omega, (((look_eq (t := 0) (v := .slice s.a s.n s.c) rfl).trans (look_eq (t := 14) (v := .int .i64 (((a + i0) : Nat) : Int)) rfl)).trans (look_eq (t := 17) (v := .int .i64 (((k - 1) : Nat) : Int)) rfl)), ⟨(k - 1), U2, (e9 :: V), _, _, rfl, rfl, K7, (((M4.trans (M5.mono nt_le)).trans (M6.mono (eq_rg (by omega)))).trans (M7.mono (eq_rg (by omega)))), by rw [p5, hU2]; simp, by omega, by omega, (by have h := hG2; rw [sw.2.1] at h; rw [show pre ++ A.take i0 ++ U2 ++ y :: (e9 :: V) ++ post = (pre ++ A.take i0 ++ U2) ++ y :: ([] ++ e9 :: (V ++ post)) by simp]; exact h)⟩⟩
      ·refine Zc 110 (.bool false) (okv (by kernel_rfl) (congrArg Value.bool (decide_eq_false t5))) ?_
       refine wpList_nil (hk15 _ _ (W.cond false rfl (wp_exit (then_exit (then_exit (block_exit ?_))))))
       refine hk12 _ _ (wp_ret (then_ret (W.rets (vs := []) rfl .nil (by simp) ?_)))
       have hU9 : U = [] := List.eq_nil_of_length_eq_zero (by omega)
       have hM9 := mrg_one_right ltRtd y (A.take i0) (A.drop i0) p3 (by rw [hij]; exact p4)
       rw [List.take_append_drop] at hM9
       have hG9 := h2
       rw [show pre ++ A.take i0 ++ U ++ y :: V ++ post = pre ++ mrg ltRtd A [y] ++ post from by rw [hM9, hU9, p5, hU9]; simp] at hG9
       exact ⟨_, rfl, K4.mv, hG9⟩
  ·exfalso; omega

set_option maxRecDepth 100000 in
set_option maxHeartbeats 1000000 in
theorem symMRtd (s : Sli) (pre : List Rtd) (A : List Rtd) (B : List Rtd) (post : List Rtd) (t : Nat) (a : Nat) (m : Nat) (b : Nat) (w : World) (γ : Tg) (hG : Gs t 146 3 Rtd.cells w γ s (pre ++ A ++ B ++ post)) (ht : 2 ≤ t) (ha : a = pre.length) (hm : m = pre.length + A.length) (hb : b = pre.length + A.length + B.length) (hA0 : 0 < A.length) (hB0 : 0 < B.length) (hsA : Srt ltRtd A) (hsB : Srt ltRtd B) (hl : pre.length + A.length + B.length + post.length ≤ 100000) (h1 : 1 < A.length) (h2 : 1 < B.length) (hrec : ∀ (pre' A' B' post' : List Rtd) (a' m' b' : Nat) (w : World) (γ : Tg), (Gs t 146 3 Rtd.cells w γ s (pre' ++ A' ++ B' ++ post')) → (2 ≤ t) → (a' = pre'.length) → (m' = pre'.length + A'.length) → (b' = pre'.length + A'.length + B'.length) → (0 < A'.length) → (0 < B'.length) → (Srt ltRtd A') → (Srt ltRtd B') → (pre'.length + A'.length + B'.length + post'.length ≤ 100000) → A'.length + B'.length < A.length + B.length → Calls Try.prog 101 #[.slice s.a s.n s.c, .int .i64 ((a' : Nat) : Int), .int .i64 ((m' : Nat) : Int), .int .i64 ((b' : Nat) : Int), .func (.func 69) #[] #[]] w fun ε w' => ∃ γ', ε = .returned (.tuple #[]) ∧ Mv (fun ξ => ξ = t) w γ w' γ' ∧ Gs t 146 3 Rtd.cells w' γ' s (pre' ++ mrg ltRtd A' B' ++ post')) :
    Calls Try.prog 101 #[.slice s.a s.n s.c, .int .i64 ((a : Nat) : Int), .int .i64 ((m : Nat) : Int), .int .i64 ((b : Nat) : Int), .func (.func 69) #[] #[]] w fun ε w' => ∃ (γ' : Tg), ε = .returned (.tuple #[]) ∧ Mv (fun ξ => ξ = t) w γ w' γ' ∧ Gs t 146 3 Rtd.cells w' γ' s (pre ++ mrg ltRtd A B ++ post) := by
 obtain ⟨q, hq⟩ : ∃ q, q = (A.length + B.length) / 2 := ⟨_, rfl⟩
 have K0 := Kn.start (fun ξ => ξ = t) w γ
 refine W.enter (ws := [(4, .func (.func 69) #[] #[]), (3, .int .i64 ↑b), (2, .int .i64 ↑m), (1, .int .i64 ↑a), (0, .slice s.a s.n s.c)]) 220 Try.func101 rfl (by kernel_rfl) ?_
 have n1 := hG.len
 refine wp_seq_k fun k1 hk1 => (wp_seq_k fun k2 hk2 => (wp_region_lit ?_))
 refine Zb 25 (.int .i64 ↑m) ?_
 refine Zb 26 (.int .i64 ↑a) ?_
 refine Zc 27 (.int .i64 (((m : Nat) : Int) - ((a : Nat) : Int))) (okv (v := .int .i64 (IntKind.i64.wrap (((m : Nat) : Int) - ((a : Nat) : Int)))) (by kernel_rfl) (wrapi (by omega) (by omega))) ?_
 by_cases t1 : (((m : Nat) : Int) - ((a : Nat) : Int)) = 1
 ·exfalso; omega
 ·refine Zc 28 (.bool false) (okv (by kernel_rfl) (congrArg Value.bool (beq_eq_false_iff_ne.2 t1))) ?_
  refine wpList_nil (hk2 _ _ (W.cond false rfl (wp_skip (hk1 _ _ (wp_seq_k fun k3 hk3 => (wp_seq_k fun k4 hk4 => ?_))))))
  refine wp_region_lit ?_
  refine Zb 77 (.int .i64 ↑b) ?_
  refine Zb 78 (.int .i64 ↑m) ?_
  refine Zc 79 (.int .i64 (((b : Nat) : Int) - ((m : Nat) : Int))) (okv (v := .int .i64 (IntKind.i64.wrap (((b : Nat) : Int) - ((m : Nat) : Int)))) (by kernel_rfl) (wrapi (by omega) (by omega))) ?_
  by_cases t2 : (((b : Nat) : Int) - ((m : Nat) : Int)) = 1
  ·exfalso; omega
  ·refine Zc 80 (.bool false) (okv (by kernel_rfl) (congrArg Value.bool (beq_eq_false_iff_ne.2 t2))) ?_
   refine wpList_nil (hk4 _ _ (W.cond false rfl (wp_skip (hk3 _ _ (wp_seq_k fun k5 hk5 => (wp_region_lit ?_))))))
   refine Zb 129 (.int .i64 ↑a) ?_
   refine Zb 130 (.int .i64 ↑b) ?_
   refine Zc 131 (.int .i64 ((a + b : Nat) : Int)) (okv (v := .int .i64 (IntKind.i64.wrap (((a : Nat) : Int) + ((b : Nat) : Int)))) (by kernel_rfl) (wrapn (by omega) (by omega))) ?_
   refine Zc 132 (.int .u64 ((a + b : Nat) : Int)) (okv (by kernel_rfl) (up64_v (by omega))) ?_
   refine Zc 133 (.int .u64 (((a + b) / 2 : Nat) : Int)) (okv (by kernel_rfl) (shr1_v)) ?_
   refine Zc 134 (.int .i64 (((a + q) : Nat) : Int)) (okv (by kernel_rfl) ((to_i64 (a := (a + b) / 2) (by omega)).trans (nat_v (a := (a + b) / 2) (b := a + q) (by omega)))) ?_
   refine Zb 18 (.int .i64 (((a + q) : Nat) : Int)) ?_
   refine wpList_nil (hk5 _ _ (wp_seq_k fun k6 hk6 => (wp_region_lit ?_)))
   refine Zb 135 (.int .i64 (((a + q) : Nat) : Int)) ?_
   refine Zb 136 (.int .i64 ↑m) ?_
   refine Zc 137 (.int .i64 (((a + q) + m : Nat) : Int)) (okv (v := .int .i64 (IntKind.i64.wrap ((((a + q) : Nat) : Int) + ((m : Nat) : Int)))) (by kernel_rfl) (wrapn (by omega) (by omega))) ?_
   refine Zb 19 (.int .i64 (((a + q) + m : Nat) : Int)) ?_
   refine wpList_nil (hk6 _ _ (wp_seq_k fun k7 hk7 => (wp_region_lit ?_)))
   refine Zb 20 (.int .i64 0) ?_
   refine Zb 21 (.int .i64 0) ?_
   refine wpList_nil (hk7 _ _ ?_)
   refine W.join (fun (ws : List (Nat × Value)) (w' : World) => ∃ (S : Nat) (R : Nat) (γ' : Tg) (ρ0 : List (Nat × Value)), ws = ((21, .int .i64 (((a + R) : Nat) : Int)) :: (20, .int .i64 (((a + S) : Nat) : Int)) :: (19, .int .i64 (((a + q) + m : Nat) : Int)) :: (18, .int .i64 (((a + q) : Nat) : Int)) :: (4, .func (.func 69) #[] #[]) :: (3, .int .i64 ↑b) :: (2, .int .i64 ↑m) :: (1, .int .i64 ↑a) :: (0, .slice s.a s.n s.c) :: ρ0) ∧ Kn (fun ξ => ξ = t) w γ [] w' γ' ∧ Mv (Rg 1 (t + 1)) w γ w' γ' ∧ (S = 0 ∨ q = B.length + S) ∧ (R = A.length ∨ R = q) ∧ (S ≤ R) ∧ (R ≤ A.length) ∧ (R ≤ q) ∧ (q ≤ B.length + S) ∧ Gs t 146 3 Rtd.cells w' γ' s (pre ++ A ++ B ++ post)) ?_ ?_
   ·refine wp_seq_k fun k8 hk8 => (wp_region_lit ?_)
    refine Zb 138 (.int .i64 ↑m) ?_
    refine Zb 139 (.int .i64 (((a + q) : Nat) : Int)) ?_
    by_cases t3 : ((m : Nat) : Int) > (((a + q) : Nat) : Int)
    ·refine Zc 140 (.bool true) (okv (by kernel_rfl) (congrArg Value.bool (decide_eq_true t3))) ?_
     refine wpList_nil (hk8 _ _ (W.cond true rfl (wp_seq_k fun k9 hk9 => (wp_region_lit ?_))))
     refine Zb 141 (.int .i64 (((a + q) + m : Nat) : Int)) ?_
     refine Zb 142 (.int .i64 ↑b) ?_
     refine Zc 143 (.int .i64 (((a + (q - B.length)) : Nat) : Int)) (okv (v := .int .i64 (IntKind.i64.wrap ((((a + q) + m : Nat) : Int) - ((b : Nat) : Int)))) (by kernel_rfl) (wrapn (by omega) (by omega))) ?_
     refine Zb 20 (.int .i64 (((a + (q - B.length)) : Nat) : Int)) ?_
     refine wpList_nil (hk9 _ _ (wp_region_lit ?_))
     refine Zb 144 (.int .i64 (((a + q) : Nat) : Int)) ?_
     refine Zb 21 (.int .i64 (((a + q) : Nat) : Int)) ?_
     refine wpList_nil ?_
     exact ⟨_, (((((((((look_eq (t := 0) (v := .slice s.a s.n s.c) rfl).trans (look_eq (t := 1) (v := .int .i64 ↑a) rfl)).trans (look_eq (t := 2) (v := .int .i64 ↑m) rfl)).trans (look_eq (t := 3) (v := .int .i64 ↑b) rfl)).trans (look_eq (t := 4) (v := .func (.func 69) #[] #[]) rfl)).trans (look_eq (t := 18) (v := .int .i64 (((a + q) : Nat) : Int)) rfl)).trans (look_eq (t := 19) (v := .int .i64 (((a + q) + m : Nat) : Int)) rfl)).trans (look_eq (t := 20) (v := .int .i64 (((a + (q - B.length)) : Nat) : Int)) rfl)).trans (look_eq (t := 21) (v := .int .i64 (((a + q) : Nat) : Int)) rfl)), ⟨(q - B.length), q, _, _, rfl, K0, (Mv.refl _ _ _), by omega, by omega, by omega, by omega, by omega, by omega, hG⟩⟩
    ·refine Zc 140 (.bool false) (okv (by kernel_rfl) (congrArg Value.bool (decide_eq_false t3))) ?_
     refine wpList_nil (hk8 _ _ (W.cond false rfl (wp_seq_k fun k10 hk10 => (wp_region_lit ?_))))
     refine Zb 145 (.int .i64 ↑a) ?_
     refine Zb 20 (.int .i64 ↑a) ?_
     refine wpList_nil (hk10 _ _ (wp_region_lit ?_))
     refine Zb 146 (.int .i64 ↑m) ?_
     refine Zb 21 (.int .i64 ↑m) ?_
     refine wpList_nil ?_
     exact ⟨_, (((((((((look_eq (t := 0) (v := .slice s.a s.n s.c) rfl).trans (look_eq (t := 1) (v := .int .i64 ↑a) rfl)).trans (look_eq (t := 2) (v := .int .i64 ↑m) rfl)).trans (look_eq (t := 3) (v := .int .i64 ↑b) rfl)).trans (look_eq (t := 4) (v := .func (.func 69) #[] #[]) rfl)).trans (look_eq (t := 18) (v := .int .i64 (((a + q) : Nat) : Int)) rfl)).trans (look_eq (t := 19) (v := .int .i64 (((a + q) + m : Nat) : Int)) rfl)).trans (look_eq (t := 20) (v := .int .i64 (((a + 0) : Nat) : Int)) rfl)).trans (look_eq (t := 21) (v := .int .i64 (((a + A.length) : Nat) : Int)) (nat_v (by omega)))), ⟨0, A.length, _, _, rfl, K0, (Mv.refl _ _ _), by omega, by omega, by omega, by omega, by omega, by omega, hG⟩⟩
   ·rintro _ w1 ⟨S, R, g1, r1, rfl, K1, M1, p1, p2, p3, p4, p5, p6, h1⟩
    have n2 := h1.len
    refine wp_seq_k fun k11 hk11 => (wp_region_lit ?_)
    refine Zb 147 (.int .i64 (((a + q) + m : Nat) : Int)) ?_
    refine Zc 148 (.int .i64 (((a + q) + m - 1 : Nat) : Int)) (okv (v := .int .i64 (IntKind.i64.wrap ((((a + q) + m : Nat) : Int) - 1))) (by kernel_rfl) (wrapn (by omega) (by omega))) ?_
    refine Zb 22 (.int .i64 (((a + q) + m - 1 : Nat) : Int)) ?_
    refine wpList_nil (hk11 _ _ (wp_seq_k fun k12 hk12 => (wp_block ?_)))
    refine W.loop (fun (μ0 : Nat) (ws : List (Nat × Value)) (w' : World) => ∃ (s0 : Nat) (r0 : Nat) (γ' : Tg) (ρ0 : List (Nat × Value)), μ0 = r0 - s0 ∧ ws = ((22, .int .i64 (((a + q) + m - 1 : Nat) : Int)) :: (21, .int .i64 (((a + r0) : Nat) : Int)) :: (20, .int .i64 (((a + s0) : Nat) : Int)) :: (19, .int .i64 (((a + q) + m : Nat) : Int)) :: (18, .int .i64 (((a + q) : Nat) : Int)) :: (4, .func (.func 69) #[] #[]) :: (3, .int .i64 ↑b) :: (2, .int .i64 ↑m) :: (1, .int .i64 ↑a) :: (0, .slice s.a s.n s.c) :: ρ0) ∧ Kn (fun ξ => ξ = t) w γ [] w' γ' ∧ Mv (Rg 1 (t + 1)) w1 g1 w' γ' ∧ (S ≤ s0) ∧ (s0 ≤ r0) ∧ (r0 ≤ R) ∧ (s0 = S ∨ ∃ x y, A[s0 - 1]? = some x ∧ B[q - s0]? = some y ∧ ltRtd y x = false) ∧ (r0 = R ∨ ∃ x y, A[r0]? = some x ∧ B[q - 1 - r0]? = some y ∧ ltRtd y x = true) ∧ Gs t 146 3 Rtd.cells w' γ' s (pre ++ A ++ B ++ post)) (R - S) ((((((((((look_eq (t := 0) (v := .slice s.a s.n s.c) rfl).trans (look_eq (t := 1) (v := .int .i64 ↑a) rfl)).trans (look_eq (t := 2) (v := .int .i64 ↑m) rfl)).trans (look_eq (t := 3) (v := .int .i64 ↑b) rfl)).trans (look_eq (t := 4) (v := .func (.func 69) #[] #[]) rfl)).trans (look_eq (t := 18) (v := .int .i64 (((a + q) : Nat) : Int)) rfl)).trans (look_eq (t := 19) (v := .int .i64 (((a + q) + m : Nat) : Int)) rfl)).trans (look_eq (t := 20) (v := .int .i64 (((a + S) : Nat) : Int)) rfl)).trans (look_eq (t := 21) (v := .int .i64 (((a + R) : Nat) : Int)) rfl)).trans (look_eq (t := 22) (v := .int .i64 (((a + q) + m - 1 : Nat) : Int)) rfl)) ?_ ?_
    ·exact ⟨S, R, _, _, rfl, rfl, K1, Mv.refl _ _ _, by omega, by omega, by omega, .inl rfl, .inl rfl, h1⟩
    ·rintro _ _ w2 ⟨s0, r0, g2, r2, rfl, rfl, K2, M2, p7, p8, p9, p10, p11, h2⟩
     have n3 := h2.len
     refine wp_seq_k fun k13 hk13 => (wp_seq_k fun k14 hk14 => (wp_region_lit ?_))
     refine Zb 149 (.int .i64 (((a + s0) : Nat) : Int)) ?_
     refine Zb 150 (.int .i64 (((a + r0) : Nat) : Int)) ?_
     by_cases t4 : (((a + s0) : Nat) : Int) < (((a + r0) : Nat) : Int)
     ·refine Zc 151 (.bool true) (okv (by kernel_rfl) (congrArg Value.bool (decide_eq_true t4))) ?_
      refine wpList_nil (hk14 _ _ (W.cond true rfl (wp_skip (hk13 _ _ (wp_block (wp_seq_k fun k15 hk15 => ?_))))))
      refine wp_region_lit ?_
      refine Zb 152 (.int .i64 (((a + s0) : Nat) : Int)) ?_
      refine Zb 153 (.int .i64 (((a + r0) : Nat) : Int)) ?_
      refine Zc 154 (.int .i64 (((a + s0) + (a + r0) : Nat) : Int)) (okv (v := .int .i64 (IntKind.i64.wrap ((((a + s0) : Nat) : Int) + (((a + r0) : Nat) : Int)))) (by kernel_rfl) (wrapn (by omega) (by omega))) ?_
      refine Zc 155 (.int .u64 ((a + s0 + (a + r0) : Nat) : Int)) (okv (by kernel_rfl) (up64_v (by omega))) ?_
      refine Zc 156 (.int .u64 (((a + s0 + (a + r0)) / 2 : Nat) : Int)) (okv (by kernel_rfl) (shr1_v)) ?_
      refine Zc 157 (.int .i64 (((a + (s0 + r0) / 2) : Nat) : Int)) (okv (by kernel_rfl) ((to_i64 (a := (a + s0 + (a + r0)) / 2) (by omega)).trans (nat_v (a := (a + s0 + (a + r0)) / 2) (b := a + (s0 + r0) / 2) (by omega)))) ?_
      refine Zb 23 (.int .i64 (((a + (s0 + r0) / 2) : Nat) : Int)) ?_
      refine wpList_nil (hk15 _ _ (wp_seq_k fun k16 hk16 => (wp_region_G (SmL [(6, Nt), (10, Nt)] w2 g2) (by kernel_rfl) ?_)))
      have K3 := K2.drew
      have M3 : Mv Nt w2 g2 w2.drew g2 := (Mv.refl _ _ _).drew
      refine Yb 0 158 (.func (.func 69) #[] #[]) rfl (fun u => by kernel_rfl) ?_
      refine Yb 1 159 (.slice s.a s.n s.c) rfl (fun u => by kernel_rfl) ?_
      refine Yb 2 160 (.int .i64 (((a + q) + m - 1 : Nat) : Int)) rfl (fun u => by kernel_rfl) ?_
      refine Yb 3 161 (.int .i64 (((a + (s0 + r0) / 2) : Nat) : Int)) rfl (fun u => by kernel_rfl) ?_
      refine Yb 4 162 (.int .i64 (((m + (q - 1 - (s0 + r0) / 2)) : Nat) : Int)) rfl (fun u => okv (v := .int .i64 (IntKind.i64.wrap ((((a + q) + m - 1 : Nat) : Int) - (((a + (s0 + r0) / 2) : Nat) : Int)))) ((fun u => by kernel_rfl) u) (wrapn (by omega) (by omega))) ?_
      obtain ⟨x, hx⟩ := get_some (xs := A) (i := (s0 + r0) / 2) (by omega)
      obtain ⟨y, hy⟩ := get_some (xs := B) (i := q - 1 - (s0 + r0) / 2) (by omega)
      obtain ⟨b1, ha1, hib1, hr1⟩ := h2.elt (get_mid (i := (m + (q - 1 - (s0 + r0) / 2))) (A := pre ++ A) (B := B) (C := post) rfl hy (by simp only [List.length_append]; omega))
      refine Yb 5 163 (.pointer (some ⟨b1, 0 + (m + (q - 1 - (s0 + r0) / 2)) * 3, none⟩)) rfl (fun u => (exec_index (E := 146) (k := (m + (q - 1 - (s0 + r0) / 2))) rfl (by kernel_rfl) (by kernel_rfl) rfl ha1 rfl hib1)) ?_
      refine G.take 6 164 (.agg y.cells.toArray) rfl (by kernel_rfl) rfl (fun _ _ _ h => h) ((Mv.refl _ _ _).trans (M3.mono (fun _ h => h))).self (by kernel_rfl) (fun u hm => exec_loads (cs := y.cells) rfl rfl Ty146 rfl (hr1.mv hm quiet).2.2) ?_
      refine Yb 7 165 (.slice s.a s.n s.c) rfl (fun u => by kernel_rfl) ?_
      refine Yb 8 166 (.int .i64 (((a + (s0 + r0) / 2) : Nat) : Int)) rfl (fun u => by kernel_rfl) ?_
      obtain ⟨b2, ha2, hib2, hr2⟩ := h2.elt (get_mid (i := (a + (s0 + r0) / 2)) (A := pre) (B := A) (C := B ++ post) (by simp) hx (by omega))
      refine Yb 9 167 (.pointer (some ⟨b2, 0 + (a + (s0 + r0) / 2) * 3, none⟩)) rfl (fun u => (exec_index (E := 146) (k := (a + (s0 + r0) / 2)) rfl (by kernel_rfl) (by kernel_rfl) rfl ha2 rfl hib2)) ?_
      refine G.take 10 168 (.agg x.cells.toArray) rfl (by kernel_rfl) rfl (fun _ _ _ h => h) ((Mv.refl _ _ _).trans (M3.mono (fun _ h => h))).self (by kernel_rfl) (fun u hm => exec_loads (cs := x.cells) rfl rfl Ty146 rfl (hr2.mv hm quiet).2.2) ?_
      refine G.op 11 (by kernel_rfl) rfl (O.call 169 69 #[.agg y.cells.toArray, .agg x.cells.toArray] (by kernel_rfl) rfl (by kernel_rfl) ((told_c y x w2.drew g2).mono ?_))
      rintro e1 w3 ⟨g3, rfl, M4⟩
      have K4 := K3.step M4 nt_le quiet
      refine ⟨_, rfl, ⟨kp_nt ((Mv.refl _ _ _).trans M4) _, ?_⟩⟩
      by_cases t5 : (cmpI y.got x.got) < 0
      ·refine Yb 12 170 (.bool true) rfl (fun u => okv ((fun u => by kernel_rfl) u) (congrArg Value.bool (decide_eq_true t5))) ?_
       refine Yb 13 171 (.bool false) rfl (fun u => by kernel_rfl) ?_
       refine G.fin (by kernel_rfl) ?_
       refine hk16 _ _ (W.cond false rfl (wp_region_lit ?_))
       refine Zb 174 (.int .i64 (((a + (s0 + r0) / 2) : Nat) : Int)) ?_
       refine Zb 21 (.int .i64 (((a + (s0 + r0) / 2) : Nat) : Int)) ?_
       refine wpList_nil (block_normal ?_)
       have hhG_1 := h2.mv M3 quiet
       have hhG_2 := hhG_1.mv M4 quiet
       exact ⟨((s0 + r0) / 2) - s0, _, by omega, ((((((((((look_eq (t := 0) (v := .slice s.a s.n s.c) rfl).trans (look_eq (t := 1) (v := .int .i64 ↑a) rfl)).trans (look_eq (t := 2) (v := .int .i64 ↑m) rfl)).trans (look_eq (t := 3) (v := .int .i64 ↑b) rfl)).trans (look_eq (t := 4) (v := .func (.func 69) #[] #[]) rfl)).trans (look_eq (t := 18) (v := .int .i64 (((a + q) : Nat) : Int)) rfl)).trans (look_eq (t := 19) (v := .int .i64 (((a + q) + m : Nat) : Int)) rfl)).trans (look_eq (t := 20) (v := .int .i64 (((a + s0) : Nat) : Int)) rfl)).trans (look_eq (t := 21) (v := .int .i64 (((a + ((s0 + r0) / 2)) : Nat) : Int)) rfl)).trans (look_eq (t := 22) (v := .int .i64 (((a + q) + m - 1 : Nat) : Int)) rfl)), ⟨s0, ((s0 + r0) / 2), _, _, rfl, rfl, K4, ((M2.trans (M3.mono nt_le)).trans (M4.mono nt_le)), p7, by omega, by omega, p10, .inr ⟨x, y, hx, hy, decide_eq_true t5⟩, hhG_2⟩⟩
      ·refine Yb 12 170 (.bool false) rfl (fun u => okv ((fun u => by kernel_rfl) u) (congrArg Value.bool (decide_eq_false t5))) ?_
       refine Yb 13 171 (.bool true) rfl (fun u => by kernel_rfl) ?_
       refine G.fin (by kernel_rfl) ?_
       refine hk16 _ _ (W.cond true rfl (wp_region_lit ?_))
       refine Zb 172 (.int .i64 (((a + (s0 + r0) / 2) : Nat) : Int)) ?_
       refine Zc 173 (.int .i64 (((a + (s0 + r0) / 2) + 1 : Nat) : Int)) (okv (v := .int .i64 (IntKind.i64.wrap ((((a + (s0 + r0) / 2) : Nat) : Int) + 1))) (by kernel_rfl) (wrapn (by omega) (by omega))) ?_
       refine Zb 20 (.int .i64 (((a + (s0 + r0) / 2) + 1 : Nat) : Int)) ?_
       refine wpList_nil (block_normal ?_)
       have hhG_3 := h2.mv M3 quiet
       have hhG_4 := hhG_3.mv M4 quiet
       exact ⟨r0 - ((s0 + r0) / 2 + 1), _, by omega, ((((((((((look_eq (t := 0) (v := .slice s.a s.n s.c) rfl).trans (look_eq (t := 1) (v := .int .i64 ↑a) rfl)).trans (look_eq (t := 2) (v := .int .i64 ↑m) rfl)).trans (look_eq (t := 3) (v := .int .i64 ↑b) rfl)).trans (look_eq (t := 4) (v := .func (.func 69) #[] #[]) rfl)).trans (look_eq (t := 18) (v := .int .i64 (((a + q) : Nat) : Int)) rfl)).trans (look_eq (t := 19) (v := .int .i64 (((a + q) + m : Nat) : Int)) rfl)).trans (look_eq (t := 20) (v := .int .i64 (((a + ((s0 + r0) / 2 + 1)) : Nat) : Int)) rfl)).trans (look_eq (t := 21) (v := .int .i64 (((a + r0) : Nat) : Int)) rfl)).trans (look_eq (t := 22) (v := .int .i64 (((a + q) + m - 1 : Nat) : Int)) rfl)), ⟨((s0 + r0) / 2 + 1), r0, _, _, rfl, rfl, K4, ((M2.trans (M3.mono nt_le)).trans (M4.mono nt_le)), by omega, by omega, p9, .inr ⟨x, y, by rw [show (s0 + r0) / 2 + 1 - 1 = (s0 + r0) / 2 by omega]; exact hx, by rw [show q - ((s0 + r0) / 2 + 1) = q - 1 - (s0 + r0) / 2 by omega]; exact hy, decide_eq_false t5⟩, p11, hhG_4⟩⟩
     ·refine Zc 151 (.bool false) (okv (by kernel_rfl) (congrArg Value.bool (decide_eq_false t4))) ?_
      refine wpList_nil (hk14 _ _ (W.cond false rfl (wp_exit (then_exit ?_))))
      have hr9 : r0 = s0 := by omega
      have hR9 := p11
      rw [hr9] at hR9
      have key := sym_cut Lin.rtd hsA hsB p1 p2 (s := s0) (by omega) (by omega) (by omega) p10 hR9 p7
      obtain ⟨A1, hA1⟩ : ∃ l, l = A.take s0 := ⟨_, rfl⟩
      obtain ⟨A2, hA2⟩ : ∃ l, l = A.drop s0 := ⟨_, rfl⟩
      obtain ⟨B1, hB1⟩ : ∃ l, l = B.take (q - s0) := ⟨_, rfl⟩
      obtain ⟨B2, hB2⟩ : ∃ l, l = B.drop (q - s0) := ⟨_, rfl⟩
      rw [← hA1, ← hA2, ← hB1, ← hB2] at key
      have lA1 : A1.length = s0 := by rw [hA1, List.length_take]; omega
      have lA2 : A2.length = A.length - s0 := by rw [hA2, List.length_drop]
      have lB1 : B1.length = q - s0 := by rw [hB1, List.length_take]; omega
      have lB2 : B2.length = B.length - (q - s0) := by rw [hB2, List.length_drop]
      have eA : A = A1 ++ A2 := by rw [hA1, hA2, List.take_append_drop]
      have eB : B = B1 ++ B2 := by rw [hB1, hB2, List.take_append_drop]
      have sA1 : Srt ltRtd A1 := hsA.sublist (by rw [hA1]; exact List.take_sublist _ _)
      have sA2 : Srt ltRtd A2 := hsA.sublist (by rw [hA2]; exact List.drop_sublist _ _)
      have sB1 : Srt ltRtd B1 := hsB.sublist (by rw [hB1]; exact List.take_sublist _ _)
      have sB2 : Srt ltRtd B2 := hsB.sublist (by rw [hB2]; exact List.drop_sublist _ _)
      have hG1 := h2
      rw [show pre ++ A ++ B ++ post = pre ++ A1 ++ A2 ++ B1 ++ B2 ++ post from by rw [eA, eB]; simp only [List.append_assoc]] at hG1
      have n4 := hG1.len
      refine then_exit (block_exit (hk12 _ _ (wp_seq_k fun k17 hk17 => (wp_region_lit ?_))))
      refine Zb 175 (.int .i64 (((a + q) + m : Nat) : Int)) ?_
      refine Zb 176 (.int .i64 (((a + s0) : Nat) : Int)) ?_
      refine Zc 177 (.int .i64 (((m + (q - s0)) : Nat) : Int)) (okv (v := .int .i64 (IntKind.i64.wrap ((((a + q) + m : Nat) : Int) - (((a + s0) : Nat) : Int)))) (by kernel_rfl) (wrapn (by omega) (by omega))) ?_
      refine Zb 24 (.int .i64 (((m + (q - s0)) : Nat) : Int)) ?_
      refine wpList_nil (hk17 _ _ ?_)
      refine W.join (fun (ws : List (Nat × Value)) (w' : World) => ∃  (γ' : Tg) (ρ0 : List (Nat × Value)), ws = ((24, .int .i64 (((m + (q - s0)) : Nat) : Int)) :: (20, .int .i64 (((a + s0) : Nat) : Int)) :: (18, .int .i64 (((a + q) : Nat) : Int)) :: (4, .func (.func 69) #[] #[]) :: (3, .int .i64 ↑b) :: (1, .int .i64 ↑a) :: (0, .slice s.a s.n s.c) :: ρ0) ∧ Kn (fun ξ => ξ = t) w γ [] w' γ' ∧ Mv (Rg 1 (t + 1)) w2 g2 w' γ' ∧ Gs t 146 3 Rtd.cells w' γ' s (pre ++ A1 ++ B1 ++ A2 ++ B2 ++ post)) ?_ ?_
      ·refine wp_seq_k fun k18 hk18 => (wp_region_lit ?_)
       refine Zb 178 (.int .i64 (((a + s0) : Nat) : Int)) ?_
       refine Zb 179 (.int .i64 ↑m) ?_
       by_cases t6 : (((a + s0) : Nat) : Int) < ((m : Nat) : Int)
       ·refine Zc 180 (.bool true) (okv (by kernel_rfl) (congrArg Value.bool (decide_eq_true t6))) ?_
        refine Zb 181 (.bool true) ?_
        refine Zd 182 (.int .i64 ↑m) ?_
        refine Zd 183 (.int .i64 (((m + (q - s0)) : Nat) : Int)) ?_
        by_cases t7 : ((m : Nat) : Int) < (((m + (q - s0)) : Nat) : Int)
        ·refine W.op (O.gv 184 (.bool true) (by kernel_rfl) rfl (okv (by kernel_rfl) (congrArg Value.bool (decide_eq_true t7))) ?_)
         refine Zb 185 (.bool true) ?_
         refine wpList_nil (hk18 _ _ (W.cond true rfl (wp_region_lit ?_)))
         refine Zb 186 (.slice s.a s.n s.c) ?_
         refine Zb 187 (.int .i64 (((a + s0) : Nat) : Int)) ?_
         refine Zb 188 (.int .i64 ↑m) ?_
         refine Zb 189 (.int .i64 (((m + (q - s0)) : Nat) : Int)) ?_
         refine Zb 190 (.func (.func 69) #[] #[]) ?_
         refine W.op (O.call 191 106 #[.slice s.a s.n s.c, .int .i64 (((a + s0) : Nat) : Int), .int .i64 ↑m, .int .i64 (((m + (q - s0)) : Nat) : Int), .func (.func 69) #[] #[]] (by kernel_rfl) rfl (by kernel_rfl) ((rotRtd_c s (pre ++ A1) A2 B1 (B2 ++ post) t (a + s0) m (m + (q - s0)) (.func (.func 69) #[] #[]) w2 g2 (by have h := hG1; rw [show pre ++ A1 ++ A2 ++ B1 ++ B2 ++ post = (pre ++ A1) ++ A2 ++ B1 ++ (B2 ++ post) from by simp only [List.append_assoc]] at h; exact h) (by omega) (by first | omega | (simp only [List.length_append]; omega)) (by first | omega | (simp only [List.length_append]; omega)) (by first | omega | (simp only [List.length_append]; omega)) (by first | omega | (simp only [List.length_append]; omega)) (by first | omega | (simp only [List.length_append]; omega)) (by first | omega | (simp only [List.length_append]; omega))).mono ?_))
         rintro e2 w4 ⟨g4, rfl, M5, hq1⟩
         have K5 := K2.step M5 (fun _ h => h) (neq (by omega))
         have n5 := hq1.len
         refine ⟨_, rfl, ?_⟩
         refine wpList_nil ?_
         exact ⟨_, (((((((look_eq (t := 0) (v := .slice s.a s.n s.c) rfl).trans (look_eq (t := 1) (v := .int .i64 ↑a) rfl)).trans (look_eq (t := 3) (v := .int .i64 ↑b) rfl)).trans (look_eq (t := 4) (v := .func (.func 69) #[] #[]) rfl)).trans (look_eq (t := 18) (v := .int .i64 (((a + q) : Nat) : Int)) rfl)).trans (look_eq (t := 20) (v := .int .i64 (((a + s0) : Nat) : Int)) rfl)).trans (look_eq (t := 24) (v := .int .i64 (((m + (q - s0)) : Nat) : Int)) rfl)), ⟨_, _, rfl, K5, ((Mv.refl _ _ _).trans (M5.mono (eq_rg (by omega)))), (by have h := hq1; rw [show (pre ++ A1) ++ B1 ++ A2 ++ (B2 ++ post) = pre ++ A1 ++ B1 ++ A2 ++ B2 ++ post from by simp only [List.append_assoc]] at h; exact h)⟩⟩
        ·refine W.op (O.gv 184 (.bool false) (by kernel_rfl) rfl (okv (by kernel_rfl) (congrArg Value.bool (decide_eq_false t7))) ?_)
         refine Zb 185 (.bool false) ?_
         refine wpList_nil (hk18 _ _ (W.cond false rfl (wp_skip ?_)))
         exact ⟨_, (((((((look_eq (t := 0) (v := .slice s.a s.n s.c) rfl).trans (look_eq (t := 1) (v := .int .i64 ↑a) rfl)).trans (look_eq (t := 3) (v := .int .i64 ↑b) rfl)).trans (look_eq (t := 4) (v := .func (.func 69) #[] #[]) rfl)).trans (look_eq (t := 18) (v := .int .i64 (((a + q) : Nat) : Int)) rfl)).trans (look_eq (t := 20) (v := .int .i64 (((a + s0) : Nat) : Int)) rfl)).trans (look_eq (t := 24) (v := .int .i64 (((m + (q - s0)) : Nat) : Int)) rfl)), ⟨_, _, rfl, K2, (Mv.refl _ _ _), (by have h := hG1; rw [show pre ++ A1 ++ A2 ++ B1 ++ B2 ++ post = pre ++ A1 ++ B1 ++ A2 ++ B2 ++ post from (by rcases (show A2.length = 0 ∨ B1.length = 0 by omega) with h9 | h9 <;> (rw [List.eq_nil_of_length_eq_zero h9]; simp))] at h; exact h)⟩⟩
       ·refine Zc 180 (.bool false) (okv (by kernel_rfl) (congrArg Value.bool (decide_eq_false t6))) ?_
        refine Zb 181 (.bool false) ?_
        refine Za 182 ?_
        refine Za 183 ?_
        refine Za 184 ?_
        refine Zb 185 (.bool false) ?_
        refine wpList_nil (hk18 _ _ (W.cond false rfl (wp_skip ?_)))
        exact ⟨_, (((((((look_eq (t := 0) (v := .slice s.a s.n s.c) rfl).trans (look_eq (t := 1) (v := .int .i64 ↑a) rfl)).trans (look_eq (t := 3) (v := .int .i64 ↑b) rfl)).trans (look_eq (t := 4) (v := .func (.func 69) #[] #[]) rfl)).trans (look_eq (t := 18) (v := .int .i64 (((a + q) : Nat) : Int)) rfl)).trans (look_eq (t := 20) (v := .int .i64 (((a + s0) : Nat) : Int)) rfl)).trans (look_eq (t := 24) (v := .int .i64 (((m + (q - s0)) : Nat) : Int)) rfl)), ⟨_, _, rfl, K2, (Mv.refl _ _ _), (by have h := hG1; rw [show pre ++ A1 ++ A2 ++ B1 ++ B2 ++ post = pre ++ A1 ++ B1 ++ A2 ++ B2 ++ post from (by rcases (show A2.length = 0 ∨ B1.length = 0 by omega) with h9 | h9 <;> (rw [List.eq_nil_of_length_eq_zero h9]; simp))] at h; exact h)⟩⟩
      ·rintro _ w5 ⟨g5, r3, rfl, K6, M6, h3⟩
       have n6 := h3.len
       refine W.join (fun (ws : List (Nat × Value)) (w' : World) => ∃  (γ' : Tg) (ρ0 : List (Nat × Value)), ws = ((24, .int .i64 (((m + (q - s0)) : Nat) : Int)) :: (18, .int .i64 (((a + q) : Nat) : Int)) :: (4, .func (.func 69) #[] #[]) :: (3, .int .i64 ↑b) :: (0, .slice s.a s.n s.c) :: ρ0) ∧ Kn (fun ξ => ξ = t) w γ [] w' γ' ∧ Mv (Rg 1 (t + 1)) w5 g5 w' γ' ∧ Gs t 146 3 Rtd.cells w' γ' s (pre ++ mrg ltRtd A1 B1 ++ A2 ++ B2 ++ post)) ?_ ?_
       ·refine wp_seq_k fun k19 hk19 => (wp_region_lit ?_)
        refine Zb 192 (.int .i64 ↑a) ?_
        refine Zb 193 (.int .i64 (((a + s0) : Nat) : Int)) ?_
        by_cases t8 : ((a : Nat) : Int) < (((a + s0) : Nat) : Int)
        ·refine Zc 194 (.bool true) (okv (by kernel_rfl) (congrArg Value.bool (decide_eq_true t8))) ?_
         refine Zb 195 (.bool true) ?_
         refine Zd 196 (.int .i64 (((a + s0) : Nat) : Int)) ?_
         refine Zd 197 (.int .i64 (((a + q) : Nat) : Int)) ?_
         by_cases t9 : (((a + s0) : Nat) : Int) < (((a + q) : Nat) : Int)
         ·refine W.op (O.gv 198 (.bool true) (by kernel_rfl) rfl (okv (by kernel_rfl) (congrArg Value.bool (decide_eq_true t9))) ?_)
          refine Zb 199 (.bool true) ?_
          refine wpList_nil (hk19 _ _ (W.cond true rfl (wp_region_lit ?_)))
          refine Zb 200 (.slice s.a s.n s.c) ?_
          refine Zb 201 (.int .i64 ↑a) ?_
          refine Zb 202 (.int .i64 (((a + s0) : Nat) : Int)) ?_
          refine Zb 203 (.int .i64 (((a + q) : Nat) : Int)) ?_
          refine Zb 204 (.func (.func 69) #[] #[]) ?_
          refine W.op (O.call 205 101 #[.slice s.a s.n s.c, .int .i64 ↑a, .int .i64 (((a + s0) : Nat) : Int), .int .i64 (((a + q) : Nat) : Int), .func (.func 69) #[] #[]] (by kernel_rfl) rfl (by kernel_rfl) ((hrec pre A1 B1 (A2 ++ B2 ++ post) a (a + s0) (a + q) w5 g5 (by have h := h3; rw [show pre ++ A1 ++ B1 ++ A2 ++ B2 ++ post = pre ++ A1 ++ B1 ++ (A2 ++ B2 ++ post) from by simp only [List.append_assoc]] at h; exact h) (by omega) (by first | omega | (simp only [List.length_append, mrg_length]; omega)) (by first | omega | (simp only [List.length_append, mrg_length]; omega)) (by first | omega | (simp only [List.length_append, mrg_length]; omega)) (by first | omega | (simp only [List.length_append, mrg_length]; omega)) (by first | omega | (simp only [List.length_append, mrg_length]; omega)) sA1 sB1 (by first | omega | (simp only [List.length_append, mrg_length]; omega)) (by first | omega | (simp only [List.length_append, mrg_length]; omega))).mono ?_))
          rintro e3 w6 ⟨g6, rfl, M7, hq2⟩
          have K7 := K6.step M7 (fun _ h => h) (neq (by omega))
          have n7 := hq2.len
          refine ⟨_, rfl, ?_⟩
          refine wpList_nil ?_
          exact ⟨_, (((((look_eq (t := 0) (v := .slice s.a s.n s.c) rfl).trans (look_eq (t := 3) (v := .int .i64 ↑b) rfl)).trans (look_eq (t := 4) (v := .func (.func 69) #[] #[]) rfl)).trans (look_eq (t := 18) (v := .int .i64 (((a + q) : Nat) : Int)) rfl)).trans (look_eq (t := 24) (v := .int .i64 (((m + (q - s0)) : Nat) : Int)) rfl)), ⟨_, _, rfl, K7, ((Mv.refl _ _ _).trans (M7.mono (eq_rg (by omega)))), (by have h := hq2; rw [show pre ++ mrg ltRtd A1 B1 ++ (A2 ++ B2 ++ post) = pre ++ mrg ltRtd A1 B1 ++ A2 ++ B2 ++ post from by simp only [List.append_assoc]] at h; exact h)⟩⟩
         ·refine W.op (O.gv 198 (.bool false) (by kernel_rfl) rfl (okv (by kernel_rfl) (congrArg Value.bool (decide_eq_false t9))) ?_)
          refine Zb 199 (.bool false) ?_
          refine wpList_nil (hk19 _ _ (W.cond false rfl (wp_skip ?_)))
          exact ⟨_, (((((look_eq (t := 0) (v := .slice s.a s.n s.c) rfl).trans (look_eq (t := 3) (v := .int .i64 ↑b) rfl)).trans (look_eq (t := 4) (v := .func (.func 69) #[] #[]) rfl)).trans (look_eq (t := 18) (v := .int .i64 (((a + q) : Nat) : Int)) rfl)).trans (look_eq (t := 24) (v := .int .i64 (((m + (q - s0)) : Nat) : Int)) rfl)), ⟨_, _, rfl, K6, (Mv.refl _ _ _), (by have h := h3; rw [show pre ++ A1 ++ B1 ++ A2 ++ B2 ++ post = pre ++ mrg ltRtd A1 B1 ++ A2 ++ B2 ++ post from (by rcases (show A1.length = 0 ∨ B1.length = 0 by omega) with h9 | h9 <;> (rw [List.eq_nil_of_length_eq_zero h9]; simp [mrg_nil, nil_mrg]))] at h; exact h)⟩⟩
        ·refine Zc 194 (.bool false) (okv (by kernel_rfl) (congrArg Value.bool (decide_eq_false t8))) ?_
         refine Zb 195 (.bool false) ?_
         refine Za 196 ?_
         refine Za 197 ?_
         refine Za 198 ?_
         refine Zb 199 (.bool false) ?_
         refine wpList_nil (hk19 _ _ (W.cond false rfl (wp_skip ?_)))
         exact ⟨_, (((((look_eq (t := 0) (v := .slice s.a s.n s.c) rfl).trans (look_eq (t := 3) (v := .int .i64 ↑b) rfl)).trans (look_eq (t := 4) (v := .func (.func 69) #[] #[]) rfl)).trans (look_eq (t := 18) (v := .int .i64 (((a + q) : Nat) : Int)) rfl)).trans (look_eq (t := 24) (v := .int .i64 (((m + (q - s0)) : Nat) : Int)) rfl)), ⟨_, _, rfl, K6, (Mv.refl _ _ _), (by have h := h3; rw [show pre ++ A1 ++ B1 ++ A2 ++ B2 ++ post = pre ++ mrg ltRtd A1 B1 ++ A2 ++ B2 ++ post from (by rcases (show A1.length = 0 ∨ B1.length = 0 by omega) with h9 | h9 <;> (rw [List.eq_nil_of_length_eq_zero h9]; simp [mrg_nil, nil_mrg]))] at h; exact h)⟩⟩
       ·rintro _ w7 ⟨g7, r4, rfl, K8, M8, h4⟩
        have n8 := h4.len
        refine wp_seq_k fun k20 hk20 => (wp_region_lit ?_)
        refine Zb 206 (.int .i64 (((a + q) : Nat) : Int)) ?_
        refine Zb 207 (.int .i64 (((m + (q - s0)) : Nat) : Int)) ?_
        by_cases t10 : (((a + q) : Nat) : Int) < (((m + (q - s0)) : Nat) : Int)
        ·refine Zc 208 (.bool true) (okv (by kernel_rfl) (congrArg Value.bool (decide_eq_true t10))) ?_
         refine Zb 209 (.bool true) ?_
         refine Zd 210 (.int .i64 (((m + (q - s0)) : Nat) : Int)) ?_
         refine Zd 211 (.int .i64 ↑b) ?_
         by_cases t11 : (((m + (q - s0)) : Nat) : Int) < ((b : Nat) : Int)
         ·refine W.op (O.gv 212 (.bool true) (by kernel_rfl) rfl (okv (by kernel_rfl) (congrArg Value.bool (decide_eq_true t11))) ?_)
          refine Zb 213 (.bool true) ?_
          refine wpList_nil (hk20 _ _ (W.cond true rfl (wp_region_lit ?_)))
          refine Zb 214 (.slice s.a s.n s.c) ?_
          refine Zb 215 (.int .i64 (((a + q) : Nat) : Int)) ?_
          refine Zb 216 (.int .i64 (((m + (q - s0)) : Nat) : Int)) ?_
          refine Zb 217 (.int .i64 ↑b) ?_
          refine Zb 218 (.func (.func 69) #[] #[]) ?_
          refine W.op (O.call 219 101 #[.slice s.a s.n s.c, .int .i64 (((a + q) : Nat) : Int), .int .i64 (((m + (q - s0)) : Nat) : Int), .int .i64 ↑b, .func (.func 69) #[] #[]] (by kernel_rfl) rfl (by kernel_rfl) ((hrec (pre ++ mrg ltRtd A1 B1) A2 B2 post (a + q) (m + (q - s0)) b w7 g7 (by have h := h4; rw [show pre ++ mrg ltRtd A1 B1 ++ A2 ++ B2 ++ post = (pre ++ mrg ltRtd A1 B1) ++ A2 ++ B2 ++ post from by simp only [List.append_assoc]] at h; exact h) (by omega) (by first | omega | (simp only [List.length_append, mrg_length]; omega)) (by first | omega | (simp only [List.length_append, mrg_length]; omega)) (by first | omega | (simp only [List.length_append, mrg_length]; omega)) (by first | omega | (simp only [List.length_append, mrg_length]; omega)) (by first | omega | (simp only [List.length_append, mrg_length]; omega)) sA2 sB2 (by first | omega | (simp only [List.length_append, mrg_length]; omega)) (by first | omega | (simp only [List.length_append, mrg_length]; omega))).mono ?_))
          rintro e4 w8 ⟨g8, rfl, M9, hq3⟩
          have K9 := K8.step M9 (fun _ h => h) (neq (by omega))
          have n9 := hq3.len
          refine ⟨_, rfl, ?_⟩
          refine wpList_nil ?_
          refine W.end0 rfl ?_
          have hG9 := hq3
          rw [show (pre ++ mrg ltRtd A1 B1) ++ mrg ltRtd A2 B2 ++ post = pre ++ mrg ltRtd A B ++ post from by rw [key]; simp only [List.append_assoc]] at hG9
          exact ⟨_, rfl, K9.mv, hG9⟩
         ·refine W.op (O.gv 212 (.bool false) (by kernel_rfl) rfl (okv (by kernel_rfl) (congrArg Value.bool (decide_eq_false t11))) ?_)
          refine Zb 213 (.bool false) ?_
          refine wpList_nil (hk20 _ _ (W.cond false rfl (wp_skip ?_)))
          refine W.end0 rfl ?_
          have hG9 := h4
          rw [show pre ++ mrg ltRtd A1 B1 ++ A2 ++ B2 ++ post = pre ++ mrg ltRtd A B ++ post from by rw [key]; rcases (show A2.length = 0 ∨ B2.length = 0 by omega) with h9 | h9 <;> (rw [List.eq_nil_of_length_eq_zero h9]; simp [mrg_nil, nil_mrg])] at hG9
          exact ⟨_, rfl, K8.mv, hG9⟩
        ·refine Zc 208 (.bool false) (okv (by kernel_rfl) (congrArg Value.bool (decide_eq_false t10))) ?_
         refine Zb 209 (.bool false) ?_
         refine Za 210 ?_
         refine Za 211 ?_
         refine Za 212 ?_
         refine Zb 213 (.bool false) ?_
         refine wpList_nil (hk20 _ _ (W.cond false rfl (wp_skip ?_)))
         refine W.end0 rfl ?_
         have hG9 := h4
         rw [show pre ++ mrg ltRtd A1 B1 ++ A2 ++ B2 ++ post = pre ++ mrg ltRtd A B ++ post from by rw [key]; rcases (show A2.length = 0 ∨ B2.length = 0 by omega) with h9 | h9 <;> (rw [List.eq_nil_of_length_eq_zero h9]; simp [mrg_nil, nil_mrg])] at hG9
         exact ⟨_, rfl, K8.mv, hG9⟩

theorem symRtd_c (s : Sli) (pre : List Rtd) (A : List Rtd) (B : List Rtd) (post : List Rtd) (t : Nat) (a : Nat) (m : Nat) (b : Nat) (w : World) (γ : Tg) (hG : Gs t 146 3 Rtd.cells w γ s (pre ++ A ++ B ++ post)) (ht : 2 ≤ t) (ha : a = pre.length) (hm : m = pre.length + A.length) (hb : b = pre.length + A.length + B.length) (hA0 : 0 < A.length) (hB0 : 0 < B.length) (hsA : Srt ltRtd A) (hsB : Srt ltRtd B) (hl : pre.length + A.length + B.length + post.length ≤ 100000) :
    Calls Try.prog 101 #[.slice s.a s.n s.c, .int .i64 ((a : Nat) : Int), .int .i64 ((m : Nat) : Int), .int .i64 ((b : Nat) : Int), .func (.func 69) #[] #[]] w fun ε w' => ∃ γ', ε = .returned (.tuple #[]) ∧ Mv (fun ξ => ξ = t) w γ w' γ' ∧ Gs t 146 3 Rtd.cells w' γ' s (pre ++ mrg ltRtd A B ++ post) := by
  obtain ⟨n, hn⟩ : ∃ n, n = A.length + B.length := ⟨_, rfl⟩
  induction n using Nat.strongRecOn generalizing pre A B post a m b w γ with
  | _ n ih =>
    by_cases h1 : A.length = 1
    · obtain ⟨x, rfl⟩ := List.length_eq_one_iff.1 h1
      exact symLRtd s pre x B post t a m b w γ hG ht ha hm hb hA0 hB0 hsA hsB hl
    · by_cases h2 : B.length = 1
      · obtain ⟨y, rfl⟩ := List.length_eq_one_iff.1 h2
        exact symRRtd s pre A y post t a m b w γ hG ht ha hm hb hA0 hB0 hsA hsB hl (by omega)
      · exact symMRtd s pre A B post t a m b w γ hG ht ha hm hb hA0 hB0 hsA hsB hl (by omega) (by omega) (fun pre' A' B' post' a' m' b' w' γ' k1 k2 k3 k4 k5 k6 k7 k8 k9 k10  hlt => ih (A'.length + B'.length) (by omega) pre' A' B' post' a' m' b' w' γ' k1 k3 k4 k5 k6 k7 k8 k9 k10  rfl)

set_option maxRecDepth 100000 in
set_option maxHeartbeats 1000000 in
theorem symLEdit (s : Sli) (pre : List Edit) (x : Edit) (B : List Edit) (post : List Edit) (t : Nat) (a : Nat) (m : Nat) (b : Nat) (cb : Nat) (l : Nat) (w : World) (γ : Tg) (hG : Gs t 55 8 Edit.cells w γ s (pre ++ [x] ++ B ++ post)) (ht : 2 ≤ t) (ha : a = pre.length) (hm : m = pre.length + [x].length) (hb : b = pre.length + [x].length + B.length) (hA0 : 0 < [x].length) (hB0 : 0 < B.length) (hsA : Srt (ltEdit l) [x]) (hsB : Srt (ltEdit l) B) (hl : pre.length + [x].length + B.length + post.length ≤ 100000) (hlv : Cl 0 w γ cb 0 (.int .i64 ((l : Nat) : Int))) (hok : ∀ e ∈ [x] ++ B, e.it.key.size < 9223372036854775807) :
    Calls Try.prog 109 #[.slice s.a s.n s.c, .int .i64 ((a : Nat) : Int), .int .i64 ((m : Nat) : Int), .int .i64 ((b : Nat) : Int), .func (.func 98) #[] #[.pointer (some ⟨cb, 0, none⟩)]] w fun ε w' => ∃ (γ' : Tg), ε = .returned (.tuple #[]) ∧ Mv (fun ξ => ξ = t) w γ w' γ' ∧ Gs t 55 8 Edit.cells w' γ' s (pre ++ mrg (ltEdit l) [x] B ++ post) := by
 have hm' : m = pre.length + 1 := hm
 have hb' : b = pre.length + 1 + B.length := hb
 have hl' : pre.length + 1 + B.length + post.length ≤ 100000 := hl
 have K0 := Kn.start (fun ξ => ξ = t) w γ
 refine W.enter (ws := [(4, .func (.func 98) #[] #[.pointer (some ⟨cb, 0, none⟩)]), (3, .int .i64 ↑b), (2, .int .i64 ↑m), (1, .int .i64 ↑a), (0, .slice s.a s.n s.c)]) 220 Try.func109 rfl (by kernel_rfl) ?_
 have n1 := hG.len
 refine wp_seq_k fun k1 hk1 => (wp_seq_k fun k2 hk2 => (wp_region_lit ?_))
 refine Zb 25 (.int .i64 ↑m) ?_
 refine Zb 26 (.int .i64 ↑a) ?_
 refine Zc 27 (.int .i64 (((m : Nat) : Int) - ((a : Nat) : Int))) (okv (v := .int .i64 (IntKind.i64.wrap (((m : Nat) : Int) - ((a : Nat) : Int)))) (by kernel_rfl) (wrapi (by omega) (by omega))) ?_
 by_cases t1 : (((m : Nat) : Int) - ((a : Nat) : Int)) = 1
 ·refine Zc 28 (.bool true) (okv (by kernel_rfl) (congrArg Value.bool (beq_iff_eq.2 t1))) ?_
  refine wpList_nil (hk2 _ _ (W.cond true rfl (wp_seq_k fun k3 hk3 => (wp_region_lit ?_))))
  refine Zb 29 (.int .i64 ↑m) ?_
  refine Zb 10 (.int .i64 ↑m) ?_
  refine wpList_nil (hk3 _ _ (wp_seq_k fun k4 hk4 => (wp_region_lit ?_)))
  refine Zb 30 (.int .i64 ↑b) ?_
  refine Zb 11 (.int .i64 ↑b) ?_
  refine wpList_nil (hk4 _ _ (wp_seq_k fun k5 hk5 => (wp_block ?_)))
  refine W.loop (fun (μ0 : Nat) (ws : List (Nat × Value)) (w' : World) => ∃ (i0 : Nat) (j0 : Nat) (γ' : Tg) (ρ0 : List (Nat × Value)), μ0 = j0 - i0 ∧ ws = ((11, .int .i64 (((m + j0) : Nat) : Int)) :: (10, .int .i64 (((m + i0) : Nat) : Int)) :: (4, .func (.func 98) #[] #[.pointer (some ⟨cb, 0, none⟩)]) :: (1, .int .i64 ↑a) :: (0, .slice s.a s.n s.c) :: ρ0) ∧ Kn (fun ξ => ξ = t) w γ [] w' γ' ∧ Mv (Rg 1 (t + 1)) w γ w' γ' ∧ (i0 ≤ j0) ∧ (j0 ≤ B.length) ∧ (∀ z ∈ B.take i0, (ltEdit l) z x = true) ∧ (∀ z ∈ B.drop j0, (ltEdit l) z x = false) ∧ Gs t 55 8 Edit.cells w' γ' s (pre ++ [x] ++ B ++ post) ∧ Cl 0 w' γ' cb 0 (.int .i64 ↑l)) (B.length - 0) (((((look_eq (t := 0) (v := .slice s.a s.n s.c) rfl).trans (look_eq (t := 1) (v := .int .i64 ↑a) rfl)).trans (look_eq (t := 4) (v := .func (.func 98) #[] #[.pointer (some ⟨cb, 0, none⟩)]) rfl)).trans (look_eq (t := 10) (v := .int .i64 (((m + 0) : Nat) : Int)) rfl)).trans (look_eq (t := 11) (v := .int .i64 (((m + B.length) : Nat) : Int)) (nat_v (by omega)))) ?_ ?_
  ·exact ⟨0, B.length, _, _, rfl, rfl, K0, Mv.refl _ _ _, by omega, by omega, by simp, by simp, hG, hlv⟩
  ·rintro _ _ w1 ⟨i0, j0, g1, r1, rfl, rfl, K1, M1, p1, p2, p3, p4, h1, h2⟩
   have n2 := h1.len
   refine wp_seq_k fun k6 hk6 => (wp_seq_k fun k7 hk7 => (wp_region_lit ?_))
   refine Zb 31 (.int .i64 (((m + i0) : Nat) : Int)) ?_
   refine Zb 32 (.int .i64 (((m + j0) : Nat) : Int)) ?_
   by_cases t2 : (((m + i0) : Nat) : Int) < (((m + j0) : Nat) : Int)
   ·refine Zc 33 (.bool true) (okv (by kernel_rfl) (congrArg Value.bool (decide_eq_true t2))) ?_
    refine wpList_nil (hk7 _ _ (W.cond true rfl (wp_skip (hk6 _ _ (wp_block (wp_seq_k fun k8 hk8 => ?_))))))
    refine wp_region_lit ?_
    refine Zb 34 (.int .i64 (((m + i0) : Nat) : Int)) ?_
    refine Zb 35 (.int .i64 (((m + j0) : Nat) : Int)) ?_
    refine Zc 36 (.int .i64 (((m + i0) + (m + j0) : Nat) : Int)) (okv (v := .int .i64 (IntKind.i64.wrap ((((m + i0) : Nat) : Int) + (((m + j0) : Nat) : Int)))) (by kernel_rfl) (wrapn (by omega) (by omega))) ?_
    refine Zc 37 (.int .u64 ((m + i0 + (m + j0) : Nat) : Int)) (okv (by kernel_rfl) (up64_v (by omega))) ?_
    refine Zc 38 (.int .u64 (((m + i0 + (m + j0)) / 2 : Nat) : Int)) (okv (by kernel_rfl) (shr1_v)) ?_
    refine Zc 39 (.int .i64 (((m + (i0 + j0) / 2) : Nat) : Int)) (okv (by kernel_rfl) ((to_i64 (a := (m + i0 + (m + j0)) / 2) (by omega)).trans (nat_v (a := (m + i0 + (m + j0)) / 2) (b := m + (i0 + j0) / 2) (by omega)))) ?_
    refine Zb 12 (.int .i64 (((m + (i0 + j0) / 2) : Nat) : Int)) ?_
    refine wpList_nil (hk8 _ _ (wp_seq_k fun k9 hk9 => (wp_region_G (SmL [(4, Nt), (8, Nt)] w1 g1) (by kernel_rfl) ?_)))
    have K2 := K1.drew
    have M2 : Mv Nt w1 g1 w1.drew g1 := (Mv.refl _ _ _).drew
    refine Yb 0 40 (.func (.func 98) #[] #[.pointer (some ⟨cb, 0, none⟩)]) rfl (fun u => by kernel_rfl) ?_
    refine Yb 1 41 (.slice s.a s.n s.c) rfl (fun u => by kernel_rfl) ?_
    refine Yb 2 42 (.int .i64 (((m + (i0 + j0) / 2) : Nat) : Int)) rfl (fun u => by kernel_rfl) ?_
    obtain ⟨z, hz⟩ := get_some (xs := B) (i := (i0 + j0) / 2) (by omega)
    obtain ⟨b1, ha1, hib1, hr1⟩ := h1.elt (get_mid (i := (m + (i0 + j0) / 2)) (A := pre ++ [x]) (B := B) (C := post) rfl hz (by simp only [List.length_append, List.length_cons, List.length_nil]; omega))
    refine Yb 3 43 (.pointer (some ⟨b1, 0 + (m + (i0 + j0) / 2) * 8, none⟩)) rfl (fun u => (exec_index (E := 55) (k := (m + (i0 + j0) / 2)) rfl (by kernel_rfl) (by kernel_rfl) rfl ha1 rfl hib1)) ?_
    refine G.take 4 44 (.agg z.cells.toArray) rfl (by kernel_rfl) rfl (fun _ _ _ h => h) ((Mv.refl _ _ _).trans (M2.mono (fun _ h => h))).self (by kernel_rfl) (fun u hm => exec_loads (cs := z.cells) rfl rfl Ty55 rfl (hr1.mv hm quiet).2.2) ?_
    refine Yb 5 45 (.slice s.a s.n s.c) rfl (fun u => by kernel_rfl) ?_
    refine Yb 6 46 (.int .i64 ↑a) rfl (fun u => by kernel_rfl) ?_
    obtain ⟨b2, ha2, hib2, hr2⟩ := h1.elt (get_at (i := a) (x := x) (A := pre) (B := B ++ post) (by simp) ha)
    refine Yb 7 47 (.pointer (some ⟨b2, 0 + a * 8, none⟩)) rfl (fun u => (exec_index (E := 55) (k := a) rfl (by kernel_rfl) (by kernel_rfl) rfl ha2 rfl hib2)) ?_
    refine G.take 8 48 (.agg x.cells.toArray) rfl (by kernel_rfl) rfl (fun _ _ _ h => h) ((Mv.refl _ _ _).trans (M2.mono (fun _ h => h))).self (by kernel_rfl) (fun u hm => exec_loads (cs := x.cells) rfl rfl Ty55 rfl (hr2.mv hm quiet).2.2) ?_
    have hhlv_1 := h2.mv M2 quiet
    refine G.op 9 (by kernel_rfl) rfl (O.call 49 98 #[.agg z.cells.toArray, .agg x.cells.toArray, .pointer (some ⟨cb, 0, none⟩)] (by kernel_rfl) rfl (by kernel_rfl) ((partedCmp_c z x cb 0 l w1.drew g1 hhlv_1 (hok z (by first | exact List.mem_append_right _ (List.mem_of_getElem? hz) | exact List.mem_append_left _ (List.mem_of_getElem? hz))) (hok x (by simp))).mono ?_))
    rintro e1 w2 ⟨g2, rfl, M3⟩
    have K3 := K2.step M3 nt_le quiet
    refine ⟨_, rfl, ⟨kp_nt ((Mv.refl _ _ _).trans M3) _, ?_⟩⟩
    by_cases t3 : (cmpI ((digitOf z.it.key l : Nat) : Int) ((digitOf x.it.key l : Nat) : Int)) < 0
    ·refine Yb 10 50 (.bool true) rfl (fun u => okv ((fun u => by kernel_rfl) u) (congrArg Value.bool (decide_eq_true t3))) ?_
     refine G.fin (by kernel_rfl) ?_
     refine hk9 _ _ (W.cond true rfl (wp_region_lit ?_))
     refine Zb 51 (.int .i64 (((m + (i0 + j0) / 2) : Nat) : Int)) ?_
     refine Zc 52 (.int .i64 (((m + (i0 + j0) / 2) + 1 : Nat) : Int)) (okv (v := .int .i64 (IntKind.i64.wrap ((((m + (i0 + j0) / 2) : Nat) : Int) + 1))) (by kernel_rfl) (wrapn (by omega) (by omega))) ?_
     refine Zb 10 (.int .i64 (((m + (i0 + j0) / 2) + 1 : Nat) : Int)) ?_
     refine wpList_nil (block_normal ?_)
     have hhG_1 := h1.mv M2 quiet
     have hhG_2 := hhG_1.mv M3 quiet
     have hhlv_2 := hhlv_1.mv M3 quiet
     exact ⟨j0 - ((i0 + j0) / 2 + 1), _, by omega, (((((look_eq (t := 0) (v := .slice s.a s.n s.c) rfl).trans (look_eq (t := 1) (v := .int .i64 ↑a) rfl)).trans (look_eq (t := 4) (v := .func (.func 98) #[] #[.pointer (some ⟨cb, 0, none⟩)]) rfl)).trans (look_eq (t := 10) (v := .int .i64 (((m + ((i0 + j0) / 2 + 1)) : Nat) : Int)) rfl)).trans (look_eq (t := 11) (v := .int .i64 (((m + j0) : Nat) : Int)) rfl)), ⟨((i0 + j0) / 2 + 1), j0, _, _, rfl, rfl, K3, ((M1.trans (M2.mono nt_le)).trans (M3.mono nt_le)), by omega, p2, srch_up Lin.edit hsB hz (decide_eq_true t3), p4, hhG_2, hhlv_2⟩⟩
    ·refine Yb 10 50 (.bool false) rfl (fun u => okv ((fun u => by kernel_rfl) u) (congrArg Value.bool (decide_eq_false t3))) ?_
     refine G.fin (by kernel_rfl) ?_
     refine hk9 _ _ (W.cond false rfl (wp_region_lit ?_))
     refine Zb 53 (.int .i64 (((m + (i0 + j0) / 2) : Nat) : Int)) ?_
     refine Zb 11 (.int .i64 (((m + (i0 + j0) / 2) : Nat) : Int)) ?_
     refine wpList_nil (block_normal ?_)
     have hhG_3 := h1.mv M2 quiet
     have hhG_4 := hhG_3.mv M3 quiet
     have hhlv_3 := hhlv_1.mv M3 quiet
     exact ⟨((i0 + j0) / 2) - i0, _, by omega, (((((look_eq (t := 0) (v := .slice s.a s.n s.c) rfl).trans (look_eq (t := 1) (v := .int .i64 ↑a) rfl)).trans (look_eq (t := 4) (v := .func (.func 98) #[] #[.pointer (some ⟨cb, 0, none⟩)]) rfl)).trans (look_eq (t := 10) (v := .int .i64 (((m + i0) : Nat) : Int)) rfl)).trans (look_eq (t := 11) (v := .int .i64 (((m + ((i0 + j0) / 2)) : Nat) : Int)) rfl)), ⟨i0, ((i0 + j0) / 2), _, _, rfl, rfl, K3, ((M1.trans (M2.mono nt_le)).trans (M3.mono nt_le)), by omega, by omega, p3, srch_dn Lin.edit hsB hz (decide_eq_false t3), hhG_4, hhlv_3⟩⟩
   ·refine Zc 33 (.bool false) (okv (by kernel_rfl) (congrArg Value.bool (decide_eq_false t2))) ?_
    refine wpList_nil (hk7 _ _ (W.cond false rfl (wp_exit (then_exit ?_))))
    have hij : i0 = j0 := by omega
    refine then_exit (block_exit (hk5 _ _ (wp_seq_k fun k10 hk10 => (wp_seq_k fun k11 hk11 => (wp_region_lit ?_)))))
    refine Zb 54 (.int .i64 ↑a) ?_
    refine Zb 13 (.int .i64 ↑a) ?_
    refine wpList_nil (hk11 _ _ (wp_block ?_))
    refine W.loop (fun (μ0 : Nat) (ws : List (Nat × Value)) (w' : World) => ∃ (k : Nat) (U : List Edit) (V : List Edit) (γ' : Tg) (ρ0 : List (Nat × Value)), μ0 = a + i0 - k ∧ ws = ((13, .int .i64 ↑k) :: (10, .int .i64 (((m + i0) : Nat) : Int)) :: (0, .slice s.a s.n s.c) :: ρ0) ∧ Kn (fun ξ => ξ = t) w γ [] w' γ' ∧ Mv (Rg 1 (t + 1)) w1 g1 w' γ' ∧ (B.take i0 = U ++ V) ∧ (k = a + U.length) ∧ Gs t 55 8 Edit.cells w' γ' s (pre ++ U ++ x :: V ++ (B.drop i0 ++ post)) ∧ Cl 0 w' γ' cb 0 (.int .i64 ↑l)) (a + i0 - a) (((look_eq (t := 0) (v := .slice s.a s.n s.c) rfl).trans (look_eq (t := 10) (v := .int .i64 (((m + i0) : Nat) : Int)) rfl)).trans (look_eq (t := 13) (v := .int .i64 ↑a) rfl)) ?_ ?_
    ·exact ⟨a, [], (B.take i0), _, _, rfl, rfl, K1, Mv.refl _ _ _, by simp, rfl, (by have h := h1; rw [show pre ++ [x] ++ B ++ post = pre ++ [] ++ x :: B.take i0 ++ (B.drop i0 ++ post) from by rw [show x :: B.take i0 = [x] ++ B.take i0 from rfl]; simp only [List.append_assoc, List.nil_append]; rw [← List.append_assoc (B.take i0), List.take_append_drop]] at h; exact h), h2⟩
    ·rintro _ _ w3 ⟨k, U, V, g3, r2, rfl, rfl, K4, M4, p5, p6, h3, h4⟩
     have n3 := h3.len
     refine wp_seq_k fun k12 hk12 => (wp_seq_k fun k13 hk13 => (wp_region_lit ?_))
     refine Zb 55 (.int .i64 ↑k) ?_
     refine Zb 56 (.int .i64 (((m + i0) : Nat) : Int)) ?_
     refine Zc 57 (.int .i64 (((m + i0) - 1 : Nat) : Int)) (okv (v := .int .i64 (IntKind.i64.wrap ((((m + i0) : Nat) : Int) - 1))) (by kernel_rfl) (wrapn (by omega) (by omega))) ?_
     by_cases t4 : ((k : Nat) : Int) < (((m + i0) - 1 : Nat) : Int)
     ·refine Zc 58 (.bool true) (okv (by kernel_rfl) (congrArg Value.bool (decide_eq_true t4))) ?_
      refine wpList_nil (hk13 _ _ (W.cond true rfl (wp_skip (hk12 _ _ (wp_seq_k fun k14 hk14 => (wp_block ?_))))))
      refine wp_region_G (SmL [(9, Nt), (13, Nt)] w3 g3) (by kernel_rfl) ?_
      have K5 := K4.drew
      have M5 : Mv Nt w3 g3 w3.drew g3 := (Mv.refl _ _ _).drew
      refine Yb 0 61 (.slice s.a s.n s.c) rfl (fun u => by kernel_rfl) ?_
      refine Yb 1 62 (.int .i64 ↑k) rfl (fun u => by kernel_rfl) ?_
      refine Yb 2 63 (.slice s.a s.n s.c) rfl (fun u => by kernel_rfl) ?_
      refine Yb 3 64 (.int .i64 ↑k) rfl (fun u => by kernel_rfl) ?_
      refine Yb 4 65 (.int .i64 ((k + 1 : Nat) : Int)) rfl (fun u => okv (v := .int .i64 (IntKind.i64.wrap (((k : Nat) : Int) + 1))) ((fun u => by kernel_rfl) u) (wrapn (by omega) (by omega))) ?_
      refine Yb 5 66 (.slice s.a s.n s.c) rfl (fun u => by kernel_rfl) ?_
      refine Yb 6 67 (.int .i64 ↑k) rfl (fun u => by kernel_rfl) ?_
      refine Yb 7 68 (.int .i64 ((k + 1 : Nat) : Int)) rfl (fun u => okv (v := .int .i64 (IntKind.i64.wrap (((k : Nat) : Int) + 1))) ((fun u => by kernel_rfl) u) (wrapn (by omega) (by omega))) ?_
      have hlV : 0 < V.length := by have h1 := congrArg List.length p5; simp only [List.length_append, List.length_take] at h1; omega
      obtain ⟨y, V2, hV2⟩ := cons_of hlV
      have sw := swap_at (l := pre ++ U ++ x :: V ++ (B.drop i0 ++ post)) (x := x) (y := y) (A := pre ++ U) (M := []) (C := V2 ++ (B.drop i0 ++ post)) (i := k) (j := k + 1) (by rw [hV2]; simp) (by rw [List.length_append]; omega) (by simp only [List.length_append, List.length_nil]; omega)
      obtain ⟨b3, ha3, hib3, hr3⟩ := h3.elt sw.2.2.2.1
      refine Yb 8 69 (.pointer (some ⟨b3, 0 + (k + 1) * 8, none⟩)) rfl (fun u => (exec_index (E := 55) (k := k + 1) rfl (by kernel_rfl) (by kernel_rfl) rfl ha3 rfl hib3)) ?_
      refine G.take 9 70 (.agg y.cells.toArray) rfl (by kernel_rfl) rfl (fun _ _ _ h => h) ((Mv.refl _ _ _).trans (M5.mono (fun _ h => h))).self (by kernel_rfl) (fun u hm => exec_loads (cs := y.cells) rfl rfl Ty55 rfl (hr3.mv hm quiet).2.2) ?_
      refine Yb 10 71 (.slice s.a s.n s.c) rfl (fun u => by kernel_rfl) ?_
      refine Yb 11 72 (.int .i64 ↑k) rfl (fun u => by kernel_rfl) ?_
      obtain ⟨b4, ha4, hib4, hr4⟩ := h3.elt sw.2.2.1
      refine Yb 12 73 (.pointer (some ⟨b4, 0 + k * 8, none⟩)) rfl (fun u => (exec_index (E := 55) (k := k) rfl (by kernel_rfl) (by kernel_rfl) rfl ha4 rfl hib4)) ?_
      refine G.take 13 74 (.agg x.cells.toArray) rfl (by kernel_rfl) rfl (fun _ _ _ h => h) ((Mv.refl _ _ _).trans (M5.mono (fun _ h => h))).self (by kernel_rfl) (fun u hm => exec_loads (cs := x.cells) rfl rfl Ty55 rfl (hr4.mv hm quiet).2.2) ?_
      obtain ⟨b5, ha5, hib5, hr5⟩ := h3.elt sw.2.2.1
      refine Yb 14 75 (.pointer (some ⟨b5, 0 + k * 8, none⟩)) rfl (fun u => (exec_index (E := 55) (k := k) rfl (by kernel_rfl) (by kernel_rfl) rfl ha5 rfl hib5)) ?_
      have hhG_5 := h3.mv M5 quiet
      refine G.op 15 (by kernel_rfl) rfl (O.gset k y (by kernel_rfl) rfl rfl rfl rfl Ty55 (fun _ => rfl) hhG_5 (by first | omega | (simp only [List.length_set, List.length_append, List.length_cons] at *; omega)) ha5 fun w4 hG1 M6 => ⟨(kp_skip (by kernel_rfl) (kp_skip (by kernel_rfl) kp_nil)), ?_⟩)
      have K6 := K5.step M6 (fun _ h => h) (neq (by omega))
      have n4 := hG1.len
      obtain ⟨b6, ha6, hib6, hr6⟩ := h3.elt sw.2.2.2.1
      refine Yb 16 76 (.pointer (some ⟨b6, 0 + (k + 1) * 8, none⟩)) rfl (fun u => (exec_index (E := 55) (k := k + 1) rfl (by kernel_rfl) (by kernel_rfl) rfl ha6 rfl hib6)) ?_
      refine G.op 17 (by kernel_rfl) rfl (O.gset (k + 1) x (by kernel_rfl) rfl rfl rfl rfl Ty55 (fun _ => rfl) hG1 (by first | omega | (simp only [List.length_set, List.length_append, List.length_cons] at *; omega)) ha6 fun w5 hG2 M7 => ⟨(kp_skip (by kernel_rfl) (kp_skip (by kernel_rfl) kp_nil)), ?_⟩)
      have K7 := K6.step M7 (fun _ h => h) (neq (by omega))
      have n5 := hG2.len
      refine G.fin (by kernel_rfl) ?_
      refine block_normal (hk14 _ _ (wp_region_lit ?_))
      refine Zb 59 (.int .i64 ↑k) ?_
      refine Zc 60 (.int .i64 ((k + 1 : Nat) : Int)) (okv (v := .int .i64 (IntKind.i64.wrap (((k : Nat) : Int) + 1))) (by kernel_rfl) (wrapn (by omega) (by omega))) ?_
      refine Zb 13 (.int .i64 ((k + 1 : Nat) : Int)) ?_
      refine wpList_nil ?_
      have hhlv_4 := h4.mv M5 quiet
      have hhlv_5 := hhlv_4.mv M6 (neq (by omega))
      have hhlv_6 := hhlv_5.mv M7 (neq (by omega))
      exact ⟨a + i0 - (k + 1), _, by omega, (((look_eq (t := 0) (v := .slice s.a s.n s.c) rfl).trans (look_eq (t := 10) (v := .int .i64 (((m + i0) : Nat) : Int)) rfl)).trans (look_eq (t := 13) (v := .int .i64 (((k + 1) : Nat) : Int)) rfl)), ⟨(k + 1), (U ++ [y]), V2, _, _, rfl, rfl, K7, (((M4.trans (M5.mono nt_le)).trans (M6.mono (eq_rg (by omega)))).trans (M7.mono (eq_rg (by omega)))), by rw [p5, hV2]; simp, by rw [List.length_append, p6]; rfl, (by have h := hG2; rw [sw.1] at h; rw [show pre ++ (U ++ [y]) ++ x :: V2 ++ (B.drop i0 ++ post) = (pre ++ U) ++ y :: ([] ++ x :: (V2 ++ (B.drop i0 ++ post))) by simp]; exact h), hhlv_6⟩⟩
     ·refine Zc 58 (.bool false) (okv (by kernel_rfl) (congrArg Value.bool (decide_eq_false t4))) ?_
      refine wpList_nil (hk13 _ _ (W.cond false rfl (wp_exit (then_exit (then_exit (block_exit ?_))))))
      refine hk10 _ _ (wp_ret (then_ret (W.rets (vs := []) rfl .nil (by simp) ?_)))
      have hV9 : V = [] := List.eq_nil_of_length_eq_zero (by have h1 := congrArg List.length p5; simp only [List.length_append, List.length_take] at h1; omega)
      have hM9 := mrg_one_left (ltEdit l) x (B.take i0) (B.drop i0) p3 (by rw [hij]; exact p4)
      rw [List.take_append_drop] at hM9
      have hG9 := h3
      rw [show pre ++ U ++ x :: V ++ (B.drop i0 ++ post) = pre ++ mrg (ltEdit l) [x] B ++ post from by rw [hM9, hV9, p5, hV9]; simp] at hG9
      exact ⟨_, rfl, K4.mv, hG9⟩
 ·exfalso; omega

set_option maxRecDepth 100000 in
set_option maxHeartbeats 1000000 in
theorem symREdit (s : Sli) (pre : List Edit) (A : List Edit) (y : Edit) (post : List Edit) (t : Nat) (a : Nat) (m : Nat) (b : Nat) (cb : Nat) (l : Nat) (w : World) (γ : Tg) (hG : Gs t 55 8 Edit.cells w γ s (pre ++ A ++ [y] ++ post)) (ht : 2 ≤ t) (ha : a = pre.length) (hm : m = pre.length + A.length) (hb : b = pre.length + A.length + [y].length) (hA0 : 0 < A.length) (hB0 : 0 < [y].length) (hsA : Srt (ltEdit l) A) (hsB : Srt (ltEdit l) [y]) (hl : pre.length + A.length + [y].length + post.length ≤ 100000) (hlv : Cl 0 w γ cb 0 (.int .i64 ((l : Nat) : Int))) (hok : ∀ e ∈ A ++ [y], e.it.key.size < 9223372036854775807) (h1 : 1 < A.length) :
    Calls Try.prog 109 #[.slice s.a s.n s.c, .int .i64 ((a : Nat) : Int), .int .i64 ((m : Nat) : Int), .int .i64 ((b : Nat) : Int), .func (.func 98) #[] #[.pointer (some ⟨cb, 0, none⟩)]] w fun ε w' => ∃ (γ' : Tg), ε = .returned (.tuple #[]) ∧ Mv (fun ξ => ξ = t) w γ w' γ' ∧ Gs t 55 8 Edit.cells w' γ' s (pre ++ mrg (ltEdit l) A [y] ++ post) := by
 have hb' : b = pre.length + A.length + 1 := hb
 have hl' : pre.length + A.length + 1 + post.length ≤ 100000 := hl
 have K0 := Kn.start (fun ξ => ξ = t) w γ
 refine W.enter (ws := [(4, .func (.func 98) #[] #[.pointer (some ⟨cb, 0, none⟩)]), (3, .int .i64 ↑b), (2, .int .i64 ↑m), (1, .int .i64 ↑a), (0, .slice s.a s.n s.c)]) 220 Try.func109 rfl (by kernel_rfl) ?_
 have n1 := hG.len
 refine wp_seq_k fun k1 hk1 => (wp_seq_k fun k2 hk2 => (wp_region_lit ?_))
 refine Zb 25 (.int .i64 ↑m) ?_
 refine Zb 26 (.int .i64 ↑a) ?_
 refine Zc 27 (.int .i64 (((m : Nat) : Int) - ((a : Nat) : Int))) (okv (v := .int .i64 (IntKind.i64.wrap (((m : Nat) : Int) - ((a : Nat) : Int)))) (by kernel_rfl) (wrapi (by omega) (by omega))) ?_
 by_cases t1 : (((m : Nat) : Int) - ((a : Nat) : Int)) = 1
 ·exfalso; omega
 ·refine Zc 28 (.bool false) (okv (by kernel_rfl) (congrArg Value.bool (beq_eq_false_iff_ne.2 t1))) ?_
  refine wpList_nil (hk2 _ _ (W.cond false rfl (wp_skip (hk1 _ _ (wp_seq_k fun k3 hk3 => (wp_seq_k fun k4 hk4 => ?_))))))
  refine wp_region_lit ?_
  refine Zb 77 (.int .i64 ↑b) ?_
  refine Zb 78 (.int .i64 ↑m) ?_
  refine Zc 79 (.int .i64 (((b : Nat) : Int) - ((m : Nat) : Int))) (okv (v := .int .i64 (IntKind.i64.wrap (((b : Nat) : Int) - ((m : Nat) : Int)))) (by kernel_rfl) (wrapi (by omega) (by omega))) ?_
  by_cases t2 : (((b : Nat) : Int) - ((m : Nat) : Int)) = 1
  ·refine Zc 80 (.bool true) (okv (by kernel_rfl) (congrArg Value.bool (beq_iff_eq.2 t2))) ?_
   refine wpList_nil (hk4 _ _ (W.cond true rfl (wp_seq_k fun k5 hk5 => (wp_region_lit ?_))))
   refine Zb 81 (.int .i64 ↑a) ?_
   refine Zb 14 (.int .i64 ↑a) ?_
   refine wpList_nil (hk5 _ _ (wp_seq_k fun k6 hk6 => (wp_region_lit ?_)))
   refine Zb 82 (.int .i64 ↑m) ?_
   refine Zb 15 (.int .i64 ↑m) ?_
   refine wpList_nil (hk6 _ _ (wp_seq_k fun k7 hk7 => (wp_block ?_)))
   refine W.loop (fun (μ0 : Nat) (ws : List (Nat × Value)) (w' : World) => ∃ (i0 : Nat) (j0 : Nat) (γ' : Tg) (ρ0 : List (Nat × Value)), μ0 = j0 - i0 ∧ ws = ((15, .int .i64 (((a + j0) : Nat) : Int)) :: (14, .int .i64 (((a + i0) : Nat) : Int)) :: (4, .func (.func 98) #[] #[.pointer (some ⟨cb, 0, none⟩)]) :: (2, .int .i64 ↑m) :: (0, .slice s.a s.n s.c) :: ρ0) ∧ Kn (fun ξ => ξ = t) w γ [] w' γ' ∧ Mv (Rg 1 (t + 1)) w γ w' γ' ∧ (i0 ≤ j0) ∧ (j0 ≤ A.length) ∧ (∀ z ∈ A.take i0, (ltEdit l) y z = false) ∧ (∀ z ∈ A.drop j0, (ltEdit l) y z = true) ∧ Gs t 55 8 Edit.cells w' γ' s (pre ++ A ++ [y] ++ post) ∧ Cl 0 w' γ' cb 0 (.int .i64 ↑l)) (A.length - 0) (((((look_eq (t := 0) (v := .slice s.a s.n s.c) rfl).trans (look_eq (t := 2) (v := .int .i64 ↑m) rfl)).trans (look_eq (t := 4) (v := .func (.func 98) #[] #[.pointer (some ⟨cb, 0, none⟩)]) rfl)).trans (look_eq (t := 14) (v := .int .i64 (((a + 0) : Nat) : Int)) rfl)).trans (look_eq (t := 15) (v := .int .i64 (((a + A.length) : Nat) : Int)) (nat_v (by omega)))) ?_ ?_
   ·exact ⟨0, A.length, _, _, rfl, rfl, K0, Mv.refl _ _ _, by omega, by omega, by simp, by simp, hG, hlv⟩
   ·rintro _ _ w1 ⟨i0, j0, g1, r1, rfl, rfl, K1, M1, p1, p2, p3, p4, h1, h2⟩
    have n2 := h1.len
    refine wp_seq_k fun k8 hk8 => (wp_seq_k fun k9 hk9 => (wp_region_lit ?_))
    refine Zb 83 (.int .i64 (((a + i0) : Nat) : Int)) ?_
    refine Zb 84 (.int .i64 (((a + j0) : Nat) : Int)) ?_
    by_cases t3 : (((a + i0) : Nat) : Int) < (((a + j0) : Nat) : Int)
    ·refine Zc 85 (.bool true) (okv (by kernel_rfl) (congrArg Value.bool (decide_eq_true t3))) ?_
     refine wpList_nil (hk9 _ _ (W.cond true rfl (wp_skip (hk8 _ _ (wp_block (wp_seq_k fun k10 hk10 => ?_))))))
     refine wp_region_lit ?_
     refine Zb 86 (.int .i64 (((a + i0) : Nat) : Int)) ?_
     refine Zb 87 (.int .i64 (((a + j0) : Nat) : Int)) ?_
     refine Zc 88 (.int .i64 (((a + i0) + (a + j0) : Nat) : Int)) (okv (v := .int .i64 (IntKind.i64.wrap ((((a + i0) : Nat) : Int) + (((a + j0) : Nat) : Int)))) (by kernel_rfl) (wrapn (by omega) (by omega))) ?_
     refine Zc 89 (.int .u64 ((a + i0 + (a + j0) : Nat) : Int)) (okv (by kernel_rfl) (up64_v (by omega))) ?_
     refine Zc 90 (.int .u64 (((a + i0 + (a + j0)) / 2 : Nat) : Int)) (okv (by kernel_rfl) (shr1_v)) ?_
     refine Zc 91 (.int .i64 (((a + (i0 + j0) / 2) : Nat) : Int)) (okv (by kernel_rfl) ((to_i64 (a := (a + i0 + (a + j0)) / 2) (by omega)).trans (nat_v (a := (a + i0 + (a + j0)) / 2) (b := a + (i0 + j0) / 2) (by omega)))) ?_
     refine Zb 16 (.int .i64 (((a + (i0 + j0) / 2) : Nat) : Int)) ?_
     refine wpList_nil (hk10 _ _ (wp_seq_k fun k11 hk11 => (wp_region_G (SmL [(4, Nt), (8, Nt)] w1 g1) (by kernel_rfl) ?_)))
     have K2 := K1.drew
     have M2 : Mv Nt w1 g1 w1.drew g1 := (Mv.refl _ _ _).drew
     refine Yb 0 92 (.func (.func 98) #[] #[.pointer (some ⟨cb, 0, none⟩)]) rfl (fun u => by kernel_rfl) ?_
     refine Yb 1 93 (.slice s.a s.n s.c) rfl (fun u => by kernel_rfl) ?_
     refine Yb 2 94 (.int .i64 ↑m) rfl (fun u => by kernel_rfl) ?_
     obtain ⟨b1, ha1, hib1, hr1⟩ := h1.elt (get_at (i := m) (x := y) (A := pre ++ A) (B := post) (by simp) (by rw [List.length_append]; omega))
     refine Yb 3 95 (.pointer (some ⟨b1, 0 + m * 8, none⟩)) rfl (fun u => (exec_index (E := 55) (k := m) rfl (by kernel_rfl) (by kernel_rfl) rfl ha1 rfl hib1)) ?_
     refine G.take 4 96 (.agg y.cells.toArray) rfl (by kernel_rfl) rfl (fun _ _ _ h => h) ((Mv.refl _ _ _).trans (M2.mono (fun _ h => h))).self (by kernel_rfl) (fun u hm => exec_loads (cs := y.cells) rfl rfl Ty55 rfl (hr1.mv hm quiet).2.2) ?_
     refine Yb 5 97 (.slice s.a s.n s.c) rfl (fun u => by kernel_rfl) ?_
     refine Yb 6 98 (.int .i64 (((a + (i0 + j0) / 2) : Nat) : Int)) rfl (fun u => by kernel_rfl) ?_
     obtain ⟨z, hz⟩ := get_some (xs := A) (i := (i0 + j0) / 2) (by omega)
     obtain ⟨b2, ha2, hib2, hr2⟩ := h1.elt (get_mid (i := (a + (i0 + j0) / 2)) (A := pre) (B := A) (C := [y] ++ post) (by simp) hz (by omega))
     refine Yb 7 99 (.pointer (some ⟨b2, 0 + (a + (i0 + j0) / 2) * 8, none⟩)) rfl (fun u => (exec_index (E := 55) (k := (a + (i0 + j0) / 2)) rfl (by kernel_rfl) (by kernel_rfl) rfl ha2 rfl hib2)) ?_
     refine G.take 8 100 (.agg z.cells.toArray) rfl (by kernel_rfl) rfl (fun _ _ _ h => h) ((Mv.refl _ _ _).trans (M2.mono (fun _ h => h))).self (by kernel_rfl) (fun u hm => exec_loads (cs := z.cells) rfl rfl Ty55 rfl (hr2.mv hm quiet).2.2) ?_
     have hhlv_1 := h2.mv M2 quiet
     refine G.op 9 (by kernel_rfl) rfl (O.call 101 98 #[.agg y.cells.toArray, .agg z.cells.toArray, .pointer (some ⟨cb, 0, none⟩)] (by kernel_rfl) rfl (by kernel_rfl) ((partedCmp_c y z cb 0 l w1.drew g1 hhlv_1 (hok y (by simp)) (hok z (by first | exact List.mem_append_right _ (List.mem_of_getElem? hz) | exact List.mem_append_left _ (List.mem_of_getElem? hz)))).mono ?_))
     rintro e1 w2 ⟨g2, rfl, M3⟩
     have K3 := K2.step M3 nt_le quiet
     refine ⟨_, rfl, ⟨kp_nt ((Mv.refl _ _ _).trans M3) _, ?_⟩⟩
     by_cases t4 : (cmpI ((digitOf y.it.key l : Nat) : Int) ((digitOf z.it.key l : Nat) : Int)) < 0
     ·refine Yb 10 102 (.bool true) rfl (fun u => okv ((fun u => by kernel_rfl) u) (congrArg Value.bool (decide_eq_true t4))) ?_
      refine Yb 11 103 (.bool false) rfl (fun u => by kernel_rfl) ?_
      refine G.fin (by kernel_rfl) ?_
      refine hk11 _ _ (W.cond false rfl (wp_region_lit ?_))
      refine Zb 106 (.int .i64 (((a + (i0 + j0) / 2) : Nat) : Int)) ?_
      refine Zb 15 (.int .i64 (((a + (i0 + j0) / 2) : Nat) : Int)) ?_
      refine wpList_nil (block_normal ?_)
      have hhG_1 := h1.mv M2 quiet
      have hhG_2 := hhG_1.mv M3 quiet
      have hhlv_2 := hhlv_1.mv M3 quiet
      exact ⟨((i0 + j0) / 2) - i0, _, by omega, (((((look_eq (t := 0) (v := .slice s.a s.n s.c) rfl).trans (look_eq (t := 2) (v := .int .i64 ↑m) rfl)).trans (look_eq (t := 4) (v := .func (.func 98) #[] #[.pointer (some ⟨cb, 0, none⟩)]) rfl)).trans (look_eq (t := 14) (v := .int .i64 (((a + i0) : Nat) : Int)) rfl)).trans (look_eq (t := 15) (v := .int .i64 (((a + ((i0 + j0) / 2)) : Nat) : Int)) rfl)), ⟨i0, ((i0 + j0) / 2), _, _, rfl, rfl, K3, ((M1.trans (M2.mono nt_le)).trans (M3.mono nt_le)), by omega, by omega, p3, srch_dn2 Lin.edit hsA hz (decide_eq_true t4), hhG_2, hhlv_2⟩⟩
     ·refine Yb 10 102 (.bool false) rfl (fun u => okv ((fun u => by kernel_rfl) u) (congrArg Value.bool (decide_eq_false t4))) ?_
      refine Yb 11 103 (.bool true) rfl (fun u => by kernel_rfl) ?_
      refine G.fin (by kernel_rfl) ?_
      refine hk11 _ _ (W.cond true rfl (wp_region_lit ?_))
      refine Zb 104 (.int .i64 (((a + (i0 + j0) / 2) : Nat) : Int)) ?_
      refine Zc 105 (.int .i64 (((a + (i0 + j0) / 2) + 1 : Nat) : Int)) (okv (v := .int .i64 (IntKind.i64.wrap ((((a + (i0 + j0) / 2) : Nat) : Int) + 1))) (by kernel_rfl) (wrapn (by omega) (by omega))) ?_
      refine Zb 14 (.int .i64 (((a + (i0 + j0) / 2) + 1 : Nat) : Int)) ?_
      refine wpList_nil (block_normal ?_)
      have hhG_3 := h1.mv M2 quiet
      have hhG_4 := hhG_3.mv M3 quiet
      have hhlv_3 := hhlv_1.mv M3 quiet
      exact ⟨j0 - ((i0 + j0) / 2 + 1), _, by omega, (((((look_eq (t := 0) (v := .slice s.a s.n s.c) rfl).trans (look_eq (t := 2) (v := .int .i64 ↑m) rfl)).trans (look_eq (t := 4) (v := .func (.func 98) #[] #[.pointer (some ⟨cb, 0, none⟩)]) rfl)).trans (look_eq (t := 14) (v := .int .i64 (((a + ((i0 + j0) / 2 + 1)) : Nat) : Int)) rfl)).trans (look_eq (t := 15) (v := .int .i64 (((a + j0) : Nat) : Int)) rfl)), ⟨((i0 + j0) / 2 + 1), j0, _, _, rfl, rfl, K3, ((M1.trans (M2.mono nt_le)).trans (M3.mono nt_le)), by omega, p2, srch_up2 Lin.edit hsA hz (decide_eq_false t4), p4, hhG_4, hhlv_3⟩⟩
    ·refine Zc 85 (.bool false) (okv (by kernel_rfl) (congrArg Value.bool (decide_eq_false t3))) ?_
     refine wpList_nil (hk9 _ _ (W.cond false rfl (wp_exit (then_exit ?_))))
     have hij : i0 = j0 := by omega
     refine then_exit (block_exit (hk7 _ _ (wp_seq_k fun k12 hk12 => (wp_seq_k fun k13 hk13 => (wp_region_lit ?_)))))
     refine Zb 107 (.int .i64 ↑m) ?_
     refine Zb 17 (.int .i64 ↑m) ?_
     refine wpList_nil (hk13 _ _ (wp_block ?_))
     refine W.loop (fun (μ0 : Nat) (ws : List (Nat × Value)) (w' : World) => ∃ (k : Nat) (U : List Edit) (V : List Edit) (γ' : Tg) (ρ0 : List (Nat × Value)), μ0 = k + 1 ∧ ws = ((17, .int .i64 ↑k) :: (14, .int .i64 (((a + i0) : Nat) : Int)) :: (0, .slice s.a s.n s.c) :: ρ0) ∧ Kn (fun ξ => ξ = t) w γ [] w' γ' ∧ Mv (Rg 1 (t + 1)) w1 g1 w' γ' ∧ (A.drop i0 = U ++ V) ∧ (k = a + i0 + U.length) ∧ (k ≤ 100000) ∧ Gs t 55 8 Edit.cells w' γ' s (pre ++ A.take i0 ++ U ++ y :: V ++ post) ∧ Cl 0 w' γ' cb 0 (.int .i64 ↑l)) (m + 1) (((look_eq (t := 0) (v := .slice s.a s.n s.c) rfl).trans (look_eq (t := 14) (v := .int .i64 (((a + i0) : Nat) : Int)) rfl)).trans (look_eq (t := 17) (v := .int .i64 ↑m) rfl)) ?_ ?_
     ·exact ⟨m, (A.drop i0), [], _, _, rfl, rfl, K1, Mv.refl _ _ _, by simp, by rw [List.length_drop]; omega, by omega, (by have h := h1; rw [show pre ++ A ++ [y] ++ post = pre ++ A.take i0 ++ A.drop i0 ++ y :: [] ++ post from by rw [List.append_assoc pre (A.take i0) (A.drop i0), List.take_append_drop]] at h; exact h), h2⟩
     ·rintro _ _ w3 ⟨k, U, V, g3, r2, rfl, rfl, K4, M4, p5, p6, p7, h3, h4⟩
      have n3 := h3.len
      refine wp_seq_k fun k14 hk14 => (wp_seq_k fun k15 hk15 => (wp_region_lit ?_))
      refine Zb 108 (.int .i64 ↑k) ?_
      refine Zb 109 (.int .i64 (((a + i0) : Nat) : Int)) ?_
      by_cases t5 : ((k : Nat) : Int) > (((a + i0) : Nat) : Int)
      ·refine Zc 110 (.bool true) (okv (by kernel_rfl) (congrArg Value.bool (decide_eq_true t5))) ?_
       refine wpList_nil (hk15 _ _ (W.cond true rfl (wp_skip (hk14 _ _ (wp_seq_k fun k16 hk16 => (wp_block ?_))))))
       refine wp_region_G (SmL [(9, Nt), (13, Nt)] w3 g3) (by kernel_rfl) ?_
       have K5 := K4.drew
       have M5 : Mv Nt w3 g3 w3.drew g3 := (Mv.refl _ _ _).drew
       refine Yb 0 113 (.slice s.a s.n s.c) rfl (fun u => by kernel_rfl) ?_
       refine Yb 1 114 (.int .i64 ↑k) rfl (fun u => by kernel_rfl) ?_
       refine Yb 2 115 (.slice s.a s.n s.c) rfl (fun u => by kernel_rfl) ?_
       refine Yb 3 116 (.int .i64 ↑k) rfl (fun u => by kernel_rfl) ?_
       refine Yb 4 117 (.int .i64 ((k - 1 : Nat) : Int)) rfl (fun u => okv (v := .int .i64 (IntKind.i64.wrap (((k : Nat) : Int) - 1))) ((fun u => by kernel_rfl) u) (wrapn (by omega) (by omega))) ?_
       refine Yb 5 118 (.slice s.a s.n s.c) rfl (fun u => by kernel_rfl) ?_
       refine Yb 6 119 (.int .i64 ↑k) rfl (fun u => by kernel_rfl) ?_
       refine Yb 7 120 (.int .i64 ((k - 1 : Nat) : Int)) rfl (fun u => okv (v := .int .i64 (IntKind.i64.wrap (((k : Nat) : Int) - 1))) ((fun u => by kernel_rfl) u) (wrapn (by omega) (by omega))) ?_
       obtain ⟨U2, e9, hU2⟩ := exists_snoc (L := U) (by omega)
       have hlU := congrArg List.length hU2
       rw [List.length_append] at hlU
       simp only [List.length_cons, List.length_nil] at hlU
       have sw := swap_at (l := pre ++ A.take i0 ++ U ++ y :: V ++ post) (x := e9) (y := y) (A := pre ++ A.take i0 ++ U2) (M := []) (C := V ++ post) (i := k - 1) (j := k) (by rw [hU2]; simp) (by simp only [List.length_append, List.length_take]; omega) (by simp only [List.length_append, List.length_take, List.length_nil]; omega)
       obtain ⟨b3, ha3, hib3, hr3⟩ := h3.elt sw.2.2.1
       refine Yb 8 121 (.pointer (some ⟨b3, 0 + (k - 1) * 8, none⟩)) rfl (fun u => (exec_index (E := 55) (k := k - 1) rfl (by kernel_rfl) (by kernel_rfl) rfl ha3 rfl hib3)) ?_
       refine G.take 9 122 (.agg e9.cells.toArray) rfl (by kernel_rfl) rfl (fun _ _ _ h => h) ((Mv.refl _ _ _).trans (M5.mono (fun _ h => h))).self (by kernel_rfl) (fun u hm => exec_loads (cs := e9.cells) rfl rfl Ty55 rfl (hr3.mv hm quiet).2.2) ?_
       refine Yb 10 123 (.slice s.a s.n s.c) rfl (fun u => by kernel_rfl) ?_
       refine Yb 11 124 (.int .i64 ↑k) rfl (fun u => by kernel_rfl) ?_
       obtain ⟨b4, ha4, hib4, hr4⟩ := h3.elt sw.2.2.2.1
       refine Yb 12 125 (.pointer (some ⟨b4, 0 + k * 8, none⟩)) rfl (fun u => (exec_index (E := 55) (k := k) rfl (by kernel_rfl) (by kernel_rfl) rfl ha4 rfl hib4)) ?_
       refine G.take 13 126 (.agg y.cells.toArray) rfl (by kernel_rfl) rfl (fun _ _ _ h => h) ((Mv.refl _ _ _).trans (M5.mono (fun _ h => h))).self (by kernel_rfl) (fun u hm => exec_loads (cs := y.cells) rfl rfl Ty55 rfl (hr4.mv hm quiet).2.2) ?_
       obtain ⟨b5, ha5, hib5, hr5⟩ := h3.elt sw.2.2.2.1
       refine Yb 14 127 (.pointer (some ⟨b5, 0 + k * 8, none⟩)) rfl (fun u => (exec_index (E := 55) (k := k) rfl (by kernel_rfl) (by kernel_rfl) rfl ha5 rfl hib5)) ?_
       have hhG_5 := h3.mv M5 quiet
       refine G.op 15 (by kernel_rfl) rfl (O.gset k e9 (by kernel_rfl) rfl rfl rfl rfl Ty55 (fun _ => rfl) hhG_5 (by first | omega | (simp only [List.length_set, List.length_append, List.length_cons] at *; omega)) ha5 fun w4 hG1 M6 => ⟨(kp_skip (by kernel_rfl) (kp_skip (by kernel_rfl) kp_nil)), ?_⟩)
       have K6 := K5.step M6 (fun _ h => h) (neq (by omega))
       have n4 := hG1.len
       obtain ⟨b6, ha6, hib6, hr6⟩ := h3.elt sw.2.2.1
       refine Yb 16 128 (.pointer (some ⟨b6, 0 + (k - 1) * 8, none⟩)) rfl (fun u => (exec_index (E := 55) (k := k - 1) rfl (by kernel_rfl) (by kernel_rfl) rfl ha6 rfl hib6)) ?_
       refine G.op 17 (by kernel_rfl) rfl (O.gset (k - 1) y (by kernel_rfl) rfl rfl rfl rfl Ty55 (fun _ => rfl) hG1 (by first | omega | (simp only [List.length_set, List.length_append, List.length_cons] at *; omega)) ha6 fun w5 hG2 M7 => ⟨(kp_skip (by kernel_rfl) (kp_skip (by kernel_rfl) kp_nil)), ?_⟩)
       have K7 := K6.step M7 (fun _ h => h) (neq (by omega))
       have n5 := hG2.len
       refine G.fin (by kernel_rfl) ?_
       refine block_normal (hk16 _ _ (wp_region_lit ?_))
       refine Zb 111 (.int .i64 ↑k) ?_
       refine Zc 112 (.int .i64 ((k - 1 : Nat) : Int)) (okv (v := .int .i64 (IntKind.i64.wrap (((k : Nat) : Int) - 1))) (by kernel_rfl) (wrapn (by omega) (by omega))) ?_
       refine Zb 17 (.int .i64 ((k - 1 : Nat) : Int)) ?_
       refine wpList_nil ?_
       have hhlv_4 := h4.mv M5 quiet
       have hhlv_5 := hhlv_4.mv M6 (neq (by omega))
       have hhlv_6 := hhlv_5.mv M7 (neq (by omega))
       exact ⟨(k - 1) + 1, _, by omega, (((look_eq (t := 0) (v := .slice s.a s.n s.c) rfl).trans (look_eq (t := 14) (v := .int .i64 (((a + i0) : Nat) : Int)) rfl)).trans (look_eq (t := 17) (v := .int .i64 (((k - 1) : Nat) : Int)) rfl)), ⟨(k - 1), U2, (e9 :: V), _, _, rfl, rfl, K7, (((M4.trans (M5.mono nt_le)).trans (M6.mono (eq_rg (by omega)))).trans (M7.mono (eq_rg (by omega)))), by rw [p5, hU2]; simp, by omega, by omega, (by have h := hG2; rw [sw.2.1] at h; rw [show pre ++ A.take i0 ++ U2 ++ y :: (e9 :: V) ++ post = (pre ++ A.take i0 ++ U2) ++ y :: ([] ++ e9 :: (V ++ post)) by simp]; exact h), hhlv_6⟩⟩
      ·refine Zc 110 (.bool false) (okv (by kernel_rfl) (congrArg Value.bool (decide_eq_false t5))) ?_
       refine wpList_nil (hk15 _ _ (W.cond false rfl (wp_exit (then_exit (then_exit (block_exit ?_))))))
       refine hk12 _ _ (wp_ret (then_ret (W.rets (vs := []) rfl .nil (by simp) ?_)))
       have hU9 : U = [] := List.eq_nil_of_length_eq_zero (by omega)
       have hM9 := mrg_one_right (ltEdit l) y (A.take i0) (A.drop i0) p3 (by rw [hij]; exact p4)
       rw [List.take_append_drop] at hM9
       have hG9 := h3
       rw [show pre ++ A.take i0 ++ U ++ y :: V ++ post = pre ++ mrg (ltEdit l) A [y] ++ post from by rw [hM9, hU9, p5, hU9]; simp] at hG9
       exact ⟨_, rfl, K4.mv, hG9⟩
  ·exfalso; omega

set_option maxRecDepth 100000 in
set_option maxHeartbeats 1000000 in
theorem symMEdit (s : Sli) (pre : List Edit) (A : List Edit) (B : List Edit) (post : List Edit) (t : Nat) (a : Nat) (m : Nat) (b : Nat) (cb : Nat) (l : Nat) (w : World) (γ : Tg) (hG : Gs t 55 8 Edit.cells w γ s (pre ++ A ++ B ++ post)) (ht : 2 ≤ t) (ha : a = pre.length) (hm : m = pre.length + A.length) (hb : b = pre.length + A.length + B.length) (hA0 : 0 < A.length) (hB0 : 0 < B.length) (hsA : Srt (ltEdit l) A) (hsB : Srt (ltEdit l) B) (hl : pre.length + A.length + B.length + post.length ≤ 100000) (hlv : Cl 0 w γ cb 0 (.int .i64 ((l : Nat) : Int))) (hok : ∀ e ∈ A ++ B, e.it.key.size < 9223372036854775807) (h1 : 1 < A.length) (h2 : 1 < B.length) (hrec : ∀ (pre' A' B' post' : List Edit) (a' m' b' : Nat) (w : World) (γ : Tg), (Gs t 55 8 Edit.cells w γ s (pre' ++ A' ++ B' ++ post')) → (2 ≤ t) → (a' = pre'.length) → (m' = pre'.length + A'.length) → (b' = pre'.length + A'.length + B'.length) → (0 < A'.length) → (0 < B'.length) → (Srt (ltEdit l) A') → (Srt (ltEdit l) B') → (pre'.length + A'.length + B'.length + post'.length ≤ 100000) → (Cl 0 w γ cb 0 (.int .i64 ((l : Nat) : Int))) → (∀ e ∈ A' ++ B', e.it.key.size < 9223372036854775807) → A'.length + B'.length < A.length + B.length → Calls Try.prog 109 #[.slice s.a s.n s.c, .int .i64 ((a' : Nat) : Int), .int .i64 ((m' : Nat) : Int), .int .i64 ((b' : Nat) : Int), .func (.func 98) #[] #[.pointer (some ⟨cb, 0, none⟩)]] w fun ε w' => ∃ γ', ε = .returned (.tuple #[]) ∧ Mv (fun ξ => ξ = t) w γ w' γ' ∧ Gs t 55 8 Edit.cells w' γ' s (pre' ++ mrg (ltEdit l) A' B' ++ post')) :
    Calls Try.prog 109 #[.slice s.a s.n s.c, .int .i64 ((a : Nat) : Int), .int .i64 ((m : Nat) : Int), .int .i64 ((b : Nat) : Int), .func (.func 98) #[] #[.pointer (some ⟨cb, 0, none⟩)]] w fun ε w' => ∃ (γ' : Tg), ε = .returned (.tuple #[]) ∧ Mv (fun ξ => ξ = t) w γ w' γ' ∧ Gs t 55 8 Edit.cells w' γ' s (pre ++ mrg (ltEdit l) A B ++ post) := by
 obtain ⟨q, hq⟩ : ∃ q, q = (A.length + B.length) / 2 := ⟨_, rfl⟩
 have K0 := Kn.start (fun ξ => ξ = t) w γ
 refine W.enter (ws := [(4, .func (.func 98) #[] #[.pointer (some ⟨cb, 0, none⟩)]), (3, .int .i64 ↑b), (2, .int .i64 ↑m), (1, .int .i64 ↑a), (0, .slice s.a s.n s.c)]) 220 Try.func109 rfl (by kernel_rfl) ?_
 have n1 := hG.len
 refine wp_seq_k fun k1 hk1 => (wp_seq_k fun k2 hk2 => (wp_region_lit ?_))
 refine Zb 25 (.int .i64 ↑m) ?_
 refine Zb 26 (.int .i64 ↑a) ?_
 refine Zc 27 (.int .i64 (((m : Nat) : Int) - ((a : Nat) : Int))) (okv (v := .int .i64 (IntKind.i64.wrap (((m : Nat) : Int) - ((a : Nat) : Int)))) (by kernel_rfl) (wrapi (by omega) (by omega))) ?_
 by_cases t1 : (((m : Nat) : Int) - ((a : Nat) : Int)) = 1
 ·exfalso; omega
 ·refine Zc 28 (.bool false) (okv (by kernel_rfl) (congrArg Value.bool (beq_eq_false_iff_ne.2 t1))) ?_
  refine wpList_nil (hk2 _ _ (W.cond false rfl (wp_skip (hk1 _ _ (wp_seq_k fun k3 hk3 => (wp_seq_k fun k4 hk4 => ?_))))))
  refine wp_region_lit ?_
  refine Zb 77 (.int .i64 ↑b) ?_
  refine Zb 78 (.int .i64 ↑m) ?_
  refine Zc 79 (.int .i64 (((b : Nat) : Int) - ((m : Nat) : Int))) (okv (v := .int .i64 (IntKind.i64.wrap (((b : Nat) : Int) - ((m : Nat) : Int)))) (by kernel_rfl) (wrapi (by omega) (by omega))) ?_
  by_cases t2 : (((b : Nat) : Int) - ((m : Nat) : Int)) = 1
  ·exfalso; omega
  ·refine Zc 80 (.bool false) (okv (by kernel_rfl) (congrArg Value.bool (beq_eq_false_iff_ne.2 t2))) ?_
   refine wpList_nil (hk4 _ _ (W.cond false rfl (wp_skip (hk3 _ _ (wp_seq_k fun k5 hk5 => (wp_region_lit ?_))))))
   refine Zb 129 (.int .i64 ↑a) ?_
   refine Zb 130 (.int .i64 ↑b) ?_
   refine Zc 131 (.int .i64 ((a + b : Nat) : Int)) (okv (v := .int .i64 (IntKind.i64.wrap (((a : Nat) : Int) + ((b : Nat) : Int)))) (by kernel_rfl) (wrapn (by omega) (by omega))) ?_
   refine Zc 132 (.int .u64 ((a + b : Nat) : Int)) (okv (by kernel_rfl) (up64_v (by omega))) ?_
   refine Zc 133 (.int .u64 (((a + b) / 2 : Nat) : Int)) (okv (by kernel_rfl) (shr1_v)) ?_
   refine Zc 134 (.int .i64 (((a + q) : Nat) : Int)) (okv (by kernel_rfl) ((to_i64 (a := (a + b) / 2) (by omega)).trans (nat_v (a := (a + b) / 2) (b := a + q) (by omega)))) ?_
   refine Zb 18 (.int .i64 (((a + q) : Nat) : Int)) ?_
   refine wpList_nil (hk5 _ _ (wp_seq_k fun k6 hk6 => (wp_region_lit ?_)))
   refine Zb 135 (.int .i64 (((a + q) : Nat) : Int)) ?_
   refine Zb 136 (.int .i64 ↑m) ?_
   refine Zc 137 (.int .i64 (((a + q) + m : Nat) : Int)) (okv (v := .int .i64 (IntKind.i64.wrap ((((a + q) : Nat) : Int) + ((m : Nat) : Int)))) (by kernel_rfl) (wrapn (by omega) (by omega))) ?_
   refine Zb 19 (.int .i64 (((a + q) + m : Nat) : Int)) ?_
   refine wpList_nil (hk6 _ _ (wp_seq_k fun k7 hk7 => (wp_region_lit ?_)))
   refine Zb 20 (.int .i64 0) ?_
   refine Zb 21 (.int .i64 0) ?_
   refine wpList_nil (hk7 _ _ ?_)
   refine W.join (fun (ws : List (Nat × Value)) (w' : World) => ∃ (S : Nat) (R : Nat) (γ' : Tg) (ρ0 : List (Nat × Value)), ws = ((21, .int .i64 (((a + R) : Nat) : Int)) :: (20, .int .i64 (((a + S) : Nat) : Int)) :: (19, .int .i64 (((a + q) + m : Nat) : Int)) :: (18, .int .i64 (((a + q) : Nat) : Int)) :: (4, .func (.func 98) #[] #[.pointer (some ⟨cb, 0, none⟩)]) :: (3, .int .i64 ↑b) :: (2, .int .i64 ↑m) :: (1, .int .i64 ↑a) :: (0, .slice s.a s.n s.c) :: ρ0) ∧ Kn (fun ξ => ξ = t) w γ [] w' γ' ∧ Mv (Rg 1 (t + 1)) w γ w' γ' ∧ (S = 0 ∨ q = B.length + S) ∧ (R = A.length ∨ R = q) ∧ (S ≤ R) ∧ (R ≤ A.length) ∧ (R ≤ q) ∧ (q ≤ B.length + S) ∧ Gs t 55 8 Edit.cells w' γ' s (pre ++ A ++ B ++ post) ∧ Cl 0 w' γ' cb 0 (.int .i64 ↑l)) ?_ ?_
   ·refine wp_seq_k fun k8 hk8 => (wp_region_lit ?_)
    refine Zb 138 (.int .i64 ↑m) ?_
    refine Zb 139 (.int .i64 (((a + q) : Nat) : Int)) ?_
    by_cases t3 : ((m : Nat) : Int) > (((a + q) : Nat) : Int)
    ·refine Zc 140 (.bool true) (okv (by kernel_rfl) (congrArg Value.bool (decide_eq_true t3))) ?_
     refine wpList_nil (hk8 _ _ (W.cond true rfl (wp_seq_k fun k9 hk9 => (wp_region_lit ?_))))
     refine Zb 141 (.int .i64 (((a + q) + m : Nat) : Int)) ?_
     refine Zb 142 (.int .i64 ↑b) ?_
     refine Zc 143 (.int .i64 (((a + (q - B.length)) : Nat) : Int)) (okv (v := .int .i64 (IntKind.i64.wrap ((((a + q) + m : Nat) : Int) - ((b : Nat) : Int)))) (by kernel_rfl) (wrapn (by omega) (by omega))) ?_
     refine Zb 20 (.int .i64 (((a + (q - B.length)) : Nat) : Int)) ?_
     refine wpList_nil (hk9 _ _ (wp_region_lit ?_))
     refine Zb 144 (.int .i64 (((a + q) : Nat) : Int)) ?_
     refine Zb 21 (.int .i64 (((a + q) : Nat) : Int)) ?_
     refine wpList_nil ?_
     exact ⟨_, (((((((((look_eq (t := 0) (v := .slice s.a s.n s.c) rfl).trans (look_eq (t := 1) (v := .int .i64 ↑a) rfl)).trans (look_eq (t := 2) (v := .int .i64 ↑m) rfl)).trans (look_eq (t := 3) (v := .int .i64 ↑b) rfl)).trans (look_eq (t := 4) (v := .func (.func 98) #[] #[.pointer (some ⟨cb, 0, none⟩)]) rfl)).trans (look_eq (t := 18) (v := .int .i64 (((a + q) : Nat) : Int)) rfl)).trans (look_eq (t := 19) (v := .int .i64 (((a + q) + m : Nat) : Int)) rfl)).trans (look_eq (t := 20) (v := .int .i64 (((a + (q - B.length)) : Nat) : Int)) rfl)).trans (look_eq (t := 21) (v := .int .i64 (((a + q) : Nat) : Int)) rfl)), ⟨(q - B.length), q, _, _, rfl, K0, (Mv.refl _ _ _), by omega, by omega, by omega, by omega, by omega, by omega, hG, hlv⟩⟩
    ·refine Zc 140 (.bool false) (okv (by kernel_rfl) (congrArg Value.bool (decide_eq_false t3))) ?_
     refine wpList_nil (hk8 _ _ (W.cond false rfl (wp_seq_k fun k10 hk10 => (wp_region_lit ?_))))
     refine Zb 145 (.int .i64 ↑a) ?_
     refine Zb 20 (.int .i64 ↑a) ?_
     refine wpList_nil (hk10 _ _ (wp_region_lit ?_))
     refine Zb 146 (.int .i64 ↑m) ?_
     refine Zb 21 (.int .i64 ↑m) ?_
     refine wpList_nil ?_
     exact ⟨_, (((((((((look_eq (t := 0) (v := .slice s.a s.n s.c) rfl).trans (look_eq (t := 1) (v := .int .i64 ↑a) rfl)).trans (look_eq (t := 2) (v := .int .i64 ↑m) rfl)).trans (look_eq (t := 3) (v := .int .i64 ↑b) rfl)).trans (look_eq (t := 4) (v := .func (.func 98) #[] #[.pointer (some ⟨cb, 0, none⟩)]) rfl)).trans (look_eq (t := 18) (v := .int .i64 (((a + q) : Nat) : Int)) rfl)).trans (look_eq (t := 19) (v := .int .i64 (((a + q) + m : Nat) : Int)) rfl)).trans (look_eq (t := 20) (v := .int .i64 (((a + 0) : Nat) : Int)) rfl)).trans (look_eq (t := 21) (v := .int .i64 (((a + A.length) : Nat) : Int)) (nat_v (by omega)))), ⟨0, A.length, _, _, rfl, K0, (Mv.refl _ _ _), by omega, by omega, by omega, by omega, by omega, by omega, hG, hlv⟩⟩
   ·rintro _ w1 ⟨S, R, g1, r1, rfl, K1, M1, p1, p2, p3, p4, p5, p6, h1, h2⟩
    have n2 := h1.len
    refine wp_seq_k fun k11 hk11 => (wp_region_lit ?_)
    refine Zb 147 (.int .i64 (((a + q) + m : Nat) : Int)) ?_
    refine Zc 148 (.int .i64 (((a + q) + m - 1 : Nat) : Int)) (okv (v := .int .i64 (IntKind.i64.wrap ((((a + q) + m : Nat) : Int) - 1))) (by kernel_rfl) (wrapn (by omega) (by omega))) ?_
    refine Zb 22 (.int .i64 (((a + q) + m - 1 : Nat) : Int)) ?_
    refine wpList_nil (hk11 _ _ (wp_seq_k fun k12 hk12 => (wp_block ?_)))
    refine W.loop (fun (μ0 : Nat) (ws : List (Nat × Value)) (w' : World) => ∃ (s0 : Nat) (r0 : Nat) (γ' : Tg) (ρ0 : List (Nat × Value)), μ0 = r0 - s0 ∧ ws = ((22, .int .i64 (((a + q) + m - 1 : Nat) : Int)) :: (21, .int .i64 (((a + r0) : Nat) : Int)) :: (20, .int .i64 (((a + s0) : Nat) : Int)) :: (19, .int .i64 (((a + q) + m : Nat) : Int)) :: (18, .int .i64 (((a + q) : Nat) : Int)) :: (4, .func (.func 98) #[] #[.pointer (some ⟨cb, 0, none⟩)]) :: (3, .int .i64 ↑b) :: (2, .int .i64 ↑m) :: (1, .int .i64 ↑a) :: (0, .slice s.a s.n s.c) :: ρ0) ∧ Kn (fun ξ => ξ = t) w γ [] w' γ' ∧ Mv (Rg 1 (t + 1)) w1 g1 w' γ' ∧ (S ≤ s0) ∧ (s0 ≤ r0) ∧ (r0 ≤ R) ∧ (s0 = S ∨ ∃ x y, A[s0 - 1]? = some x ∧ B[q - s0]? = some y ∧ (ltEdit l) y x = false) ∧ (r0 = R ∨ ∃ x y, A[r0]? = some x ∧ B[q - 1 - r0]? = some y ∧ (ltEdit l) y x = true) ∧ Gs t 55 8 Edit.cells w' γ' s (pre ++ A ++ B ++ post) ∧ Cl 0 w' γ' cb 0 (.int .i64 ↑l)) (R - S) ((((((((((look_eq (t := 0) (v := .slice s.a s.n s.c) rfl).trans (look_eq (t := 1) (v := .int .i64 ↑a) rfl)).trans (look_eq (t := 2) (v := .int .i64 ↑m) rfl)).trans (look_eq (t := 3) (v := .int .i64 ↑b) rfl)).trans (look_eq (t := 4) (v := .func (.func 98) #[] #[.pointer (some ⟨cb, 0, none⟩)]) rfl)).trans (look_eq (t := 18) (v := .int .i64 (((a + q) : Nat) : Int)) rfl)).trans (look_eq (t := 19) (v := .int .i64 (((a + q) + m : Nat) : Int)) rfl)).trans (look_eq (t := 20) (v := .int .i64 (((a + S) : Nat) : Int)) rfl)).trans (look_eq (t := 21) (v := .int .i64 (((a + R) : Nat) : Int)) rfl)).trans (look_eq (t := 22) (v := .int .i64 (((a + q) + m - 1 : Nat) : Int)) rfl)) ?_ ?_
    ·exact ⟨S, R, _, _, rfl, rfl, K1, Mv.refl _ _ _, by omega, by omega, by omega, .inl rfl, .inl rfl, h1, h2⟩
    ·rintro _ _ w2 ⟨s0, r0, g2, r2, rfl, rfl, K2, M2, p7, p8, p9, p10, p11, h3, h4⟩
     have n3 := h3.len
     refine wp_seq_k fun k13 hk13 => (wp_seq_k fun k14 hk14 => (wp_region_lit ?_))
     refine Zb 149 (.int .i64 (((a + s0) : Nat) : Int)) ?_
     refine Zb 150 (.int .i64 (((a + r0) : Nat) : Int)) ?_
     by_cases t4 : (((a + s0) : Nat) : Int) < (((a + r0) : Nat) : Int)
     ·refine Zc 151 (.bool true) (okv (by kernel_rfl) (congrArg Value.bool (decide_eq_true t4))) ?_
      refine wpList_nil (hk14 _ _ (W.cond true rfl (wp_skip (hk13 _ _ (wp_block (wp_seq_k fun k15 hk15 => ?_))))))
      refine wp_region_lit ?_
      refine Zb 152 (.int .i64 (((a + s0) : Nat) : Int)) ?_
      refine Zb 153 (.int .i64 (((a + r0) : Nat) : Int)) ?_
      refine Zc 154 (.int .i64 (((a + s0) + (a + r0) : Nat) : Int)) (okv (v := .int .i64 (IntKind.i64.wrap ((((a + s0) : Nat) : Int) + (((a + r0) : Nat) : Int)))) (by kernel_rfl) (wrapn (by omega) (by omega))) ?_
      refine Zc 155 (.int .u64 ((a + s0 + (a + r0) : Nat) : Int)) (okv (by kernel_rfl) (up64_v (by omega))) ?_
      refine Zc 156 (.int .u64 (((a + s0 + (a + r0)) / 2 : Nat) : Int)) (okv (by kernel_rfl) (shr1_v)) ?_
      refine Zc 157 (.int .i64 (((a + (s0 + r0) / 2) : Nat) : Int)) (okv (by kernel_rfl) ((to_i64 (a := (a + s0 + (a + r0)) / 2) (by omega)).trans (nat_v (a := (a + s0 + (a + r0)) / 2) (b := a + (s0 + r0) / 2) (by omega)))) ?_
      refine Zb 23 (.int .i64 (((a + (s0 + r0) / 2) : Nat) : Int)) ?_
      refine wpList_nil (hk15 _ _ (wp_seq_k fun k16 hk16 => (wp_region_G (SmL [(6, Nt), (10, Nt)] w2 g2) (by kernel_rfl) ?_)))
      have K3 := K2.drew
      have M3 : Mv Nt w2 g2 w2.drew g2 := (Mv.refl _ _ _).drew
      refine Yb 0 158 (.func (.func 98) #[] #[.pointer (some ⟨cb, 0, none⟩)]) rfl (fun u => by kernel_rfl) ?_
      refine Yb 1 159 (.slice s.a s.n s.c) rfl (fun u => by kernel_rfl) ?_
      refine Yb 2 160 (.int .i64 (((a + q) + m - 1 : Nat) : Int)) rfl (fun u => by kernel_rfl) ?_
      refine Yb 3 161 (.int .i64 (((a + (s0 + r0) / 2) : Nat) : Int)) rfl (fun u => by kernel_rfl) ?_
      refine Yb 4 162 (.int .i64 (((m + (q - 1 - (s0 + r0) / 2)) : Nat) : Int)) rfl (fun u => okv (v := .int .i64 (IntKind.i64.wrap ((((a + q) + m - 1 : Nat) : Int) - (((a + (s0 + r0) / 2) : Nat) : Int)))) ((fun u => by kernel_rfl) u) (wrapn (by omega) (by omega))) ?_
      obtain ⟨x, hx⟩ := get_some (xs := A) (i := (s0 + r0) / 2) (by omega)
      obtain ⟨y, hy⟩ := get_some (xs := B) (i := q - 1 - (s0 + r0) / 2) (by omega)
      obtain ⟨b1, ha1, hib1, hr1⟩ := h3.elt (get_mid (i := (m + (q - 1 - (s0 + r0) / 2))) (A := pre ++ A) (B := B) (C := post) rfl hy (by simp only [List.length_append]; omega))
      refine Yb 5 163 (.pointer (some ⟨b1, 0 + (m + (q - 1 - (s0 + r0) / 2)) * 8, none⟩)) rfl (fun u => (exec_index (E := 55) (k := (m + (q - 1 - (s0 + r0) / 2))) rfl (by kernel_rfl) (by kernel_rfl) rfl ha1 rfl hib1)) ?_
      refine G.take 6 164 (.agg y.cells.toArray) rfl (by kernel_rfl) rfl (fun _ _ _ h => h) ((Mv.refl _ _ _).trans (M3.mono (fun _ h => h))).self (by kernel_rfl) (fun u hm => exec_loads (cs := y.cells) rfl rfl Ty55 rfl (hr1.mv hm quiet).2.2) ?_
      refine Yb 7 165 (.slice s.a s.n s.c) rfl (fun u => by kernel_rfl) ?_
      refine Yb 8 166 (.int .i64 (((a + (s0 + r0) / 2) : Nat) : Int)) rfl (fun u => by kernel_rfl) ?_
      obtain ⟨b2, ha2, hib2, hr2⟩ := h3.elt (get_mid (i := (a + (s0 + r0) / 2)) (A := pre) (B := A) (C := B ++ post) (by simp) hx (by omega))
      refine Yb 9 167 (.pointer (some ⟨b2, 0 + (a + (s0 + r0) / 2) * 8, none⟩)) rfl (fun u => (exec_index (E := 55) (k := (a + (s0 + r0) / 2)) rfl (by kernel_rfl) (by kernel_rfl) rfl ha2 rfl hib2)) ?_
      refine G.take 10 168 (.agg x.cells.toArray) rfl (by kernel_rfl) rfl (fun _ _ _ h => h) ((Mv.refl _ _ _).trans (M3.mono (fun _ h => h))).self (by kernel_rfl) (fun u hm => exec_loads (cs := x.cells) rfl rfl Ty55 rfl (hr2.mv hm quiet).2.2) ?_
      have hhlv_1 := h4.mv M3 quiet
      refine G.op 11 (by kernel_rfl) rfl (O.call 169 98 #[.agg y.cells.toArray, .agg x.cells.toArray, .pointer (some ⟨cb, 0, none⟩)] (by kernel_rfl) rfl (by kernel_rfl) ((partedCmp_c y x cb 0 l w2.drew g2 hhlv_1 (hok y (List.mem_append_right _ (List.mem_of_getElem? hy))) (hok x (List.mem_append_left _ (List.mem_of_getElem? hx)))).mono ?_))
      rintro e1 w3 ⟨g3, rfl, M4⟩
      have K4 := K3.step M4 nt_le quiet
      refine ⟨_, rfl, ⟨kp_nt ((Mv.refl _ _ _).trans M4) _, ?_⟩⟩
      by_cases t5 : (cmpI ((digitOf y.it.key l : Nat) : Int) ((digitOf x.it.key l : Nat) : Int)) < 0
      ·refine Yb 12 170 (.bool true) rfl (fun u => okv ((fun u => by kernel_rfl) u) (congrArg Value.bool (decide_eq_true t5))) ?_
       refine Yb 13 171 (.bool false) rfl (fun u => by kernel_rfl) ?_
       refine G.fin (by kernel_rfl) ?_
       refine hk16 _ _ (W.cond false rfl (wp_region_lit ?_))
       refine Zb 174 (.int .i64 (((a + (s0 + r0) / 2) : Nat) : Int)) ?_
       refine Zb 21 (.int .i64 (((a + (s0 + r0) / 2) : Nat) : Int)) ?_
       refine wpList_nil (block_normal ?_)
       have hhG_1 := h3.mv M3 quiet
       have hhG_2 := hhG_1.mv M4 quiet
       have hhlv_2 := hhlv_1.mv M4 quiet
       exact ⟨((s0 + r0) / 2) - s0, _, by omega, ((((((((((look_eq (t := 0) (v := .slice s.a s.n s.c) rfl).trans (look_eq (t := 1) (v := .int .i64 ↑a) rfl)).trans (look_eq (t := 2) (v := .int .i64 ↑m) rfl)).trans (look_eq (t := 3) (v := .int .i64 ↑b) rfl)).trans (look_eq (t := 4) (v := .func (.func 98) #[] #[.pointer (some ⟨cb, 0, none⟩)]) rfl)).trans (look_eq (t := 18) (v := .int .i64 (((a + q) : Nat) : Int)) rfl)).trans (look_eq (t := 19) (v := .int .i64 (((a + q) + m : Nat) : Int)) rfl)).trans (look_eq (t := 20) (v := .int .i64 (((a + s0) : Nat) : Int)) rfl)).trans (look_eq (t := 21) (v := .int .i64 (((a + ((s0 + r0) / 2)) : Nat) : Int)) rfl)).trans (look_eq (t := 22) (v := .int .i64 (((a + q) + m - 1 : Nat) : Int)) rfl)), ⟨s0, ((s0 + r0) / 2), _, _, rfl, rfl, K4, ((M2.trans (M3.mono nt_le)).trans (M4.mono nt_le)), p7, by omega, by omega, p10, .inr ⟨x, y, hx, hy, decide_eq_true t5⟩, hhG_2, hhlv_2⟩⟩
      ·refine Yb 12 170 (.bool false) rfl (fun u => okv ((fun u => by kernel_rfl) u) (congrArg Value.bool (decide_eq_false t5))) ?_
       refine Yb 13 171 (.bool true) rfl (fun u => by kernel_rfl) ?_
       refine G.fin (by kernel_rfl) ?_
       refine hk16 _ _ (W.cond true rfl (wp_region_lit ?_))
       refine Zb 172 (.int .i64 (((a + (s0 + r0) / 2) : Nat) : Int)) ?_
       refine Zc 173 (.int .i64 (((a + (s0 + r0) / 2) + 1 : Nat) : Int)) (okv (v := .int .i64 (IntKind.i64.wrap ((((a + (s0 + r0) / 2) : Nat) : Int) + 1))) (by kernel_rfl) (wrapn (by omega) (by omega))) ?_
       refine Zb 20 (.int .i64 (((a + (s0 + r0) / 2) + 1 : Nat) : Int)) ?_
       refine wpList_nil (block_normal ?_)
       have hhG_3 := h3.mv M3 quiet
       have hhG_4 := hhG_3.mv M4 quiet
       have hhlv_3 := hhlv_1.mv M4 quiet
       exact ⟨r0 - ((s0 + r0) / 2 + 1), _, by omega, ((((((((((look_eq (t := 0) (v := .slice s.a s.n s.c) rfl).trans (look_eq (t := 1) (v := .int .i64 ↑a) rfl)).trans (look_eq (t := 2) (v := .int .i64 ↑m) rfl)).trans (look_eq (t := 3) (v := .int .i64 ↑b) rfl)).trans (look_eq (t := 4) (v := .func (.func 98) #[] #[.pointer (some ⟨cb, 0, none⟩)]) rfl)).trans (look_eq (t := 18) (v := .int .i64 (((a + q) : Nat) : Int)) rfl)).trans (look_eq (t := 19) (v := .int .i64 (((a + q) + m : Nat) : Int)) rfl)).trans (look_eq (t := 20) (v := .int .i64 (((a + ((s0 + r0) / 2 + 1)) : Nat) : Int)) rfl)).trans (look_eq (t := 21) (v := .int .i64 (((a + r0) : Nat) : Int)) rfl)).trans (look_eq (t := 22) (v := .int .i64 (((a + q) + m - 1 : Nat) : Int)) rfl)), ⟨((s0 + r0) / 2 + 1), r0, _, _, rfl, rfl, K4, ((M2.trans (M3.mono nt_le)).trans (M4.mono nt_le)), by omega, by omega, p9, .inr ⟨x, y, by rw [show (s0 + r0) / 2 + 1 - 1 = (s0 + r0) / 2 by omega]; exact hx, by rw [show q - ((s0 + r0) / 2 + 1) = q - 1 - (s0 + r0) / 2 by omega]; exact hy, decide_eq_false t5⟩, p11, hhG_4, hhlv_3⟩⟩
     ·refine Zc 151 (.bool false) (okv (by kernel_rfl) (congrArg Value.bool (decide_eq_false t4))) ?_
      refine wpList_nil (hk14 _ _ (W.cond false rfl (wp_exit (then_exit ?_))))
      have hr9 : r0 = s0 := by omega
      have hR9 := p11
      rw [hr9] at hR9
      have key := sym_cut Lin.edit hsA hsB p1 p2 (s := s0) (by omega) (by omega) (by omega) p10 hR9 p7
      obtain ⟨A1, hA1⟩ : ∃ l, l = A.take s0 := ⟨_, rfl⟩
      obtain ⟨A2, hA2⟩ : ∃ l, l = A.drop s0 := ⟨_, rfl⟩
      obtain ⟨B1, hB1⟩ : ∃ l, l = B.take (q - s0) := ⟨_, rfl⟩
      obtain ⟨B2, hB2⟩ : ∃ l, l = B.drop (q - s0) := ⟨_, rfl⟩
      rw [← hA1, ← hA2, ← hB1, ← hB2] at key
      have lA1 : A1.length = s0 := by rw [hA1, List.length_take]; omega
      have lA2 : A2.length = A.length - s0 := by rw [hA2, List.length_drop]
      have lB1 : B1.length = q - s0 := by rw [hB1, List.length_take]; omega
      have lB2 : B2.length = B.length - (q - s0) := by rw [hB2, List.length_drop]
      have eA : A = A1 ++ A2 := by rw [hA1, hA2, List.take_append_drop]
      have eB : B = B1 ++ B2 := by rw [hB1, hB2, List.take_append_drop]
      have sA1 : Srt (ltEdit l) A1 := hsA.sublist (by rw [hA1]; exact List.take_sublist _ _)
      have sA2 : Srt (ltEdit l) A2 := hsA.sublist (by rw [hA2]; exact List.drop_sublist _ _)
      have sB1 : Srt (ltEdit l) B1 := hsB.sublist (by rw [hB1]; exact List.take_sublist _ _)
      have sB2 : Srt (ltEdit l) B2 := hsB.sublist (by rw [hB2]; exact List.drop_sublist _ _)
      have hG1 := h3
      rw [show pre ++ A ++ B ++ post = pre ++ A1 ++ A2 ++ B1 ++ B2 ++ post from by rw [eA, eB]; simp only [List.append_assoc]] at hG1
      have n4 := hG1.len
      refine then_exit (block_exit (hk12 _ _ (wp_seq_k fun k17 hk17 => (wp_region_lit ?_))))
      refine Zb 175 (.int .i64 (((a + q) + m : Nat) : Int)) ?_
      refine Zb 176 (.int .i64 (((a + s0) : Nat) : Int)) ?_
      refine Zc 177 (.int .i64 (((m + (q - s0)) : Nat) : Int)) (okv (v := .int .i64 (IntKind.i64.wrap ((((a + q) + m : Nat) : Int) - (((a + s0) : Nat) : Int)))) (by kernel_rfl) (wrapn (by omega) (by omega))) ?_
      refine Zb 24 (.int .i64 (((m + (q - s0)) : Nat) : Int)) ?_
      refine wpList_nil (hk17 _ _ ?_)
      refine W.join (fun (ws : List (Nat × Value)) (w' : World) => ∃  (γ' : Tg) (ρ0 : List (Nat × Value)), ws = ((24, .int .i64 (((m + (q - s0)) : Nat) : Int)) :: (20, .int .i64 (((a + s0) : Nat) : Int)) :: (18, .int .i64 (((a + q) : Nat) : Int)) :: (4, .func (.func 98) #[] #[.pointer (some ⟨cb, 0, none⟩)]) :: (3, .int .i64 ↑b) :: (1, .int .i64 ↑a) :: (0, .slice s.a s.n s.c) :: ρ0) ∧ Kn (fun ξ => ξ = t) w γ [] w' γ' ∧ Mv (Rg 1 (t + 1)) w2 g2 w' γ' ∧ Gs t 55 8 Edit.cells w' γ' s (pre ++ A1 ++ B1 ++ A2 ++ B2 ++ post) ∧ Cl 0 w' γ' cb 0 (.int .i64 ↑l)) ?_ ?_
      ·refine wp_seq_k fun k18 hk18 => (wp_region_lit ?_)
       refine Zb 178 (.int .i64 (((a + s0) : Nat) : Int)) ?_
       refine Zb 179 (.int .i64 ↑m) ?_
       by_cases t6 : (((a + s0) : Nat) : Int) < ((m : Nat) : Int)
       ·refine Zc 180 (.bool true) (okv (by kernel_rfl) (congrArg Value.bool (decide_eq_true t6))) ?_
        refine Zb 181 (.bool true) ?_
        refine Zd 182 (.int .i64 ↑m) ?_
        refine Zd 183 (.int .i64 (((m + (q - s0)) : Nat) : Int)) ?_
        by_cases t7 : ((m : Nat) : Int) < (((m + (q - s0)) : Nat) : Int)
        ·refine W.op (O.gv 184 (.bool true) (by kernel_rfl) rfl (okv (by kernel_rfl) (congrArg Value.bool (decide_eq_true t7))) ?_)
         refine Zb 185 (.bool true) ?_
         refine wpList_nil (hk18 _ _ (W.cond true rfl (wp_region_lit ?_)))
         refine Zb 186 (.slice s.a s.n s.c) ?_
         refine Zb 187 (.int .i64 (((a + s0) : Nat) : Int)) ?_
         refine Zb 188 (.int .i64 ↑m) ?_
         refine Zb 189 (.int .i64 (((m + (q - s0)) : Nat) : Int)) ?_
         refine Zb 190 (.func (.func 98) #[] #[.pointer (some ⟨cb, 0, none⟩)]) ?_
         refine W.op (O.call 191 111 #[.slice s.a s.n s.c, .int .i64 (((a + s0) : Nat) : Int), .int .i64 ↑m, .int .i64 (((m + (q - s0)) : Nat) : Int), .func (.func 98) #[] #[.pointer (some ⟨cb, 0, none⟩)]] (by kernel_rfl) rfl (by kernel_rfl) ((rotEdit_c s (pre ++ A1) A2 B1 (B2 ++ post) t (a + s0) m (m + (q - s0)) (.func (.func 98) #[] #[.pointer (some ⟨cb, 0, none⟩)]) w2 g2 (by have h := hG1; rw [show pre ++ A1 ++ A2 ++ B1 ++ B2 ++ post = (pre ++ A1) ++ A2 ++ B1 ++ (B2 ++ post) from by simp only [List.append_assoc]] at h; exact h) (by omega) (by first | omega | (simp only [List.length_append]; omega)) (by first | omega | (simp only [List.length_append]; omega)) (by first | omega | (simp only [List.length_append]; omega)) (by first | omega | (simp only [List.length_append]; omega)) (by first | omega | (simp only [List.length_append]; omega)) (by first | omega | (simp only [List.length_append]; omega))).mono ?_))
         rintro e2 w4 ⟨g4, rfl, M5, hq1⟩
         have K5 := K2.step M5 (fun _ h => h) (neq (by omega))
         have n5 := hq1.len
         refine ⟨_, rfl, ?_⟩
         refine wpList_nil ?_
         have hhlv_4 := h4.mv M5 (neq (by omega))
         exact ⟨_, (((((((look_eq (t := 0) (v := .slice s.a s.n s.c) rfl).trans (look_eq (t := 1) (v := .int .i64 ↑a) rfl)).trans (look_eq (t := 3) (v := .int .i64 ↑b) rfl)).trans (look_eq (t := 4) (v := .func (.func 98) #[] #[.pointer (some ⟨cb, 0, none⟩)]) rfl)).trans (look_eq (t := 18) (v := .int .i64 (((a + q) : Nat) : Int)) rfl)).trans (look_eq (t := 20) (v := .int .i64 (((a + s0) : Nat) : Int)) rfl)).trans (look_eq (t := 24) (v := .int .i64 (((m + (q - s0)) : Nat) : Int)) rfl)), ⟨_, _, rfl, K5, ((Mv.refl _ _ _).trans (M5.mono (eq_rg (by omega)))), (by have h := hq1; rw [show (pre ++ A1) ++ B1 ++ A2 ++ (B2 ++ post) = pre ++ A1 ++ B1 ++ A2 ++ B2 ++ post from by simp only [List.append_assoc]] at h; exact h), hhlv_4⟩⟩
        ·refine W.op (O.gv 184 (.bool false) (by kernel_rfl) rfl (okv (by kernel_rfl) (congrArg Value.bool (decide_eq_false t7))) ?_)
         refine Zb 185 (.bool false) ?_
         refine wpList_nil (hk18 _ _ (W.cond false rfl (wp_skip ?_)))
         exact ⟨_, (((((((look_eq (t := 0) (v := .slice s.a s.n s.c) rfl).trans (look_eq (t := 1) (v := .int .i64 ↑a) rfl)).trans (look_eq (t := 3) (v := .int .i64 ↑b) rfl)).trans (look_eq (t := 4) (v := .func (.func 98) #[] #[.pointer (some ⟨cb, 0, none⟩)]) rfl)).trans (look_eq (t := 18) (v := .int .i64 (((a + q) : Nat) : Int)) rfl)).trans (look_eq (t := 20) (v := .int .i64 (((a + s0) : Nat) : Int)) rfl)).trans (look_eq (t := 24) (v := .int .i64 (((m + (q - s0)) : Nat) : Int)) rfl)), ⟨_, _, rfl, K2, (Mv.refl _ _ _), (by have h := hG1; rw [show pre ++ A1 ++ A2 ++ B1 ++ B2 ++ post = pre ++ A1 ++ B1 ++ A2 ++ B2 ++ post from (by rcases (show A2.length = 0 ∨ B1.length = 0 by omega) with h9 | h9 <;> (rw [List.eq_nil_of_length_eq_zero h9]; simp))] at h; exact h), h4⟩⟩
       ·refine Zc 180 (.bool false) (okv (by kernel_rfl) (congrArg Value.bool (decide_eq_false t6))) ?_
        refine Zb 181 (.bool false) ?_
        refine Za 182 ?_
        refine Za 183 ?_
        refine Za 184 ?_
        refine Zb 185 (.bool false) ?_
        refine wpList_nil (hk18 _ _ (W.cond false rfl (wp_skip ?_)))
        exact ⟨_, (((((((look_eq (t := 0) (v := .slice s.a s.n s.c) rfl).trans (look_eq (t := 1) (v := .int .i64 ↑a) rfl)).trans (look_eq (t := 3) (v := .int .i64 ↑b) rfl)).trans (look_eq (t := 4) (v := .func (.func 98) #[] #[.pointer (some ⟨cb, 0, none⟩)]) rfl)).trans (look_eq (t := 18) (v := .int .i64 (((a + q) : Nat) : Int)) rfl)).trans (look_eq (t := 20) (v := .int .i64 (((a + s0) : Nat) : Int)) rfl)).trans (look_eq (t := 24) (v := .int .i64 (((m + (q - s0)) : Nat) : Int)) rfl)), ⟨_, _, rfl, K2, (Mv.refl _ _ _), (by have h := hG1; rw [show pre ++ A1 ++ A2 ++ B1 ++ B2 ++ post = pre ++ A1 ++ B1 ++ A2 ++ B2 ++ post from (by rcases (show A2.length = 0 ∨ B1.length = 0 by omega) with h9 | h9 <;> (rw [List.eq_nil_of_length_eq_zero h9]; simp))] at h; exact h), h4⟩⟩
      ·rintro _ w5 ⟨g5, r3, rfl, K6, M6, h5, h6⟩
       have n6 := h5.len
       refine W.join (fun (ws : List (Nat × Value)) (w' : World) => ∃  (γ' : Tg) (ρ0 : List (Nat × Value)), ws = ((24, .int .i64 (((m + (q - s0)) : Nat) : Int)) :: (18, .int .i64 (((a + q) : Nat) : Int)) :: (4, .func (.func 98) #[] #[.pointer (some ⟨cb, 0, none⟩)]) :: (3, .int .i64 ↑b) :: (0, .slice s.a s.n s.c) :: ρ0) ∧ Kn (fun ξ => ξ = t) w γ [] w' γ' ∧ Mv (Rg 1 (t + 1)) w5 g5 w' γ' ∧ Gs t 55 8 Edit.cells w' γ' s (pre ++ mrg (ltEdit l) A1 B1 ++ A2 ++ B2 ++ post) ∧ Cl 0 w' γ' cb 0 (.int .i64 ↑l)) ?_ ?_
       ·refine wp_seq_k fun k19 hk19 => (wp_region_lit ?_)
        refine Zb 192 (.int .i64 ↑a) ?_
        refine Zb 193 (.int .i64 (((a + s0) : Nat) : Int)) ?_
        by_cases t8 : ((a : Nat) : Int) < (((a + s0) : Nat) : Int)
        ·refine Zc 194 (.bool true) (okv (by kernel_rfl) (congrArg Value.bool (decide_eq_true t8))) ?_
         refine Zb 195 (.bool true) ?_
         refine Zd 196 (.int .i64 (((a + s0) : Nat) : Int)) ?_
         refine Zd 197 (.int .i64 (((a + q) : Nat) : Int)) ?_
         by_cases t9 : (((a + s0) : Nat) : Int) < (((a + q) : Nat) : Int)
         ·refine W.op (O.gv 198 (.bool true) (by kernel_rfl) rfl (okv (by kernel_rfl) (congrArg Value.bool (decide_eq_true t9))) ?_)
          refine Zb 199 (.bool true) ?_
          refine wpList_nil (hk19 _ _ (W.cond true rfl (wp_region_lit ?_)))
          refine Zb 200 (.slice s.a s.n s.c) ?_
          refine Zb 201 (.int .i64 ↑a) ?_
          refine Zb 202 (.int .i64 (((a + s0) : Nat) : Int)) ?_
          refine Zb 203 (.int .i64 (((a + q) : Nat) : Int)) ?_
          refine Zb 204 (.func (.func 98) #[] #[.pointer (some ⟨cb, 0, none⟩)]) ?_
          refine W.op (O.call 205 109 #[.slice s.a s.n s.c, .int .i64 ↑a, .int .i64 (((a + s0) : Nat) : Int), .int .i64 (((a + q) : Nat) : Int), .func (.func 98) #[] #[.pointer (some ⟨cb, 0, none⟩)]] (by kernel_rfl) rfl (by kernel_rfl) ((hrec pre A1 B1 (A2 ++ B2 ++ post) a (a + s0) (a + q) w5 g5 (by have h := h5; rw [show pre ++ A1 ++ B1 ++ A2 ++ B2 ++ post = pre ++ A1 ++ B1 ++ (A2 ++ B2 ++ post) from by simp only [List.append_assoc]] at h; exact h) (by omega) (by first | omega | (simp only [List.length_append, mrg_length]; omega)) (by first | omega | (simp only [List.length_append, mrg_length]; omega)) (by first | omega | (simp only [List.length_append, mrg_length]; omega)) (by first | omega | (simp only [List.length_append, mrg_length]; omega)) (by first | omega | (simp only [List.length_append, mrg_length]; omega)) sA1 sB1 (by first | omega | (simp only [List.length_append, mrg_length]; omega)) h6 (fun e he => hok e (by rw [eA, eB]; rcases List.mem_append.1 he with he | he <;> simp [he])) (by first | omega | (simp only [List.length_append, mrg_length]; omega))).mono ?_))
          rintro e3 w6 ⟨g6, rfl, M7, hq2⟩
          have K7 := K6.step M7 (fun _ h => h) (neq (by omega))
          have n7 := hq2.len
          refine ⟨_, rfl, ?_⟩
          refine wpList_nil ?_
          have hhlv_5 := h6.mv M7 (neq (by omega))
          exact ⟨_, (((((look_eq (t := 0) (v := .slice s.a s.n s.c) rfl).trans (look_eq (t := 3) (v := .int .i64 ↑b) rfl)).trans (look_eq (t := 4) (v := .func (.func 98) #[] #[.pointer (some ⟨cb, 0, none⟩)]) rfl)).trans (look_eq (t := 18) (v := .int .i64 (((a + q) : Nat) : Int)) rfl)).trans (look_eq (t := 24) (v := .int .i64 (((m + (q - s0)) : Nat) : Int)) rfl)), ⟨_, _, rfl, K7, ((Mv.refl _ _ _).trans (M7.mono (eq_rg (by omega)))), (by have h := hq2; rw [show pre ++ mrg (ltEdit l) A1 B1 ++ (A2 ++ B2 ++ post) = pre ++ mrg (ltEdit l) A1 B1 ++ A2 ++ B2 ++ post from by simp only [List.append_assoc]] at h; exact h), hhlv_5⟩⟩
         ·refine W.op (O.gv 198 (.bool false) (by kernel_rfl) rfl (okv (by kernel_rfl) (congrArg Value.bool (decide_eq_false t9))) ?_)
          refine Zb 199 (.bool false) ?_
          refine wpList_nil (hk19 _ _ (W.cond false rfl (wp_skip ?_)))
          exact ⟨_, (((((look_eq (t := 0) (v := .slice s.a s.n s.c) rfl).trans (look_eq (t := 3) (v := .int .i64 ↑b) rfl)).trans (look_eq (t := 4) (v := .func (.func 98) #[] #[.pointer (some ⟨cb, 0, none⟩)]) rfl)).trans (look_eq (t := 18) (v := .int .i64 (((a + q) : Nat) : Int)) rfl)).trans (look_eq (t := 24) (v := .int .i64 (((m + (q - s0)) : Nat) : Int)) rfl)), ⟨_, _, rfl, K6, (Mv.refl _ _ _), (by have h := h5; rw [show pre ++ A1 ++ B1 ++ A2 ++ B2 ++ post = pre ++ mrg (ltEdit l) A1 B1 ++ A2 ++ B2 ++ post from (by rcases (show A1.length = 0 ∨ B1.length = 0 by omega) with h9 | h9 <;> (rw [List.eq_nil_of_length_eq_zero h9]; simp [mrg_nil, nil_mrg]))] at h; exact h), h6⟩⟩
        ·refine Zc 194 (.bool false) (okv (by kernel_rfl) (congrArg Value.bool (decide_eq_false t8))) ?_
         refine Zb 195 (.bool false) ?_
         refine Za 196 ?_
         refine Za 197 ?_
         refine Za 198 ?_
         refine Zb 199 (.bool false) ?_
         refine wpList_nil (hk19 _ _ (W.cond false rfl (wp_skip ?_)))
         exact ⟨_, (((((look_eq (t := 0) (v := .slice s.a s.n s.c) rfl).trans (look_eq (t := 3) (v := .int .i64 ↑b) rfl)).trans (look_eq (t := 4) (v := .func (.func 98) #[] #[.pointer (some ⟨cb, 0, none⟩)]) rfl)).trans (look_eq (t := 18) (v := .int .i64 (((a + q) : Nat) : Int)) rfl)).trans (look_eq (t := 24) (v := .int .i64 (((m + (q - s0)) : Nat) : Int)) rfl)), ⟨_, _, rfl, K6, (Mv.refl _ _ _), (by have h := h5; rw [show pre ++ A1 ++ B1 ++ A2 ++ B2 ++ post = pre ++ mrg (ltEdit l) A1 B1 ++ A2 ++ B2 ++ post from (by rcases (show A1.length = 0 ∨ B1.length = 0 by omega) with h9 | h9 <;> (rw [List.eq_nil_of_length_eq_zero h9]; simp [mrg_nil, nil_mrg]))] at h; exact h), h6⟩⟩
       ·rintro _ w7 ⟨g7, r4, rfl, K8, M8, h7, h8⟩
        have n8 := h7.len
        refine wp_seq_k fun k20 hk20 => (wp_region_lit ?_)
        refine Zb 206 (.int .i64 (((a + q) : Nat) : Int)) ?_
        refine Zb 207 (.int .i64 (((m + (q - s0)) : Nat) : Int)) ?_
        by_cases t10 : (((a + q) : Nat) : Int) < (((m + (q - s0)) : Nat) : Int)
        ·refine Zc 208 (.bool true) (okv (by kernel_rfl) (congrArg Value.bool (decide_eq_true t10))) ?_
         refine Zb 209 (.bool true) ?_
         refine Zd 210 (.int .i64 (((m + (q - s0)) : Nat) : Int)) ?_
         refine Zd 211 (.int .i64 ↑b) ?_
         by_cases t11 : (((m + (q - s0)) : Nat) : Int) < ((b : Nat) : Int)
         ·refine W.op (O.gv 212 (.bool true) (by kernel_rfl) rfl (okv (by kernel_rfl) (congrArg Value.bool (decide_eq_true t11))) ?_)
          refine Zb 213 (.bool true) ?_
          refine wpList_nil (hk20 _ _ (W.cond true rfl (wp_region_lit ?_)))
          refine Zb 214 (.slice s.a s.n s.c) ?_
          refine Zb 215 (.int .i64 (((a + q) : Nat) : Int)) ?_
          refine Zb 216 (.int .i64 (((m + (q - s0)) : Nat) : Int)) ?_
          refine Zb 217 (.int .i64 ↑b) ?_
          refine Zb 218 (.func (.func 98) #[] #[.pointer (some ⟨cb, 0, none⟩)]) ?_
          refine W.op (O.call 219 109 #[.slice s.a s.n s.c, .int .i64 (((a + q) : Nat) : Int), .int .i64 (((m + (q - s0)) : Nat) : Int), .int .i64 ↑b, .func (.func 98) #[] #[.pointer (some ⟨cb, 0, none⟩)]] (by kernel_rfl) rfl (by kernel_rfl) ((hrec (pre ++ mrg (ltEdit l) A1 B1) A2 B2 post (a + q) (m + (q - s0)) b w7 g7 (by have h := h7; rw [show pre ++ mrg (ltEdit l) A1 B1 ++ A2 ++ B2 ++ post = (pre ++ mrg (ltEdit l) A1 B1) ++ A2 ++ B2 ++ post from by simp only [List.append_assoc]] at h; exact h) (by omega) (by first | omega | (simp only [List.length_append, mrg_length]; omega)) (by first | omega | (simp only [List.length_append, mrg_length]; omega)) (by first | omega | (simp only [List.length_append, mrg_length]; omega)) (by first | omega | (simp only [List.length_append, mrg_length]; omega)) (by first | omega | (simp only [List.length_append, mrg_length]; omega)) sA2 sB2 (by first | omega | (simp only [List.length_append, mrg_length]; omega)) h8 (fun e he => hok e (by rw [eA, eB]; rcases List.mem_append.1 he with he | he <;> simp [he])) (by first | omega | (simp only [List.length_append, mrg_length]; omega))).mono ?_))
          rintro e4 w8 ⟨g8, rfl, M9, hq3⟩
          have K9 := K8.step M9 (fun _ h => h) (neq (by omega))
          have n9 := hq3.len
          refine ⟨_, rfl, ?_⟩
          refine wpList_nil ?_
          refine W.end0 rfl ?_
          have hG9 := hq3
          rw [show (pre ++ mrg (ltEdit l) A1 B1) ++ mrg (ltEdit l) A2 B2 ++ post = pre ++ mrg (ltEdit l) A B ++ post from by rw [key]; simp only [List.append_assoc]] at hG9
          exact ⟨_, rfl, K9.mv, hG9⟩
         ·refine W.op (O.gv 212 (.bool false) (by kernel_rfl) rfl (okv (by kernel_rfl) (congrArg Value.bool (decide_eq_false t11))) ?_)
          refine Zb 213 (.bool false) ?_
          refine wpList_nil (hk20 _ _ (W.cond false rfl (wp_skip ?_)))
          refine W.end0 rfl ?_
          have hG9 := h7
          rw [show pre ++ mrg (ltEdit l) A1 B1 ++ A2 ++ B2 ++ post = pre ++ mrg (ltEdit l) A B ++ post from by rw [key]; rcases (show A2.length = 0 ∨ B2.length = 0 by omega) with h9 | h9 <;> (rw [List.eq_nil_of_length_eq_zero h9]; simp [mrg_nil, nil_mrg])] at hG9
          exact ⟨_, rfl, K8.mv, hG9⟩
        ·refine Zc 208 (.bool false) (okv (by kernel_rfl) (congrArg Value.bool (decide_eq_false t10))) ?_
         refine Zb 209 (.bool false) ?_
         refine Za 210 ?_
         refine Za 211 ?_
         refine Za 212 ?_
         refine Zb 213 (.bool false) ?_
         refine wpList_nil (hk20 _ _ (W.cond false rfl (wp_skip ?_)))
         refine W.end0 rfl ?_
         have hG9 := h7
         rw [show pre ++ mrg (ltEdit l) A1 B1 ++ A2 ++ B2 ++ post = pre ++ mrg (ltEdit l) A B ++ post from by rw [key]; rcases (show A2.length = 0 ∨ B2.length = 0 by omega) with h9 | h9 <;> (rw [List.eq_nil_of_length_eq_zero h9]; simp [mrg_nil, nil_mrg])] at hG9
         exact ⟨_, rfl, K8.mv, hG9⟩

theorem symEdit_c (s : Sli) (pre : List Edit) (A : List Edit) (B : List Edit) (post : List Edit) (t : Nat) (a : Nat) (m : Nat) (b : Nat) (cb : Nat) (l : Nat) (w : World) (γ : Tg) (hG : Gs t 55 8 Edit.cells w γ s (pre ++ A ++ B ++ post)) (ht : 2 ≤ t) (ha : a = pre.length) (hm : m = pre.length + A.length) (hb : b = pre.length + A.length + B.length) (hA0 : 0 < A.length) (hB0 : 0 < B.length) (hsA : Srt (ltEdit l) A) (hsB : Srt (ltEdit l) B) (hl : pre.length + A.length + B.length + post.length ≤ 100000) (hlv : Cl 0 w γ cb 0 (.int .i64 ((l : Nat) : Int))) (hok : ∀ e ∈ A ++ B, e.it.key.size < 9223372036854775807) :
    Calls Try.prog 109 #[.slice s.a s.n s.c, .int .i64 ((a : Nat) : Int), .int .i64 ((m : Nat) : Int), .int .i64 ((b : Nat) : Int), .func (.func 98) #[] #[.pointer (some ⟨cb, 0, none⟩)]] w fun ε w' => ∃ γ', ε = .returned (.tuple #[]) ∧ Mv (fun ξ => ξ = t) w γ w' γ' ∧ Gs t 55 8 Edit.cells w' γ' s (pre ++ mrg (ltEdit l) A B ++ post) := by
  obtain ⟨n, hn⟩ : ∃ n, n = A.length + B.length := ⟨_, rfl⟩
  induction n using Nat.strongRecOn generalizing pre A B post a m b w γ with
  | _ n ih =>
    by_cases h1 : A.length = 1
    · obtain ⟨x, rfl⟩ := List.length_eq_one_iff.1 h1
      exact symLEdit s pre x B post t a m b cb l w γ hG ht ha hm hb hA0 hB0 hsA hsB hl hlv hok
    · by_cases h2 : B.length = 1
      · obtain ⟨y, rfl⟩ := List.length_eq_one_iff.1 h2
        exact symREdit s pre A y post t a m b cb l w γ hG ht ha hm hb hA0 hB0 hsA hsB hl hlv hok (by omega)
      · exact symMEdit s pre A B post t a m b cb l w γ hG ht ha hm hb hA0 hB0 hsA hsB hl hlv hok (by omega) (by omega) (fun pre' A' B' post' a' m' b' w' γ' k1 k2 k3 k4 k5 k6 k7 k8 k9 k10 k11 k12 hlt => ih (A'.length + B'.length) (by omega) pre' A' B' post' a' m' b' w' γ' k1 k3 k4 k5 k6 k7 k8 k9 k10 k11 k12 rfl)

end Go.Proofs.Ytlfanphdnjoofaa
