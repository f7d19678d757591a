/- Walks: a story. -/
import Derived.Test.YtlfanphdnjoofaaT20
import Derived.Test.YtlfanphdnjoofaaX5
namespace Go.Proofs.Ytlfanphdnjoofaa
open Go.RowKit
set_option linter.unusedSimpArgs false
set_option linter.unusedVariables false
attribute [local irreducible] wpList Code.wp Calls OpS wpG

abbrev Sli.cells (s : Sli) : List Value := [.slice s.a s.n s.c]
theorem Sli.size1 (s : Sli) : s.cells.length = 1 := rfl
/-- Batches of edits. -/
structure Bs (w : World) (g : Tg) (bs : List Sli) (ess : List (List Edit)) : Prop where
  len : bs.length = ess.length
  inn : ∀ (i : Nat) (b : Sli) (es : List Edit), bs[i]? = some b → ess[i]? = some es → Ls 8 Edit.cells w g b es
theorem Bs.mv {U : Nat → Prop} {w w' : World} {g g' : Tg} {bs : List Sli} {ess : List (List Edit)} (h : Bs w g bs ess) (m : Mv U w g w' g') (hn : ¬ U 0) : Bs w' g' bs ess :=
  ⟨h.len, fun i b es hb he => (h.inn i b es hb he).mv m hn⟩
theorem Bs.at {w : World} {g : Tg} {bs : List Sli} {ess : List (List Edit)} (h : Bs w g bs ess) {i : Nat} {b : Sli} (hb : bs[i]? = some b) : ∃ es, ess[i]? = some es ∧ Ls 8 Edit.cells w g b es := by
  have h1 := (List.getElem?_eq_some_iff.1 hb).1
  have h2 : i < ess.length := by rw [← h.len]; exact h1
  exact ⟨_, List.getElem?_eq_getElem h2, h.inn i b _ hb (List.getElem?_eq_getElem h2)⟩
theorem take_flat_le {α : Type} (l : List (List α)) (k : Nat) : (l.take k).flatten.length ≤ l.flatten.length := by
  have : l.flatten = (l.take k).flatten ++ (l.drop k).flatten := by rw [← List.flatten_append, List.take_append_drop]
  rw [this, List.length_append]; omega
def longB (ess : List (List Edit)) (most : Int) : Bool := decide (ess.length + ess.flatten.length > 600) || decide (most > 20000)
theorem last_get {α : Type} {l : List α} {x : α} (h : ∃ T, l = T ++ [x]) {n : Nat} (hn : n = l.length) : l[n - 1]? = some x := by
  obtain ⟨T, rfl⟩ := h
  rw [hn, List.length_append, List.length_singleton, Nat.add_sub_cancel, List.getElem?_append_right (Nat.le_refl _), Nat.sub_self]; rfl
theorem Bt.gs {α : Type} {z : Nat} {f : α → List Value} {w : World} {g : Tg} {t b : Nat} {E : TypeId} {cs : List Value} (h : Bt t w g b E cs) (xs : List α) (hf : ∀ x, (f x).length = z) (he : xs.flatMap f = cs) {m : Nat} (hm : m = xs.length) (hmx : m ≤ 1000) : Gs t E z f w g ⟨some ⟨b, 0, none⟩, m, m⟩ xs := by
  have hl : cs.length = m * z := by rw [← he, flat_len hf, hm]
  refine ⟨hm, hf, ⟨by rw [he, hl], .inr ⟨b, m, cs.toArray, rfl, Nat.zero_le _, h.1, Nat.le_refl _, Nat.le_trans hmx (by decide), by simp [hl], by rw [he]; simp [← hl]⟩⟩, fun a ha => ?_⟩
  injection ha with ha
  subst ha
  exact ⟨h.2, h.1.lt⟩

set_option maxRecDepth 100000 in
set_option maxHeartbeats 1000000 in
theorem long_c (sb : Sli) (bs : List Sli) (ess : List (List Edit)) (most : Int) (lost : Int) (w : World) (γ : Tg) (hL : Ls 1 Sli.cells w γ sb bs) (hB : Bs w γ bs ess) (hbk : ess.length + ess.flatten.length ≤ 2000000) :
    Calls Try.prog 12 #[.agg #[.slice sb.a sb.n sb.c, .int .i64 most, .int .i64 lost]] w fun ε w' => ∃ (γ' : Tg), ε = .returned (.bool (longB ess most)) ∧ Mv Nt w γ w' γ' := by
 have K0 := Kn.start Nt w γ
 refine W.enter (ws := [(0, .agg #[.slice sb.a sb.n sb.c, .int .i64 most, .int .i64 lost])]) 28 Try.func12 rfl (by kernel_rfl) ?_
 have n1 := hL.len
 refine wp_seq_k fun k1 hk1 => (wp_region_lit ?_)
 refine W.op (O.new 1 27 [.slice sb.a sb.n sb.c, .int .i64 most, .int .i64 lost] rfl rfl (by kernel_rfl) K0 fun b1 w1 g1 K1 M1 => ?_)
 refine Zb 2 (.bool false) ?_
 refine wpList_nil (hk1 _ _ (wp_seq_k fun k2 hk2 => (wp_region_lit ?_)))
 refine Zb 3 (.int .i64 0) ?_
 refine wpList_nil (hk2 _ _ (wp_seq_k fun k3 hk3 => (wp_seq_k fun k4 hk4 => (wp_region_lit ?_))))
 refine Zb 4 (.int .i64 0) ?_
 refine wpList_nil (hk4 _ _ (wp_block ?_))
 have hhB_1 := hB.mv M1 quiet
 have hhL_1 := hL.mv M1 quiet
 refine W.loop (fun (μ0 : Nat) (ws : List (Nat × Value)) (w' : World) => ∃ (i : Nat) (γ' : Tg) (ρ0 : List (Nat × Value)), μ0 = bs.length - i ∧ ws = ((4, .int .i64 ↑i) :: (3, .int .i64 (((i + (ess.take i).flatten.length) : Nat) : Int)) :: (1, .pointer (some ⟨b1, 0, none⟩)) :: ρ0) ∧ Kn Nt w γ [(b1, 27, [.slice sb.a sb.n sb.c, .int .i64 most, .int .i64 lost])] w' γ' ∧ Mv Nt w1 g1 w' γ' ∧ (i ≤ bs.length) ∧ ((ess.take i).flatten.length ≤ ess.flatten.length) ∧ (bs.length = ess.length) ∧ Ls 1 Sli.cells w' γ' sb bs ∧ Bs w' γ' bs ess) (bs.length - 0) (((look_eq (t := 1) (v := .pointer (some ⟨b1, 0, none⟩)) rfl).trans (look_eq (t := 3) (v := .int .i64 (((0 + (ess.take 0).flatten.length) : Nat) : Int)) rfl)).trans (look_eq (t := 4) (v := .int .i64 ↑0) rfl)) ?_ ?_
 ·exact ⟨0, _, _, rfl, rfl, K1, Mv.refl _ _ _, Nat.zero_le _, Nat.zero_le _, (hhB_1).len, hhL_1, hhB_1⟩
 ·rintro _ _ w2 ⟨i, g2, r1, rfl, rfl, K2, M2, p1, p2, p3, h1, h2⟩
  have n2 := h1.len
  refine wp_seq_k fun k5 hk5 => (wp_seq_k fun k6 hk6 => (wp_region_lit ?_))
  refine Zb 5 (.int .i64 ↑i) ?_
  refine Zb 6 (.pointer (some ⟨b1, 0, none⟩)) ?_
  refine Zc 7 (.slice sb.a sb.n sb.c) (exec_load rfl rfl Ty25 ((K2.nth 0 rfl).cell 0)) ?_
  refine Zb 8 (.int .i64 (sb.n : Int)) ?_
  by_cases t1 : ((i : Nat) : Int) < (sb.n : Int)
  ·refine Zc 9 (.bool true) (okv (by kernel_rfl) (congrArg Value.bool (decide_eq_true t1))) ?_
   refine wpList_nil (hk6 _ _ (W.cond true rfl (wp_skip (hk5 _ _ (wp_seq_k fun k7 hk7 => (wp_block ?_))))))
   refine wp_region_lit ?_
   refine Zb 12 (.int .i64 (((i + (ess.take i).flatten.length) : Nat) : Int)) ?_
   refine Zc 13 (.int .i64 (((i + (ess.take i).flatten.length) + 1 : Nat) : Int)) (okv (v := .int .i64 (IntKind.i64.wrap ((((i + (ess.take i).flatten.length) : Nat) : Int) + 1))) (by kernel_rfl) (wrapn (by omega) (by omega))) ?_
   refine Zb 14 (.pointer (some ⟨b1, 0, none⟩)) ?_
   refine Zc 15 (.slice sb.a sb.n sb.c) (exec_load rfl rfl Ty25 ((K2.nth 0 rfl).cell 0)) ?_
   refine Zb 16 (.int .i64 ↑i) ?_
   obtain ⟨x1, hx1⟩ := get_some (xs := bs) (i := i) (by omega)
   obtain ⟨b2, o1, ha1, hib1, hr1⟩ := h1.elt hx1
   refine Zc 17 (.pointer (some ⟨b2, o1 + i * 1, none⟩)) (exec_index (E := 63) (k := i) rfl (by kernel_rfl) (by kernel_rfl) rfl ha1 rfl hib1) ?_
   refine Zc 18 (.slice x1.a x1.n x1.c) (exec_load rfl rfl Ty63 (hr1.2.2 0 (Nat.le_of_ble_eq_true rfl))) ?_
   obtain ⟨es, hes, hles⟩ := h2.at hx1
   have hfes := flat_le hes
   have n3 := hles.len
   refine Zb 19 (.int .i64 ↑x1.n) ?_
   refine Zc 20 (.int .i64 (((i + (ess.take i).flatten.length) + 1 + x1.n : Nat) : Int)) (okv (v := .int .i64 (IntKind.i64.wrap ((((i + (ess.take i).flatten.length) + 1 : Nat) : Int) + ((x1.n : Nat) : Int)))) (by kernel_rfl) (wrapn (by omega) (by omega))) ?_
   refine Zb 3 (.int .i64 (((i + (ess.take i).flatten.length) + 1 + x1.n : Nat) : Int)) ?_
   refine wpList_nil (block_normal (hk7 _ _ (wp_region_lit ?_)))
   refine Zb 10 (.int .i64 ↑i) ?_
   refine Zc 11 (.int .i64 ((i + 1 : Nat) : Int)) (okv (v := .int .i64 (IntKind.i64.wrap (((i : Nat) : Int) + 1))) (by kernel_rfl) (wrapn (by omega) (by omega))) ?_
   refine Zb 4 (.int .i64 ((i + 1 : Nat) : Int)) ?_
   refine wpList_nil ?_
   exact ⟨bs.length - (i + 1), _, by omega, (((look_eq (t := 1) (v := .pointer (some ⟨b1, 0, none⟩)) rfl).trans (look_eq (t := 3) (v := .int .i64 ((((i + 1) + (ess.take (i + 1)).flatten.length) : Nat) : Int)) (by rw [flat_take hes, List.length_append, ← hles.len]; exact congrArg (fun k : Nat => Value.int .i64 (k : Int)) (by omega)))).trans (look_eq (t := 4) (v := .int .i64 (((i + 1) : Nat) : Int)) rfl)), ⟨(i + 1), _, _, rfl, rfl, K2, M2, by omega, take_flat_le _ _, by omega, h1, h2⟩⟩
  ·refine Zc 9 (.bool false) (okv (by kernel_rfl) (congrArg Value.bool (decide_eq_false t1))) ?_
   refine wpList_nil (hk6 _ _ (W.cond false rfl (wp_exit (then_exit ?_))))
   have hi9 : i = ess.length := by have := (h2).len; omega
   refine then_exit (block_exit (hk3 _ _ (wp_seq_k fun k8 hk8 => (wp_region_lit ?_))))
   refine Zb 21 (.int .i64 (((i + (ess.take i).flatten.length) : Nat) : Int)) ?_
   by_cases t2 : (((i + (ess.take i).flatten.length) : Nat) : Int) > 600
   ·refine Zc 22 (.bool true) (okv (by kernel_rfl) (congrArg Value.bool (decide_eq_true t2))) ?_
    refine Zb 23 (.bool true) ?_
    refine Za 24 ?_
    refine Za 25 ?_
    refine Za 26 ?_
    refine Zb 27 (.bool true) ?_
    refine Zb 2 (.bool true) ?_
    refine wpList_nil (hk8 _ _ (wp_ret (W.ret1 (v := .bool true) rfl (.tmp rfl .nil) ?_)))
    have hlb : decide (ess.length + ess.flatten.length > 600) = true := decide_eq_true (by rw [hi9, List.take_length] at t2; omega)
    exact ⟨_, by unfold longB; rw [hlb]; rfl, K2.mv⟩
   ·refine Zc 22 (.bool false) (okv (by kernel_rfl) (congrArg Value.bool (decide_eq_false t2))) ?_
    refine Zb 23 (.bool false) ?_
    refine Zd 24 (.pointer (some ⟨b1, 1, none⟩)) ?_
    refine W.op (O.gv 25 (.int .i64 most) (by kernel_rfl) rfl (exec_load rfl rfl Ty3 ((K2.nth 0 rfl).cell 1)) ?_)
    refine Zd 26 (.bool (decide (most > 20000))) ?_
    refine Zb 27 (.bool (decide (most > 20000))) ?_
    refine Zb 2 (.bool (decide (most > 20000))) ?_
    refine wpList_nil (hk8 _ _ (wp_ret (W.ret1 (v := .bool (decide (most > 20000))) rfl (.tmp rfl .nil) ?_)))
    have hlb : decide (ess.length + ess.flatten.length > 600) = false := decide_eq_false (by rw [hi9, List.take_length] at t2; omega)
    exact ⟨_, by unfold longB; rw [hlb]; rfl, K2.mv⟩

set_option maxRecDepth 100000 in
set_option maxHeartbeats 1000000 in
theorem own_c (s : Sli) (es : List Edit) (t : Nat) (w : World) (γ : Tg) (hs : Ls 8 Edit.cells w γ s es) (ht : 2 ≤ t) (hl : es.length ≤ 100000) :
    Calls Try.prog 23 #[.slice s.a s.n s.c] w fun ε w' => ∃ (γ' : Tg) (s' : Sli), ε = .returned (.slice s'.a s'.n s'.c) ∧ Mv Nt w γ w' γ' ∧ Gs t 55 8 Edit.cells w' γ' s' es := by
 obtain ⟨t0, ht0, hf0⟩ := fresh_tag w γ 2
 have K0 := Kn.start (Lo Nt t0) w γ
 refine W.enter (ws := [(0, .slice s.a s.n s.c)]) 6 Try.func23 rfl (by kernel_rfl) ?_
 have n1 := hs.len
 refine wp_seq_k fun k1 hk1 => (wp_region_lit ?_)
 refine Zb 2 (.slice none 0 0) ?_
 refine wpList_nil (hk1 _ _ (wp_seq_k fun k2 hk2 => (wp_region_lit ?_)))
 refine W.op (O.lit0 (E := 55) (f := Edit.cells) t0 3 Edit.size rfl rfl (by kernel_rfl) K0 fun s1 w1 g1 K1 hG1 M1 => ?_)
 have n2 := hG1.len
 refine Zb 4 (.slice s.a s.n s.c) ?_
 have hhs_1 := hs.mv M1 quiet
 refine W.op (O.append (f := Edit.cells) 5 es (by kernel_rfl) rfl rfl (by kernel_rfl) El55 rfl rfl hG1 hs.len hhs_1.src (fun _ => rfl) (by simp only [List.length_nil]; omega) (by simp only [List.length_nil]; omega) fun s2 w2 g2 hG2 M2 => ?_)
 have K2 := K1.step M2 (eq_lo (by omega)) (neq (by omega))
 rw [List.nil_append] at hG2
 have n3 := hG2.len
 refine Zb 2 (.slice s2.a s2.n s2.c) ?_
 refine wpList_nil (hk2 _ _ (wp_ret (W.ret1 (v := .slice s2.a s2.n s2.c) rfl (.tmp rfl .nil) ?_)))
 have M3 := Mv.recol w2 g2 t0 t
 have K3 := K2.step M3 (eq_lo (by omega)) (neq (by omega))
 have h1 := hG2.recol t
 exact ⟨_, _, rfl, (K3.mv.shut hf0), h1⟩

set_option maxRecDepth 100000 in
set_option maxHeartbeats 1000000 in
theorem story_c (τ : Nat) (sb : Sli) (bs : List Sli) (ess : List (List Edit)) (most : Int) (lost : Int) (w : World) (γ : Tg) (hL : Ls 1 Sli.cells w γ sb bs) (hB : Bs w γ bs ess) (hτ : 2 ≤ τ) (hN : ess.length + ess.flatten.length ≤ 600) (hE : ∀ es ∈ ess, eOk es) :
    Calls Try.prog 14 #[.agg #[.slice sb.a sb.n sb.c, .int .i64 most, .int .i64 lost]] w fun ε w' => ∃ (γ' : Tg) (p' : Nat) (s' : Sli) (ts : List Ref) (σ' : TapeS) (top : Ref), ε = .returned (.tuple #[.pointer (some ⟨p', 0, none⟩), .slice s'.a s'.n s'.c, .bool true]) ∧ Mv (Rg τ (τ + 20)) w γ w' γ' ∧ Tp τ w' γ' p' σ' ∧ Gs (τ + 6) 31 2 Ref.cells w' γ' s' ts ∧ (Run ess ess.length σ' top) ∧ (∃ T, ts = T ++ [top]) ∧ (ts.length ≤ ess.length + 1) := by
 obtain ⟨t0, ht0, hf0⟩ := fresh_tag w γ (τ + 20)
 have K0 := Kn.start (Lo (Rg τ (τ + 20)) t0) w γ
 refine W.enter (ws := [(0, .agg #[.slice sb.a sb.n sb.c, .int .i64 most, .int .i64 lost])]) 60 Try.func14 rfl (by kernel_rfl) ?_
 have n1 := hL.len
 refine wp_seq_k fun k1 hk1 => (wp_region_lit ?_)
 refine W.op (O.new 1 27 [.slice sb.a sb.n sb.c, .int .i64 most, .int .i64 lost] rfl rfl (by kernel_rfl) K0 fun b1 w1 g1 K1 M1 => ?_)
 refine Zb 2 (.pointer none) ?_
 refine Zb 3 (.slice none 0 0) ?_
 refine Zb 4 (.bool false) ?_
 refine wpList_nil (hk1 _ _ (wp_seq_k fun k2 hk2 => (wp_region_lit ?_)))
 refine Zb 11 (.agg #[.slice none 0 0, .int .i64 1073741824, .int .i64 0, .slice none 0 0, .int .i64 0, .pointer none]) ?_
 refine W.op (O.newt τ 12 60 [.slice none 0 0, .int .i64 1073741824, .int .i64 0, .slice none 0 0, .int .i64 0, .pointer none] rfl rfl (by kernel_rfl) K1 fun b2 w2 g2 K2 hb1 M2 => ?_)
 refine Zb 5 (.pointer (some ⟨b2, 0, none⟩)) ?_
 refine wpList_nil (hk2 _ _ (wp_seq_k fun k3 hk3 => (wp_region_lit ?_)))
 refine Zb 13 (.agg #[.int .i64 0, .int .i64 0]) ?_
 refine W.op (O.litt (τ + 6) 14 31 [.int .i64 0, .int .i64 0] 1 rfl rfl (by kernel_rfl) K2 fun b3 w3 g3 K3 hb2 M3 => ?_)
 refine Zb 6 (.slice (some ⟨b3, 0, none⟩) 1 1) ?_
 refine wpList_nil (hk3 _ _ (wp_seq_k fun k4 hk4 => (wp_seq_k fun k5 hk5 => (wp_region_lit ?_))))
 refine Zb 7 (.int .i64 0) ?_
 refine wpList_nil (hk5 _ _ (wp_block ?_))
 have htp_1 := hb1.mv M3 quiet
 have hT0 : Tp τ w3 g3 b2 ⟨[], 1073741824, 0, [], 0⟩ := ⟨⟨nilS, nilS, htp_1, Gs.nil _ _ _ _ Nd.size, Gs.nil _ _ _ _ Dd.size⟩, (fun _ h => by cases h), (fun _ h => by cases h)⟩
 have hG0 := hb2.gs [(⟨0, 0⟩ : Ref)] (z := 2) (f := Ref.cells) (fun _ => rfl) rfl (m := 1) rfl (by decide)
 have n2 := hG0.len
 have hhB_1 := hB.mv M1 quiet
 have hhB_2 := hhB_1.mv M2 quiet
 have hhB_3 := hhB_2.mv M3 quiet
 have hhL_1 := hL.mv M1 quiet
 have hhL_2 := hhL_1.mv M2 quiet
 have hhL_3 := hhL_2.mv M3 quiet
 refine W.loop (fun (μ0 : Nat) (ws : List (Nat × Value)) (w' : World) => ∃ (i : Nat) (sl : Sli) (ts : List Ref) (top : Ref) (S1 : TapeS) (γ' : Tg) (ρ0 : List (Nat × Value)), μ0 = bs.length - i ∧ ws = ((7, .int .i64 ↑i) :: (6, .slice sl.a sl.n sl.c) :: (5, .pointer (some ⟨b2, 0, none⟩)) :: (1, .pointer (some ⟨b1, 0, none⟩)) :: ρ0) ∧ Kn (Lo (Rg τ (τ + 20)) t0) w γ [(b1, 27, [.slice sb.a sb.n sb.c, .int .i64 most, .int .i64 lost])] w' γ' ∧ Mv (Lo (Rg 1 (τ + 20)) t0) w3 g3 w' γ' ∧ (Run ess i S1 top) ∧ (∃ T, ts = T ++ [top]) ∧ (i ≤ bs.length) ∧ (bs.length = ess.length) ∧ (ts.length ≤ i + 1) ∧ (1 ≤ ts.length) ∧ Ls 1 Sli.cells w' γ' sb bs ∧ Bs w' γ' bs ess ∧ Tp τ w' γ' b2 S1 ∧ Gs (τ + 6) 31 2 Ref.cells w' γ' sl ts) (bs.length - 0) ((((look_eq (t := 1) (v := .pointer (some ⟨b1, 0, none⟩)) rfl).trans (look_eq (t := 5) (v := .pointer (some ⟨b2, 0, none⟩)) rfl)).trans (look_eq (t := 6) (v := .slice (⟨some ⟨b3, 0, none⟩, 1, 1⟩ : Sli).a (⟨some ⟨b3, 0, none⟩, 1, 1⟩ : Sli).n (⟨some ⟨b3, 0, none⟩, 1, 1⟩ : Sli).c) rfl)).trans (look_eq (t := 7) (v := .int .i64 ↑0) rfl)) ?_ ?_
 ·exact ⟨0, (⟨some ⟨b3, 0, none⟩, 1, 1⟩ : Sli), [(⟨0, 0⟩ : Ref)], ⟨0, 0⟩, ⟨[], 1073741824, 0, [], 0⟩, _, _, rfl, rfl, K3, Mv.refl _ _ _, Run.zero ess rfl rfl rfl rfl, ⟨[], rfl⟩, Nat.zero_le _, (hhB_3).len, Nat.le_refl _, Nat.le_refl _, hhL_3, hhB_3, hT0, hG0⟩
 ·rintro _ _ w4 ⟨i, sl, ts, top, S1, g4, r1, rfl, rfl, K4, M4, p1, p2, p3, p4, p5, p6, h1, h2, h3, h4⟩
  have n3 := h1.len
  have n4 := h4.len
  refine wp_seq_k fun k6 hk6 => (wp_seq_k fun k7 hk7 => (wp_region_lit ?_))
  refine Zb 15 (.int .i64 ↑i) ?_
  refine Zb 16 (.pointer (some ⟨b1, 0, none⟩)) ?_
  refine Zc 17 (.slice sb.a sb.n sb.c) (exec_load rfl rfl Ty25 ((K4.nth 0 rfl).cell 0)) ?_
  refine Zb 18 (.int .i64 (sb.n : Int)) ?_
  by_cases t1 : ((i : Nat) : Int) < (sb.n : Int)
  ·refine Zc 19 (.bool true) (okv (by kernel_rfl) (congrArg Value.bool (decide_eq_true t1))) ?_
   refine wpList_nil (hk7 _ _ (W.cond true rfl (wp_skip (hk6 _ _ (wp_seq_k fun k8 hk8 => (wp_block ?_))))))
   refine wp_seq_k fun k9 hk9 => (wp_region_G (SmL [(7, Nt), (9, Nt), (12, Nt)] w4 g4) (by kernel_rfl) ?_)
   have K5 := K4.drew
   have M5 : Mv Nt w4 g4 w4.drew g4 := (Mv.refl _ _ _).drew
   refine Yb 0 23 (.pointer (some ⟨b2, 0, none⟩)) rfl (fun u => by kernel_rfl) ?_
   refine Yb 1 24 (.iface 29 (.pointer (some ⟨b2, 0, none⟩))) rfl (fun u => by kernel_rfl) ?_
   refine Yb 2 25 (.slice sl.a sl.n sl.c) rfl (fun u => by kernel_rfl) ?_
   refine Yb 3 26 (.slice sl.a sl.n sl.c) rfl (fun u => by kernel_rfl) ?_
   refine Yb 4 27 (.int .i64 (sl.n : Int)) rfl (fun u => by kernel_rfl) ?_
   refine Yb 5 28 (.int .i64 ((sl.n - 1 : Nat) : Int)) rfl (fun u => okv (v := .int .i64 (IntKind.i64.wrap ((sl.n : Int) - 1))) ((fun u => by kernel_rfl) u) (wrapn (by omega) (by omega))) ?_
   obtain ⟨b4, ha1, hib1, hr1⟩ := h4.elt (last_get p2 h4.len)
   refine Yb 6 29 (.pointer (some ⟨b4, 0 + (sl.n - 1) * 2, none⟩)) rfl (fun u => (exec_index (E := 31) (k := sl.n - 1) rfl (by kernel_rfl) (by kernel_rfl) rfl ha1 rfl hib1)) ?_
   refine G.take 7 30 (.agg top.cells.toArray) rfl (by kernel_rfl) rfl (fun _ _ _ h => h) ((Mv.refl _ _ _).trans (M5.mono (fun _ h => h))).self (by kernel_rfl) (fun u hm => exec_loads (cs := top.cells) rfl rfl Ty31 rfl (hr1.mv hm quiet).2.2) ?_
   refine Yb 8 31 (.pointer (some ⟨b1, 0, none⟩)) rfl (fun u => by kernel_rfl) ?_
   refine G.take 9 32 (.slice sb.a sb.n sb.c) rfl (by kernel_rfl) rfl (fun _ _ _ h => h) ((Mv.refl _ _ _).trans (M5.mono (fun _ h => h))).self (by kernel_rfl) (fun u hm => exec_load rfl rfl Ty25 ((K4.later 0 rfl hm quiet).cell 0)) ?_
   refine Yb 10 33 (.int .i64 ↑i) rfl (fun u => by kernel_rfl) ?_
   obtain ⟨x1, hx1⟩ := get_some (xs := bs) (i := i) (by omega)
   obtain ⟨b5, o2, ha2, hib2, hr2⟩ := h1.elt hx1
   refine Yb 11 34 (.pointer (some ⟨b5, o2 + i * 1, none⟩)) rfl (fun u => (exec_index (E := 63) (k := i) rfl (by kernel_rfl) (by kernel_rfl) rfl ha2 rfl hib2)) ?_
   refine G.take 12 35 (.slice x1.a x1.n x1.c) rfl (by kernel_rfl) rfl (fun _ _ _ h => h) ((Mv.refl _ _ _).trans (M5.mono (fun _ h => h))).self (by kernel_rfl) (fun u hm => exec_load rfl rfl Ty63 ((hr2.mv hm quiet).2.2 0 (Nat.le_of_ble_eq_true rfl))) ?_
   refine G.op2 13 19 (by kernel_rfl) rfl rfl ?_ ?_
   ·have hhB_4 := h2.mv M5 quiet
    obtain ⟨es, hes, hles⟩ := hhB_4.at hx1
    have hfes := flat_le hes
    have n5 := hles.len
    refine O.call 36 23 #[.slice x1.a x1.n x1.c] (by kernel_rfl) rfl (by kernel_rfl) ((own_c x1 es (t0 + 31) w4.drew g4 hles (by omega) (by omega)).mono ?_)
    rintro e1 w5 ⟨g5, s1, rfl, M6, hq1⟩
    have K6 := K5.step M6 nt_le quiet
    have n6 := hq1.len
    refine ⟨_, rfl, ⟨kp_nt ((Mv.refl _ _ _).trans M6) _, ?_⟩⟩
    refine G.op2 14 19 (by kernel_rfl) rfl rfl ?_ ?_
    ·have hsm := Run.small p1 (by omega) hN
     have hst := Run.step p1 hN hes (hE es (List.mem_of_getElem? hes))
     have hel9 : es.length ≤ ess.flatten.length := by omega
     have M7 := Mv.recol w5 g5 (t0 + 31) 0
     have K7 := K6.step M7 (eq_lo (by omega)) (neq (by omega))
     have h5 := hq1.ice
     have n7 := h5.len
     have hT_1 := h3.mv M5 quiet quiet quiet quiet
     have hT_2 := hT_1.mv M6 quiet quiet quiet quiet
     have hT_3 := hT_2.mv M7 (neq (by omega)) (neq (by omega)) (neq (by omega)) (neq (by omega))
     rcases hst.2 with ⟨he9, hr8⟩ | ⟨he9, hr8⟩
     ·have hr9 := change_c τ b2 S1 top s1 es (t0 + 32) w5 (recol g5 (t0 + 31) 0) hT_3 (by omega) (by omega) (by omega) (by omega) h5 (by omega) hst.1
      rw [he9] at hr9
      refine O.call 37 22 #[.iface 29 (.pointer (some ⟨b2, 0, none⟩)), .agg top.cells.toArray, .slice s1.a s1.n s1.c] (by kernel_rfl) rfl (by kernel_rfl) ((hr9).mono ?_)
      rintro e2 w6 ⟨g6, s2, σ1, rfl, M8, hq2, hq3, hq4⟩
      have K8 := K7.step M8 (le_lo (rg_rg (by omega) (by omega))) (nrg (by omega))
      have n8 := hq4.len
      refine ⟨_, rfl, ⟨(kp_skip (by kernel_rfl) (kp_skip (by kernel_rfl) (kp_skip (by kernel_rfl) kp_nil))), ?_⟩⟩
      refine Yb 15 22 (.tuple #[.agg ((chgM S1.er top es).1.top.cells).toArray, .slice s2.a s2.n s2.c, .int .i64 0]) rfl (fun u => by kernel_rfl) ?_
      refine Yb 16 38 (.agg ((chgM S1.er top es).1.top.cells).toArray) rfl (fun u => by kernel_rfl) ?_
      refine Yb 17 39 (.slice s2.a s2.n s2.c) rfl (fun u => by kernel_rfl) ?_
      refine Yb 18 40 (.int .i64 0) rfl (fun u => by kernel_rfl) ?_
      refine G.op 19 (by kernel_rfl) rfl (O.new 8 31 [.int .i64 0, .int .i64 0] rfl rfl (by kernel_rfl) K8 fun b6 w7 g8 K9 M10 => ⟨kp_nt ((Mv.refl _ _ _).trans M10) _, ?_⟩)
      refine G.op 20 (by kernel_rfl) rfl (O.sta 0 (chgM S1.er top es).1.top.cells rfl rfl rfl rfl rfl Ty31 rfl rfl rfl rfl K9 fun w8 K10 M11 => ⟨(kp_skip (by kernel_rfl) (kp_skip (by kernel_rfl) (kp_skip (by kernel_rfl) kp_nil))), ?_⟩)
      refine Yb 21 9 (.slice s2.a s2.n s2.c) rfl (fun u => by kernel_rfl) ?_
      refine Yb 22 10 (.int .i64 0) rfl (fun u => by kernel_rfl) ?_
      refine G.fin (by kernel_rfl) ?_
      refine hk9 _ _ (wp_seq_k fun k10 hk10 => (wp_seq_k fun k11 hk11 => (wp_region_lit ?_)))
      refine Zb 41 (.int .i64 0) ?_
      refine W.op (O.call 42 10 #[.int .i64 0] (by kernel_rfl) rfl (by kernel_rfl) ((num_c 0 w8 g8).mono ?_))
      rintro e3 w9 ⟨g9, rfl, M12⟩
      have K11 := K10.step M12 nt_le quiet
      refine ⟨_, rfl, ?_⟩
      refine Zb 43 (.bool false) ?_
      refine Zb 44 (.bool false) ?_
      refine Za 45 ?_
      refine Za 46 ?_
      refine Za 47 ?_
      refine Zb 48 (.bool false) ?_
      refine wpList_nil (hk11 _ _ (W.cond false rfl (wp_skip (hk10 _ _ (wp_seq_k fun k12 hk12 => (wp_region_lit ?_))))))
      refine Zb 51 (.int .i64 0) ?_
      refine W.op (O.call 52 10 #[.int .i64 0] (by kernel_rfl) rfl (by kernel_rfl) ((num_c 0 w9 g9).mono ?_))
      rintro e4 w10 ⟨g10, rfl, M13⟩
      have K12 := K11.step M13 nt_le quiet
      refine ⟨_, rfl, ?_⟩
      refine Zb 53 (.bool true) ?_
      refine wpList_nil (hk12 _ _ (W.cond true rfl (wp_region_lit ?_)))
      refine Zb 54 (.slice sl.a sl.n sl.c) ?_
      refine Zc 55 (.agg ((chgM S1.er top es).1.top.cells).toArray) (exec_loads (cs := (chgM S1.er top es).1.top.cells) rfl rfl Ty31 rfl ((K12.nth 0 rfl).all 2)) ?_
      refine W.op (O.lit 56 31 [.int .i64 ((chgM S1.er top es).1.top.num), .int .i64 ((chgM S1.er top es).1.top.gen)] 1 rfl rfl (by kernel_rfl) K12 fun b7 w11 g11 K13 M14 => ?_)
      have htops_1 := h4.mv M5 quiet
      have htops_2 := htops_1.mv M6 quiet
      have htops_3 := htops_2.mv M7 (neq (by omega))
      have htops_4 := htops_3.mv M8 (nrg (by omega))
      have htops_5 := htops_4.mv M10 quiet
      have htops_6 := htops_5.mv M11 (neq (by omega))
      have htops_7 := htops_6.mv M12 quiet
      have htops_8 := htops_7.mv M13 quiet
      have htops_9 := htops_8.mv M14 quiet
      refine W.op (O.append (f := Ref.cells) 57 [(chgM S1.er top es).1.top] (by kernel_rfl) rfl rfl (by kernel_rfl) El31 rfl rfl htops_9 rfl (src1 (K13.nth 0 rfl) rfl) (fun _ => rfl) (by simp only [List.length_cons, List.length_nil]; omega) (by simp only [List.length_cons, List.length_nil]; omega) fun s4 w12 g12 hG1 M15 => ?_)
      have K14 := K13.step M15 (le_lo (eq_rg (by omega))) (neq (by omega))
      have n9 := hG1.len
      refine Zb 6 (.slice s4.a s4.n s4.c) ?_
      refine wpList_nil (block_normal (hk8 _ _ (wp_region_lit ?_)))
      refine Zb 20 (.int .i64 ↑i) ?_
      refine Zc 21 (.int .i64 ((i + 1 : Nat) : Int)) (okv (v := .int .i64 (IntKind.i64.wrap (((i : Nat) : Int) + 1))) (by kernel_rfl) (wrapn (by omega) (by omega))) ?_
      refine Zb 7 (.int .i64 ((i + 1 : Nat) : Int)) ?_
      refine wpList_nil ?_
      have hhL_4 := h1.mv M5 quiet
      have hhL_5 := hhL_4.mv M6 quiet
      have hhL_6 := hhL_5.mv M7 (neq (by omega))
      have hhL_7 := hhL_6.mv M8 (nrg (by omega))
      have hhL_8 := hhL_7.mv M10 quiet
      have hhL_9 := hhL_8.mv M11 (neq (by omega))
      have hhL_10 := hhL_9.mv M12 quiet
      have hhL_11 := hhL_10.mv M13 quiet
      have hhL_12 := hhL_11.mv M14 quiet
      have hhL_13 := hhL_12.mv M15 (neq (by omega))
      have hhB_5 := hhB_4.mv M6 quiet
      have hhB_6 := hhB_5.mv M7 (neq (by omega))
      have hhB_7 := hhB_6.mv M8 (nrg (by omega))
      have hhB_8 := hhB_7.mv M10 quiet
      have hhB_9 := hhB_8.mv M11 (neq (by omega))
      have hhB_10 := hhB_9.mv M12 quiet
      have hhB_11 := hhB_10.mv M13 quiet
      have hhB_12 := hhB_11.mv M14 quiet
      have hhB_13 := hhB_12.mv M15 (neq (by omega))
      have hT_4 := hq2.mv M10 quiet quiet quiet quiet
      have hT_5 := hT_4.mv M11 (neq (by omega)) (neq (by omega)) (neq (by omega)) (neq (by omega))
      have hT_6 := hT_5.mv M12 quiet quiet quiet quiet
      have hT_7 := hT_6.mv M13 quiet quiet quiet quiet
      have hT_8 := hT_7.mv M14 quiet quiet quiet quiet
      have hT_9 := hT_8.mv M15 (neq (by omega)) (neq (by omega)) (neq (by omega)) (neq (by omega))
      exact ⟨bs.length - (i + 1), _, by omega, ((((look_eq (t := 1) (v := .pointer (some ⟨b1, 0, none⟩)) rfl).trans (look_eq (t := 5) (v := .pointer (some ⟨b2, 0, none⟩)) rfl)).trans (look_eq (t := 6) (v := .slice s4.a s4.n s4.c) rfl)).trans (look_eq (t := 7) (v := .int .i64 (((i + 1) : Nat) : Int)) rfl)), ⟨(i + 1), s4, (ts ++ [(chgM S1.er top es).1.top]), (chgM S1.er top es).1.top, σ1, _, _, rfl, rfl, K14.tail.tail, ((((((((((M4.trans (M5.mono nt_le)).trans (M6.mono nt_le)).trans (M7.mono (eq_lo (by omega)))).trans (M8.mono (le_lo (rg_rg (by omega) (by omega))))).trans (M10.mono nt_le)).trans (M11.mono (le_lo (eq_rg (by omega))))).trans (M12.mono nt_le)).trans (M13.mono nt_le)).trans (M14.mono nt_le)).trans (M15.mono (le_lo (eq_rg (by omega))))), (hr8 σ1 hq3), ⟨ts, rfl⟩, by omega, by omega, (by simp only [List.length_append, List.length_cons, List.length_nil]; omega), (by simp only [List.length_append, List.length_cons, List.length_nil]; omega), hhL_13, hhB_13, hT_9, hG1⟩⟩
     ·have hr9 := change_c τ b2 S1 top s1 es (t0 + 33) w5 (recol g5 (t0 + 31) 0) hT_3 (by omega) (by omega) (by omega) (by omega) h5 (by omega) hst.1
      rw [he9] at hr9
      refine O.call 37 22 #[.iface 29 (.pointer (some ⟨b2, 0, none⟩)), .agg top.cells.toArray, .slice s1.a s1.n s1.c] (by kernel_rfl) rfl (by kernel_rfl) ((hr9).mono ?_)
      rintro e5 w13 ⟨g7, s3, σ2, rfl, M9, hq5, hq6, hq7⟩
      have K15 := K7.step M9 (le_lo (rg_rg (by omega) (by omega))) (nrg (by omega))
      have n10 := hq7.len
      refine ⟨_, rfl, ⟨(kp_skip (by kernel_rfl) (kp_skip (by kernel_rfl) (kp_skip (by kernel_rfl) kp_nil))), ?_⟩⟩
      refine Yb 15 22 (.tuple #[.agg ((chgM S1.er top es).1.top.cells).toArray, .slice s3.a s3.n s3.c, .int .i64 131]) rfl (fun u => by kernel_rfl) ?_
      refine Yb 16 38 (.agg ((chgM S1.er top es).1.top.cells).toArray) rfl (fun u => by kernel_rfl) ?_
      refine Yb 17 39 (.slice s3.a s3.n s3.c) rfl (fun u => by kernel_rfl) ?_
      refine Yb 18 40 (.int .i64 131) rfl (fun u => by kernel_rfl) ?_
      refine G.op 19 (by kernel_rfl) rfl (O.new 8 31 [.int .i64 0, .int .i64 0] rfl rfl (by kernel_rfl) K15 fun b8 w14 g13 K16 M16 => ⟨kp_nt ((Mv.refl _ _ _).trans M16) _, ?_⟩)
      refine G.op 20 (by kernel_rfl) rfl (O.sta 0 (chgM S1.er top es).1.top.cells rfl rfl rfl rfl rfl Ty31 rfl rfl rfl rfl K16 fun w15 K17 M17 => ⟨(kp_skip (by kernel_rfl) (kp_skip (by kernel_rfl) (kp_skip (by kernel_rfl) kp_nil))), ?_⟩)
      refine Yb 21 9 (.slice s3.a s3.n s3.c) rfl (fun u => by kernel_rfl) ?_
      refine Yb 22 10 (.int .i64 131) rfl (fun u => by kernel_rfl) ?_
      refine G.fin (by kernel_rfl) ?_
      refine hk9 _ _ (wp_seq_k fun k13 hk13 => (wp_seq_k fun k14 hk14 => (wp_region_lit ?_)))
      refine Zb 41 (.int .i64 131) ?_
      refine W.op (O.call 42 10 #[.int .i64 131] (by kernel_rfl) rfl (by kernel_rfl) ((num_c 131 w15 g13).mono ?_))
      rintro e6 w16 ⟨g14, rfl, M18⟩
      have K18 := K17.step M18 nt_le quiet
      refine ⟨_, rfl, ?_⟩
      refine Zb 43 (.bool true) ?_
      refine Zb 44 (.bool true) ?_
      refine Zd 45 (.int .i64 131) ?_
      refine W.op (O.call 46 10 #[.int .i64 131] (by kernel_rfl) rfl (by kernel_rfl) ((num_c 131 w16 g14).mono ?_))
      rintro e7 w17 ⟨g15, rfl, M19⟩
      have K19 := K18.step M19 nt_le quiet
      refine ⟨_, rfl, ?_⟩
      refine Zd 47 (.bool false) ?_
      refine Zb 48 (.bool false) ?_
      refine wpList_nil (hk14 _ _ (W.cond false rfl (wp_skip (hk13 _ _ (wp_seq_k fun k15 hk15 => (wp_region_lit ?_))))))
      refine Zb 51 (.int .i64 131) ?_
      refine W.op (O.call 52 10 #[.int .i64 131] (by kernel_rfl) rfl (by kernel_rfl) ((num_c 131 w17 g15).mono ?_))
      rintro e8 w18 ⟨g16, rfl, M20⟩
      have K20 := K19.step M20 nt_le quiet
      refine ⟨_, rfl, ?_⟩
      refine Zb 53 (.bool false) ?_
      refine wpList_nil (hk15 _ _ (W.cond false rfl (wp_skip (block_normal (hk8 _ _ (wp_region_lit ?_))))))
      refine Zb 20 (.int .i64 ↑i) ?_
      refine Zc 21 (.int .i64 ((i + 1 : Nat) : Int)) (okv (v := .int .i64 (IntKind.i64.wrap (((i : Nat) : Int) + 1))) (by kernel_rfl) (wrapn (by omega) (by omega))) ?_
      refine Zb 7 (.int .i64 ((i + 1 : Nat) : Int)) ?_
      refine wpList_nil ?_
      have htops_10 := h4.mv M5 quiet
      have htops_11 := htops_10.mv M6 quiet
      have htops_12 := htops_11.mv M7 (neq (by omega))
      have htops_13 := htops_12.mv M9 (nrg (by omega))
      have htops_14 := htops_13.mv M16 quiet
      have htops_15 := htops_14.mv M17 (neq (by omega))
      have htops_16 := htops_15.mv M18 quiet
      have htops_17 := htops_16.mv M19 quiet
      have htops_18 := htops_17.mv M20 quiet
      have hhL_14 := h1.mv M5 quiet
      have hhL_15 := hhL_14.mv M6 quiet
      have hhL_16 := hhL_15.mv M7 (neq (by omega))
      have hhL_17 := hhL_16.mv M9 (nrg (by omega))
      have hhL_18 := hhL_17.mv M16 quiet
      have hhL_19 := hhL_18.mv M17 (neq (by omega))
      have hhL_20 := hhL_19.mv M18 quiet
      have hhL_21 := hhL_20.mv M19 quiet
      have hhL_22 := hhL_21.mv M20 quiet
      have hhB_14 := hhB_4.mv M6 quiet
      have hhB_15 := hhB_14.mv M7 (neq (by omega))
      have hhB_16 := hhB_15.mv M9 (nrg (by omega))
      have hhB_17 := hhB_16.mv M16 quiet
      have hhB_18 := hhB_17.mv M17 (neq (by omega))
      have hhB_19 := hhB_18.mv M18 quiet
      have hhB_20 := hhB_19.mv M19 quiet
      have hhB_21 := hhB_20.mv M20 quiet
      have hT_10 := hq5.mv M16 quiet quiet quiet quiet
      have hT_11 := hT_10.mv M17 (neq (by omega)) (neq (by omega)) (neq (by omega)) (neq (by omega))
      have hT_12 := hT_11.mv M18 quiet quiet quiet quiet
      have hT_13 := hT_12.mv M19 quiet quiet quiet quiet
      have hT_14 := hT_13.mv M20 quiet quiet quiet quiet
      exact ⟨bs.length - (i + 1), _, by omega, ((((look_eq (t := 1) (v := .pointer (some ⟨b1, 0, none⟩)) rfl).trans (look_eq (t := 5) (v := .pointer (some ⟨b2, 0, none⟩)) rfl)).trans (look_eq (t := 6) (v := .slice sl.a sl.n sl.c) rfl)).trans (look_eq (t := 7) (v := .int .i64 (((i + 1) : Nat) : Int)) rfl)), ⟨(i + 1), sl, ts, top, σ2, _, _, rfl, rfl, K20.tail, (((((((((M4.trans (M5.mono nt_le)).trans (M6.mono nt_le)).trans (M7.mono (eq_lo (by omega)))).trans (M9.mono (le_lo (rg_rg (by omega) (by omega))))).trans (M16.mono nt_le)).trans (M17.mono (le_lo (eq_rg (by omega))))).trans (M18.mono nt_le)).trans (M19.mono nt_le)).trans (M20.mono nt_le)), (hr8 σ2 hq6), p2, by omega, by omega, by omega, by omega, hhL_22, hhB_21, hT_14, htops_18⟩⟩
    ·refine O.new 8 31 [.int .i64 0, .int .i64 0] rfl rfl (by kernel_rfl) K6 fun b9 w19 g17 K21 M21 => ⟨kp_nt ((Mv.refl _ _ _).trans M21) _, ?_⟩
     have hsm := Run.small p1 (by omega) hN
     have hst := Run.step p1 hN hes (hE es (List.mem_of_getElem? hes))
     have hel9 : es.length ≤ ess.flatten.length := by omega
     have hf1_1 := hq1.mv M21 quiet
     have M22 := Mv.recol w19 g17 (t0 + 31) 0
     have K22 := K21.step M22 (eq_lo (by omega)) (neq (by omega))
     have h6 := hf1_1.ice
     have n11 := h6.len
     have hT_15 := h3.mv M5 quiet quiet quiet quiet
     have hT_16 := hT_15.mv M6 quiet quiet quiet quiet
     have hT_17 := hT_16.mv M21 quiet quiet quiet quiet
     have hT_18 := hT_17.mv M22 (neq (by omega)) (neq (by omega)) (neq (by omega)) (neq (by omega))
     rcases hst.2 with ⟨he9, hr8⟩ | ⟨he9, hr8⟩
     ·have hr9 := change_c τ b2 S1 top s1 es (t0 + 34) w19 (recol g17 (t0 + 31) 0) hT_18 (by omega) (by omega) (by omega) (by omega) h6 (by omega) hst.1
      rw [he9] at hr9
      refine G.op 14 (by kernel_rfl) rfl (O.call 37 22 #[.iface 29 (.pointer (some ⟨b2, 0, none⟩)), .agg top.cells.toArray, .slice s1.a s1.n s1.c] (by kernel_rfl) rfl (by kernel_rfl) ((hr9).mono ?_))
      rintro e9 w20 ⟨g18, s5, σ3, rfl, M23, hq8, hq9, hq10⟩
      have K23 := K22.step M23 (le_lo (rg_rg (by omega) (by omega))) (nrg (by omega))
      have n12 := hq10.len
      refine ⟨_, rfl, ⟨(kp_skip (by kernel_rfl) (kp_skip (by kernel_rfl) (kp_skip (by kernel_rfl) kp_nil))), ?_⟩⟩
      refine Yb 15 22 (.tuple #[.agg ((chgM S1.er top es).1.top.cells).toArray, .slice s5.a s5.n s5.c, .int .i64 0]) rfl (fun u => by kernel_rfl) ?_
      refine Yb 16 38 (.agg ((chgM S1.er top es).1.top.cells).toArray) rfl (fun u => by kernel_rfl) ?_
      refine Yb 17 39 (.slice s5.a s5.n s5.c) rfl (fun u => by kernel_rfl) ?_
      refine Yb 18 40 (.int .i64 0) rfl (fun u => by kernel_rfl) ?_
      refine G.op 20 (by kernel_rfl) rfl (O.sta 0 (chgM S1.er top es).1.top.cells rfl rfl rfl rfl rfl Ty31 rfl rfl rfl rfl K23 fun w21 K24 M25 => ⟨(kp_skip (by kernel_rfl) (kp_skip (by kernel_rfl) (kp_skip (by kernel_rfl) kp_nil))), ?_⟩)
      refine Yb 21 9 (.slice s5.a s5.n s5.c) rfl (fun u => by kernel_rfl) ?_
      refine Yb 22 10 (.int .i64 0) rfl (fun u => by kernel_rfl) ?_
      refine G.fin (by kernel_rfl) ?_
      refine hk9 _ _ (wp_seq_k fun k16 hk16 => (wp_seq_k fun k17 hk17 => (wp_region_lit ?_)))
      refine Zb 41 (.int .i64 0) ?_
      refine W.op (O.call 42 10 #[.int .i64 0] (by kernel_rfl) rfl (by kernel_rfl) ((num_c 0 w21 g18).mono ?_))
      rintro e10 w22 ⟨g20, rfl, M26⟩
      have K25 := K24.step M26 nt_le quiet
      refine ⟨_, rfl, ?_⟩
      refine Zb 43 (.bool false) ?_
      refine Zb 44 (.bool false) ?_
      refine Za 45 ?_
      refine Za 46 ?_
      refine Za 47 ?_
      refine Zb 48 (.bool false) ?_
      refine wpList_nil (hk17 _ _ (W.cond false rfl (wp_skip (hk16 _ _ (wp_seq_k fun k18 hk18 => (wp_region_lit ?_))))))
      refine Zb 51 (.int .i64 0) ?_
      refine W.op (O.call 52 10 #[.int .i64 0] (by kernel_rfl) rfl (by kernel_rfl) ((num_c 0 w22 g20).mono ?_))
      rintro e11 w23 ⟨g21, rfl, M27⟩
      have K26 := K25.step M27 nt_le quiet
      refine ⟨_, rfl, ?_⟩
      refine Zb 53 (.bool true) ?_
      refine wpList_nil (hk18 _ _ (W.cond true rfl (wp_region_lit ?_)))
      refine Zb 54 (.slice sl.a sl.n sl.c) ?_
      refine Zc 55 (.agg ((chgM S1.er top es).1.top.cells).toArray) (exec_loads (cs := (chgM S1.er top es).1.top.cells) rfl rfl Ty31 rfl ((K26.nth 0 rfl).all 2)) ?_
      refine W.op (O.lit 56 31 [.int .i64 ((chgM S1.er top es).1.top.num), .int .i64 ((chgM S1.er top es).1.top.gen)] 1 rfl rfl (by kernel_rfl) K26 fun b10 w24 g22 K27 M28 => ?_)
      have htops_19 := h4.mv M5 quiet
      have htops_20 := htops_19.mv M6 quiet
      have htops_21 := htops_20.mv M21 quiet
      have htops_22 := htops_21.mv M22 (neq (by omega))
      have htops_23 := htops_22.mv M23 (nrg (by omega))
      have htops_24 := htops_23.mv M25 (neq (by omega))
      have htops_25 := htops_24.mv M26 quiet
      have htops_26 := htops_25.mv M27 quiet
      have htops_27 := htops_26.mv M28 quiet
      refine W.op (O.append (f := Ref.cells) 57 [(chgM S1.er top es).1.top] (by kernel_rfl) rfl rfl (by kernel_rfl) El31 rfl rfl htops_27 rfl (src1 (K27.nth 0 rfl) rfl) (fun _ => rfl) (by simp only [List.length_cons, List.length_nil]; omega) (by simp only [List.length_cons, List.length_nil]; omega) fun s7 w25 g23 hG2 M29 => ?_)
      have K28 := K27.step M29 (le_lo (eq_rg (by omega))) (neq (by omega))
      have n13 := hG2.len
      refine Zb 6 (.slice s7.a s7.n s7.c) ?_
      refine wpList_nil (block_normal (hk8 _ _ (wp_region_lit ?_)))
      refine Zb 20 (.int .i64 ↑i) ?_
      refine Zc 21 (.int .i64 ((i + 1 : Nat) : Int)) (okv (v := .int .i64 (IntKind.i64.wrap (((i : Nat) : Int) + 1))) (by kernel_rfl) (wrapn (by omega) (by omega))) ?_
      refine Zb 7 (.int .i64 ((i + 1 : Nat) : Int)) ?_
      refine wpList_nil ?_
      have hhL_23 := h1.mv M5 quiet
      have hhL_24 := hhL_23.mv M6 quiet
      have hhL_25 := hhL_24.mv M21 quiet
      have hhL_26 := hhL_25.mv M22 (neq (by omega))
      have hhL_27 := hhL_26.mv M23 (nrg (by omega))
      have hhL_28 := hhL_27.mv M25 (neq (by omega))
      have hhL_29 := hhL_28.mv M26 quiet
      have hhL_30 := hhL_29.mv M27 quiet
      have hhL_31 := hhL_30.mv M28 quiet
      have hhL_32 := hhL_31.mv M29 (neq (by omega))
      have hhB_22 := hhB_4.mv M6 quiet
      have hhB_23 := hhB_22.mv M21 quiet
      have hhB_24 := hhB_23.mv M22 (neq (by omega))
      have hhB_25 := hhB_24.mv M23 (nrg (by omega))
      have hhB_26 := hhB_25.mv M25 (neq (by omega))
      have hhB_27 := hhB_26.mv M26 quiet
      have hhB_28 := hhB_27.mv M27 quiet
      have hhB_29 := hhB_28.mv M28 quiet
      have hhB_30 := hhB_29.mv M29 (neq (by omega))
      have hT_19 := hq8.mv M25 (neq (by omega)) (neq (by omega)) (neq (by omega)) (neq (by omega))
      have hT_20 := hT_19.mv M26 quiet quiet quiet quiet
      have hT_21 := hT_20.mv M27 quiet quiet quiet quiet
      have hT_22 := hT_21.mv M28 quiet quiet quiet quiet
      have hT_23 := hT_22.mv M29 (neq (by omega)) (neq (by omega)) (neq (by omega)) (neq (by omega))
      exact ⟨bs.length - (i + 1), _, by omega, ((((look_eq (t := 1) (v := .pointer (some ⟨b1, 0, none⟩)) rfl).trans (look_eq (t := 5) (v := .pointer (some ⟨b2, 0, none⟩)) rfl)).trans (look_eq (t := 6) (v := .slice s7.a s7.n s7.c) rfl)).trans (look_eq (t := 7) (v := .int .i64 (((i + 1) : Nat) : Int)) rfl)), ⟨(i + 1), s7, (ts ++ [(chgM S1.er top es).1.top]), (chgM S1.er top es).1.top, σ3, _, _, rfl, rfl, K28.tail.tail, ((((((((((M4.trans (M5.mono nt_le)).trans (M6.mono nt_le)).trans (M21.mono nt_le)).trans (M22.mono (eq_lo (by omega)))).trans (M23.mono (le_lo (rg_rg (by omega) (by omega))))).trans (M25.mono (le_lo (eq_rg (by omega))))).trans (M26.mono nt_le)).trans (M27.mono nt_le)).trans (M28.mono nt_le)).trans (M29.mono (le_lo (eq_rg (by omega))))), (hr8 σ3 hq9), ⟨ts, rfl⟩, by omega, by omega, (by simp only [List.length_append, List.length_cons, List.length_nil]; omega), (by simp only [List.length_append, List.length_cons, List.length_nil]; omega), hhL_32, hhB_30, hT_23, hG2⟩⟩
     ·have hr9 := change_c τ b2 S1 top s1 es (t0 + 35) w19 (recol g17 (t0 + 31) 0) hT_18 (by omega) (by omega) (by omega) (by omega) h6 (by omega) hst.1
      rw [he9] at hr9
      refine G.op 14 (by kernel_rfl) rfl (O.call 37 22 #[.iface 29 (.pointer (some ⟨b2, 0, none⟩)), .agg top.cells.toArray, .slice s1.a s1.n s1.c] (by kernel_rfl) rfl (by kernel_rfl) ((hr9).mono ?_))
      rintro e12 w26 ⟨g19, s6, σ4, rfl, M24, hq11, hq12, hq13⟩
      have K29 := K22.step M24 (le_lo (rg_rg (by omega) (by omega))) (nrg (by omega))
      have n14 := hq13.len
      refine ⟨_, rfl, ⟨(kp_skip (by kernel_rfl) (kp_skip (by kernel_rfl) (kp_skip (by kernel_rfl) kp_nil))), ?_⟩⟩
      refine Yb 15 22 (.tuple #[.agg ((chgM S1.er top es).1.top.cells).toArray, .slice s6.a s6.n s6.c, .int .i64 131]) rfl (fun u => by kernel_rfl) ?_
      refine Yb 16 38 (.agg ((chgM S1.er top es).1.top.cells).toArray) rfl (fun u => by kernel_rfl) ?_
      refine Yb 17 39 (.slice s6.a s6.n s6.c) rfl (fun u => by kernel_rfl) ?_
      refine Yb 18 40 (.int .i64 131) rfl (fun u => by kernel_rfl) ?_
      refine G.op 20 (by kernel_rfl) rfl (O.sta 0 (chgM S1.er top es).1.top.cells rfl rfl rfl rfl rfl Ty31 rfl rfl rfl rfl K29 fun w27 K30 M30 => ⟨(kp_skip (by kernel_rfl) (kp_skip (by kernel_rfl) (kp_skip (by kernel_rfl) kp_nil))), ?_⟩)
      refine Yb 21 9 (.slice s6.a s6.n s6.c) rfl (fun u => by kernel_rfl) ?_
      refine Yb 22 10 (.int .i64 131) rfl (fun u => by kernel_rfl) ?_
      refine G.fin (by kernel_rfl) ?_
      refine hk9 _ _ (wp_seq_k fun k19 hk19 => (wp_seq_k fun k20 hk20 => (wp_region_lit ?_)))
      refine Zb 41 (.int .i64 131) ?_
      refine W.op (O.call 42 10 #[.int .i64 131] (by kernel_rfl) rfl (by kernel_rfl) ((num_c 131 w27 g19).mono ?_))
      rintro e13 w28 ⟨g24, rfl, M31⟩
      have K31 := K30.step M31 nt_le quiet
      refine ⟨_, rfl, ?_⟩
      refine Zb 43 (.bool true) ?_
      refine Zb 44 (.bool true) ?_
      refine Zd 45 (.int .i64 131) ?_
      refine W.op (O.call 46 10 #[.int .i64 131] (by kernel_rfl) rfl (by kernel_rfl) ((num_c 131 w28 g24).mono ?_))
      rintro e14 w29 ⟨g25, rfl, M32⟩
      have K32 := K31.step M32 nt_le quiet
      refine ⟨_, rfl, ?_⟩
      refine Zd 47 (.bool false) ?_
      refine Zb 48 (.bool false) ?_
      refine wpList_nil (hk20 _ _ (W.cond false rfl (wp_skip (hk19 _ _ (wp_seq_k fun k21 hk21 => (wp_region_lit ?_))))))
      refine Zb 51 (.int .i64 131) ?_
      refine W.op (O.call 52 10 #[.int .i64 131] (by kernel_rfl) rfl (by kernel_rfl) ((num_c 131 w29 g25).mono ?_))
      rintro e15 w30 ⟨g26, rfl, M33⟩
      have K33 := K32.step M33 nt_le quiet
      refine ⟨_, rfl, ?_⟩
      refine Zb 53 (.bool false) ?_
      refine wpList_nil (hk21 _ _ (W.cond false rfl (wp_skip (block_normal (hk8 _ _ (wp_region_lit ?_))))))
      refine Zb 20 (.int .i64 ↑i) ?_
      refine Zc 21 (.int .i64 ((i + 1 : Nat) : Int)) (okv (v := .int .i64 (IntKind.i64.wrap (((i : Nat) : Int) + 1))) (by kernel_rfl) (wrapn (by omega) (by omega))) ?_
      refine Zb 7 (.int .i64 ((i + 1 : Nat) : Int)) ?_
      refine wpList_nil ?_
      have htops_28 := h4.mv M5 quiet
      have htops_29 := htops_28.mv M6 quiet
      have htops_30 := htops_29.mv M21 quiet
      have htops_31 := htops_30.mv M22 (neq (by omega))
      have htops_32 := htops_31.mv M24 (nrg (by omega))
      have htops_33 := htops_32.mv M30 (neq (by omega))
      have htops_34 := htops_33.mv M31 quiet
      have htops_35 := htops_34.mv M32 quiet
      have htops_36 := htops_35.mv M33 quiet
      have hhL_33 := h1.mv M5 quiet
      have hhL_34 := hhL_33.mv M6 quiet
      have hhL_35 := hhL_34.mv M21 quiet
      have hhL_36 := hhL_35.mv M22 (neq (by omega))
      have hhL_37 := hhL_36.mv M24 (nrg (by omega))
      have hhL_38 := hhL_37.mv M30 (neq (by omega))
      have hhL_39 := hhL_38.mv M31 quiet
      have hhL_40 := hhL_39.mv M32 quiet
      have hhL_41 := hhL_40.mv M33 quiet
      have hhB_31 := hhB_4.mv M6 quiet
      have hhB_32 := hhB_31.mv M21 quiet
      have hhB_33 := hhB_32.mv M22 (neq (by omega))
      have hhB_34 := hhB_33.mv M24 (nrg (by omega))
      have hhB_35 := hhB_34.mv M30 (neq (by omega))
      have hhB_36 := hhB_35.mv M31 quiet
      have hhB_37 := hhB_36.mv M32 quiet
      have hhB_38 := hhB_37.mv M33 quiet
      have hT_24 := hq11.mv M30 (neq (by omega)) (neq (by omega)) (neq (by omega)) (neq (by omega))
      have hT_25 := hT_24.mv M31 quiet quiet quiet quiet
      have hT_26 := hT_25.mv M32 quiet quiet quiet quiet
      have hT_27 := hT_26.mv M33 quiet quiet quiet quiet
      exact ⟨bs.length - (i + 1), _, by omega, ((((look_eq (t := 1) (v := .pointer (some ⟨b1, 0, none⟩)) rfl).trans (look_eq (t := 5) (v := .pointer (some ⟨b2, 0, none⟩)) rfl)).trans (look_eq (t := 6) (v := .slice sl.a sl.n sl.c) rfl)).trans (look_eq (t := 7) (v := .int .i64 (((i + 1) : Nat) : Int)) rfl)), ⟨(i + 1), sl, ts, top, σ4, _, _, rfl, rfl, K33.tail, (((((((((M4.trans (M5.mono nt_le)).trans (M6.mono nt_le)).trans (M21.mono nt_le)).trans (M22.mono (eq_lo (by omega)))).trans (M24.mono (le_lo (rg_rg (by omega) (by omega))))).trans (M30.mono (le_lo (eq_rg (by omega))))).trans (M31.mono nt_le)).trans (M32.mono nt_le)).trans (M33.mono nt_le)), (hr8 σ4 hq12), p2, by omega, by omega, by omega, by omega, hhL_41, hhB_38, hT_27, htops_36⟩⟩
   ·refine O.new 8 31 [.int .i64 0, .int .i64 0] rfl rfl (by kernel_rfl) K5 fun b11 w31 g27 K34 M34 => ⟨kp_nt ((Mv.refl _ _ _).trans M34) _, ?_⟩
    have hhB_39 := h2.mv M5 quiet
    have hhB_40 := hhB_39.mv M34 quiet
    obtain ⟨es, hes, hles⟩ := hhB_40.at hx1
    have hfes := flat_le hes
    have n15 := hles.len
    refine G.op 13 (by kernel_rfl) rfl (O.call 36 23 #[.slice x1.a x1.n x1.c] (by kernel_rfl) rfl (by kernel_rfl) ((own_c x1 es (t0 + 36) w31 g27 hles (by omega) (by omega)).mono ?_))
    rintro e16 w32 ⟨g28, s8, rfl, M35, hq14⟩
    have K35 := K34.step M35 nt_le quiet
    have n16 := hq14.len
    refine ⟨_, rfl, ⟨kp_nt ((Mv.refl _ _ _).trans M35) _, ?_⟩⟩
    have hsm := Run.small p1 (by omega) hN
    have hst := Run.step p1 hN hes (hE es (List.mem_of_getElem? hes))
    have hel9 : es.length ≤ ess.flatten.length := by omega
    have M36 := Mv.recol w32 g28 (t0 + 36) 0
    have K36 := K35.step M36 (eq_lo (by omega)) (neq (by omega))
    have h7 := hq14.ice
    have n17 := h7.len
    have hT_28 := h3.mv M5 quiet quiet quiet quiet
    have hT_29 := hT_28.mv M34 quiet quiet quiet quiet
    have hT_30 := hT_29.mv M35 quiet quiet quiet quiet
    have hT_31 := hT_30.mv M36 (neq (by omega)) (neq (by omega)) (neq (by omega)) (neq (by omega))
    rcases hst.2 with ⟨he9, hr8⟩ | ⟨he9, hr8⟩
    ·have hr9 := change_c τ b2 S1 top s8 es (t0 + 37) w32 (recol g28 (t0 + 36) 0) hT_31 (by omega) (by omega) (by omega) (by omega) h7 (by omega) hst.1
     rw [he9] at hr9
     refine G.op 14 (by kernel_rfl) rfl (O.call 37 22 #[.iface 29 (.pointer (some ⟨b2, 0, none⟩)), .agg top.cells.toArray, .slice s8.a s8.n s8.c] (by kernel_rfl) rfl (by kernel_rfl) ((hr9).mono ?_))
     rintro e17 w33 ⟨g29, s9, σ5, rfl, M37, hq15, hq16, hq17⟩
     have K37 := K36.step M37 (le_lo (rg_rg (by omega) (by omega))) (nrg (by omega))
     have n18 := hq17.len
     refine ⟨_, rfl, ⟨(kp_skip (by kernel_rfl) (kp_skip (by kernel_rfl) (kp_skip (by kernel_rfl) kp_nil))), ?_⟩⟩
     refine Yb 15 22 (.tuple #[.agg ((chgM S1.er top es).1.top.cells).toArray, .slice s9.a s9.n s9.c, .int .i64 0]) rfl (fun u => by kernel_rfl) ?_
     refine Yb 16 38 (.agg ((chgM S1.er top es).1.top.cells).toArray) rfl (fun u => by kernel_rfl) ?_
     refine Yb 17 39 (.slice s9.a s9.n s9.c) rfl (fun u => by kernel_rfl) ?_
     refine Yb 18 40 (.int .i64 0) rfl (fun u => by kernel_rfl) ?_
     refine G.op 20 (by kernel_rfl) rfl (O.sta 0 (chgM S1.er top es).1.top.cells rfl rfl rfl rfl rfl Ty31 rfl rfl rfl rfl K37 fun w34 K38 M39 => ⟨(kp_skip (by kernel_rfl) (kp_skip (by kernel_rfl) (kp_skip (by kernel_rfl) kp_nil))), ?_⟩)
     refine Yb 21 9 (.slice s9.a s9.n s9.c) rfl (fun u => by kernel_rfl) ?_
     refine Yb 22 10 (.int .i64 0) rfl (fun u => by kernel_rfl) ?_
     refine G.fin (by kernel_rfl) ?_
     refine hk9 _ _ (wp_seq_k fun k22 hk22 => (wp_seq_k fun k23 hk23 => (wp_region_lit ?_)))
     refine Zb 41 (.int .i64 0) ?_
     refine W.op (O.call 42 10 #[.int .i64 0] (by kernel_rfl) rfl (by kernel_rfl) ((num_c 0 w34 g29).mono ?_))
     rintro e18 w35 ⟨g31, rfl, M40⟩
     have K39 := K38.step M40 nt_le quiet
     refine ⟨_, rfl, ?_⟩
     refine Zb 43 (.bool false) ?_
     refine Zb 44 (.bool false) ?_
     refine Za 45 ?_
     refine Za 46 ?_
     refine Za 47 ?_
     refine Zb 48 (.bool false) ?_
     refine wpList_nil (hk23 _ _ (W.cond false rfl (wp_skip (hk22 _ _ (wp_seq_k fun k24 hk24 => (wp_region_lit ?_))))))
     refine Zb 51 (.int .i64 0) ?_
     refine W.op (O.call 52 10 #[.int .i64 0] (by kernel_rfl) rfl (by kernel_rfl) ((num_c 0 w35 g31).mono ?_))
     rintro e19 w36 ⟨g32, rfl, M41⟩
     have K40 := K39.step M41 nt_le quiet
     refine ⟨_, rfl, ?_⟩
     refine Zb 53 (.bool true) ?_
     refine wpList_nil (hk24 _ _ (W.cond true rfl (wp_region_lit ?_)))
     refine Zb 54 (.slice sl.a sl.n sl.c) ?_
     refine Zc 55 (.agg ((chgM S1.er top es).1.top.cells).toArray) (exec_loads (cs := (chgM S1.er top es).1.top.cells) rfl rfl Ty31 rfl ((K40.nth 0 rfl).all 2)) ?_
     refine W.op (O.lit 56 31 [.int .i64 ((chgM S1.er top es).1.top.num), .int .i64 ((chgM S1.er top es).1.top.gen)] 1 rfl rfl (by kernel_rfl) K40 fun b12 w37 g33 K41 M42 => ?_)
     have htops_37 := h4.mv M5 quiet
     have htops_38 := htops_37.mv M34 quiet
     have htops_39 := htops_38.mv M35 quiet
     have htops_40 := htops_39.mv M36 (neq (by omega))
     have htops_41 := htops_40.mv M37 (nrg (by omega))
     have htops_42 := htops_41.mv M39 (neq (by omega))
     have htops_43 := htops_42.mv M40 quiet
     have htops_44 := htops_43.mv M41 quiet
     have htops_45 := htops_44.mv M42 quiet
     refine W.op (O.append (f := Ref.cells) 57 [(chgM S1.er top es).1.top] (by kernel_rfl) rfl rfl (by kernel_rfl) El31 rfl rfl htops_45 rfl (src1 (K41.nth 0 rfl) rfl) (fun _ => rfl) (by simp only [List.length_cons, List.length_nil]; omega) (by simp only [List.length_cons, List.length_nil]; omega) fun s11 w38 g34 hG3 M43 => ?_)
     have K42 := K41.step M43 (le_lo (eq_rg (by omega))) (neq (by omega))
     have n19 := hG3.len
     refine Zb 6 (.slice s11.a s11.n s11.c) ?_
     refine wpList_nil (block_normal (hk8 _ _ (wp_region_lit ?_)))
     refine Zb 20 (.int .i64 ↑i) ?_
     refine Zc 21 (.int .i64 ((i + 1 : Nat) : Int)) (okv (v := .int .i64 (IntKind.i64.wrap (((i : Nat) : Int) + 1))) (by kernel_rfl) (wrapn (by omega) (by omega))) ?_
     refine Zb 7 (.int .i64 ((i + 1 : Nat) : Int)) ?_
     refine wpList_nil ?_
     have hhL_42 := h1.mv M5 quiet
     have hhL_43 := hhL_42.mv M34 quiet
     have hhL_44 := hhL_43.mv M35 quiet
     have hhL_45 := hhL_44.mv M36 (neq (by omega))
     have hhL_46 := hhL_45.mv M37 (nrg (by omega))
     have hhL_47 := hhL_46.mv M39 (neq (by omega))
     have hhL_48 := hhL_47.mv M40 quiet
     have hhL_49 := hhL_48.mv M41 quiet
     have hhL_50 := hhL_49.mv M42 quiet
     have hhL_51 := hhL_50.mv M43 (neq (by omega))
     have hhB_41 := hhB_40.mv M35 quiet
     have hhB_42 := hhB_41.mv M36 (neq (by omega))
     have hhB_43 := hhB_42.mv M37 (nrg (by omega))
     have hhB_44 := hhB_43.mv M39 (neq (by omega))
     have hhB_45 := hhB_44.mv M40 quiet
     have hhB_46 := hhB_45.mv M41 quiet
     have hhB_47 := hhB_46.mv M42 quiet
     have hhB_48 := hhB_47.mv M43 (neq (by omega))
     have hT_32 := hq15.mv M39 (neq (by omega)) (neq (by omega)) (neq (by omega)) (neq (by omega))
     have hT_33 := hT_32.mv M40 quiet quiet quiet quiet
     have hT_34 := hT_33.mv M41 quiet quiet quiet quiet
     have hT_35 := hT_34.mv M42 quiet quiet quiet quiet
     have hT_36 := hT_35.mv M43 (neq (by omega)) (neq (by omega)) (neq (by omega)) (neq (by omega))
     exact ⟨bs.length - (i + 1), _, by omega, ((((look_eq (t := 1) (v := .pointer (some ⟨b1, 0, none⟩)) rfl).trans (look_eq (t := 5) (v := .pointer (some ⟨b2, 0, none⟩)) rfl)).trans (look_eq (t := 6) (v := .slice s11.a s11.n s11.c) rfl)).trans (look_eq (t := 7) (v := .int .i64 (((i + 1) : Nat) : Int)) rfl)), ⟨(i + 1), s11, (ts ++ [(chgM S1.er top es).1.top]), (chgM S1.er top es).1.top, σ5, _, _, rfl, rfl, K42.tail.tail, ((((((((((M4.trans (M5.mono nt_le)).trans (M34.mono nt_le)).trans (M35.mono nt_le)).trans (M36.mono (eq_lo (by omega)))).trans (M37.mono (le_lo (rg_rg (by omega) (by omega))))).trans (M39.mono (le_lo (eq_rg (by omega))))).trans (M40.mono nt_le)).trans (M41.mono nt_le)).trans (M42.mono nt_le)).trans (M43.mono (le_lo (eq_rg (by omega))))), (hr8 σ5 hq16), ⟨ts, rfl⟩, by omega, by omega, (by simp only [List.length_append, List.length_cons, List.length_nil]; omega), (by simp only [List.length_append, List.length_cons, List.length_nil]; omega), hhL_51, hhB_48, hT_36, hG3⟩⟩
    ·have hr9 := change_c τ b2 S1 top s8 es (t0 + 38) w32 (recol g28 (t0 + 36) 0) hT_31 (by omega) (by omega) (by omega) (by omega) h7 (by omega) hst.1
     rw [he9] at hr9
     refine G.op 14 (by kernel_rfl) rfl (O.call 37 22 #[.iface 29 (.pointer (some ⟨b2, 0, none⟩)), .agg top.cells.toArray, .slice s8.a s8.n s8.c] (by kernel_rfl) rfl (by kernel_rfl) ((hr9).mono ?_))
     rintro e20 w39 ⟨g30, s10, σ6, rfl, M38, hq18, hq19, hq20⟩
     have K43 := K36.step M38 (le_lo (rg_rg (by omega) (by omega))) (nrg (by omega))
     have n20 := hq20.len
     refine ⟨_, rfl, ⟨(kp_skip (by kernel_rfl) (kp_skip (by kernel_rfl) (kp_skip (by kernel_rfl) kp_nil))), ?_⟩⟩
     refine Yb 15 22 (.tuple #[.agg ((chgM S1.er top es).1.top.cells).toArray, .slice s10.a s10.n s10.c, .int .i64 131]) rfl (fun u => by kernel_rfl) ?_
     refine Yb 16 38 (.agg ((chgM S1.er top es).1.top.cells).toArray) rfl (fun u => by kernel_rfl) ?_
     refine Yb 17 39 (.slice s10.a s10.n s10.c) rfl (fun u => by kernel_rfl) ?_
     refine Yb 18 40 (.int .i64 131) rfl (fun u => by kernel_rfl) ?_
     refine G.op 20 (by kernel_rfl) rfl (O.sta 0 (chgM S1.er top es).1.top.cells rfl rfl rfl rfl rfl Ty31 rfl rfl rfl rfl K43 fun w40 K44 M44 => ⟨(kp_skip (by kernel_rfl) (kp_skip (by kernel_rfl) (kp_skip (by kernel_rfl) kp_nil))), ?_⟩)
     refine Yb 21 9 (.slice s10.a s10.n s10.c) rfl (fun u => by kernel_rfl) ?_
     refine Yb 22 10 (.int .i64 131) rfl (fun u => by kernel_rfl) ?_
     refine G.fin (by kernel_rfl) ?_
     refine hk9 _ _ (wp_seq_k fun k25 hk25 => (wp_seq_k fun k26 hk26 => (wp_region_lit ?_)))
     refine Zb 41 (.int .i64 131) ?_
     refine W.op (O.call 42 10 #[.int .i64 131] (by kernel_rfl) rfl (by kernel_rfl) ((num_c 131 w40 g30).mono ?_))
     rintro e21 w41 ⟨g35, rfl, M45⟩
     have K45 := K44.step M45 nt_le quiet
     refine ⟨_, rfl, ?_⟩
     refine Zb 43 (.bool true) ?_
     refine Zb 44 (.bool true) ?_
     refine Zd 45 (.int .i64 131) ?_
     refine W.op (O.call 46 10 #[.int .i64 131] (by kernel_rfl) rfl (by kernel_rfl) ((num_c 131 w41 g35).mono ?_))
     rintro e22 w42 ⟨g36, rfl, M46⟩
     have K46 := K45.step M46 nt_le quiet
     refine ⟨_, rfl, ?_⟩
     refine Zd 47 (.bool false) ?_
     refine Zb 48 (.bool false) ?_
     refine wpList_nil (hk26 _ _ (W.cond false rfl (wp_skip (hk25 _ _ (wp_seq_k fun k27 hk27 => (wp_region_lit ?_))))))
     refine Zb 51 (.int .i64 131) ?_
     refine W.op (O.call 52 10 #[.int .i64 131] (by kernel_rfl) rfl (by kernel_rfl) ((num_c 131 w42 g36).mono ?_))
     rintro e23 w43 ⟨g37, rfl, M47⟩
     have K47 := K46.step M47 nt_le quiet
     refine ⟨_, rfl, ?_⟩
     refine Zb 53 (.bool false) ?_
     refine wpList_nil (hk27 _ _ (W.cond false rfl (wp_skip (block_normal (hk8 _ _ (wp_region_lit ?_))))))
     refine Zb 20 (.int .i64 ↑i) ?_
     refine Zc 21 (.int .i64 ((i + 1 : Nat) : Int)) (okv (v := .int .i64 (IntKind.i64.wrap (((i : Nat) : Int) + 1))) (by kernel_rfl) (wrapn (by omega) (by omega))) ?_
     refine Zb 7 (.int .i64 ((i + 1 : Nat) : Int)) ?_
     refine wpList_nil ?_
     have htops_46 := h4.mv M5 quiet
     have htops_47 := htops_46.mv M34 quiet
     have htops_48 := htops_47.mv M35 quiet
     have htops_49 := htops_48.mv M36 (neq (by omega))
     have htops_50 := htops_49.mv M38 (nrg (by omega))
     have htops_51 := htops_50.mv M44 (neq (by omega))
     have htops_52 := htops_51.mv M45 quiet
     have htops_53 := htops_52.mv M46 quiet
     have htops_54 := htops_53.mv M47 quiet
     have hhL_52 := h1.mv M5 quiet
     have hhL_53 := hhL_52.mv M34 quiet
     have hhL_54 := hhL_53.mv M35 quiet
     have hhL_55 := hhL_54.mv M36 (neq (by omega))
     have hhL_56 := hhL_55.mv M38 (nrg (by omega))
     have hhL_57 := hhL_56.mv M44 (neq (by omega))
     have hhL_58 := hhL_57.mv M45 quiet
     have hhL_59 := hhL_58.mv M46 quiet
     have hhL_60 := hhL_59.mv M47 quiet
     have hhB_49 := hhB_40.mv M35 quiet
     have hhB_50 := hhB_49.mv M36 (neq (by omega))
     have hhB_51 := hhB_50.mv M38 (nrg (by omega))
     have hhB_52 := hhB_51.mv M44 (neq (by omega))
     have hhB_53 := hhB_52.mv M45 quiet
     have hhB_54 := hhB_53.mv M46 quiet
     have hhB_55 := hhB_54.mv M47 quiet
     have hT_37 := hq18.mv M44 (neq (by omega)) (neq (by omega)) (neq (by omega)) (neq (by omega))
     have hT_38 := hT_37.mv M45 quiet quiet quiet quiet
     have hT_39 := hT_38.mv M46 quiet quiet quiet quiet
     have hT_40 := hT_39.mv M47 quiet quiet quiet quiet
     exact ⟨bs.length - (i + 1), _, by omega, ((((look_eq (t := 1) (v := .pointer (some ⟨b1, 0, none⟩)) rfl).trans (look_eq (t := 5) (v := .pointer (some ⟨b2, 0, none⟩)) rfl)).trans (look_eq (t := 6) (v := .slice sl.a sl.n sl.c) rfl)).trans (look_eq (t := 7) (v := .int .i64 (((i + 1) : Nat) : Int)) rfl)), ⟨(i + 1), sl, ts, top, σ6, _, _, rfl, rfl, K47.tail, (((((((((M4.trans (M5.mono nt_le)).trans (M34.mono nt_le)).trans (M35.mono nt_le)).trans (M36.mono (eq_lo (by omega)))).trans (M38.mono (le_lo (rg_rg (by omega) (by omega))))).trans (M44.mono (le_lo (eq_rg (by omega))))).trans (M45.mono nt_le)).trans (M46.mono nt_le)).trans (M47.mono nt_le)), (hr8 σ6 hq19), p2, by omega, by omega, by omega, by omega, hhL_60, hhB_55, hT_40, htops_54⟩⟩
  ·refine Zc 19 (.bool false) (okv (by kernel_rfl) (congrArg Value.bool (decide_eq_false t1))) ?_
   refine wpList_nil (hk7 _ _ (W.cond false rfl (wp_exit (then_exit ?_))))
   have hi9 : i = ess.length := by omega
   refine then_exit (block_exit (hk4 _ _ (wp_seq_k fun k28 hk28 => (wp_region_lit ?_))))
   refine Zb 58 (.pointer (some ⟨b2, 0, none⟩)) ?_
   refine Zb 59 (.slice sl.a sl.n sl.c) ?_
   refine Zb 2 (.pointer (some ⟨b2, 0, none⟩)) ?_
   refine Zb 3 (.slice sl.a sl.n sl.c) ?_
   refine Zb 4 (.bool true) ?_
   refine wpList_nil (hk28 _ _ (wp_ret (W.rets (vs := [.pointer (some ⟨b2, 0, none⟩), .slice sl.a sl.n sl.c, .bool true]) rfl (.tmp rfl (.tmp rfl (.tmp rfl .nil))) (by simp) ?_)))
   subst hi9
   exact ⟨_, b2, sl, ts, S1, top, rfl, (K4.mv.shut hf0), h3, h4, p1, p2, by omega⟩

end Go.Proofs.Ytlfanphdnjoofaa
