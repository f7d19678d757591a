/- Walks: plans. -/
import Derived.Test.YtlfanphdnjoofaaT6
namespace Go.Proofs.Ytlfanphdnjoofaa
open Go.RowKit
set_option linter.unusedSimpArgs false
set_option linter.unusedVariables false
attribute [local irreducible] wpList Code.wp Calls OpS wpG

set_option maxRecDepth 100000 in
set_option maxHeartbeats 1000000 in
theorem planAll_step (c : PlC) (its : List Item) (cs : List PlC) (aa : List (List Item)) (t : Nat) (w : World) (γ : Tg) (hls : Ls 7 Item.cells w γ c.sl its) (hks : Ls 8 PlC.cells w γ c.kl cs) (hn : aa.length = cs.length) (hcl : cs.length ≤ 100000) (hb : its.length + aa.flatten.length ≤ 100000) (hrec : ∀ (j : Nat) (x : PlC) (a : List Item), cs[j]? = some x → aa[j]? = some a → ∀ (t : Nat) (U : Nat → Prop) (v : World) (g : Tg), Mv U w γ v g → ¬ U 0 → Calls Try.prog 99 #[.agg x.cells.toArray] v fun ε v' => ∃ g' s', ε = .returned s'.v ∧ Mv Nt v g v' g' ∧ Gs t 50 7 Item.cells v' g' s' a) :
    Calls Try.prog 99 #[.agg c.cells.toArray] w fun ε w' => ∃ γ' s', ε = .returned s'.v ∧ Mv Nt w γ w' γ' ∧ Gs t 50 7 Item.cells w' γ' s' (its ++ aa.flatten) := by
 obtain ⟨t0, ht0, hf0⟩ := fresh_tag w γ 2
 have K0 := Kn.start (Lo Nt t0) w γ
 refine W.enter (ws := [(0, .agg c.cells.toArray)]) 22 Try.func99 rfl (by kernel_rfl) ?_
 have n1 := hls.len
 have n2 := hks.len
 refine wp_seq_k fun k1 hk1 => (wp_region_lit ?_)
 refine W.op (O.new 1 109 c.cells rfl rfl (by kernel_rfl) K0 fun b1 w1 g1 K1 M1 => ?_)
 refine Zb 2 (.slice none 0 0) ?_
 refine wpList_nil (hk1 _ _ (wp_seq_k fun k2 hk2 => (wp_region_lit ?_)))
 refine Zb 6 (.pointer (some ⟨b1, 6, none⟩)) ?_
 refine Zc 7 (.slice c.sl.a c.sl.n c.sl.c) (exec_load rfl rfl Ty37 ((K1.nth 0 rfl).cell 6)) ?_
 have hls_1 := hls.mv M1 quiet
 refine W.op (O.call 8 81 #[.slice c.sl.a c.sl.n c.sl.c] (by kernel_rfl) rfl (by kernel_rfl) ((cloneItems_c c.sl its t0 w1 g1 hls_1 (by omega)).mono ?_))
 rintro e1 w2 ⟨g2, s1, rfl, M2, hG1⟩
 have K2 := K1.step M2 nt_le quiet
 have n3 := hG1.len
 refine ⟨_, rfl, ?_⟩
 refine Zb 3 (.slice s1.a s1.n s1.c) ?_
 refine wpList_nil (hk2 _ _ (wp_seq_k fun k3 hk3 => (wp_seq_k fun k4 hk4 => (wp_region_lit ?_))))
 refine Zb 9 (.pointer (some ⟨b1, 7, none⟩)) ?_
 refine Zc 10 (.slice c.kl.a c.kl.n c.kl.c) (exec_load rfl rfl Ty107 ((K2.nth 0 rfl).cell 7)) ?_
 refine Zb 11 (.int .i64 (c.kl.n : Int)) ?_
 refine Zb 12 (.int .i64 0) ?_
 refine wpList_nil (hk4 _ _ (wp_block ?_))
 have h1 := hG1
 rw [show its = its ++ (aa.take 0).flatten by simp] at h1
 have hks_1 := hks.mv M1 quiet
 have hks_2 := hks_1.mv M2 quiet
 refine W.loop (fun (μ0 : Nat) (ws : List (Nat × Value)) (w' : World) => ∃ (k : Nat) (sl : Sli) (γ' : Tg) (ρ0 : List (Nat × Value)), μ0 = cs.length - k ∧ ws = ((12, .int .i64 ↑k) :: (11, .int .i64 (c.kl.n : Int)) :: (10, .slice c.kl.a c.kl.n c.kl.c) :: (3, .slice sl.a sl.n sl.c) :: ρ0) ∧ Kn (Lo Nt t0) w γ [(b1, 109, c.cells)] w' γ' ∧ Mv (Rg 1 (t0 + 2)) w2 g2 w' γ' ∧ (k ≤ cs.length) ∧ Gs t0 50 7 Item.cells w' γ' sl (its ++ (aa.take k).flatten) ∧ Ls 8 PlC.cells w' γ' c.kl cs) (cs.length - 0) ((((look_eq (t := 3) (v := .slice s1.a s1.n s1.c) rfl).trans (look_eq (t := 10) (v := .slice c.kl.a c.kl.n c.kl.c) rfl)).trans (look_eq (t := 11) (v := .int .i64 (c.kl.n : Int)) rfl)).trans (look_eq (t := 12) (v := .int .i64 ↑0) rfl)) ?_ ?_
 ·exact ⟨0, s1, _, _, rfl, rfl, K2, Mv.refl _ _ _, Nat.zero_le _, h1, hks_2⟩
 ·rintro _ _ w3 ⟨k, sl, g3, r1, rfl, rfl, K3, M3, p1, h2, h3⟩
  refine wp_seq_k fun k5 hk5 => (wp_region_lit ?_)
  by_cases t1 : ((k : Nat) : Int) < (c.kl.n : Int)
  ·refine Zc 13 (.bool true) (okv (by kernel_rfl) (congrArg Value.bool (decide_eq_true t1))) ?_
   refine wpList_nil (hk5 _ _ (wp_seq_k fun k6 hk6 => (W.cond true rfl (wp_skip (hk6 _ _ (wp_seq_k fun k7 hk7 => ?_))))))
   refine wp_block (wp_seq_k fun k8 hk8 => (wp_region_lit ?_))
   obtain ⟨x1, hx1⟩ := get_some (xs := cs) (i := k) (by omega)
   obtain ⟨b2, o1, ha1, hib1, hr1⟩ := h3.elt hx1
   refine Zc 14 (.pointer (some ⟨b2, o1 + k * 8, none⟩)) (exec_index (E := 109) (k := k) rfl (by kernel_rfl) (by kernel_rfl) rfl ha1 rfl hib1) ?_
   refine Zc 15 (.agg x1.cells.toArray) (exec_loads (cs := x1.cells) rfl rfl Ty109 rfl hr1.2.2) ?_
   refine W.op (O.new 5 109 [.bool false, .int .i64 0, .int .i64 0, .int .i64 0, .int .i64 0, .bool false, .slice none 0 0, .slice none 0 0] rfl rfl (by kernel_rfl) K3 fun b3 w4 g4 K4 M4 => ?_)
   refine W.op (O.sta 0 x1.cells rfl rfl rfl rfl rfl Ty109 rfl rfl rfl rfl K4 fun w5 K5 M5 => ?_)
   refine wpList_nil (hk8 _ _ (wp_region_lit ?_))
   refine Zb 16 (.slice sl.a sl.n sl.c) ?_
   refine Zc 17 (.agg x1.cells.toArray) (exec_loads (cs := x1.cells) rfl rfl Ty109 rfl ((K5.nth 0 rfl).all 8)) ?_
   obtain ⟨a, ha⟩ := get_some (xs := aa) (i := k) (by omega)
   refine W.op (O.call 18 99 #[.agg x1.cells.toArray] (by kernel_rfl) rfl (by kernel_rfl) ((hrec k x1 a hx1 ha (t0 + 1) _ w5 g4 K5.mv (nlo quiet (by omega))).mono ?_))
   rintro e2 w6 ⟨g5, s2, rfl, M6, hG2⟩
   have K6 := K5.step M6 nt_le quiet
   have n4 := hG2.len
   refine ⟨_, rfl, ?_⟩
   have hl_1 := h2.mv M4 quiet
   have hl_2 := hl_1.mv M5 (neq (by omega))
   have hl_3 := hl_2.mv M6 quiet
   refine W.op (O.append (f := Item.cells) 19 a (by kernel_rfl) rfl rfl (by kernel_rfl) El50 rfl rfl hl_3 hG2.len hG2.src (fun _ => rfl) (by have := flat_le ha; simp only [List.length_append]; omega) (by have := flat_le ha; simp only [List.length_append]; omega) fun s3 w7 g6 hG3 M7 => ?_)
   have K7 := K6.step M7 (eq_lo (by omega)) (neq (by omega))
   have n5 := hG3.len
   refine Zb 3 (.slice s3.a s3.n s3.c) ?_
   refine wpList_nil (block_normal (hk7 _ _ (wp_region_lit ?_)))
   refine Zc 20 (.int .i64 ((k + 1 : Nat) : Int)) (okv (v := .int .i64 (IntKind.i64.wrap (((k : Nat) : Int) + 1))) (by kernel_rfl) (wrapn (by omega) (by omega))) ?_
   refine Zb 12 (.int .i64 ((k + 1 : Nat) : Int)) ?_
   refine wpList_nil ?_
   have hks_3 := h3.mv M4 quiet
   have hks_4 := hks_3.mv M5 (neq (by omega))
   have hks_5 := hks_4.mv M6 quiet
   have hks_6 := hks_5.mv M7 (neq (by omega))
   exact ⟨cs.length - (k + 1), _, by omega, ((((look_eq (t := 3) (v := .slice s3.a s3.n s3.c) rfl).trans (look_eq (t := 10) (v := .slice c.kl.a c.kl.n c.kl.c) rfl)).trans (look_eq (t := 11) (v := .int .i64 (c.kl.n : Int)) rfl)).trans (look_eq (t := 12) (v := .int .i64 (((k + 1) : Nat) : Int)) rfl)), ⟨(k + 1), s3, _, _, rfl, rfl, K7.tail, ((((M3.trans (M4.mono nt_le)).trans (M5.mono (eq_rg (by omega)))).trans (M6.mono nt_le)).trans (M7.mono (eq_rg (by omega)))), by omega, (by have h := hG3; rw [List.append_assoc, ← flat_take ha] at h; exact h), hks_6⟩⟩
  ·refine Zc 13 (.bool false) (okv (by kernel_rfl) (congrArg Value.bool (decide_eq_false t1))) ?_
   refine wpList_nil (hk5 _ _ (wp_seq_k fun k9 hk9 => (W.cond false rfl (wp_exit (then_exit (then_exit ?_))))))
   refine block_exit (hk3 _ _ (wp_seq_k fun k10 hk10 => (wp_region_lit ?_)))
   refine Zb 21 (.slice sl.a sl.n sl.c) ?_
   refine Zb 2 (.slice sl.a sl.n sl.c) ?_
   refine wpList_nil (hk10 _ _ (wp_ret (W.ret1 (v := .slice sl.a sl.n sl.c) rfl (.tmp rfl .nil) ?_)))
   have M8 := Mv.recol w3 g3 t0 t
   have K8 := K3.step M8 (eq_lo (by omega)) (neq (by omega))
   have h4 := h2.recol t
   rw [List.take_of_length_le (by omega)] at h4
   exact ⟨_, _, rfl, (K8.mv.shut hf0), h4⟩

theorem len_mem {f : Nat → List Item} {d : Nat} : ∀ l : List Nat, d ∈ l → (f d).length ≤ (l.flatMap f).length
  | x :: r, h => by
    rw [List.flatMap_cons, List.length_append]
    rcases List.mem_cons.1 h with rfl | h
    · omega
    · have := len_mem (f := f) r h; omega
theorem all_le (k : Nat → Pl) (d : Nat) (hd : d < 16) : (k d).all.length ≤ ((List.range 16).flatMap fun d => (k d).all).length :=
  len_mem (f := fun d => (k d).all) _ (List.mem_range.2 hd)
theorem planAll_c : ∀ (P : Pl) (c : PlC) (t : Nat) (w : World) (γ : Tg), PlM P w γ c → P.all.length ≤ 100000 →
    Calls Try.prog 99 #[.agg c.cells.toArray] w fun ε w' => ∃ γ' s', ε = .returned s'.v ∧ Mv Nt w γ w' γ' ∧ Gs t 50 7 Item.cells w' γ' s' P.all
  | .stay r, c, t, w, γ, h, hb => by
    have e : c = ⟨true, r, 0, 0, false, nilS, nilS⟩ := h
    subst e
    exact planAll_step ⟨true, r, 0, 0, false, nilS, nilS⟩ [] [] [] t w γ (Ls.void _ _ Item.size) (Ls.void _ _ (fun _ => rfl)) rfl (Nat.zero_le _) (Nat.zero_le _) (fun j x a hx => by simp at hx)
  | .leaf had its, c, t, w, γ, ⟨sl, e, hl⟩, hb => by
    subst e
    have h := planAll_step ⟨false, ⟨0, 0⟩, had, its.length, true, sl, nilS⟩ its [] [] t w γ hl (Ls.void _ _ (fun _ => rfl)) rfl (Nat.zero_le _) (by simpa [Pl.all] using hb) (fun j x a hx => by simp at hx)
    simpa [Pl.all] using h
  | .branch had cnt k, c, t, w, γ, ⟨kl, e, cs, hk, hm⟩, hb => by
    subst e
    have hf : ((List.range 16).map fun d => (k d).all).flatten = (List.range 16).flatMap fun d => (k d).all := rfl
    have h := planAll_step ⟨false, ⟨0, 0⟩, had, cnt, false, nilS, kl⟩ [] ((List.range 16).map cs) ((List.range 16).map fun d => (k d).all) t w γ (Ls.void _ _ Item.size) hk (by simp) (by simp) (by rw [hf]; simpa [Pl.all] using hb) (by
      intro j x a hx ha t U v g m hU
      have hj : j < 16 := by
        have := (List.getElem?_eq_some_iff.1 hx).1
        simpa using this
      have ex : x = cs j := by simpa [List.getElem?_map, List.getElem?_range hj] using hx.symm
      have ea : a = (k j).all := by simpa [List.getElem?_map, List.getElem?_range hj] using ha.symm
      subst ex ea
      exact planAll_c (k j) (cs j) t v g ((hm j hj).mv m hU) (Nat.le_trans (all_le k j hj) hb))
    rw [hf, List.nil_append] at h
    exact h

end Go.Proofs.Ytlfanphdnjoofaa
