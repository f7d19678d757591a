/- Walks: what is told; edits. -/
import Derived.Test.YtlfanphdnjoofaaT15
import Derived.Test.YtlfanphdnjoofaaP
namespace Go.Proofs.Ytlfanphdnjoofaa
open Go.RowKit
set_option linter.unusedSimpArgs false
set_option linter.unusedVariables false
attribute [local irreducible] wpList Code.wp Calls OpS wpG

def Rtd.ref (x : Rtd) : Ref := ⟨x.num, x.gen⟩
/-- One edit of a list. -/
def edStep (a : List Item × Bool) (x : Edit) : List Item × Bool :=
  bif x.gone then match a.1[a.1.findIdx fun y => y.key.toList == x.it.key.toList]? with
    | some _ => (a.1.eraseIdx (a.1.findIdx fun y => y.key.toList == x.it.key.toList), true)
    | none => a
  else match a.1[a.1.findIdx fun y => y.key.toList == x.it.key.toList]? with
    | some _ => (a.1.set (a.1.findIdx fun y => y.key.toList == x.it.key.toList) x.it, true)
    | none => (a.1 ++ [x.it], true)
def edAll (its : List Item) (es : List Edit) : List Item × Bool := es.foldl edStep (its, false)
theorem edAll_snoc (its : List Item) (es : List Edit) (x : Edit) : edAll its (es ++ [x]) = edStep (edAll its es) x := by simp [edAll]
theorem edStep_len (a : List Item × Bool) (x : Edit) : (edStep a x).1.length ≤ a.1.length + 1 := by
  unfold edStep
  cases x.gone
  · simp only [cond_false]; split
    · simp
    · simp
  · simp only [cond_true]; split
    · simp only [List.length_eraseIdx]; split <;> omega
    · omega
theorem edAll_len (its : List Item) : ∀ es : List Edit, (edAll its es).1.length ≤ its.length + es.length := by
  suffices H : ∀ n (es : List Edit), es.length = n → (edAll its es).1.length ≤ its.length + es.length from fun es => H _ es rfl
  intro n
  induction n with
  | zero => intro es hn; rw [List.length_eq_zero_iff.1 hn]; simp [edAll]
  | succ n ih =>
    intro es hn
    rcases List.eq_nil_or_concat es with rfl | ⟨M, y, rfl⟩
    · cases hn
    · rw [List.concat_eq_append, edAll_snoc, List.length_append]
      have := ih M (by simp at hn; exact hn)
      have := edStep_len (edAll its M) y
      simp only [List.length_cons, List.length_nil]
      omega
/-- Edits by their digits: each of sixteen slices reads as those of its digit. -/
def PtsE (l : Nat) (w : World) (g : Tg) (ps : Nat → Sli) (xs : List Edit) : Prop := ∀ d, d < 16 → Ls 8 Edit.cells w g (ps d) (xs.filter fun x => digitOf x.it.key l == d)
theorem PtsE.mv {l : Nat} {U : Nat → Prop} {w w' : World} {g g' : Tg} {ps : Nat → Sli} {xs : List Edit} (h : PtsE l w g ps xs) (m : Mv U w g w' g') (hn : ¬ U 0) : PtsE l w' g' ps xs := fun d hd => (h d hd).mv m hn
theorem PtsE.nil (l : Nat) (w : World) (g : Tg) : PtsE l w g (fun _ => nilS) [] := fun _ _ => Ls.void _ _ Edit.size

abbrev edIs (ed : Edit) : Item → Bool := fun y => y.key.toList == ed.it.key.toList
theorem indexMiss {xs : List Item} {ed : Edit} (h : xs[xs.findIdx (edIs ed)]? = none) : idxI (edIs ed) xs = -1 := by
  unfold idxI
  rw [if_neg]
  intro hl
  rw [List.getElem?_eq_getElem hl] at h
  cases h
theorem indexHit {xs : List Item} {ed : Edit} {x : Item} (h : xs[xs.findIdx (edIs ed)]? = some x) : idxI (edIs ed) xs = ((xs.findIdx (edIs ed) : Nat) : Int) := by
  unfold idxI
  rw [if_pos (List.getElem?_eq_some_iff.1 h).1]
abbrev dE (l : Nat) (e : Edit) : Nat := digitOf e.it.key l
theorem ltE_iff (l : Nat) (x y : Edit) : ltEdit l x y = true ↔ dE l x < dE l y := by
  rw [ltEdit, decide_eq_true_iff, cmpI_neg]
  unfold dE
  omega
theorem ltE_not (l : Nat) (x y : Edit) : ltEdit l x y = false ↔ dE l y ≤ dE l x := by
  rw [ltEdit, decide_eq_false_iff_not, cmpI_neg]
  unfold dE
  omega
theorem cut_lt {l : Nat} {R : List Edit} (hR : Srt (ltEdit l) R) {x : Edit} (hx : R[0]? = some x) {n : Nat} (hn : ∀ e ∈ R.take n, dE l e = dE l x) (hend : n = R.length ∨ ∃ y, R[n]? = some y ∧ dE l y ≠ dE l x) :
    ∀ e ∈ R.drop n, dE l x < dE l e := by
  intro e he
  obtain ⟨i, hi⟩ := List.mem_iff_getElem?.1 he
  rw [List.getElem?_drop] at hi
  rcases hend with rfl | ⟨y, hy, hne⟩
  · rw [List.getElem?_eq_none (by omega)] at hi; cases hi
  · have h1 : dE l x ≤ dE l y := by
      rcases Nat.eq_zero_or_pos n with h0 | h0
      · subst h0; rw [hx] at hy; injection hy with hy; subst hy; exact Nat.le_refl _
      · exact (ltE_not l y x).1 (srt_get hR h0 hx hy)
    have h2 : dE l y ≤ dE l e := by
      rcases Nat.eq_zero_or_pos i with h0 | h0
      · subst h0; rw [Nat.add_zero, hy] at hi; injection hi with hi; subst hi; exact Nat.le_refl _
      · exact (ltE_not l e y).1 (srt_get hR (by omega) hy hi)
    omega
theorem PtsE.upd {l : Nat} {w : World} {g : Tg} {ps : Nat → Sli} {D R : List Edit} {n d : Nat} {s : Sli} (h : PtsE l w g ps D) (hs : Ls 8 Edit.cells w g s (R.take n)) (hD : ∀ e ∈ D, dE l e < d) (hn : ∀ e ∈ R.take n, dE l e = d) :
    PtsE l w g (Proofs.Ytlfanphdnjoofaa.upd ps d s) (D ++ R.take n) := fun c hc => by
  rw [List.filter_append]
  by_cases hcd : c = d
  · subst hcd
    have e1 : Proofs.Ytlfanphdnjoofaa.upd ps c s c = s := by simp [Proofs.Ytlfanphdnjoofaa.upd]
    have e2 : D.filter (fun x => digitOf x.it.key l == c) = [] := List.filter_eq_nil_iff.2 fun y hy => by have := hD y hy; unfold dE at this; simp; omega
    have e3 : (R.take n).filter (fun x => digitOf x.it.key l == c) = R.take n := List.filter_eq_self.2 fun y hy => by have := hn y hy; unfold dE at this; simp; omega
    rw [e1, e2, e3]; exact hs
  · have e1 : Proofs.Ytlfanphdnjoofaa.upd ps d s c = ps c := by
      have : Nat.beq c d = false := beq_false hcd
      simp [Proofs.Ytlfanphdnjoofaa.upd, this]
    have e3 : (R.take n).filter (fun x => digitOf x.it.key l == c) = [] := List.filter_eq_nil_iff.2 fun y hy => by have := hn y hy; unfold dE at this; simp; omega
    rw [e1, e3, List.append_nil]; exact h c hc
theorem PtsE.sorted {l : Nat} {w : World} {g : Tg} {ps : Nat → Sli} {es : List Edit} (h : PtsE l w g ps (isort (ltEdit l) es)) : PtsE l w g ps es := fun d hd => by
  have := h d hd
  rw [isort_filter Lin.edit _ (fun x y h1 h2 => by have := (ltE_iff l x y).1 h2; unfold dE at this; simp at h1 ⊢; omega)] at this
  exact this
theorem mem_take_snoc {R : List Edit} {n : Nat} {y : Edit} {Q : Edit → Prop} (h : ∀ e ∈ R.take n, Q e) (hy : R[n]? = some y) (hq : Q y) : ∀ e ∈ R.take (n + 1), Q e := by
  rw [take_snoc hy]
  intro e he
  rcases List.mem_append.1 he with he | he
  · exact h e he
  · rw [List.mem_singleton] at he; subst he; exact hq

set_option maxRecDepth 100000 in
set_option maxHeartbeats 1000000 in
theorem toldAll_c (τ : Nat) (q : Nat) (p : Nat) (S : St) (t : Nat) (w : World) (γ : Tg) (hM : SM τ w γ q p S) (hτ : 2 ≤ τ) (h1 : S.rs.length ≤ 100000) :
    Calls Try.prog 47 #[.pointer (some ⟨q, 0, none⟩)] w fun ε w' => ∃ (γ' : Tg) (s' : Sli), ε = .returned (.slice s'.a s'.n s'.c) ∧ Mv (Rg τ (τ + 5)) w γ w' γ' ∧ SM τ w' γ' q p ({ S with rs := isort ltRtd S.rs }) ∧ Gs t 31 2 Ref.cells w' γ' s' ((isort ltRtd S.rs).map Rtd.ref) := by
 obtain ⟨t0, ht0, hf0⟩ := fresh_tag w γ (τ + 5)
 have K0 := Kn.start (Lo (Rg τ (τ + 5)) t0) w γ
 refine W.enter (ws := [(0, .pointer (some ⟨q, 0, none⟩))]) 27 Try.func47 rfl (by kernel_rfl) ?_
 obtain ⟨hT, ⟨sr, hq, hr⟩⟩ := hM
 have n1 := hr.len
 refine wp_seq_k fun k1 hk1 => (wp_region_lit ?_)
 refine Zb 2 (.slice none 0 0) ?_
 refine wpList_nil (hk1 _ _ (wp_seq_k fun k2 hk2 => (wp_region_lit ?_)))
 refine Zb 6 (.pointer (some ⟨q, 0, none⟩)) ?_
 refine Zb 7 (.pointer (some ⟨q, 0, none⟩)) ?_
 refine Zb 8 (.pointer (some ⟨q, 2, none⟩)) ?_
 refine Zc 9 (.slice sr.a sr.n sr.c) (exec_load rfl rfl Ty90 ((hq.1).cell 2)) ?_
 refine W.op (O.call 10 68 #[.slice sr.a sr.n sr.c, .func (.func 69) #[] #[]] (by kernel_rfl) rfl (by kernel_rfl) ((sortRtd_c sr S.rs (τ + 4) w γ hr (by omega) h1).mono ?_))
 rintro e1 w1 ⟨g1, rfl, M1, hq1⟩
 have K1 := K0.step M1 (le_lo (eq_rg (by omega))) (neq (by omega))
 have n2 := hq1.len
 refine ⟨_, rfl, ?_⟩
 refine wpList_nil (hk2 _ _ (wp_seq_k fun k3 hk3 => (wp_region_lit ?_)))
 refine Zb 3 (.slice none 0 0) ?_
 refine wpList_nil (hk3 _ _ (wp_seq_k fun k4 hk4 => (wp_seq_k fun k5 hk5 => (wp_region_lit ?_))))
 refine Zb 11 (.pointer (some ⟨q, 0, none⟩)) ?_
 refine Zb 12 (.pointer (some ⟨q, 0, none⟩)) ?_
 refine Zb 13 (.pointer (some ⟨q, 2, none⟩)) ?_
 have hq_1 := hq.mv M1 (neq (by omega))
 refine Zc 14 (.slice sr.a sr.n sr.c) (exec_load rfl rfl Ty90 ((hq_1.1).cell 2)) ?_
 refine Zb 15 (.int .i64 (sr.n : Int)) ?_
 refine Zb 16 (.int .i64 0) ?_
 refine wpList_nil (hk5 _ _ (wp_block ?_))
 have hL1 : Gs t0 31 2 Ref.cells w1 g1 nilS (((isort ltRtd S.rs).take 0).map Rtd.ref) := by rw [List.take_zero]; exact Gs.nil _ _ _ _ (fun _ => rfl)
 have n3 := hL1.len
 refine W.loop (fun (μ0 : Nat) (ws : List (Nat × Value)) (w' : World) => ∃ (k : Nat) (sl : Sli) (γ' : Tg) (ρ0 : List (Nat × Value)), μ0 = S.rs.length - k ∧ ws = ((16, .int .i64 ↑k) :: (15, .int .i64 (sr.n : Int)) :: (14, .slice sr.a sr.n sr.c) :: (3, .slice sl.a sl.n sl.c) :: ρ0) ∧ Kn (Lo (Rg τ (τ + 5)) t0) w γ [] w' γ' ∧ Mv (Lo (fun ξ => ξ = 1) t0) w1 g1 w' γ' ∧ (k ≤ S.rs.length) ∧ Gs (τ + 4) 146 3 Rtd.cells w' γ' sr (isort ltRtd S.rs) ∧ Gs t0 31 2 Ref.cells w' γ' sl (((isort ltRtd S.rs).take k).map Rtd.ref)) (S.rs.length - 0) ((((look_eq (t := 3) (v := .slice nilS.a nilS.n nilS.c) rfl).trans (look_eq (t := 14) (v := .slice sr.a sr.n sr.c) rfl)).trans (look_eq (t := 15) (v := .int .i64 (sr.n : Int)) rfl)).trans (look_eq (t := 16) (v := .int .i64 ↑0) rfl)) ?_ ?_
 ·exact ⟨0, nilS, _, _, rfl, rfl, K1, Mv.refl _ _ _, Nat.zero_le _, hq1, hL1⟩
 ·rintro _ _ w2 ⟨k, sl, g2, r1, rfl, rfl, K2, M2, p1, h1, h2⟩
  have n4 := h1.len
  have n5 := h2.len
  refine wp_seq_k fun k6 hk6 => (wp_region_lit ?_)
  by_cases t1 : ((k : Nat) : Int) < (sr.n : Int)
  ·refine Zc 17 (.bool true) (okv (by kernel_rfl) (congrArg Value.bool (decide_eq_true t1))) ?_
   refine wpList_nil (hk6 _ _ (wp_seq_k fun k7 hk7 => (W.cond true rfl (wp_skip (hk7 _ _ (wp_seq_k fun k8 hk8 => ?_))))))
   refine wp_block (wp_seq_k fun k9 hk9 => (wp_region_lit ?_))
   obtain ⟨x1, hx1⟩ := get_some (xs := (isort ltRtd S.rs)) (i := k) (by rw [isort_length]; omega)
   obtain ⟨b1, ha1, hib1, hr1⟩ := h1.elt hx1
   refine Zc 18 (.pointer (some ⟨b1, 0 + k * 3, none⟩)) (exec_index (E := 146) (k := k) rfl (by kernel_rfl) (by kernel_rfl) rfl ha1 rfl hib1) ?_
   refine Zc 19 (.agg x1.cells.toArray) (exec_loads (cs := x1.cells) rfl rfl Ty146 rfl hr1.2.2) ?_
   refine W.op (O.new 5 146 [.int .i64 0, .int .i64 0, .int .i64 0] rfl rfl (by kernel_rfl) K2 fun b2 w3 g3 K3 M3 => ?_)
   refine W.op (O.sta 0 x1.cells rfl rfl rfl rfl rfl Ty146 rfl rfl rfl rfl K3 fun w4 K4 M4 => ?_)
   refine wpList_nil (hk9 _ _ (wp_region_lit ?_))
   refine Zb 20 (.slice sl.a sl.n sl.c) ?_
   refine Zb 21 (.pointer (some ⟨b2, 0, none⟩)) ?_
   refine Zc 22 (.agg #[.int .i64 x1.num, .int .i64 x1.gen]) (exec_loads (cs := [.int .i64 x1.num, .int .i64 x1.gen]) rfl rfl Ty31 rfl ((K4.nth 0 rfl).part 0 2)) ?_
   refine W.op (O.lit 23 31 [.int .i64 x1.num, .int .i64 x1.gen] 1 rfl rfl (by kernel_rfl) K4 fun b3 w5 g4 K5 M5 => ?_)
   have hl_1 := h2.mv M3 quiet
   have hl_2 := hl_1.mv M4 (neq (by omega))
   have hl_3 := hl_2.mv M5 quiet
   refine W.op (O.append (f := Ref.cells) 24 [x1.ref] (by kernel_rfl) rfl rfl (by kernel_rfl) El31 rfl rfl hl_3 rfl (src1 (K5.nth 0 rfl) rfl) (fun _ => rfl) (by simp only [List.length_append, List.length_cons, List.length_nil, List.length_map, List.length_take, isort_length]; omega) (by simp only [List.length_append, List.length_cons, List.length_nil, List.length_map, List.length_take, isort_length]; omega) fun s1 w6 g5 hG1 M6 => ?_)
   have K6 := K5.step M6 (eq_lo (by omega)) (neq (by omega))
   have n6 := hG1.len
   refine Zb 3 (.slice s1.a s1.n s1.c) ?_
   refine wpList_nil (block_normal (hk8 _ _ (wp_region_lit ?_)))
   refine Zc 25 (.int .i64 ((k + 1 : Nat) : Int)) (okv (v := .int .i64 (IntKind.i64.wrap (((k : Nat) : Int) + 1))) (by kernel_rfl) (wrapn (by omega) (by omega))) ?_
   refine Zb 16 (.int .i64 ((k + 1 : Nat) : Int)) ?_
   refine wpList_nil ?_
   have hrs_1 := h1.mv M3 quiet
   have hrs_2 := hrs_1.mv M4 (neq (by omega))
   have hrs_3 := hrs_2.mv M5 quiet
   have hrs_4 := hrs_3.mv M6 (neq (by omega))
   exact ⟨S.rs.length - (k + 1), _, by omega, ((((look_eq (t := 3) (v := .slice s1.a s1.n s1.c) rfl).trans (look_eq (t := 14) (v := .slice sr.a sr.n sr.c) rfl)).trans (look_eq (t := 15) (v := .int .i64 (sr.n : Int)) rfl)).trans (look_eq (t := 16) (v := .int .i64 (((k + 1) : Nat) : Int)) rfl)), ⟨(k + 1), s1, _, _, rfl, rfl, K6.tail.tail, ((((M2.trans (M3.mono nt_le)).trans (M4.mono (le_lo (fun _ h => h)))).trans (M5.mono nt_le)).trans (M6.mono (eq_lo (by omega)))), by omega, hrs_4, (by have h := hG1; rw [take_snoc hx1, List.map_append]; exact h)⟩⟩
  ·refine Zc 17 (.bool false) (okv (by kernel_rfl) (congrArg Value.bool (decide_eq_false t1))) ?_
   refine wpList_nil (hk6 _ _ (wp_seq_k fun k10 hk10 => (W.cond false rfl (wp_exit (then_exit (then_exit ?_))))))
   refine block_exit (hk4 _ _ (wp_seq_k fun k11 hk11 => (wp_region_lit ?_)))
   refine Zb 26 (.slice sl.a sl.n sl.c) ?_
   refine Zb 2 (.slice sl.a sl.n sl.c) ?_
   refine wpList_nil (hk11 _ _ (wp_ret (W.ret1 (v := .slice sl.a sl.n sl.c) rfl (.tmp rfl .nil) ?_)))
   have M7 := Mv.recol w2 g2 t0 t
   have K7 := K2.step M7 (eq_lo (by omega)) (neq (by omega))
   have h3 := h2.recol t
   have hl9 := h3
   rw [List.take_of_length_le (by rw [isort_length]; omega)] at hl9
   have hT_1 := hT.mv M1 (neq (by omega)) (neq (by omega)) (neq (by omega)) (neq (by omega))
   have hT_2 := hT_1.mv M2 (nlo (neq (by omega)) (by omega)) (nlo (neq (by omega)) (by omega)) (nlo (neq (by omega)) (by omega)) (nlo (neq (by omega)) (by omega))
   have hT_3 := hT_2.mv M7 (neq (by omega)) (neq (by omega)) (neq (by omega)) (neq (by omega))
   have hq_2 := hq_1.mv M2 (nlo (neq (by omega)) (by omega))
   have hq_3 := hq_2.mv M7 (neq (by omega))
   have hrs_5 := h1.mv M7 (neq (by omega))
   exact ⟨_, _, rfl, (K7.mv.shut hf0), ⟨hT_3, ⟨sr, hq_3, hrs_5⟩⟩, hl9⟩

set_option maxRecDepth 100000 in
set_option maxHeartbeats 1000000 in
theorem delItem_c (s : Sli) (xs : List Item) (t : Nat) (i : Nat) (w : World) (γ : Tg) (hG : Gs t 50 7 Item.cells w γ s xs) (ht : 2 ≤ t) (hi : i < xs.length) (hl : xs.length ≤ 200000) :
    Calls Try.prog 83 #[.slice s.a s.n s.c, .int .i64 ((i : Nat) : Int), .int .i64 (((i + 1) : Nat) : Int)] w fun ε w' => ∃ (γ' : Tg) (s' : Sli), ε = .returned (.slice s'.a s'.n s'.c) ∧ Mv (fun ξ => ξ = t) w γ w' γ' ∧ Gs t 50 7 Item.cells w' γ' s' (xs.eraseIdx i) := by
 have K0 := Kn.start (fun ξ => ξ = t) w γ
 refine W.enter (ws := [(2, .int .i64 (((i + 1) : Nat) : Int)), (1, .int .i64 ↑i), (0, .slice s.a s.n s.c)]) 33 Try.func83 rfl (by kernel_rfl) ?_
 have n1 := hG.len
 refine wp_seq_k fun k1 hk1 => (wp_region_lit ?_)
 refine Zb 6 (.slice none 0 0) ?_
 refine wpList_nil (hk1 _ _ (wp_seq_k fun k2 hk2 => (wp_region_lit ?_)))
 refine Zb 8 (.slice s.a s.n s.c) ?_
 refine Zb 9 (.int .i64 ↑i) ?_
 refine Zb 10 (.int .i64 (((i + 1) : Nat) : Int)) ?_
 refine Zb 11 (.slice s.a s.n s.c) ?_
 refine Zb 12 (.int .i64 (s.n : Int)) ?_
 have hc := hG.cap
 have hln := hG.len
 refine Zc 13 (.slice ((s.sub 7 i (i + 1) s.n).a) ((s.sub 7 i (i + 1) s.n).n) ((s.sub 7 i (i + 1) s.n).c)) (exec_slice (s := s) (E := 50) (z := 7) (l := i) (h := i + 1) (m := s.n) rfl (by kernel_rfl) (by kernel_rfl) rfl (.inr ⟨_, rfl⟩) (.inr ⟨_, rfl⟩) (.inr ⟨_, rfl⟩) (fun h => by cases h) (by omega) (by omega) (by omega) hc) ?_
 refine wpList_nil (hk2 _ _ (wp_seq_k fun k3 hk3 => (wp_seq_k fun k4 hk4 => (wp_region_lit ?_))))
 refine Zb 14 (.int .i64 ↑i) ?_
 refine Zb 15 (.int .i64 (((i + 1) : Nat) : Int)) ?_
 by_cases t1 : ((i : Nat) : Int) = (((i + 1) : Nat) : Int)
 ·exfalso; omega
 ·refine Zc 16 (.bool false) (okv (by kernel_rfl) (congrArg Value.bool (beq_eq_false_iff_ne.2 t1))) ?_
  refine wpList_nil (hk4 _ _ (W.cond false rfl (wp_skip (hk3 _ _ (wp_seq_k fun k5 hk5 => (wp_region_lit ?_))))))
  refine Zb 18 (.slice s.a s.n s.c) ?_
  refine Zb 19 (.int .i64 (s.n : Int)) ?_
  refine Zb 7 (.int .i64 (s.n : Int)) ?_
  refine wpList_nil (hk5 _ _ (wp_seq_k fun k6 hk6 => (wp_region_G (SmL [] w γ) (by kernel_rfl) ?_)))
  have K1 := K0.drew
  have M1 : Mv Nt w γ w.drew γ := (Mv.refl _ _ _).drew
  refine Yb 0 20 (.slice s.a s.n s.c) rfl (fun u => by kernel_rfl) ?_
  refine Yb 1 21 (.int .i64 ↑i) rfl (fun u => by kernel_rfl) ?_
  refine Yb 2 22 (.slice s.a i s.c) rfl (fun u => okv (v := .slice ((s.sub 7 0 i s.c).a) ((s.sub 7 0 i s.c).n) ((s.sub 7 0 i s.c).c)) ((fun u => (exec_slice (s := s) (E := 50) (z := 7) (l := 0) (h := i) (m := s.c) rfl (by kernel_rfl) (by kernel_rfl) rfl (.inl ⟨rfl, rfl⟩) (.inr ⟨_, rfl⟩) (.inl ⟨rfl, rfl⟩) (fun _ => rfl) (by omega) (by omega) (by omega) hc)) u) (Sli.sub_zero hG i s.c (Nat.le_refl _))) ?_
  refine Yb 3 23 (.slice s.a s.n s.c) rfl (fun u => by kernel_rfl) ?_
  refine Yb 4 24 (.int .i64 (((i + 1) : Nat) : Int)) rfl (fun u => by kernel_rfl) ?_
  refine Yb 5 25 (.slice ((s.sub 7 (i + 1) s.n s.c).a) ((s.sub 7 (i + 1) s.n s.c).n) ((s.sub 7 (i + 1) s.n s.c).c)) rfl (fun u => (exec_slice (s := s) (E := 50) (z := 7) (l := i + 1) (h := s.n) (m := s.c) rfl (by kernel_rfl) (by kernel_rfl) rfl (.inl ⟨rfl, rfl⟩) (.inl ⟨rfl, rfl⟩) (.inr ⟨_, rfl⟩) (fun _ => rfl) (by omega) (by omega) (by omega) hc)) ?_
  have hhG_1 := hG.mv M1 quiet
  obtain ⟨b9, hb9⟩ : ∃ b, s.a = some ⟨b, 0, none⟩ := by obtain ⟨b, rest, hb, _⟩ := hG.mem (by intro e; simp [e] at hi); exact ⟨b, hb⟩
  have hsrc := hhG_1.tailSrc (i + 1) s.c
  rw [← hln] at hsrc
  have hlt : (xs.take i).length + (xs.drop (i + 1)).length + 1 = xs.length := by rw [List.length_take, List.length_drop]; omega
  refine G.op 6 (by kernel_rfl) rfl (O.appendR (s := ⟨s.a, i, s.c⟩) (f := Item.cells) 26 (xs.drop (i + 1)) (by kernel_rfl) rfl rfl (by kernel_rfl) El50 rfl rfl (hhG_1.upto i (by omega)) (by show s.n - (i + 1) = _; rw [List.length_drop]; omega) hsrc (fun _ => rfl) hb9 (by show _ ≤ s.c; omega) fun w1 hG1 M2 => ⟨kp_nil, ?_⟩)
  have K2 := K1.step M2 (fun _ h => h) (neq (by omega))
  have n2 := hG1.len
  refine Yb 7 0 (.slice s.a ((xs.take i).length + (xs.drop (i + 1)).length) s.c) rfl (fun u => by kernel_rfl) ?_
  refine G.fin (by kernel_rfl) ?_
  refine hk6 _ _ (wp_seq_k fun k7 hk7 => (wp_region_lit ?_))
  refine Zb 27 (.slice s.a ((xs.take i).length + (xs.drop (i + 1)).length) s.c) ?_
  refine Zb 28 (.slice s.a ((xs.take i).length + (xs.drop (i + 1)).length) s.c) ?_
  refine Zb 29 (.int .i64 (((xs.take i).length + (xs.drop (i + 1)).length) : Int)) ?_
  refine Zb 30 (.int .i64 (s.n : Int)) ?_
  refine Zc 31 (.slice (((⟨s.a, (xs.take i).length + (xs.drop (i + 1)).length, s.c⟩ : Sli).sub 7 (⟨s.a, (xs.take i).length + (xs.drop (i + 1)).length, s.c⟩ : Sli).n s.n s.c).a) (((⟨s.a, (xs.take i).length + (xs.drop (i + 1)).length, s.c⟩ : Sli).sub 7 (⟨s.a, (xs.take i).length + (xs.drop (i + 1)).length, s.c⟩ : Sli).n s.n s.c).n) (((⟨s.a, (xs.take i).length + (xs.drop (i + 1)).length, s.c⟩ : Sli).sub 7 (⟨s.a, (xs.take i).length + (xs.drop (i + 1)).length, s.c⟩ : Sli).n s.n s.c).c)) (exec_slice (s := (⟨s.a, (xs.take i).length + (xs.drop (i + 1)).length, s.c⟩ : Sli)) (E := 50) (z := 7) (l := (xs.take i).length + (xs.drop (i + 1)).length) (h := s.n) (m := s.c) rfl (by kernel_rfl) (by kernel_rfl) rfl (.inl ⟨rfl, rfl⟩) (.inr ⟨_, rfl⟩) (.inr ⟨_, rfl⟩) (fun _ => rfl) (by omega) (by omega) (Nat.le_refl _) (by show (xs.take i).length + (xs.drop (i + 1)).length ≤ s.c; omega)) ?_
  refine W.op (O.clearTail (s := (⟨s.a, (xs.take i).length + (xs.drop (i + 1)).length, s.c⟩ : Sli)) s.n (by kernel_rfl) rfl rfl (by kernel_rfl) El50 (by unfold ZeroOk; kernel_rfl) rfl hG1 hb9 (by show (xs.take i).length + (xs.drop (i + 1)).length ≤ s.n; omega) (by show s.n ≤ s.c; omega) fun w2 hG2 M3 => ?_)
  have K3 := K2.step M3 (fun _ h => h) (neq (by omega))
  have n3 := hG2.len
  refine wpList_nil (hk7 _ _ (wp_seq_k fun k8 hk8 => (wp_region_lit ?_)))
  refine Zb 32 (.slice s.a ((xs.take i).length + (xs.drop (i + 1)).length) s.c) ?_
  refine Zb 6 (.slice s.a ((xs.take i).length + (xs.drop (i + 1)).length) s.c) ?_
  refine wpList_nil (hk8 _ _ (wp_ret (W.ret1 (v := .slice s.a ((xs.take i).length + (xs.drop (i + 1)).length) s.c) rfl (.tmp rfl .nil) ?_)))
  have hG9 := hG2
  rw [← List.eraseIdx_eq_take_drop_succ] at hG9
  exact ⟨_, (⟨s.a, (xs.take i).length + (xs.drop (i + 1)).length, s.c⟩ : Sli), rfl, K3.mv, hG9⟩

set_option maxRecDepth 100000 in
set_option maxHeartbeats 1000000 in
theorem indexEdG_c (s : Sli) (xs : List Item) (t : Nat) (b : Nat) (tb : Nat) (ed : Edit) (w : World) (γ : Tg) (hG : Gs t 50 7 Item.cells w γ s xs) (hk : Bt tb w γ b 55 ed.cells) (hl : xs.length ≤ 200000) :
    Calls Try.prog 42 #[.slice s.a s.n s.c, .func (.func 82) #[] #[.pointer (some ⟨b, 0, none⟩)]] w fun ε w' => ∃ (γ' : Tg), ε = .returned (.int .i64 (idxI (edIs ed) xs)) ∧ Mv Nt w γ w' γ' := by
 have K0 := Kn.start Nt w γ
 refine W.enter (ws := [(1, .func (.func 82) #[] #[.pointer (some ⟨b, 0, none⟩)]), (0, .slice s.a s.n s.c)]) 19 Try.func42 rfl (by kernel_rfl) ?_
 have n1 := hG.len
 refine wp_seq_k fun k1 hk1 => (wp_region_lit ?_)
 refine Zb 4 (.int .i64 0) ?_
 refine wpList_nil (hk1 _ _ (wp_seq_k fun k2 hk2 => (wp_seq_k fun k3 hk3 => (wp_region_lit ?_))))
 refine Zb 6 (.slice s.a s.n s.c) ?_
 refine Zb 7 (.int .i64 (s.n : Int)) ?_
 refine Zb 8 (.int .i64 0) ?_
 refine wpList_nil (hk3 _ _ (wp_block ?_))
 refine W.loop (fun (μ0 : Nat) (ws : List (Nat × Value)) (w' : World) => ∃ (k : Nat) (γ' : Tg) (ρ0 : List (Nat × Value)), μ0 = xs.length - k ∧ ws = ((8, .int .i64 ↑k) :: (7, .int .i64 (s.n : Int)) :: (1, .func (.func 82) #[] #[.pointer (some ⟨b, 0, none⟩)]) :: (0, .slice s.a s.n s.c) :: ρ0) ∧ Kn Nt w γ [] w' γ' ∧ Mv Nt w γ w' γ' ∧ (k ≤ xs.length) ∧ (∀ j y, j < k → xs[j]? = some y → (edIs ed) y = false) ∧ Gs t 50 7 Item.cells w' γ' s xs ∧ Bt tb w' γ' b 55 ed.cells) (xs.length - 0) ((((look_eq (t := 0) (v := .slice s.a s.n s.c) rfl).trans (look_eq (t := 1) (v := .func (.func 82) #[] #[.pointer (some ⟨b, 0, none⟩)]) rfl)).trans (look_eq (t := 7) (v := .int .i64 (s.n : Int)) rfl)).trans (look_eq (t := 8) (v := .int .i64 ↑0) rfl)) ?_ ?_
 ·exact ⟨0, _, _, rfl, rfl, K0, Mv.refl _ _ _, Nat.zero_le _, (fun j y hj _ => absurd hj (Nat.not_lt_zero _)), hG, hk⟩
 ·rintro _ _ w1 ⟨k, g1, r1, rfl, rfl, K1, M1, p1, p2, h1, h2⟩
  have n2 := h1.len
  refine wp_seq_k fun k4 hk4 => (wp_region_lit ?_)
  by_cases t1 : ((k : Nat) : Int) < (s.n : Int)
  ·refine Zc 9 (.bool true) (okv (by kernel_rfl) (congrArg Value.bool (decide_eq_true t1))) ?_
   refine wpList_nil (hk4 _ _ (wp_seq_k fun k5 hk5 => (W.cond true rfl (wp_skip (hk5 _ _ (wp_seq_k fun k6 hk6 => ?_))))))
   refine wp_block (wp_seq_k fun k7 hk7 => (wp_region_lit ?_))
   refine Zb 10 (.int .i64 ↑k) ?_
   refine Zb 5 (.int .i64 ↑k) ?_
   refine wpList_nil (hk7 _ _ (wp_seq_k fun k8 hk8 => (wp_region_lit ?_)))
   refine Zb 11 (.func (.func 82) #[] #[.pointer (some ⟨b, 0, none⟩)]) ?_
   refine Zb 12 (.slice s.a s.n s.c) ?_
   refine Zb 13 (.int .i64 ↑k) ?_
   obtain ⟨x1, hx1⟩ := get_some (xs := xs) (i := k) (by omega)
   obtain ⟨b1, ha1, hib1, hr1⟩ := h1.elt hx1
   refine Zc 14 (.pointer (some ⟨b1, 0 + k * 7, none⟩)) (exec_index (E := 50) (k := k) rfl (by kernel_rfl) (by kernel_rfl) rfl ha1 rfl hib1) ?_
   refine Zc 15 (.agg x1.cells.toArray) (exec_loads (cs := x1.cells) rfl rfl Ty50 rfl hr1.2.2) ?_
   refine W.op (O.call 16 82 #[.agg x1.cells.toArray, .pointer (some ⟨b, 0, none⟩)] (by kernel_rfl) rfl (by kernel_rfl) ((editedEq_c x1 b tb ed w1 g1 h2).mono ?_))
   rintro e1 w2 ⟨g2, rfl, M2⟩
   have K2 := K1.step M2 (fun _ h => h) quiet
   rcases bsplit (x1.key.toList == ed.it.key.toList) with t2 | t2
   ·refine ⟨_, congrArg Ending.returned (congrArg Value.bool t2), ?_⟩
    refine wpList_nil (hk8 _ _ (W.cond true rfl (wp_seq_k fun k9 hk9 => (wp_region_lit ?_))))
    refine Zb 17 (.int .i64 ↑k) ?_
    refine Zb 4 (.int .i64 ↑k) ?_
    refine wpList_nil (hk9 _ _ (wp_ret (block_ret (then_ret (then_ret (block_ret ?_))))))
    refine then_ret (W.ret1 (v := .int .i64 ↑k) rfl (.tmp rfl .nil) ?_)
    exact ⟨_, by rw [idxI_hit (p := (edIs ed)) hx1 t2 p2], K2.mv⟩
   ·refine ⟨_, congrArg Ending.returned (congrArg Value.bool t2), ?_⟩
    refine wpList_nil (hk8 _ _ (W.cond false rfl (wp_skip (block_normal (hk6 _ _ (wp_region_lit ?_))))))
    refine Zc 18 (.int .i64 ((k + 1 : Nat) : Int)) (okv (v := .int .i64 (IntKind.i64.wrap (((k : Nat) : Int) + 1))) (by kernel_rfl) (wrapn (by omega) (by omega))) ?_
    refine Zb 8 (.int .i64 ((k + 1 : Nat) : Int)) ?_
    refine wpList_nil ?_
    have hhG_1 := h1.mv M2 quiet
    have hhk_1 := h2.mv M2 quiet
    exact ⟨xs.length - (k + 1), _, by omega, ((((look_eq (t := 0) (v := .slice s.a s.n s.c) rfl).trans (look_eq (t := 1) (v := .func (.func 82) #[] #[.pointer (some ⟨b, 0, none⟩)]) rfl)).trans (look_eq (t := 7) (v := .int .i64 (s.n : Int)) rfl)).trans (look_eq (t := 8) (v := .int .i64 (((k + 1) : Nat) : Int)) rfl)), ⟨(k + 1), _, _, rfl, rfl, K2, (M1.trans (M2.mono (fun _ h => h))), by omega, (fun j y hj hy => by rcases Nat.lt_or_ge j k with h | h; exact p2 j y h hy; have e : j = k := (by omega); subst e; rw [hx1] at hy; injection hy with hy; subst hy; exact t2), hhG_1, hhk_1⟩⟩
  ·refine Zc 9 (.bool false) (okv (by kernel_rfl) (congrArg Value.bool (decide_eq_false t1))) ?_
   refine wpList_nil (hk4 _ _ (wp_seq_k fun k10 hk10 => (W.cond false rfl (wp_exit (then_exit (then_exit ?_))))))
   refine block_exit (hk2 _ _ (wp_seq_k fun k11 hk11 => (wp_region_lit ?_)))
   refine Zb 4 (.int .i64 (-1)) ?_
   refine wpList_nil (hk11 _ _ (wp_ret (W.ret1 (v := .int .i64 (-1)) rfl (.tmp rfl .nil) ?_)))
   exact ⟨_, by rw [idxI_miss (p := (edIs ed)) (fun j y hj hy => p2 j y (by omega) hy)], K1.mv⟩

theorem indexEdG_miss (s : Sli) (xs : List Item) (t : Nat) (b : Nat) (tb : Nat) (ed : Edit) (w : World) (γ : Tg) (hG : Gs t 50 7 Item.cells w γ s xs) (hk : Bt tb w γ b 55 ed.cells) (hl : xs.length ≤ 200000) (hf : xs[xs.findIdx (edIs ed)]? = none) :
    Calls Try.prog 42 #[.slice s.a s.n s.c, .func (.func 82) #[] #[.pointer (some ⟨b, 0, none⟩)]] w fun ε w' => ∃ (γ' : Tg), ε = .returned (.int .i64 (-1)) ∧ Mv Nt w γ w' γ' := by
  have h := indexEdG_c s xs t b tb ed w γ hG hk hl
  rw [indexMiss hf] at h
  exact h

theorem indexEdG_hit (s : Sli) (xs : List Item) (t : Nat) (b : Nat) (tb : Nat) (ed : Edit) (x : Item) (w : World) (γ : Tg) (hG : Gs t 50 7 Item.cells w γ s xs) (hk : Bt tb w γ b 55 ed.cells) (hl : xs.length ≤ 200000) (hf : xs[xs.findIdx (edIs ed)]? = some x) :
    Calls Try.prog 42 #[.slice s.a s.n s.c, .func (.func 82) #[] #[.pointer (some ⟨b, 0, none⟩)]] w fun ε w' => ∃ (γ' : Tg), ε = .returned (.int .i64 (((xs.findIdx (edIs ed)) : Nat) : Int)) ∧ Mv Nt w γ w' γ' := by
  have h := indexEdG_c s xs t b tb ed w γ hG hk hl
  rw [indexHit hf] at h
  exact h

set_option maxRecDepth 100000 in
set_option maxHeartbeats 1000000 in
theorem edited_c (s : Sli) (its : List Item) (e : Sli) (es : List Edit) (t : Nat) (w : World) (γ : Tg) (hs : Ls 7 Item.cells w γ s its) (he : Ls 8 Edit.cells w γ e es) (hl : its.length + es.length ≤ 100000) :
    Calls Try.prog 64 #[.slice s.a s.n s.c, .slice e.a e.n e.c] w fun ε w' => ∃ (γ' : Tg) (s' : Sli), ε = .returned (.tuple #[.slice s'.a s'.n s'.c, .bool ((edAll its es).2)]) ∧ Mv Nt w γ w' γ' ∧ Gs t 50 7 Item.cells w' γ' s' (isort ltItem (edAll its es).1) := by
 obtain ⟨t0, ht0, hf0⟩ := fresh_tag w γ 2
 have K0 := Kn.start (Lo Nt t0) w γ
 refine W.enter (ws := [(1, .slice e.a e.n e.c), (0, .slice s.a s.n s.c)]) 54 Try.func64 rfl (by kernel_rfl) ?_
 have n1 := hs.len
 have n2 := he.len
 refine wp_seq_k fun k1 hk1 => (wp_region_lit ?_)
 refine Zb 4 (.slice none 0 0) ?_
 refine Zb 5 (.bool false) ?_
 refine wpList_nil (hk1 _ _ (wp_seq_k fun k2 hk2 => (wp_region_lit ?_)))
 refine Zb 11 (.slice s.a s.n s.c) ?_
 refine W.op (O.call 12 81 #[.slice s.a s.n s.c] (by kernel_rfl) rfl (by kernel_rfl) ((cloneItems_c s its t0 w γ hs (by omega)).mono ?_))
 rintro e1 w1 ⟨g1, s1, rfl, M1, hq1⟩
 have K1 := K0.step M1 nt_le quiet
 have n3 := hq1.len
 refine ⟨_, rfl, ?_⟩
 refine Zb 6 (.slice s1.a s1.n s1.c) ?_
 refine wpList_nil (hk2 _ _ (wp_seq_k fun k3 hk3 => (wp_region_lit ?_)))
 refine Zb 7 (.bool false) ?_
 refine wpList_nil (hk3 _ _ (wp_seq_k fun k4 hk4 => (wp_seq_k fun k5 hk5 => (wp_region_lit ?_))))
 refine Zb 13 (.slice e.a e.n e.c) ?_
 refine Zb 14 (.int .i64 (e.n : Int)) ?_
 refine Zb 15 (.int .i64 0) ?_
 refine wpList_nil (hk5 _ _ (wp_block ?_))
 have hhe_1 := he.mv M1 quiet
 refine W.loop (fun (μ0 : Nat) (ws : List (Nat × Value)) (w' : World) => ∃ (k : Nat) (sl : Sli) (γ' : Tg) (ρ0 : List (Nat × Value)), μ0 = es.length - k ∧ ws = ((15, .int .i64 ↑k) :: (14, .int .i64 (e.n : Int)) :: (13, .slice e.a e.n e.c) :: (7, .bool ((edAll its (es.take k)).2)) :: (6, .slice sl.a sl.n sl.c) :: ρ0) ∧ Kn (Lo Nt t0) w γ [] w' γ' ∧ Mv (Lo (fun ξ => ξ = 1) t0) w1 g1 w' γ' ∧ (k ≤ es.length) ∧ Ls 8 Edit.cells w' γ' e es ∧ Gs t0 50 7 Item.cells w' γ' sl ((edAll its (es.take k)).1)) (es.length - 0) (((((look_eq (t := 6) (v := .slice s1.a s1.n s1.c) rfl).trans (look_eq (t := 7) (v := .bool ((edAll its (es.take 0)).2)) rfl)).trans (look_eq (t := 13) (v := .slice e.a e.n e.c) rfl)).trans (look_eq (t := 14) (v := .int .i64 (e.n : Int)) rfl)).trans (look_eq (t := 15) (v := .int .i64 ↑0) rfl)) ?_ ?_
 ·exact ⟨0, s1, _, _, rfl, rfl, K1, Mv.refl _ _ _, Nat.zero_le _, hhe_1, hq1⟩
 ·rintro _ _ w2 ⟨k, sl, g2, r1, rfl, rfl, K2, M2, p1, h1, h2⟩
  have n4 := h1.len
  have n5 := h2.len
  refine wp_seq_k fun k6 hk6 => (wp_region_lit ?_)
  by_cases t1 : ((k : Nat) : Int) < (e.n : Int)
  ·refine Zc 16 (.bool true) (okv (by kernel_rfl) (congrArg Value.bool (decide_eq_true t1))) ?_
   refine wpList_nil (hk6 _ _ (wp_seq_k fun k7 hk7 => (W.cond true rfl (wp_skip (hk7 _ _ (wp_seq_k fun k8 hk8 => ?_))))))
   refine wp_block (wp_seq_k fun k9 hk9 => (wp_region_lit ?_))
   obtain ⟨x1, hx1⟩ := get_some (xs := es) (i := k) (by omega)
   obtain ⟨b1, o1, ha1, hib1, hr1⟩ := h1.elt hx1
   refine Zc 17 (.pointer (some ⟨b1, o1 + k * 8, none⟩)) (exec_index (E := 55) (k := k) rfl (by kernel_rfl) (by kernel_rfl) rfl ha1 rfl hib1) ?_
   refine Zc 18 (.agg x1.cells.toArray) (exec_loads (cs := x1.cells) rfl rfl Ty55 rfl hr1.2.2) ?_
   refine W.op (O.new 9 55 [.string ByteArray.empty, .int .i64 0, .int .i64 0, .int .i64 0, .string ByteArray.empty, .slice none 0 0, .slice none 0 0, .bool false] rfl rfl (by kernel_rfl) K2 fun b2 w3 g3 K3 M3 => ?_)
   refine W.op (O.sta 0 x1.cells rfl rfl rfl rfl rfl Ty55 rfl rfl rfl rfl K3 fun w4 K4 M4 => ?_)
   refine wpList_nil (hk9 _ _ (wp_seq_k fun k10 hk10 => (wp_region_lit ?_)))
   refine Zb 19 (.slice sl.a sl.n sl.c) ?_
   refine Zb 20 (.func (.func 82) #[] #[.pointer (some ⟨b2, 0, none⟩)]) ?_
   have hhl_1 := h2.mv M3 quiet
   have hhl_2 := hhl_1.mv M4 (neq (by omega))
   rcases hfi : ((edAll its (es.take k)).1)[((edAll its (es.take k)).1).findIdx (edIs x1)]? with _ | x9
   ·refine W.op (O.call 21 42 #[.slice sl.a sl.n sl.c, .func (.func 82) #[] #[.pointer (some ⟨b2, 0, none⟩)]] (by kernel_rfl) rfl (by kernel_rfl) ((indexEdG_miss sl ((edAll its (es.take k)).1) t0 b2 1 x1 w4 g3 hhl_2 ⟨K4.nth 0 rfl, K4.tag 0 rfl⟩ (by have := edAll_len its (es.take k); rw [List.length_take] at this; omega) hfi).mono ?_))
    rintro e2 w5 ⟨g4, rfl, M5⟩
    have K5 := K4.step M5 nt_le quiet
    refine ⟨_, rfl, ?_⟩
    refine Zb 10 (.int .i64 (-1)) ?_
    refine wpList_nil (hk10 _ _ (wp_seq_k fun k11 hk11 => (wp_block (wp_seq_k fun k12 hk12 => (wp_region_lit ?_)))))
    refine Zb 28 (.pointer (some ⟨b2, 7, none⟩)) ?_
    rcases bsplit (x1.gone) with tg | tg
    ·refine Zc 29 (.bool true) (okv (exec_load rfl rfl Ty4 ((K5.nth 0 rfl).cell 7)) (congrArg Value.bool tg)) ?_
     refine Zb 30 (.bool true) ?_
     refine Zd 31 (.int .i64 (-1)) ?_
     refine Zd 32 (.bool false) ?_
     refine Zb 33 (.bool false) ?_
     refine Zb 27 (.bool false) ?_
     refine wpList_nil (hk12 _ _ (W.cond false rfl (wp_seq_k fun k13 hk13 => (wp_region_lit ?_))))
     refine Zb 40 (.pointer (some ⟨b2, 7, none⟩)) ?_
     refine Zc 41 (.bool true) (okv (exec_load rfl rfl Ty4 ((K5.nth 0 rfl).cell 7)) (congrArg Value.bool tg)) ?_
     refine Zb 39 (.bool true) ?_
     refine wpList_nil (hk13 _ _ (W.cond true rfl (wp_exit (block_other (by decide) (then_exit (block_exit ?_))))))
     refine hk8 _ _ (wp_region_lit ?_)
     refine Zc 50 (.int .i64 ((k + 1 : Nat) : Int)) (okv (v := .int .i64 (IntKind.i64.wrap (((k : Nat) : Int) + 1))) (by kernel_rfl) (wrapn (by omega) (by omega))) ?_
     refine Zb 15 (.int .i64 ((k + 1 : Nat) : Int)) ?_
     refine wpList_nil ?_
     have hhl_3 := hhl_2.mv M5 quiet
     have hhe_2 := h1.mv M3 quiet
     have hhe_3 := hhe_2.mv M4 (neq (by omega))
     have hhe_4 := hhe_3.mv M5 quiet
     exact ⟨es.length - (k + 1), _, by omega, (((((look_eq (t := 6) (v := .slice sl.a sl.n sl.c) rfl).trans (look_eq (t := 7) (v := .bool ((edAll its (es.take (k + 1))).2)) (by rw [take_snoc hx1, edAll_snoc]; simp only [edStep, tg, hfi, cond_true, cond_false]; rfl))).trans (look_eq (t := 13) (v := .slice e.a e.n e.c) rfl)).trans (look_eq (t := 14) (v := .int .i64 (e.n : Int)) rfl)).trans (look_eq (t := 15) (v := .int .i64 (((k + 1) : Nat) : Int)) rfl)), ⟨(k + 1), sl, _, _, rfl, rfl, K5.tail, (((M2.trans (M3.mono nt_le)).trans (M4.mono (le_lo (fun _ h => h)))).trans (M5.mono nt_le)), by omega, hhe_4, (by have h := hhl_3; rw [take_snoc hx1, edAll_snoc]; simp only [edStep, tg, hfi, cond_true, cond_false]; exact h)⟩⟩
    ·refine Zc 29 (.bool false) (okv (exec_load rfl rfl Ty4 ((K5.nth 0 rfl).cell 7)) (congrArg Value.bool tg)) ?_
     refine Zb 30 (.bool false) ?_
     refine Za 31 ?_
     refine Za 32 ?_
     refine Zb 33 (.bool false) ?_
     refine Zb 27 (.bool false) ?_
     refine wpList_nil (hk12 _ _ (W.cond false rfl (wp_seq_k fun k14 hk14 => (wp_region_lit ?_))))
     refine Zb 40 (.pointer (some ⟨b2, 7, none⟩)) ?_
     refine Zc 41 (.bool false) (okv (exec_load rfl rfl Ty4 ((K5.nth 0 rfl).cell 7)) (congrArg Value.bool tg)) ?_
     refine Zb 39 (.bool false) ?_
     refine wpList_nil (hk14 _ _ (W.cond false rfl (wp_seq_k fun k15 hk15 => (wp_region_lit ?_))))
     refine Zb 43 (.int .i64 (-1)) ?_
     refine Zb 44 (.bool false) ?_
     refine Zb 42 (.bool false) ?_
     refine wpList_nil (hk15 _ _ (W.cond false rfl (wp_region_lit ?_)))
     refine Zb 22 (.slice sl.a sl.n sl.c) ?_
     refine Zb 23 (.pointer (some ⟨b2, 0, none⟩)) ?_
     refine Zc 24 (.agg #[.string x1.it.key, .int .i64 x1.it.ver, .int .i64 x1.it.knd, .int .i64 x1.it.int, .string x1.it.txt, .slice x1.it.nms.a x1.it.nms.n x1.it.nms.c, .slice x1.it.its.a x1.it.its.n x1.it.its.c]) (exec_loads (cs := [.string x1.it.key, .int .i64 x1.it.ver, .int .i64 x1.it.knd, .int .i64 x1.it.int, .string x1.it.txt, .slice x1.it.nms.a x1.it.nms.n x1.it.nms.c, .slice x1.it.its.a x1.it.its.n x1.it.its.c]) rfl rfl Ty50 rfl ((K5.nth 0 rfl).part 0 7)) ?_
     refine W.op (O.lit 25 50 [.string x1.it.key, .int .i64 x1.it.ver, .int .i64 x1.it.knd, .int .i64 x1.it.int, .string x1.it.txt, .slice x1.it.nms.a x1.it.nms.n x1.it.nms.c, .slice x1.it.its.a x1.it.its.n x1.it.its.c] 1 rfl rfl (by kernel_rfl) K5 fun b3 w6 g6 K6 M7 => ?_)
     have hhl_4 := hhl_2.mv M5 quiet
     have hhl_5 := hhl_4.mv M7 quiet
     refine W.op (O.append (f := Item.cells) 26 [x1.it] (by kernel_rfl) rfl rfl (by kernel_rfl) El50 rfl rfl hhl_5 rfl (src1 (K6.nth 0 rfl) rfl) (fun _ => rfl) (by have := edAll_len its (es.take k); rw [List.length_take] at this; simp only [List.length_cons, List.length_nil]; omega) (by have := edAll_len its (es.take k); rw [List.length_take] at this; simp only [List.length_cons, List.length_nil]; omega) fun s2 w7 g7 hG1 M8 => ?_)
     have K7 := K6.step M8 (eq_lo (by omega)) (neq (by omega))
     have n6 := hG1.len
     refine Zb 6 (.slice s2.a s2.n s2.c) ?_
     refine wpList_nil (block_normal (hk11 _ _ (wp_region_lit ?_)))
     refine Zb 7 (.bool true) ?_
     refine wpList_nil (block_normal (hk8 _ _ (wp_region_lit ?_)))
     refine Zc 50 (.int .i64 ((k + 1 : Nat) : Int)) (okv (v := .int .i64 (IntKind.i64.wrap (((k : Nat) : Int) + 1))) (by kernel_rfl) (wrapn (by omega) (by omega))) ?_
     refine Zb 15 (.int .i64 ((k + 1 : Nat) : Int)) ?_
     refine wpList_nil ?_
     have hhe_5 := h1.mv M3 quiet
     have hhe_6 := hhe_5.mv M4 (neq (by omega))
     have hhe_7 := hhe_6.mv M5 quiet
     have hhe_8 := hhe_7.mv M7 quiet
     have hhe_9 := hhe_8.mv M8 (neq (by omega))
     exact ⟨es.length - (k + 1), _, by omega, (((((look_eq (t := 6) (v := .slice s2.a s2.n s2.c) rfl).trans (look_eq (t := 7) (v := .bool ((edAll its (es.take (k + 1))).2)) (by rw [take_snoc hx1, edAll_snoc]; simp only [edStep, tg, hfi, cond_true, cond_false]; rfl))).trans (look_eq (t := 13) (v := .slice e.a e.n e.c) rfl)).trans (look_eq (t := 14) (v := .int .i64 (e.n : Int)) rfl)).trans (look_eq (t := 15) (v := .int .i64 (((k + 1) : Nat) : Int)) rfl)), ⟨(k + 1), s2, _, _, rfl, rfl, K7.tail.tail, (((((M2.trans (M3.mono nt_le)).trans (M4.mono (le_lo (fun _ h => h)))).trans (M5.mono nt_le)).trans (M7.mono nt_le)).trans (M8.mono (eq_lo (by omega)))), by omega, hhe_9, (by have h := hG1; rw [take_snoc hx1, edAll_snoc]; simp only [edStep, tg, hfi, cond_true, cond_false]; exact h)⟩⟩
   ·refine W.op (O.call 21 42 #[.slice sl.a sl.n sl.c, .func (.func 82) #[] #[.pointer (some ⟨b2, 0, none⟩)]] (by kernel_rfl) rfl (by kernel_rfl) ((indexEdG_hit sl ((edAll its (es.take k)).1) t0 b2 1 x1 x9 w4 g3 hhl_2 ⟨K4.nth 0 rfl, K4.tag 0 rfl⟩ (by have := edAll_len its (es.take k); rw [List.length_take] at this; omega) hfi).mono ?_))
    rintro e3 w8 ⟨g5, rfl, M6⟩
    have K8 := K4.step M6 nt_le quiet
    have hfl := (List.getElem?_eq_some_iff.1 hfi).1
    have hfb := edAll_len its (es.take k)
    rw [List.length_take] at hfb
    refine ⟨_, rfl, ?_⟩
    refine Zb 10 (.int .i64 (((((edAll its (es.take k)).1).findIdx (edIs x1)) : Nat) : Int)) ?_
    refine wpList_nil (hk10 _ _ (wp_seq_k fun k16 hk16 => (wp_block (wp_seq_k fun k17 hk17 => (wp_region_lit ?_)))))
    refine Zb 28 (.pointer (some ⟨b2, 7, none⟩)) ?_
    rcases bsplit (x1.gone) with tg | tg
    ·refine Zc 29 (.bool true) (okv (exec_load rfl rfl Ty4 ((K8.nth 0 rfl).cell 7)) (congrArg Value.bool tg)) ?_
     refine Zb 30 (.bool true) ?_
     refine Zd 31 (.int .i64 (((((edAll its (es.take k)).1).findIdx (edIs x1)) : Nat) : Int)) ?_
     by_cases t2 : (((((edAll its (es.take k)).1).findIdx (edIs x1)) : Nat) : Int) ≥ 0
     ·refine W.op (O.gv 32 (.bool true) (by kernel_rfl) rfl (okv (by kernel_rfl) (congrArg Value.bool (decide_eq_true t2))) ?_)
      refine Zb 33 (.bool true) ?_
      refine Zb 27 (.bool true) ?_
      refine wpList_nil (hk17 _ _ (W.cond true rfl (wp_region_lit ?_)))
      refine Zb 34 (.slice sl.a sl.n sl.c) ?_
      refine Zb 35 (.int .i64 (((((edAll its (es.take k)).1).findIdx (edIs x1)) : Nat) : Int)) ?_
      refine Zb 36 (.int .i64 (((((edAll its (es.take k)).1).findIdx (edIs x1)) : Nat) : Int)) ?_
      refine Zc 37 (.int .i64 (((((edAll its (es.take k)).1).findIdx (edIs x1)) + 1 : Nat) : Int)) (okv (v := .int .i64 (IntKind.i64.wrap ((((((edAll its (es.take k)).1).findIdx (edIs x1)) : Nat) : Int) + 1))) (by kernel_rfl) (wrapn (by omega) (by omega))) ?_
      have hhl_6 := hhl_2.mv M6 quiet
      refine W.op (O.call 38 83 #[.slice sl.a sl.n sl.c, .int .i64 (((((edAll its (es.take k)).1).findIdx (edIs x1)) : Nat) : Int), .int .i64 (((((edAll its (es.take k)).1).findIdx (edIs x1)) + 1 : Nat) : Int)] (by kernel_rfl) rfl (by kernel_rfl) ((delItem_c sl ((edAll its (es.take k)).1) t0 (((edAll its (es.take k)).1).findIdx (edIs x1)) w8 g5 hhl_6 (by omega) ((List.getElem?_eq_some_iff.1 hfi).1) (by have := edAll_len its (es.take k); rw [List.length_take] at this; omega)).mono ?_))
      rintro e4 w9 ⟨g8, s3, rfl, M9, hq2⟩
      have K9 := K8.step M9 (eq_lo (by omega)) (neq (by omega))
      have n7 := hq2.len
      refine ⟨_, rfl, ?_⟩
      refine Zb 6 (.slice s3.a s3.n s3.c) ?_
      refine wpList_nil (block_normal (hk16 _ _ (wp_region_lit ?_)))
      refine Zb 7 (.bool true) ?_
      refine wpList_nil (block_normal (hk8 _ _ (wp_region_lit ?_)))
      refine Zc 50 (.int .i64 ((k + 1 : Nat) : Int)) (okv (v := .int .i64 (IntKind.i64.wrap (((k : Nat) : Int) + 1))) (by kernel_rfl) (wrapn (by omega) (by omega))) ?_
      refine Zb 15 (.int .i64 ((k + 1 : Nat) : Int)) ?_
      refine wpList_nil ?_
      have hhe_10 := h1.mv M3 quiet
      have hhe_11 := hhe_10.mv M4 (neq (by omega))
      have hhe_12 := hhe_11.mv M6 quiet
      have hhe_13 := hhe_12.mv M9 (neq (by omega))
      exact ⟨es.length - (k + 1), _, by omega, (((((look_eq (t := 6) (v := .slice s3.a s3.n s3.c) rfl).trans (look_eq (t := 7) (v := .bool ((edAll its (es.take (k + 1))).2)) (by rw [take_snoc hx1, edAll_snoc]; simp only [edStep, tg, hfi, cond_true, cond_false]; rfl))).trans (look_eq (t := 13) (v := .slice e.a e.n e.c) rfl)).trans (look_eq (t := 14) (v := .int .i64 (e.n : Int)) rfl)).trans (look_eq (t := 15) (v := .int .i64 (((k + 1) : Nat) : Int)) rfl)), ⟨(k + 1), s3, _, _, rfl, rfl, K9.tail, ((((M2.trans (M3.mono nt_le)).trans (M4.mono (le_lo (fun _ h => h)))).trans (M6.mono nt_le)).trans (M9.mono (eq_lo (by omega)))), by omega, hhe_13, (by have h := hq2; rw [take_snoc hx1, edAll_snoc]; simp only [edStep, tg, hfi, cond_true, cond_false]; exact h)⟩⟩
     ·exfalso; omega
    ·refine Zc 29 (.bool false) (okv (exec_load rfl rfl Ty4 ((K8.nth 0 rfl).cell 7)) (congrArg Value.bool tg)) ?_
     refine Zb 30 (.bool false) ?_
     refine Za 31 ?_
     refine Za 32 ?_
     refine Zb 33 (.bool false) ?_
     refine Zb 27 (.bool false) ?_
     refine wpList_nil (hk17 _ _ (W.cond false rfl (wp_seq_k fun k18 hk18 => (wp_region_lit ?_))))
     refine Zb 40 (.pointer (some ⟨b2, 7, none⟩)) ?_
     refine Zc 41 (.bool false) (okv (exec_load rfl rfl Ty4 ((K8.nth 0 rfl).cell 7)) (congrArg Value.bool tg)) ?_
     refine Zb 39 (.bool false) ?_
     refine wpList_nil (hk18 _ _ (W.cond false rfl (wp_seq_k fun k19 hk19 => (wp_region_lit ?_))))
     refine Zb 43 (.int .i64 (((((edAll its (es.take k)).1).findIdx (edIs x1)) : Nat) : Int)) ?_
     by_cases t3 : (((((edAll its (es.take k)).1).findIdx (edIs x1)) : Nat) : Int) ≥ 0
     ·refine Zc 44 (.bool true) (okv (by kernel_rfl) (congrArg Value.bool (decide_eq_true t3))) ?_
      refine Zb 42 (.bool true) ?_
      refine wpList_nil (hk19 _ _ (W.cond true rfl (wp_region_lit ?_)))
      refine Zb 45 (.slice sl.a sl.n sl.c) ?_
      refine Zb 46 (.int .i64 (((((edAll its (es.take k)).1).findIdx (edIs x1)) : Nat) : Int)) ?_
      refine Zb 47 (.pointer (some ⟨b2, 0, none⟩)) ?_
      refine Zc 48 (.agg #[.string x1.it.key, .int .i64 x1.it.ver, .int .i64 x1.it.knd, .int .i64 x1.it.int, .string x1.it.txt, .slice x1.it.nms.a x1.it.nms.n x1.it.nms.c, .slice x1.it.its.a x1.it.its.n x1.it.its.c]) (exec_loads (cs := [.string x1.it.key, .int .i64 x1.it.ver, .int .i64 x1.it.knd, .int .i64 x1.it.int, .string x1.it.txt, .slice x1.it.nms.a x1.it.nms.n x1.it.nms.c, .slice x1.it.its.a x1.it.its.n x1.it.its.c]) rfl rfl Ty50 rfl ((K8.nth 0 rfl).part 0 7)) ?_
      have hhl_7 := hhl_2.mv M6 quiet
      obtain ⟨b4, ha2, hib2, hr2⟩ := hhl_7.elt hfi
      refine Zc 49 (.pointer (some ⟨b4, 0 + (((edAll its (es.take k)).1).findIdx (edIs x1)) * 7, none⟩)) (exec_index (E := 50) (k := (((edAll its (es.take k)).1).findIdx (edIs x1))) rfl (by kernel_rfl) (by kernel_rfl) rfl ha2 rfl hib2) ?_
      refine W.op (O.gset (((edAll its (es.take k)).1).findIdx (edIs x1)) x1.it (by kernel_rfl) rfl rfl rfl rfl Ty50 (fun _ => rfl) hhl_7 (by first | omega | (simp only [List.length_set, List.length_append, List.length_cons] at *; omega)) ha2 fun w10 hG2 M10 => ?_)
      have K10 := K8.step M10 (eq_lo (by omega)) (neq (by omega))
      have n8 := hG2.len
      refine wpList_nil (block_normal (hk16 _ _ (wp_region_lit ?_)))
      refine Zb 7 (.bool true) ?_
      refine wpList_nil (block_normal (hk8 _ _ (wp_region_lit ?_)))
      refine Zc 50 (.int .i64 ((k + 1 : Nat) : Int)) (okv (v := .int .i64 (IntKind.i64.wrap (((k : Nat) : Int) + 1))) (by kernel_rfl) (wrapn (by omega) (by omega))) ?_
      refine Zb 15 (.int .i64 ((k + 1 : Nat) : Int)) ?_
      refine wpList_nil ?_
      have hhe_14 := h1.mv M3 quiet
      have hhe_15 := hhe_14.mv M4 (neq (by omega))
      have hhe_16 := hhe_15.mv M6 quiet
      have hhe_17 := hhe_16.mv M10 (neq (by omega))
      exact ⟨es.length - (k + 1), _, by omega, (((((look_eq (t := 6) (v := .slice sl.a sl.n sl.c) rfl).trans (look_eq (t := 7) (v := .bool ((edAll its (es.take (k + 1))).2)) (by rw [take_snoc hx1, edAll_snoc]; simp only [edStep, tg, hfi, cond_true, cond_false]; rfl))).trans (look_eq (t := 13) (v := .slice e.a e.n e.c) rfl)).trans (look_eq (t := 14) (v := .int .i64 (e.n : Int)) rfl)).trans (look_eq (t := 15) (v := .int .i64 (((k + 1) : Nat) : Int)) rfl)), ⟨(k + 1), sl, _, _, rfl, rfl, K10.tail, ((((M2.trans (M3.mono nt_le)).trans (M4.mono (le_lo (fun _ h => h)))).trans (M6.mono nt_le)).trans (M10.mono (eq_lo (by omega)))), by omega, hhe_17, (by have h := hG2; rw [take_snoc hx1, edAll_snoc]; simp only [edStep, tg, hfi, cond_true, cond_false]; exact h)⟩⟩
     ·exfalso; omega
  ·refine Zc 16 (.bool false) (okv (by kernel_rfl) (congrArg Value.bool (decide_eq_false t1))) ?_
   refine wpList_nil (hk6 _ _ (wp_seq_k fun k20 hk20 => (W.cond false rfl (wp_exit (then_exit (then_exit ?_))))))
   refine block_exit (hk4 _ _ (wp_seq_k fun k21 hk21 => (wp_region_lit ?_)))
   refine Zb 51 (.slice sl.a sl.n sl.c) ?_
   refine W.op (O.call 52 37 #[.slice sl.a sl.n sl.c] (by kernel_rfl) rfl (by kernel_rfl) ((byKeyAll_c sl ((edAll its (es.take k)).1) t0 w2 g2 h2 (by omega) (by have := edAll_len its (es.take k); rw [List.length_take] at this; omega)).mono ?_))
   rintro e5 w11 ⟨g9, rfl, M11, hq3⟩
   have K11 := K2.step M11 (eq_lo (by omega)) (neq (by omega))
   have n9 := hq3.len
   refine ⟨_, rfl, ?_⟩
   refine Zb 53 (.bool ((edAll its (es.take k)).2)) ?_
   refine Zb 4 (.slice sl.a sl.n sl.c) ?_
   refine Zb 5 (.bool ((edAll its (es.take k)).2)) ?_
   refine wpList_nil (hk21 _ _ (wp_ret (W.rets (vs := [.slice sl.a sl.n sl.c, .bool ((edAll its (es.take k)).2)]) rfl (.tmp rfl (.tmp rfl .nil)) (by simp) ?_)))
   have M12 := Mv.recol w11 g9 t0 t
   have K12 := K11.step M12 (eq_lo (by omega)) (neq (by omega))
   have h3 := hq3.recol t
   have hG9 := h3
   have hk9 : es.take k = es := List.take_of_length_le (by omega)
   rw [hk9] at hG9
   exact ⟨_, _, by rw [hk9], (K12.mv.shut hf0), hG9⟩

set_option maxRecDepth 100000 in
set_option maxHeartbeats 1000000 in
theorem parted_c (s : Sli) (es : List Edit) (l : Nat) (w : World) (γ : Tg) (hs : Ls 8 Edit.cells w γ s es) (hl : es.length ≤ 100000) (hky : ∀ e ∈ es, e.it.key.size < 9223372036854775807) :
    Calls Try.prog 84 #[.slice s.a s.n s.c, .int .i64 ((l : Nat) : Int)] w fun ε w' => ∃ (γ' : Tg) (ps : Nat → Sli), ε = .returned (.agg (psCells ps).toArray) ∧ Mv Nt w γ w' γ' ∧ PtsE l w' γ' ps es := by
 obtain ⟨t0, ht0, hf0⟩ := fresh_tag w γ 2
 have K0 := Kn.start (Lo Nt t0) w γ
 refine W.enter (ws := [(1, .int .i64 ↑l), (0, .slice s.a s.n s.c)]) 52 Try.func84 rfl (by kernel_rfl) ?_
 have n1 := hs.len
 refine wp_seq_k fun k1 hk1 => (wp_region_lit ?_)
 refine W.op (O.newt 0 3 3 [.int .i64 ↑l] rfl rfl (by kernel_rfl) K0 fun b1 w1 g1 K1 hb1 M1 => ?_)
 refine W.op (O.new 4 163 Z163 rfl rfl (by kernel_rfl) K1 fun b2 w2 g2 K2 M2 => ?_)
 refine wpList_nil (hk1 _ _ (wp_seq_k fun k2 hk2 => (wp_region_lit ?_)))
 refine Zb 9 (.slice s.a s.n s.c) ?_
 have hhs_1 := hs.mv M1 quiet
 have hhs_2 := hhs_1.mv M2 quiet
 refine W.op (O.call 10 96 #[.slice s.a s.n s.c] (by kernel_rfl) rfl (by kernel_rfl) ((cloneEdits_c s es t0 w2 g2 hhs_2 (by omega)).mono ?_))
 rintro e1 w3 ⟨g3, s1, rfl, M3, hq1⟩
 have K3 := K2.step M3 nt_le quiet
 have n2 := hq1.len
 refine ⟨_, rfl, ?_⟩
 refine Zb 5 (.slice s1.a s1.n s1.c) ?_
 refine wpList_nil (hk2 _ _ (wp_seq_k fun k3 hk3 => (wp_region_lit ?_)))
 refine Zb 11 (.slice s1.a s1.n s1.c) ?_
 refine Zb 12 (.func (.func 98) #[] #[.pointer (some ⟨b1, 0, none⟩)]) ?_
 have hhlev0_1 := hb1.mv M2 quiet
 have hhlev0_2 := hhlev0_1.mv M3 quiet
 have hlev : Cl 0 w3 g3 b1 0 (.int .i64 ↑l) := ⟨hhlev0_2.1.cell 0, hhlev0_2.2⟩
 refine W.op (O.call 13 97 #[.slice s1.a s1.n s1.c, .func (.func 98) #[] #[.pointer (some ⟨b1, 0, none⟩)]] (by kernel_rfl) rfl (by kernel_rfl) ((sortEdit_c s1 es t0 b1 l w3 g3 hq1 (by omega) (by omega) hlev hky).mono ?_))
 rintro e2 w4 ⟨g4, rfl, M4, hq2⟩
 have K4 := K3.step M4 (eq_lo (by omega)) (neq (by omega))
 have n3 := hq2.len
 refine ⟨_, rfl, ?_⟩
 refine wpList_nil (hk3 _ _ (wp_seq_k fun k4 hk4 => (wp_region_lit ?_)))
 refine W.op (O.new 6 163 Z163 rfl rfl (by kernel_rfl) K4 fun b3 w5 g5 K5 M5 => ?_)
 refine wpList_nil (hk4 _ _ (wp_seq_k fun k5 hk5 => (wp_block ?_)))
 have hf1_1 := hq2.mv M5 quiet
 have M6 := Mv.recol w5 g5 t0 0
 have K6 := K5.step M6 (eq_lo (by omega)) (neq (by omega))
 have h1 := hf1_1.ice
 have n4 := h1.len
 have hP1 := PtsE.nil l w5 (recol g5 t0 0)
 refine W.loop (fun (μ0 : Nat) (ws : List (Nat × Value)) (w' : World) => ∃ (R : List Edit) (D : List Edit) (sr : Sli) (ps : Nat → Sli) (γ' : Tg) (ρ0 : List (Nat × Value)), μ0 = R.length ∧ ws = ((6, .pointer (some ⟨b3, 0, none⟩)) :: (5, .slice sr.a sr.n sr.c) :: (4, .pointer (some ⟨b2, 0, none⟩)) :: (3, .pointer (some ⟨b1, 0, none⟩)) :: ρ0) ∧ Kn (Lo Nt t0) w γ [(b3, 163, (psCells ps)), (b2, 163, Z163)] w' γ' ∧ Mv (fun ξ => ξ = 1) w5 (recol g5 t0 0) w' γ' ∧ (D ++ R = (isort (ltEdit l) es)) ∧ (∀ e ∈ D, ∀ e2 ∈ R, digitOf e.it.key l < digitOf e2.it.key l) ∧ (R.length ≤ 100000) ∧ Ls 8 Edit.cells w' γ' sr R ∧ PtsE l w' γ' ps D) ((isort (ltEdit l) es).length) ((((look_eq (t := 3) (v := .pointer (some ⟨b1, 0, none⟩)) rfl).trans (look_eq (t := 4) (v := .pointer (some ⟨b2, 0, none⟩)) rfl)).trans (look_eq (t := 5) (v := .slice s1.a s1.n s1.c) rfl)).trans (look_eq (t := 6) (v := .pointer (some ⟨b3, 0, none⟩)) rfl)) ?_ ?_
 ·exact ⟨(isort (ltEdit l) es), [], s1, (fun _ => nilS), _, _, rfl, rfl, K6, Mv.refl _ _ _, rfl, (fun e he => by cases he), by rw [isort_length]; exact hl, h1, hP1⟩
 ·rintro _ _ w6 ⟨R, D, sr, ps, g6, r1, rfl, rfl, K7, M7, p1, p2, p3, h2, h3⟩
  have n5 := h2.len
  refine wp_seq_k fun k6 hk6 => (wp_seq_k fun k7 hk7 => (wp_region_lit ?_))
  refine Zb 14 (.slice sr.a sr.n sr.c) ?_
  refine Zb 15 (.int .i64 (sr.n : Int)) ?_
  by_cases t1 : (sr.n : Int) > 0
  ·refine Zc 16 (.bool true) (okv (by kernel_rfl) (congrArg Value.bool (decide_eq_true t1))) ?_
   refine wpList_nil (hk7 _ _ (W.cond true rfl (wp_skip (hk6 _ _ (wp_block (wp_seq_k fun k8 hk8 => ?_))))))
   refine wp_region_G (SmL [(4, Nt), (5, Nt)] w6 g6) (by kernel_rfl) ?_
   have K8 := K7.drew
   have M8 : Mv Nt w6 g6 w6.drew g6 := (Mv.refl _ _ _).drew
   refine Yb 0 17 (.slice sr.a sr.n sr.c) rfl (fun u => by kernel_rfl) ?_
   obtain ⟨x1, hx1⟩ := get_some (xs := R) (i := 0) (by omega)
   obtain ⟨b4, o1, ha1, hib1, hr1⟩ := h2.elt hx1
   refine Yb 1 18 (.pointer (some ⟨b4, o1 + 0 * 8, none⟩)) rfl (fun u => (exec_index (E := 55) (k := 0) rfl (by kernel_rfl) (by kernel_rfl) rfl ha1 rfl hib1)) ?_
   refine Yb 2 19 (.pointer (some ⟨b4, o1 + 0 * 8, none⟩)) rfl (fun u => by kernel_rfl) ?_
   refine Yb 3 20 (.pointer (some ⟨b4, o1 + 0 * 8, none⟩)) rfl (fun u => by kernel_rfl) ?_
   refine G.take 4 21 (.string x1.it.key) rfl (by kernel_rfl) rfl (fun _ _ _ h => h) ((Mv.refl _ _ _).trans (M8.mono (fun _ h => h))).self (by kernel_rfl) (fun u hm => exec_load rfl rfl Ty9 ((hr1.mv hm quiet).2.2 0 (Nat.le_of_ble_eq_true rfl))) ?_
   have hhlev0_3 := hhlev0_2.mv M4 (neq (by omega))
   have hhlev0_4 := hhlev0_3.mv M5 quiet
   have hhlev0_5 := hhlev0_4.mv M6 (neq (by omega))
   have hhlev0_6 := hhlev0_5.mv M7 (neq (by omega))
   refine G.take 5 22 (.int .i64 ↑l) rfl (by kernel_rfl) rfl (fun _ _ _ h => h) ((Mv.refl _ _ _).trans (M8.mono (fun _ h => h))).self (by kernel_rfl) (fun u hm => exec_load rfl rfl Ty3 (((hhlev0_6.mv hm quiet).1).cell 0)) ?_
   refine G.op 6 (by kernel_rfl) rfl (O.call 23 44 #[.string x1.it.key, .int .i64 ↑l] (by kernel_rfl) rfl (by kernel_rfl) ((digit_c x1.it.key l (hky _ (by have h9 := List.mem_append_right D (List.mem_of_getElem? hx1); rw [p1] at h9; exact (isort_mem _ _ _).1 h9)) w6.drew g6).mono ?_))
   rintro e3 w7 ⟨g7, rfl, M9⟩
   have K9 := K8.step M9 nt_le quiet
   refine ⟨_, rfl, ⟨kp_nt ((Mv.refl _ _ _).trans M9) _, ?_⟩⟩
   refine Yb 7 7 (.int .i64 ((digitOf x1.it.key l : Nat) : Int)) rfl (fun u => by kernel_rfl) ?_
   refine G.fin (by kernel_rfl) ?_
   refine hk8 _ _ (wp_seq_k fun k9 hk9 => (wp_region_lit ?_))
   refine Zb 8 (.int .i64 1) ?_
   refine wpList_nil (hk9 _ _ (wp_seq_k fun k10 hk10 => (wp_block ?_)))
   have hsR : Srt (ltEdit l) R := by have h := isort_srt (Lin.edit (l := l)) es; rw [← p1] at h; exact (List.pairwise_append.1 h).2.1
   have hr_1 := h2.mv M8 quiet
   have hr_2 := hr_1.mv M9 quiet
   refine W.loop (fun (μ0 : Nat) (ws : List (Nat × Value)) (w' : World) => ∃ (n : Nat) (γ' : Tg) (ρ0 : List (Nat × Value)), μ0 = R.length - n ∧ ws = ((8, .int .i64 ↑n) :: (7, .int .i64 ((digitOf x1.it.key l : Nat) : Int)) :: (6, .pointer (some ⟨b3, 0, none⟩)) :: (5, .slice sr.a sr.n sr.c) :: (4, .pointer (some ⟨b2, 0, none⟩)) :: (3, .pointer (some ⟨b1, 0, none⟩)) :: ρ0) ∧ Kn (Lo Nt t0) w γ [(b3, 163, (psCells ps)), (b2, 163, Z163)] w' γ' ∧ Mv Nt w7 g7 w' γ' ∧ (1 ≤ n) ∧ (n ≤ R.length) ∧ (∀ e ∈ R.take n, dE l e = dE l x1) ∧ Ls 8 Edit.cells w' γ' sr R) (R.length - 1) ((((((look_eq (t := 3) (v := .pointer (some ⟨b1, 0, none⟩)) rfl).trans (look_eq (t := 4) (v := .pointer (some ⟨b2, 0, none⟩)) rfl)).trans (look_eq (t := 5) (v := .slice sr.a sr.n sr.c) rfl)).trans (look_eq (t := 6) (v := .pointer (some ⟨b3, 0, none⟩)) rfl)).trans (look_eq (t := 7) (v := .int .i64 ((digitOf x1.it.key l : Nat) : Int)) rfl)).trans (look_eq (t := 8) (v := .int .i64 ↑1) rfl)) ?_ ?_
   ·exact ⟨1, _, _, rfl, rfl, K9, Mv.refl _ _ _, Nat.le_refl _, by omega, (mem_take_snoc (by simp) hx1 rfl), hr_2⟩
   ·rintro _ _ w8 ⟨n, g8, r2, rfl, rfl, K10, M10, p4, p5, p6, h4⟩
    have n6 := h4.len
    refine wp_seq_k fun k11 hk11 => (wp_seq_k fun k12 hk12 => (wp_region_G (SmL [(10, Nt), (11, Nt)] w8 g8) (by kernel_rfl) ?_))
    have K11 := K10.drew
    have M11 : Mv Nt w8 g8 w8.drew g8 := (Mv.refl _ _ _).drew
    refine Yb 0 24 (.int .i64 ↑n) rfl (fun u => by kernel_rfl) ?_
    refine Yb 1 25 (.slice sr.a sr.n sr.c) rfl (fun u => by kernel_rfl) ?_
    refine Yb 2 26 (.int .i64 (sr.n : Int)) rfl (fun u => by kernel_rfl) ?_
    by_cases t2 : ((n : Nat) : Int) < (sr.n : Int)
    ·refine Yb 3 27 (.bool true) rfl (fun u => okv ((fun u => by kernel_rfl) u) (congrArg Value.bool (decide_eq_true t2))) ?_
     refine Yb 4 28 (.bool true) rfl (fun u => by kernel_rfl) ?_
     refine Yb 5 29 (.slice sr.a sr.n sr.c) rfl (fun u => by kernel_rfl) ?_
     refine Yb 6 30 (.int .i64 ↑n) rfl (fun u => by kernel_rfl) ?_
     obtain ⟨x2, hx2⟩ := get_some (xs := R) (i := n) (by omega)
     obtain ⟨b5, o2, ha2, hib2, hr2⟩ := h4.elt hx2
     refine Yb 7 31 (.pointer (some ⟨b5, o2 + n * 8, none⟩)) rfl (fun u => (exec_index (E := 55) (k := n) rfl (by kernel_rfl) (by kernel_rfl) rfl ha2 rfl hib2)) ?_
     refine Yb 8 32 (.pointer (some ⟨b5, o2 + n * 8, none⟩)) rfl (fun u => by kernel_rfl) ?_
     refine Yb 9 33 (.pointer (some ⟨b5, o2 + n * 8, none⟩)) rfl (fun u => by kernel_rfl) ?_
     refine G.take 10 34 (.string x2.it.key) rfl (by kernel_rfl) rfl (fun _ _ _ h => h) ((Mv.refl _ _ _).trans (M11.mono (fun _ h => h))).self (by kernel_rfl) (fun u hm => exec_load rfl rfl Ty9 ((hr2.mv hm quiet).2.2 0 (Nat.le_of_ble_eq_true rfl))) ?_
     have hhlev0_7 := hhlev0_2.mv M4 (neq (by omega))
     have hhlev0_8 := hhlev0_7.mv M5 quiet
     have hhlev0_9 := hhlev0_8.mv M6 (neq (by omega))
     have hhlev0_10 := hhlev0_9.mv M7 (neq (by omega))
     have hhlev0_11 := hhlev0_10.mv M8 quiet
     have hhlev0_12 := hhlev0_11.mv M9 quiet
     have hhlev0_13 := hhlev0_12.mv M10 quiet
     refine G.take 11 35 (.int .i64 ↑l) rfl (by kernel_rfl) rfl (fun _ _ _ h => h) ((Mv.refl _ _ _).trans (M11.mono (fun _ h => h))).self (by kernel_rfl) (fun u hm => exec_load rfl rfl Ty3 (((hhlev0_13.mv hm quiet).1).cell 0)) ?_
     refine Yb 13 37 (.int .i64 ((digitOf x1.it.key l : Nat) : Int)) rfl (fun u => by kernel_rfl) ?_
     refine G.op 12 (by kernel_rfl) rfl (O.call 36 44 #[.string x2.it.key, .int .i64 ↑l] (by kernel_rfl) rfl (by kernel_rfl) ((digit_c x2.it.key l (hky _ (by have h9 := List.mem_append_right D (List.mem_of_getElem? hx2); rw [p1] at h9; exact (isort_mem _ _ _).1 h9)) w8.drew g8).mono ?_))
     rintro e4 w9 ⟨g9, rfl, M12⟩
     have K12 := K11.step M12 nt_le quiet
     refine ⟨_, rfl, ⟨kp_nt ((Mv.refl _ _ _).trans M12) _, ?_⟩⟩
     by_cases t3 : ((digitOf x2.it.key l : Nat) : Int) = ((digitOf x1.it.key l : Nat) : Int)
     ·refine Yb 14 38 (.bool true) rfl (fun u => okv ((fun u => by kernel_rfl) u) (congrArg Value.bool (beq_iff_eq.2 t3))) ?_
      refine Yb 15 39 (.bool true) rfl (fun u => by kernel_rfl) ?_
      refine G.fin (by kernel_rfl) ?_
      refine hk12 _ _ (W.cond true rfl (wp_skip (hk11 _ _ (wp_block (wp_region_lit ?_)))))
      refine Zb 40 (.int .i64 ↑n) ?_
      refine Zc 41 (.int .i64 ((n + 1 : Nat) : Int)) (okv (v := .int .i64 (IntKind.i64.wrap (((n : Nat) : Int) + 1))) (by kernel_rfl) (wrapn (by omega) (by omega))) ?_
      refine Zb 8 (.int .i64 ((n + 1 : Nat) : Int)) ?_
      refine wpList_nil (block_normal ?_)
      have hr_3 := h4.mv M11 quiet
      have hr_4 := hr_3.mv M12 quiet
      exact ⟨R.length - (n + 1), _, by omega, ((((((look_eq (t := 3) (v := .pointer (some ⟨b1, 0, none⟩)) rfl).trans (look_eq (t := 4) (v := .pointer (some ⟨b2, 0, none⟩)) rfl)).trans (look_eq (t := 5) (v := .slice sr.a sr.n sr.c) rfl)).trans (look_eq (t := 6) (v := .pointer (some ⟨b3, 0, none⟩)) rfl)).trans (look_eq (t := 7) (v := .int .i64 ((digitOf x1.it.key l : Nat) : Int)) rfl)).trans (look_eq (t := 8) (v := .int .i64 (((n + 1) : Nat) : Int)) rfl)), ⟨(n + 1), _, _, rfl, rfl, K12, ((M10.trans (M11.mono (fun _ h => h))).trans (M12.mono (fun _ h => h))), by omega, by omega, (mem_take_snoc p6 hx2 (by have := t3; unfold dE; omega)), hr_4⟩⟩
     ·refine Yb 14 38 (.bool false) rfl (fun u => okv ((fun u => by kernel_rfl) u) (congrArg Value.bool (beq_eq_false_iff_ne.2 t3))) ?_
      refine Yb 15 39 (.bool false) rfl (fun u => by kernel_rfl) ?_
      refine G.fin (by kernel_rfl) ?_
      refine hk12 _ _ (W.cond false rfl (wp_exit (then_exit ?_)))
      have hend : n = R.length ∨ ∃ y, R[n]? = some y ∧ dE l y ≠ dE l x1 := .inr ⟨x2, hx2, by have := t3; unfold dE; omega⟩
      have hcut := cut_lt hsR hx1 p6 hend
      refine then_exit (block_exit (hk10 _ _ (wp_seq_k fun k13 hk13 => (wp_region_lit ?_))))
      refine Zb 42 (.int .i64 ((digitOf x1.it.key l : Nat) : Int)) ?_
      refine Zb 43 (.slice sr.a sr.n sr.c) ?_
      refine Zb 44 (.int .i64 ↑n) ?_
      refine Zb 45 (.int .i64 ↑n) ?_
      have hr_5 := h4.mv M11 quiet
      have hr_6 := hr_5.mv M12 quiet
      have hc1 := hr_6.cap
      have hsub1 := hr_6.subTo n n (by omega) (by omega) (by omega)
      obtain ⟨s2, hs2⟩ : ∃ s9, s9 = (sr.sub 8 0 n n) := ⟨_, rfl⟩
      rw [← hs2] at hsub1
      have n7 := hsub1.len
      refine Zc 46 (.slice s2.a s2.n s2.c) (by rw [hs2]; exact (exec_slice (s := sr) (E := 55) (z := 8) (l := 0) (h := n) (m := n) rfl (by kernel_rfl) (by kernel_rfl) rfl (.inr ⟨_, rfl⟩) (.inr ⟨_, rfl⟩) (.inl ⟨rfl, rfl⟩) (fun h => by cases h) (by omega) (by omega) (by omega) hc1)) ?_
      refine Zc 47 (.pointer (some ⟨b3, 0 + (digitOf x1.it.key l) * 1, none⟩)) (exec_indexA (P := Try.prog) (E := 63) (m := 16) (k := digitOf x1.it.key l) rfl (by kernel_rfl) (by kernel_rfl) rfl rfl (digitOf_lt _ _)) ?_
      refine W.op (O.st 0 (.slice s2.a s2.n s2.c) rfl rfl rfl rfl rfl Ty63 rfl rfl rfl (by show 0 + (digitOf x1.it.key l) * 1 < 16; have := digitOf_lt x1.it.key l; omega) K12 fun w10 K13 M13 => ?_)
      rw [ps_set _ _ (digitOf_lt _ _)] at K13
      refine wpList_nil (hk13 _ _ (wp_region_lit ?_))
      refine Zb 48 (.slice sr.a sr.n sr.c) ?_
      refine Zb 49 (.int .i64 ↑n) ?_
      have hr_7 := hr_6.mv M13 (neq (by omega))
      have hc2 := hr_7.cap
      have hsub2 := hr_7.subEnd n sr.c (by omega) (by omega) (by omega)
      obtain ⟨s3, hs3⟩ : ∃ s9, s9 = (sr.sub 8 n sr.n sr.c) := ⟨_, rfl⟩
      rw [← hs3] at hsub2
      have n8 := hsub2.len
      refine Zc 50 (.slice s3.a s3.n s3.c) (by rw [hs3]; exact (exec_slice (s := sr) (E := 55) (z := 8) (l := n) (h := sr.n) (m := sr.c) rfl (by kernel_rfl) (by kernel_rfl) rfl (.inl ⟨rfl, rfl⟩) (.inl ⟨rfl, rfl⟩) (.inr ⟨_, rfl⟩) (fun _ => rfl) (by omega) (by omega) (by omega) hc2)) ?_
      refine Zb 5 (.slice s3.a s3.n s3.c) ?_
      refine wpList_nil (block_normal ?_)
      have hpp_1 := h3.mv M8 quiet
      have hpp_2 := hpp_1.mv M9 quiet
      have hpp_3 := hpp_2.mv M10 quiet
      have hpp_4 := hpp_3.mv M11 quiet
      have hpp_5 := hpp_4.mv M12 quiet
      have hpp_6 := hpp_5.mv M13 (neq (by omega))
      have hsub1_1 := hsub1.mv M13 (neq (by omega))
      exact ⟨(R.drop n).length, _, by rw [List.length_drop]; omega, ((((look_eq (t := 3) (v := .pointer (some ⟨b1, 0, none⟩)) rfl).trans (look_eq (t := 4) (v := .pointer (some ⟨b2, 0, none⟩)) rfl)).trans (look_eq (t := 5) (v := .slice s3.a s3.n s3.c) rfl)).trans (look_eq (t := 6) (v := .pointer (some ⟨b3, 0, none⟩)) rfl)), ⟨(R.drop n), (D ++ R.take n), s3, (upd ps (digitOf x1.it.key l) s2), _, _, rfl, rfl, K13, ((((((M7.trans (M8.mono nt_le)).trans (M9.mono nt_le)).trans (M10.mono nt_le)).trans (M11.mono nt_le)).trans (M12.mono nt_le)).trans (M13.mono (fun _ h => h))), by rw [List.append_assoc, List.take_append_drop]; exact p1, (fun e he e2 h2 => by rcases List.mem_append.1 he with h | h; exact p2 e h e2 (List.mem_of_mem_drop h2); have h3 := p6 e h; have h4 := hcut e2 h2; unfold dE at h3 h4; omega), by rw [List.length_drop]; omega, hsub2, (PtsE.upd hpp_6 hsub1_1 (fun e he => p2 e he _ (List.mem_of_getElem? hx1)) p6)⟩⟩
    ·refine Yb 3 27 (.bool false) rfl (fun u => okv ((fun u => by kernel_rfl) u) (congrArg Value.bool (decide_eq_false t2))) ?_
     refine Yb 4 28 (.bool false) rfl (fun u => by kernel_rfl) ?_
     refine Ya 5 29 rfl ?_
     refine Ya 6 30 rfl ?_
     refine Ya 7 31 rfl ?_
     refine Ya 8 32 rfl ?_
     refine Ya 9 33 rfl ?_
     refine Ya 10 34 rfl ?_
     refine Ya 11 35 rfl ?_
     refine Ya 13 37 rfl ?_
     refine G.op 12 (by kernel_rfl) rfl (O.no 36 (by kernel_rfl) rfl ⟨fun _ _ h => h, ?_⟩)
     refine Ya 14 38 rfl ?_
     refine Yb 15 39 (.bool false) rfl (fun u => by kernel_rfl) ?_
     refine G.fin (by kernel_rfl) ?_
     refine hk12 _ _ (W.cond false rfl (wp_exit (then_exit ?_)))
     have hend : n = R.length ∨ ∃ y, R[n]? = some y ∧ dE l y ≠ dE l x1 := .inl (by omega)
     have hcut := cut_lt hsR hx1 p6 hend
     refine then_exit (block_exit (hk10 _ _ (wp_seq_k fun k14 hk14 => (wp_region_lit ?_))))
     refine Zb 42 (.int .i64 ((digitOf x1.it.key l : Nat) : Int)) ?_
     refine Zb 43 (.slice sr.a sr.n sr.c) ?_
     refine Zb 44 (.int .i64 ↑n) ?_
     refine Zb 45 (.int .i64 ↑n) ?_
     have hr_8 := h4.mv M11 quiet
     have hc3 := hr_8.cap
     have hsub3 := hr_8.subTo n n (by omega) (by omega) (by omega)
     obtain ⟨s4, hs4⟩ : ∃ s9, s9 = (sr.sub 8 0 n n) := ⟨_, rfl⟩
     rw [← hs4] at hsub3
     have n9 := hsub3.len
     refine Zc 46 (.slice s4.a s4.n s4.c) (by rw [hs4]; exact (exec_slice (s := sr) (E := 55) (z := 8) (l := 0) (h := n) (m := n) rfl (by kernel_rfl) (by kernel_rfl) rfl (.inr ⟨_, rfl⟩) (.inr ⟨_, rfl⟩) (.inl ⟨rfl, rfl⟩) (fun h => by cases h) (by omega) (by omega) (by omega) hc3)) ?_
     refine Zc 47 (.pointer (some ⟨b3, 0 + (digitOf x1.it.key l) * 1, none⟩)) (exec_indexA (P := Try.prog) (E := 63) (m := 16) (k := digitOf x1.it.key l) rfl (by kernel_rfl) (by kernel_rfl) rfl rfl (digitOf_lt _ _)) ?_
     refine W.op (O.st 0 (.slice s4.a s4.n s4.c) rfl rfl rfl rfl rfl Ty63 rfl rfl rfl (by show 0 + (digitOf x1.it.key l) * 1 < 16; have := digitOf_lt x1.it.key l; omega) K11 fun w11 K14 M14 => ?_)
     rw [ps_set _ _ (digitOf_lt _ _)] at K14
     refine wpList_nil (hk14 _ _ (wp_region_lit ?_))
     refine Zb 48 (.slice sr.a sr.n sr.c) ?_
     refine Zb 49 (.int .i64 ↑n) ?_
     have hr_9 := hr_8.mv M14 (neq (by omega))
     have hc4 := hr_9.cap
     have hsub4 := hr_9.subEnd n sr.c (by omega) (by omega) (by omega)
     obtain ⟨s5, hs5⟩ : ∃ s9, s9 = (sr.sub 8 n sr.n sr.c) := ⟨_, rfl⟩
     rw [← hs5] at hsub4
     have n10 := hsub4.len
     refine Zc 50 (.slice s5.a s5.n s5.c) (by rw [hs5]; exact (exec_slice (s := sr) (E := 55) (z := 8) (l := n) (h := sr.n) (m := sr.c) rfl (by kernel_rfl) (by kernel_rfl) rfl (.inl ⟨rfl, rfl⟩) (.inl ⟨rfl, rfl⟩) (.inr ⟨_, rfl⟩) (fun _ => rfl) (by omega) (by omega) (by omega) hc4)) ?_
     refine Zb 5 (.slice s5.a s5.n s5.c) ?_
     refine wpList_nil (block_normal ?_)
     have hpp_7 := h3.mv M8 quiet
     have hpp_8 := hpp_7.mv M9 quiet
     have hpp_9 := hpp_8.mv M10 quiet
     have hpp_10 := hpp_9.mv M11 quiet
     have hpp_11 := hpp_10.mv M14 (neq (by omega))
     have hsub3_1 := hsub3.mv M14 (neq (by omega))
     exact ⟨(R.drop n).length, _, by rw [List.length_drop]; omega, ((((look_eq (t := 3) (v := .pointer (some ⟨b1, 0, none⟩)) rfl).trans (look_eq (t := 4) (v := .pointer (some ⟨b2, 0, none⟩)) rfl)).trans (look_eq (t := 5) (v := .slice s5.a s5.n s5.c) rfl)).trans (look_eq (t := 6) (v := .pointer (some ⟨b3, 0, none⟩)) rfl)), ⟨(R.drop n), (D ++ R.take n), s5, (upd ps (digitOf x1.it.key l) s4), _, _, rfl, rfl, K14, (((((M7.trans (M8.mono nt_le)).trans (M9.mono nt_le)).trans (M10.mono nt_le)).trans (M11.mono nt_le)).trans (M14.mono (fun _ h => h))), by rw [List.append_assoc, List.take_append_drop]; exact p1, (fun e he e2 h2 => by rcases List.mem_append.1 he with h | h; exact p2 e h e2 (List.mem_of_mem_drop h2); have h3 := p6 e h; have h4 := hcut e2 h2; unfold dE at h3 h4; omega), by rw [List.length_drop]; omega, hsub4, (PtsE.upd hpp_11 hsub3_1 (fun e he => p2 e he _ (List.mem_of_getElem? hx1)) p6)⟩⟩
  ·refine Zc 16 (.bool false) (okv (by kernel_rfl) (congrArg Value.bool (decide_eq_false t1))) ?_
   refine wpList_nil (hk7 _ _ (W.cond false rfl (wp_exit (then_exit (then_exit (block_exit ?_))))))
   refine hk5 _ _ (wp_seq_k fun k15 hk15 => (wp_region_lit ?_))
   refine Zc 51 (.agg (psCells ps).toArray) (exec_loads (cs := (psCells ps)) rfl rfl Ty163 rfl ((K7.nth 0 rfl).all 16)) ?_
   refine W.op (O.sta 1 (psCells ps) rfl rfl rfl rfl rfl Ty163 rfl rfl rfl rfl K7 fun w12 K15 M15 => ?_)
   refine wpList_nil (hk15 _ _ (wp_ret (W.ret1 (v := .agg (psCells ps).toArray) rfl (.agg (cs := (psCells ps)) rfl Ty163 rfl ((K15.nth 1 rfl).all 16) .nil) ?_)))
   have hR9 : R = [] := List.eq_nil_of_length_eq_zero (by omega)
   have hpp_12 := h3.mv M15 (neq (by omega))
   have hP9 := hpp_12
   have hD9 := p1
   rw [hR9, List.append_nil] at hD9
   rw [hD9] at hP9
   exact ⟨_, ps, rfl, (K15.mv.shut hf0), hP9.sorted⟩

end Go.Proofs.Ytlfanphdnjoofaa
