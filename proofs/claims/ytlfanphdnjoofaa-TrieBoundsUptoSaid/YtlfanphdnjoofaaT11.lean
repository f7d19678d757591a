/- Walks: by keys. -/
import Derived.Test.YtlfanphdnjoofaaT10
namespace Go.Proofs.Ytlfanphdnjoofaa
open Go.RowKit
set_option linter.unusedSimpArgs false
set_option linter.unusedVariables false
attribute [local irreducible] wpList Code.wp Calls OpS wpG

set_option maxRecDepth 100000 in
set_option maxHeartbeats 1000000 in
theorem byKey_c20 (s : Sli) (xs : List Item) (t : Nat) (w : World) (γ : Tg) (hG : Gs t 50 7 Item.cells w γ s xs) (ht : 2 ≤ t) (h20 : xs.length < 20) :
    Calls Try.prog 37 #[.slice s.a s.n s.c] w fun ε w' => ∃ γ', ε = .returned s.v ∧ Mv (fun ξ => ξ = t) w γ w' γ' ∧ Gs t 50 7 Item.cells w' γ' s (isort ltItem xs) := by
 have K0 := Kn.start (fun ξ => ξ = t) w γ
 refine W.enter (ws := [(0, .slice s.a s.n s.c)]) 6 Try.func37 rfl (by kernel_rfl) ?_
 have n1 := hG.len
 refine wp_seq_k fun k1 hk1 => (wp_region_lit ?_)
 refine Zb 2 (.slice none 0 0) ?_
 refine wpList_nil (hk1 _ _ (wp_seq_k fun k2 hk2 => (wp_region_lit ?_)))
 refine Zb 3 (.slice s.a s.n s.c) ?_
 refine W.op (O.call 4 54 #[.slice s.a s.n s.c, .func (.func 55) #[] #[]] (by kernel_rfl) rfl (by kernel_rfl) ((sortItem_c20 s xs t w γ hG ht h20).mono ?_))
 rintro e1 w1 ⟨g1, rfl, M1, hG1⟩
 have K1 := K0.step M1 (fun _ h => h) (neq (by omega))
 refine ⟨_, rfl, ?_⟩
 refine wpList_nil (hk2 _ _ (wp_seq_k fun k3 hk3 => (wp_region_lit ?_)))
 refine Zb 5 (.slice s.a s.n s.c) ?_
 refine Zb 2 (.slice s.a s.n s.c) ?_
 refine wpList_nil (hk3 _ _ (wp_ret (W.ret1 (v := .slice s.a s.n s.c) rfl (.tmp rfl .nil) ?_)))
 exact ⟨_, rfl, K1.mv, hG1⟩

end Go.Proofs.Ytlfanphdnjoofaa
