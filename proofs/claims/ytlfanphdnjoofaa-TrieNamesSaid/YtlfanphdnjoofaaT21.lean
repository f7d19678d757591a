/- Whatever the world, the call of TrieNames returns true and changes nothing that was there: no condition. -/
import Derived.Test.YtlfanphdnjoofaaT20
import Derived.Test.YtlfanphdnjoofaaRows
import Derived.Test.YtlfanphdnjoofaaJ
namespace Go.Proofs.Ytlfanphdnjoofaa
open Go.RowKit
set_option linter.unusedSimpArgs false
set_option linter.unusedVariables false
attribute [local irreducible] wpList Code.wp Calls OpS wpG

set_option maxRecDepth 100000 in
set_option maxHeartbeats 1000000 in
theorem trieNames_c  (w : World) (γ : Tg) :
    Calls Try.prog 3 #[] w fun ε w' => ∃ (γ' : Tg), ε = .returned (.bool true) ∧ Mv Nt w γ w' γ' := by
  have K0 := Kn.start Nt w γ
  refine W.enter (ws := []) 12 Try.func3 rfl (by kernel_rfl) ?_
  refine wp_seq_k fun k1 hk1 => ?_
  refine wp_region_lit ?_
  refine W.op (O.v 0 (.bool false) rfl rfl (by kernel_rfl) ?_)
  refine wpList_nil ?_
  refine hk1 _ _ ?_
  refine wp_seq_k fun k2 hk2 => ?_
  refine wp_region_lit ?_
  refine W.op (O.v 1 (.bool true) rfl rfl (by kernel_rfl) ?_)
  refine W.op (O.call 2 10 #[.int .i64 130] (by kernel_rfl) rfl (by kernel_rfl) ((num_c 130 w γ).mono ?_))
  rintro e1 w1 ⟨g1, rfl, M1⟩
  have K1 := K0.step M1 (fun _ h => h) quiet
  refine ⟨_, rfl, ?_⟩
  refine W.op (O.gv 3 (.bool true) (by kernel_rfl) rfl (by kernel_rfl) ?_)
  refine W.op (O.v 4 (.bool true) rfl rfl (by kernel_rfl) ?_)
  refine W.op (O.v 5 (.bool true) rfl rfl (by kernel_rfl) ?_)
  refine W.op (O.call 6 10 #[.int .i64 131] (by kernel_rfl) rfl (by kernel_rfl) ((num_c 131 w1 g1).mono ?_))
  rintro e2 w2 ⟨g2, rfl, M2⟩
  have K2 := K1.step M2 (fun _ h => h) quiet
  refine ⟨_, rfl, ?_⟩
  refine W.op (O.gv 7 (.bool true) (by kernel_rfl) rfl (by kernel_rfl) ?_)
  refine W.op (O.v 8 (.bool true) rfl rfl (by kernel_rfl) ?_)
  refine W.op (O.v 9 (.bool true) rfl rfl (by kernel_rfl) ?_)
  refine W.op (O.call 10 11 #[] (by kernel_rfl) rfl (by kernel_rfl) ((live_c w2 g2).mono ?_))
  rintro e3 w3 ⟨g3, rfl, M3⟩
  have K3 := K2.step M3 (fun _ h => h) quiet
  refine ⟨_, rfl, ?_⟩
  refine W.op (O.v 11 (.bool true) rfl rfl (by kernel_rfl) ?_)
  refine W.op (O.v 0 (.bool true) rfl rfl (by kernel_rfl) ?_)
  refine wpList_nil ?_
  refine hk2 _ _ ?_
  refine wp_ret ?_
  refine W.ret1 (v := .bool true) rfl (.tmp rfl .nil) ?_
  exact ⟨_, rfl, K3.mv⟩

namespace names
open Go.ChangeShapes Go.WideShapes Go.ChangeAt Go.RowKit
theorem own : ownKnob Try.prog.godebug = none := by kernel_rfl
set_option maxRecDepth 100000 in
theorem contract (H : Type) (enc : TypeId × Value → H) (W : World) (base : Nat) (args : Array Value) (ds gs : List (DataW H)) (before : List MemPlace)
    (hW : DataW.Whole enc Try.prog Try.f3.params.toList Rows.trieNamesSpec.vars false W args.toList ds gs before) :
    Calls Try.prog 3 args W fun e W' => ∃ v, e = .returned v ∧ Rows.trieNamesSpec.post enc Try.prog Try.f3 false true false false W args v W' := by
  have hW' := hW
  obtain ⟨p, q, hA, hV, rfl, hfz, hnd⟩ := hW
  have hA0 : DataW.TrodAll enc Try.prog W 0 (fun _ => true) true Try.f3.params.toList args.toList ds p := hA
  rw [Try.params3] at hA0
  obtain ⟨hargs, rfl, rfl⟩ := trodAll_nil hA0
  obtain rfl : args = #[] := by cases args; simp_all
  obtain ⟨rfl, rfl⟩ := trodVars_none hV
  refine (trieNames_c W (fun _ => 0)).mono fun e W' ⟨g', he, hg⟩ => ?_
  subst he
  exact ⟨_, rfl, post_mv (pa := []) (pv := []) hW' hg (fun _ _ _ => (trodAll_cons_mk (shut_bool Try.underlying4 _) trodAll_mk0)) (fun sp _ => by rw [Try.params3]; exact trodAll_mk0) (fun _ _ => rfl) rfl (ok_one (by kernel_rfl) rfl (okWide_bool_mk Try.underlying4 _))⟩
set_option maxRecDepth 100000 in
theorem lifted (os : Os) (started : os.Started) (H : Type) (enc : TypeId × Value → H) :
    ReturnsInHanded {} Try.checked os 3 .any (Rows.trieNamesSpec.pre6 enc Try.prog Try.f3 Rows.trieNamesRow.domain false) (Rows.trieNamesSpec.post enc Try.prog Try.f3 false true false false) := by
  refine returnsInHanded_of_change (C := Try.checked) own started (by kernel_rfl) Try.func3 (ChangeSpec.witness6 (enc := enc) (C := Try.checked) (s := Rows.trieNamesSpec) false ⟨#[], #[], []⟩ 8 (by kernel_rfl) (by kernel_rfl) (by kernel_rfl) (by kernel_rfl)) ?_
  intro W base args ds gs before _ hW _ _
  exact contract H enc W base args ds gs before hW
end names
set_option maxRecDepth 100000 in
/-- The theorem. -/
theorem trieNames_holds : Rows.TrieNamesSaid :=
  OpenClaim.holds_of_wide 3 Try.f3 rfl rfl rfl rfl rfl rfl rfl ⟨rfl, rfl, rfl, rfl, rfl⟩ rfl rfl rfl rfl rfl (by kernel_rfl) Try.func3 (by kernel_rfl)
    (of_decide_eq_true (by kernel_rfl)) (by unfold Func.isWrapper; first | (rw [if_pos (by decide +kernel)]; kernel_rfl) | (rw [if_neg (by decide +kernel)]; exact ⟨rfl, rfl⟩))
    (fun os started H enc _ => names.lifted os started H enc)

end Go.Proofs.Ytlfanphdnjoofaa
