/- From a walk to a row: what a call that changes nothing leaves. -/
import Derived.Test.YtlfanphdnjoofaaV
import Derived.ProofKit
import Derived.OpenShut
import Derived.Below
import Derived.ChangeSame
namespace Go.Proofs.Ytlfanphdnjoofaa
open Go.RowKit Go.WideShapes Go.ChangeShapes
set_option linter.unusedVariables false
theorem Mv.below {w w' : World} {g g' : Tg} (h : Mv (fun _ => False) w g w' g') : Below w.heap.size w w' := ⟨h.os, h.tape, h.output, h.size, fun k hk => h.keep k hk fun x => x⟩
section
variable {H : Type} {enc : TypeId × Value → H} {P : Program}
/-- The row's last step, out of what a walk leaves: what was there is as it was. -/
theorem post_mv {f : Func} {s : ChangeSpec} {apart fresh handsOn again : Bool} {W W' : World} {g g' : Tg} {args : Array Value} {v : Value} {ds gs : List (DataW H)} {before pa pv : List MemPlace}
    (hW : DataW.Whole enc P f.params.toList s.vars apart W args.toList ds gs before) (hm : Mv (fun _ => False) W g W' g')
    (hres : ∀ (b : Nat) (sp : Nat → Bool) (hd : Bool), DataW.TrodAll enc P W' b sp hd f.resultTypes.toList (v.resultList f.resultTypes.size) (s.fn H (ds ++ gs)).results [])
    (hargs : ∀ sp : Nat → Bool, (∀ p ∈ before, sp p.block = true) → DataW.TrodAll enc P W' 0 sp true f.params.toList args.toList (s.fn H (ds ++ gs)).args pa)
    (hvars : ∀ sp : Nat → Bool, (∀ p ∈ before, sp p.block = true) → DataW.TrodVars enc P W' sp s.vars (s.fn H (ds ++ gs)).vars pv) (hps : before = pa ++ pv)
    (hok : ∀ (j : Nat) (t : TypeId) (r : Value), f.resultTypes[j]? = some t → (v.resultList f.resultTypes.size)[j]? = some r → Value.okWide P W' .any 0 t r) :
    s.post enc P f apart fresh handsOn again W args v W' := by
  have hB := hm.below
  have hlow : ∀ x ∈ before, x.block < W.heap.size := fun x hx => hW.lt x hx
  have hin : ∀ x ∈ before, (fun b => decide (b < W.heap.size)) x.block = true := fun x hx => decide_eq_true (hlow x hx)
  obtain ⟨_, _, _, _, _, hfr, hno⟩ := id hW
  subst hps
  refine ⟨ds, gs, _, [], pa, pv, hW, hres _ _ _, hargs _ hin, hvars _ hin, World.keptBut_mono (fun x hx => ⟨hx, .inr (List.mem_append.1 hx)⟩) (hB.frame (· ∈ pa ++ pv)), fun _ => ⟨hok, _, _, ([] ++ pa) ++ pv,
    ⟨[] ++ pa, pv, trodAll_append (hargs _ (fun _ _ => rfl)) (hres _ _ _), hvars _ (fun _ _ => rfl), rfl, fun b off hx => ?_, fun ha => ?_⟩, fun x hx _ => ?_⟩⟩
  · have hx2 : MemPlace.cell b off ∈ pa ++ pv := by simpa using hx
    rw [hB.frozen (hlow _ hx2)]
    exact hfr b off hx2
  · simpa using hno ha
  · simpa using hx
end
end Go.Proofs.Ytlfanphdnjoofaa
