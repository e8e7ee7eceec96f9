/- The statement's law, lifted: from a start that fits, ScriptKnown returns true and leaves everything as it was. -/
import Derived.Test.YtclelomalmmpbaaGreatDoorRows
import Derived.Test.YtclelomalmmpbaaGreatDoorSkL
import Derived.Test.YtclelomalmmpbaaGreatDoorKW4
import Derived.ProofKit
import Derived.OpenShut
import Derived.LaidMore
import Derived.Lay
import Derived.Stop.Joined
import Derived.SizedLaws
import Derived.ChangeBears2
namespace Go.Proofs.YtclelomalmmpbaaGreatDoor
open Go.ChangeShapes Go.WideShapes Go.ChangeAt Go.RowKit Go.Run
set_option linter.unusedVariables false
theorem own : ownKnob Tryz.prog.godebug = none := by kernel_rfl
set_option maxRecDepth 100000 in
theorem scriptKnown_lifted (os : Os) (started : os.Started) (H : Type) (enc : TypeId × Value → H) :
    ReturnsInHanded {} Tryz.checked os 5 .any (fun w args => (Rows.scriptKnownSpec.pre enc Tryz.prog Tryz.f5 Rows.scriptKnownRow.domain false w args ∧ laidMetH Tryz.prog Rows.scriptKnownRow.laid w) ∧ sizedMet enc Tryz.prog Tryz.f5 (OpenSpec.ofChange Rows.scriptKnownSpec) false w args)
      (Rows.scriptKnownSpec.post enc Tryz.prog Tryz.f5 false true false false) := by
  refine returnsInHanded_of_change_and (C := Tryz.checked) (X := fun w _ => laidMetH Tryz.prog Rows.scriptKnownRow.laid w) (fun _ _ _ hh h => h.of_heap hh) own started (by kernel_rfl) Tryz.func5
    (ChangeSpec.witness_shaped (enc := enc) (C := Tryz.checked) (os := os) (X := fun w _ => laidMetH Tryz.prog Rows.scriptKnownRow.laid w) false (witW os) #[] 8 (witW_os os)
      (witW_shaped os _) (witW_ok os) (witW_pre os enc) (witW_sz os enc) (witW_met os _)) ?_
  intro W base args ds gs before hval0 hW hc _ hL _
  have hW' := hW
  obtain ⟨p, q, hA0, hV, rfl, _, _⟩ := hW
  have hA : DataW.TrodAll enc Tryz.prog W 0 (fun _ => true) true Tryz.f5.params.toList args.toList ds p := hA0
  rw [Tryz.params5] at hA
  obtain ⟨rfl, rfl, rfl⟩ := trodAll_none hA
  obtain ⟨rfl, rfl⟩ := trodVars_none hV
  simp only [List.append_nil] at hW'
  refine (law W hL).mono fun e W' ⟨he, hk⟩ => ?_
  subst he
  have key : ∀ may, W.keptBut W' may := fun may => ⟨hk.os, hk.output, fun i hi => by rw [hk.block i hi]; exact (World.keptBut_refl W may).2.2 i hi⟩
  refine ⟨_, rfl, _, _, _, [], [], [], hW', ?_, ?_, ?_, key _, fun h => by cases h⟩
  · exact trodAll_mk1 (shut_bool Tryz.underlying4 true)
  · rfl
  · rfl
end Go.Proofs.YtclelomalmmpbaaGreatDoor
