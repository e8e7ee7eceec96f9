/- The statement Rows.RoutesKnownSaid is proved: RoutesKnown returns true, whatever the memory, and leaves everything as it was. No condition. -/
import Derived.Test.YtdcdhecachjkcaaRows
import Derived.Test.YtdcdhecachjkcaaRo4
import Derived.ProofKit
import Derived.OpenShut
namespace Go.Proofs.Ytdcdhecachjkcaa
open Go.ChangeShapes Go.WideShapes Go.ChangeAt Go.RowKit Go.Run
theorem Try.mixedK : Try.prog.follows .mixedOrders = true := by kernel_rfl
/-- The whole run. -/
theorem Ro_leads : Leads Try.prog 0 (fun v _ => veq v (.bool true)) (Ro_c0) :=
  leads_cut Try.runF_ok Try.mixedK (Ro_run0) (leads_cut Try.runF_ok Try.mixedK (Ro_run1) (leads_cut Try.runF_ok Try.mixedK (Ro_run2) (leads_cut Try.runF_ok Try.mixedK (Ro_run3) (leads_cut Try.runF_ok Try.mixedK (Ro_run4) (leads_cut Try.runF_ok Try.mixedK (Ro_run5) (leads_cut Try.runF_ok Try.mixedK (Ro_run6) (leads_cut Try.runF_ok Try.mixedK (Ro_run7) (leads_cut Try.runF_ok Try.mixedK (Ro_run8) (leads_cut Try.runF_ok Try.mixedK (Ro_run9) (leads_cut Try.runF_ok Try.mixedK (Ro_run10) (leads_cut Try.runF_ok Try.mixedK (Ro_run11) (leads_cut Try.runF_ok Try.mixedK (Ro_run12) (leads_cut Try.runF_ok Try.mixedK (Ro_run13) (leads_run Try.runF_ok Try.mixedK (Ro_run14)))))))))))))))
/-- The call of RoutesKnown, in whatever world: it returns true, and every block that was there is as it was. -/
theorem law (W : World) : Calls Try.prog 3 #[] W fun e w' => e = .returned (.bool true) ∧ Go.Run.Kept W w' :=
  calls_of_leads (F := Try.runF) (G := 0) (fn := Try.f3) Try.runF_ok globOK_nil (Nat.zero_le _) (by kernel_rfl) (by kernel_rfl) (by kernel_rfl) Ro_leads

theorem own : ownKnob Try.prog.godebug = none := by kernel_rfl

set_option maxRecDepth 100000 in
theorem lifted (os : Os) (started : os.Started) (H : Type) (enc : TypeId × Value → H) :
    ReturnsInHanded {} Try.checked os 3 .any (Rows.routesKnownSpec.pre6 enc Try.prog Try.f3 Rows.routesKnownRow.domain false) (Rows.routesKnownSpec.post enc Try.prog Try.f3 false true false false) := by
  refine returnsInHanded_of_change (C := Try.checked) own started (by kernel_rfl) Try.func3
    (ChangeSpec.witness6 (enc := enc) (C := Try.checked) false ⟨#[], #[], []⟩ 8 (by kernel_rfl) (by kernel_rfl) (by kernel_rfl) (by kernel_rfl)) ?_
  intro W base args ds gs before hval0 hW hcnd _
  have hW' := hW
  obtain ⟨p, q, hA0, hV, rfl, hfz, hnd⟩ := hW
  have hA : DataW.TrodAll enc Try.prog W 0 (fun _ => true) true Try.f3.params.toList args.toList ds p := hA0
  rw [Try.params3] at hA
  obtain ⟨rfl, rfl, rfl⟩ := trodAll_none hA
  obtain ⟨rfl, rfl⟩ := trodVars_none hV
  simp only [List.append_nil] at hW'
  refine (law W).mono fun e W' ⟨he, hk⟩ => ?_
  subst he
  have key : ∀ may, W.keptBut W' may := fun may => ⟨hk.os, hk.output, fun i hi => by rw [hk.block i hi]; exact (World.keptBut_refl W may).2.2 i hi⟩
  refine ⟨_, rfl, _, _, _, [], [], [], hW', ?_, ?_, ?_, key _, fun h => by cases h⟩
  · exact trodAll_mk1 (shut_bool Try.underlying4 true)
  · rfl
  · rfl

/-- The statement. -/
theorem routesKnown_holds : Rows.RoutesKnownSaid :=
  OpenClaim.holds_of_wide 3 Try.f3 rfl rfl rfl rfl rfl rfl rfl ⟨rfl, rfl, rfl, rfl, rfl⟩ rfl rfl rfl rfl rfl (by kernel_rfl) Try.func3 (by kernel_rfl)
    (of_decide_eq_true (by kernel_rfl)) (by unfold Func.isWrapper; first | (rw [if_pos (by decide +kernel)]; kernel_rfl) | (rw [if_neg (by decide +kernel)]; exact ⟨rfl, rfl⟩))
    (fun os started H enc _ => lifted os started H enc)
#print axioms routesKnown_holds
end Go.Proofs.Ytdcdhecachjkcaa
