/- The statement Rows.RerouteKnownSaid is proved: RerouteKnown returns true, whatever the memory, and leaves everything as it was. No condition. -/
import Derived.Test.YtdcdhecachjkcaaGreatRows
import Derived.Test.YtdcdhecachjkcaaGreatRk6
import Derived.ProofKit
import Derived.OpenShut
namespace Go.Proofs.YtdcdhecachjkcaaGreat
open Go.ChangeShapes Go.WideShapes Go.ChangeAt Go.RowKit Go.Run
theorem Tryz.mixedK : Tryz.prog.follows .mixedOrders = true := by kernel_rfl
/-- The whole run. -/
theorem Rk_leads : Leads Tryz.prog 0 (fun v _ => veq v (.bool true)) Rk_c0 :=
  leads_cut Tryz.runF_ok Tryz.mixedK Rk_run0 (leads_cut Tryz.runF_ok Tryz.mixedK Rk_run1 (leads_cut Tryz.runF_ok Tryz.mixedK Rk_run2 (leads_cut Tryz.runF_ok Tryz.mixedK Rk_run3 (leads_cut Tryz.runF_ok Tryz.mixedK Rk_run4 (leads_cut Tryz.runF_ok Tryz.mixedK Rk_run5 (leads_cut Tryz.runF_ok Tryz.mixedK Rk_run6 (leads_cut Tryz.runF_ok Tryz.mixedK Rk_run7 (leads_cut Tryz.runF_ok Tryz.mixedK Rk_run8 (leads_cut Tryz.runF_ok Tryz.mixedK Rk_run9 (leads_cut Tryz.runF_ok Tryz.mixedK Rk_run10 (leads_cut Tryz.runF_ok Tryz.mixedK Rk_run11 (leads_cut Tryz.runF_ok Tryz.mixedK Rk_run12 (leads_cut Tryz.runF_ok Tryz.mixedK Rk_run13 (leads_cut Tryz.runF_ok Tryz.mixedK Rk_run14 (leads_cut Tryz.runF_ok Tryz.mixedK Rk_run15 (leads_cut Tryz.runF_ok Tryz.mixedK Rk_run16 (leads_cut Tryz.runF_ok Tryz.mixedK Rk_run17 (leads_cut Tryz.runF_ok Tryz.mixedK Rk_run18 (leads_cut Tryz.runF_ok Tryz.mixedK Rk_run19 (leads_run Tryz.runF_ok Tryz.mixedK Rk_run20))))))))))))))))))))
/-- The call of RerouteKnown, in whatever world: it returns true, and every block that was there is as it was. -/
theorem law (W : World) : Calls Tryz.prog 3 #[] W fun e w' => e = .returned (.bool true) ∧ Go.Run.Kept W w' :=
  calls_of_leads (F := Tryz.runF) (G := 0) (fn := Tryz.f3) Tryz.runF_ok globOK_nil (Nat.zero_le _) (by kernel_rfl) (by kernel_rfl) (by kernel_rfl) Rk_leads

theorem own : ownKnob Tryz.prog.godebug = none := by kernel_rfl

set_option maxRecDepth 100000 in
theorem lifted (os : Os) (started : os.Started) (H : Type) (enc : TypeId × Value → H) :
    ReturnsInHanded {} Tryz.checked os 3 .any (Rows.rerouteKnownSpec.pre6 enc Tryz.prog Tryz.f3 Rows.rerouteKnownRow.domain false) (Rows.rerouteKnownSpec.post enc Tryz.prog Tryz.f3 false true false false) := by
  refine returnsInHanded_of_change (C := Tryz.checked) own started (by kernel_rfl) Tryz.func3
    (ChangeSpec.witness6 (enc := enc) (C := Tryz.checked) false ⟨#[], #[], []⟩ 8 (by kernel_rfl) (by kernel_rfl) (by kernel_rfl) (by kernel_rfl)) ?_
  intro W base args ds gs before hval0 hW hcnd _
  have hW' := hW
  obtain ⟨p, q, hA0, hV, rfl, hfz, hnd⟩ := hW
  have hA : DataW.TrodAll enc Tryz.prog W 0 (fun _ => true) true Tryz.f3.params.toList args.toList ds p := hA0
  rw [Tryz.params3] at hA
  obtain ⟨rfl, rfl, rfl⟩ := trodAll_none hA
  obtain ⟨rfl, rfl⟩ := trodVars_none hV
  simp only [List.append_nil] at hW'
  refine (law W).mono fun e W' ⟨he, hk⟩ => ?_
  subst he
  have key : ∀ may, W.keptBut W' may := fun may => ⟨hk.os, hk.output, fun i hi => by rw [hk.block i hi]; exact (World.keptBut_refl W may).2.2 i hi⟩
  refine ⟨_, rfl, _, _, _, [], [], [], hW', ?_, ?_, ?_, key _, fun h => by cases h⟩
  · exact trodAll_mk1 (shut_bool Tryz.underlying4 true)
  · rfl
  · rfl

/-- The statement. -/
theorem rerouteKnown_holds : Rows.RerouteKnownSaid :=
  OpenClaim.holds_of_wide 3 Tryz.f3 rfl rfl rfl rfl rfl rfl rfl ⟨rfl, rfl, rfl, rfl, rfl⟩ rfl rfl rfl rfl rfl (by kernel_rfl) Tryz.func3 (by kernel_rfl)
    (of_decide_eq_true (by kernel_rfl)) (by unfold Func.isWrapper; first | (rw [if_pos (by decide +kernel)]; kernel_rfl) | (rw [if_neg (by decide +kernel)]; exact ⟨rfl, rfl⟩))
    (fun os started H enc _ => lifted os started H enc)
#print axioms rerouteKnown_holds
end Go.Proofs.YtdcdhecachjkcaaGreat
