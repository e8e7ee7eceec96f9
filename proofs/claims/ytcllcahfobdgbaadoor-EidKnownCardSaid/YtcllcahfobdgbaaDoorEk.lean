/- The statement Rows.EidKnownCardSaid is proved: EidKnown returns true, whatever the memory, and leaves everything as it was. The package-level variables that its row lists hold what the program's text lays; the tie is given. -/
import Derived.Test.YtcllcahfobdgbaaDoorCards
import Derived.Test.YtcllcahfobdgbaaDoorTie
import Derived.Test.YtcllcahfobdgbaaDoorEk2
import Derived.ProofKit
import Derived.OpenShut
import Derived.LaidMore
import Derived.Lay
import Derived.SevenTiedAt
import Derived.Stop.Joined
namespace Go.Proofs.YtcllcahfobdgbaaDoor
open Go.ChangeShapes Go.WideShapes Go.ChangeAt Go.RowKit Go.Run
theorem Tryd.mixedK : Tryd.prog.follows .mixedOrders = true := by kernel_rfl
/-- The whole run. -/
theorem Ek_leads : Leads Tryd.prog 0 (fun v _ => veq v (.bool true)) Ek_c0 :=
  leads_cut Tryd.runF_ok Tryd.mixedK Ek_run0 (leads_cut Tryd.runF_ok Tryd.mixedK Ek_run1 (leads_cut Tryd.runF_ok Tryd.mixedK Ek_run2 (leads_cut Tryd.runF_ok Tryd.mixedK Ek_run3 (leads_cut Tryd.runF_ok Tryd.mixedK Ek_run4 (leads_cut Tryd.runF_ok Tryd.mixedK Ek_run5 (leads_cut Tryd.runF_ok Tryd.mixedK Ek_run6 (leads_cut Tryd.runF_ok Tryd.mixedK Ek_run7 (leads_run Tryd.runF_ok Tryd.mixedK Ek_run8))))))))
/-- The call of EidKnown, in whatever world: it returns true, and every block that was there is as it was. -/
theorem law (W : World) : Calls Tryd.prog 6 #[] W fun e w' => e = .returned (.bool true) ∧ Go.Run.Kept W w' :=
  calls_of_leads (F := Tryd.runF) (G := 0) (fn := Tryd.f6) Tryd.runF_ok globOK_nil (Nat.zero_le _) (by kernel_rfl) (by kernel_rfl) (by kernel_rfl) Ek_leads

theorem own : ownKnob Tryd.prog.godebug = none := by kernel_rfl

set_option maxRecDepth 100000 in
theorem eidKnown_lifted (os : Os) (started : os.Started) (H : Type) (enc : TypeId × Value → H) :
    ReturnsInHanded {} Tryd.checked os 6 .any (fun w args => (Rows.eidKnownSpec.pre enc Tryd.prog Tryd.f6 Rows.eidKnownRow.domain false w args ∧ laidMetH Tryd.prog Rows.eidKnownRow.laid w) ∧ sizedMet enc Tryd.prog Tryd.f6 (OpenSpec.ofChange Rows.eidKnownSpec) false w args)
      (Rows.eidKnownSpec.post enc Tryd.prog Tryd.f6 false true false false) := by
  refine returnsInHanded_of_change_and (C := Tryd.checked) (X := fun w _ => laidMetH Tryd.prog Rows.eidKnownRow.laid w) (fun _ _ _ hh h => h.of_heap hh) own started (by kernel_rfl) Tryd.func6
    (ChangeSpec.witness_shaped (enc := enc) (C := Tryd.checked) (os := os) (X := fun w _ => laidMetH Tryd.prog Rows.eidKnownRow.laid w) false (World.laidAll Tryd.prog os Rows.eidKnownRow.laid) #[] 8 (World.laidAll_os _ _ _)
      (World.shaped_of_ZipB (by kernel_rfl) (by kernel_rfl)) (by kernel_rfl) (by kernel_rfl) (by kernel_rfl)
      (by rw [MakeChecks.laidMetH_plain _ _ _ (by kernel_rfl)]; exact laidMet_laidAll _ (by kernel_rfl) (by kernel_rfl))) ?_
  intro W base args ds gs before hval0 hW hc _ hL _
  have hW' := hW
  obtain ⟨p, q, hA0, hV, rfl, _, _⟩ := hW
  have hA : DataW.TrodAll enc Tryd.prog W 0 (fun _ => true) true Tryd.f6.params.toList args.toList ds p := hA0
  rw [Tryd.params6] at hA
  obtain ⟨rfl, rfl, rfl⟩ := trodAll_none hA
  obtain ⟨rfl, rfl⟩ := trodVars_none hV
  simp only [List.append_nil] at hW'
  refine (law W).mono fun e W' ⟨he, hk⟩ => ?_
  subst he
  have key : ∀ may, W.keptBut W' may := fun may => ⟨hk.os, hk.output, fun i hi => by rw [hk.block i hi]; exact (World.keptBut_refl W may).2.2 i hi⟩
  refine ⟨_, rfl, _, _, _, [], [], [], hW', ?_, ?_, ?_, key _, fun h => by cases h⟩
  · exact trodAll_mk1 (shut_bool Tryd.underlying4 true)
  · rfl
  · rfl

theorem eidKnown_holds : Rows.EidKnownSaid :=
  OpenClaim.holds_of_wide 6 Tryd.f6 rfl rfl rfl rfl rfl rfl rfl ⟨rfl, rfl, rfl, rfl, rfl⟩ rfl rfl rfl rfl rfl (by kernel_rfl) Tryd.func6 (by kernel_rfl)
    (of_decide_eq_true (by kernel_rfl)) (by unfold Func.isWrapper; first | (rw [if_pos (by decide +kernel)]; kernel_rfl) | (rw [if_neg (by decide +kernel)]; exact ⟨rfl, rfl⟩))
    (fun os started H enc _ => eidKnown_lifted os started H enc)

/-- The statement: the tied card. -/
theorem eidKnown_card_holds : Rows.EidKnownCardSaid :=
  Claim7.holds_tied_plain_at .later [] [.data, .data, .data, .data, .pinned] true (true, "a69b60eb8dad774114ddfc545d92087e68c2dec2344aed8c656d2a11780dcae6") false eidKnown_holds (fun _ h => by cases h) (by kernel_rfl) (fun _ h => by cases h) eidKnown_row_tie rfl ⟨rfl, rfl⟩ (by kernel_rfl) rfl
    (fun f fn hf hfn => by
      obtain rfl : f = 6 := Option.some.inj ((show Tryd.prog.funcNamed "packhorse/packhorselaw05.EidKnown" = some 6 by kernel_rfl).symm.trans hf) |>.symm
      obtain rfl : fn = Tryd.f6 := (Option.some.inj (Tryd.func6.symm.trans hfn)).symm
      exact ⟨by kernel_rfl, fun j t ht => by
        rw [Tryd.params6] at ht
        simp at ht⟩)
    (by kernel_rfl)
#print axioms eidKnown_card_holds
end Go.Proofs.YtcllcahfobdgbaaDoor
