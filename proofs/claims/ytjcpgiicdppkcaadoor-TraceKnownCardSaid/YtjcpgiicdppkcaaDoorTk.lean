/- The statement Rows.TraceKnownCardSaid is proved: TraceKnown returns true, whatever the memory, and leaves everything as it was. The package-level variables that its row lists hold what the program's text lays; the tie is given. -/
import Derived.Test.YtjcpgiicdppkcaaDoorCards
import Derived.Test.YtjcpgiicdppkcaaDoorTie
import Derived.Test.YtjcpgiicdppkcaaDoorTk3
import Derived.ProofKit
import Derived.OpenShut
import Derived.LaidMore
import Derived.Lay
import Derived.SevenTiedAt
import Derived.Stop.Joined
namespace Go.Proofs.YtjcpgiicdppkcaaDoor
open Go.ChangeShapes Go.WideShapes Go.ChangeAt Go.RowKit Go.Run
theorem Tryd.mixedK : Tryd.prog.follows .mixedOrders = true := by kernel_rfl
/-- The whole run. -/
theorem Tk_leads (ty0 : TypeId) : Leads Tryd.prog 1 (fun v _ => veq v (.bool true)) (Tk_c0 ty0) :=
  leads_cut Tryd.runF_ok Tryd.mixedK (Tk_run0 ty0) (leads_cut Tryd.runF_ok Tryd.mixedK (Tk_run1 ty0) (leads_cut Tryd.runF_ok Tryd.mixedK (Tk_run2 ty0) (leads_cut Tryd.runF_ok Tryd.mixedK (Tk_run3 ty0) (leads_cut Tryd.runF_ok Tryd.mixedK (Tk_run4 ty0) (leads_cut Tryd.runF_ok Tryd.mixedK (Tk_run5 ty0) (leads_cut Tryd.runF_ok Tryd.mixedK (Tk_run6 ty0) (leads_cut Tryd.runF_ok Tryd.mixedK (Tk_run7 ty0) (leads_cut Tryd.runF_ok Tryd.mixedK (Tk_run8 ty0) (leads_cut Tryd.runF_ok Tryd.mixedK (Tk_run9 ty0) (leads_cut Tryd.runF_ok Tryd.mixedK (Tk_run10 ty0) (leads_run Tryd.runF_ok Tryd.mixedK (Tk_run11 ty0))))))))))))
set_option maxRecDepth 100000 in
/-- The call of TraceKnown: it returns true, and every block that was there is as it was, where the listed variables hold what the row says. -/
theorem law (W : World) (hL : laidMetH Tryd.prog Rows.traceKnownRow.laid W) : Calls Tryd.prog 4 #[] W fun e w' => e = .returned (.bool true) ∧ Go.Run.Kept W w' := by
  rw [MakeChecks.laidMetH_plain _ _ _ (by kernel_rfl)] at hL
  obtain ⟨ty0, h0⟩ := laid_cells (n := "packhorse/trace.faces") (d := Rows.laid_packhorse_trace_faces) (g := 0) (t := 96) (vs := Tk_v0) hL (List.mem_of_getElem? (i := 4) rfl) (by kernel_rfl) (by kernel_rfl) (by kernel_rfl) (by kernel_rfl) (by unfold Tk_v0; decide +kernel)
  have hsz := (Array.getElem?_eq_some_iff.1 h0).1
  exact calls_of_leads (F := Tryd.runF) (G := 1) (fn := Tryd.f4) Tryd.runF_ok (globOK_set globOK_nil (by kernel_rfl) (by decide) fun L => laidObj_rel h0 (by kernel_rfl) (by kernel_rfl)) (by omega) (by kernel_rfl) (by kernel_rfl) (by kernel_rfl) (Tk_leads ty0)

theorem own : ownKnob Tryd.prog.godebug = none := by kernel_rfl

set_option maxRecDepth 100000 in
theorem traceKnown_lifted (os : Os) (started : os.Started) (H : Type) (enc : TypeId × Value → H) :
    ReturnsInHanded {} Tryd.checked os 4 .any (fun w args => (Rows.traceKnownSpec.pre enc Tryd.prog Tryd.f4 Rows.traceKnownRow.domain false w args ∧ laidMetH Tryd.prog Rows.traceKnownRow.laid w) ∧ sizedMet enc Tryd.prog Tryd.f4 (OpenSpec.ofChange Rows.traceKnownSpec) false w args)
      (Rows.traceKnownSpec.post enc Tryd.prog Tryd.f4 false true false false) := by
  refine returnsInHanded_of_change_and (C := Tryd.checked) (X := fun w _ => laidMetH Tryd.prog Rows.traceKnownRow.laid w) (fun _ _ _ hh h => h.of_heap hh) own started (by kernel_rfl) Tryd.func4
    (ChangeSpec.witness_shaped (enc := enc) (C := Tryd.checked) (os := os) (X := fun w _ => laidMetH Tryd.prog Rows.traceKnownRow.laid w) false (World.laidAll Tryd.prog os Rows.traceKnownRow.laid) #[] 8 (World.laidAll_os _ _ _)
      (World.shaped_of_ZipB (by kernel_rfl) (by kernel_rfl)) (by kernel_rfl) (by kernel_rfl) (by kernel_rfl)
      (by rw [MakeChecks.laidMetH_plain _ _ _ (by kernel_rfl)]; exact laidMet_laidAll _ (by kernel_rfl) (by kernel_rfl))) ?_
  intro W base args ds gs before hval0 hW hc _ hL _
  have hW' := hW
  obtain ⟨p, q, hA0, hV, rfl, _, _⟩ := hW
  have hA : DataW.TrodAll enc Tryd.prog W 0 (fun _ => true) true Tryd.f4.params.toList args.toList ds p := hA0
  rw [Tryd.params4] at hA
  obtain ⟨rfl, rfl, rfl⟩ := trodAll_none hA
  obtain ⟨rfl, rfl⟩ := trodVars_none hV
  simp only [List.append_nil] at hW'
  refine (law W hL).mono fun e W' ⟨he, hk⟩ => ?_
  subst he
  have key : ∀ may, W.keptBut W' may := fun may => ⟨hk.os, hk.output, fun i hi => by rw [hk.block i hi]; exact (World.keptBut_refl W may).2.2 i hi⟩
  refine ⟨_, rfl, _, _, _, [], [], [], hW', ?_, ?_, ?_, key _, fun h => by cases h⟩
  · exact trodAll_mk1 (shut_bool Tryd.underlying4 true)
  · rfl
  · rfl

theorem traceKnown_holds : Rows.TraceKnownSaid :=
  OpenClaim.holds_of_wide 4 Tryd.f4 rfl rfl rfl rfl rfl rfl rfl ⟨rfl, rfl, rfl, rfl, rfl⟩ rfl rfl rfl rfl rfl (by kernel_rfl) Tryd.func4 (by kernel_rfl)
    (of_decide_eq_true (by kernel_rfl)) (by unfold Func.isWrapper; first | (rw [if_pos (by decide +kernel)]; kernel_rfl) | (rw [if_neg (by decide +kernel)]; exact ⟨rfl, rfl⟩))
    (fun os started H enc _ => traceKnown_lifted os started H enc)

/-- The statement: the tied card. -/
theorem traceKnown_card_holds : Rows.TraceKnownCardSaid :=
  Claim7.holds_tied_plain_at .later [] [.data, .data, .data, .data, .widerDeep, .pinned] true (true, "19d4f0b124b7be0a4169f4ac1a456cb0229b30764817e1be35f8ad13a0c8ab09") true traceKnown_holds (fun _ h => by cases h) (by kernel_rfl) (fun _ h => by cases h) traceKnown_row_tie rfl ⟨rfl, rfl⟩ (by kernel_rfl) rfl
    (fun f fn hf hfn => by
      obtain rfl : f = 4 := Option.some.inj ((show Tryd.prog.funcNamed "packhorse/packhorselaw39.TraceKnown" = some 4 by kernel_rfl).symm.trans hf) |>.symm
      obtain rfl : fn = Tryd.f4 := (Option.some.inj (Tryd.func4.symm.trans hfn)).symm
      exact ⟨by kernel_rfl, fun j t ht => by
        rw [Tryd.params4] at ht
        simp at ht⟩)
    (by kernel_rfl)
#print axioms traceKnown_card_holds
end Go.Proofs.YtjcpgiicdppkcaaDoor
