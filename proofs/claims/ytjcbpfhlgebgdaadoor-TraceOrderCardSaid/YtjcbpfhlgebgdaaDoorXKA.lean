import Derived.Test.YtjcbpfhlgebgdaaDoorX9
import Derived.Test.YtjcbpfhlgebgdaaDoorChecked
import Derived.Test.YtjcbpfhlgebgdaaDoorTk4
import Derived.OpenShut
import Derived.LaidMore
import Derived.Stop.Joined
import Derived.ChangeSlices
set_option linter.unusedSimpArgs false
set_option linter.unusedVariables false
namespace Go.Proofs.YtjcbpfhlgebgdaaDoor
open Go Go.Eng Go.RowKit
theorem _root_.Go.Proofs.Tryd.mixed : Tryd.prog.follows .mixedOrders = true := by kernel_rfl
theorem Tk_leads (ty0 : TypeId) : Go.Run.Leads Tryd.prog 1 (fun v _ => Go.Run.veq v (.bool true)) (Tk_c0 ty0) :=
 Go.Run.leads_cut Tryd.runF_ok Tryd.mixed (Tk_run0 ty0) (Go.Run.leads_cut Tryd.runF_ok Tryd.mixed (Tk_run1 ty0) (Go.Run.leads_cut Tryd.runF_ok Tryd.mixed (Tk_run2 ty0) (Go.Run.leads_cut Tryd.runF_ok Tryd.mixed (Tk_run3 ty0) (Go.Run.leads_run Tryd.runF_ok Tryd.mixed (Tk_run4 ty0)))))
theorem G0_eq : G0 = Tk_v0 := by unfold G0 Tk_v0; rfl
def packhorselaw39_TraceKnown : Unit → Option Bool := fun _ => some true
theorem fn_Tk : Go.Eng.Fn Tryd.prog 19 [] [] (.bool true) [] := by
 intro w pr lam cargs hl hargs _ _ _
 obtain ⟨⟨ty, h0⟩, _⟩ := hl.glob 0 G0 (if_pos rfl)
 rw [G0_eq] at h0
 simp only [RL] at hargs
 have : cargs = #[] := by rw [← Array.toList_inj]; simpa using hargs
 subst this
 have hsz := (Array.getElem?_eq_some_iff.1 h0).1
 refine (Go.Run.calls_of_leads (F := Tryd.runF) (G := 1) (fn := Tryd.f19) Tryd.runF_ok (Go.Run.globOK_set Go.Run.globOK_nil (by kernel_rfl) (by decide) fun L => Go.Run.laidObj_rel h0 (by kernel_rfl) (by kernel_rfl)) (by omega) (by kernel_rfl) (by kernel_rfl) (by kernel_rfl) (Tk_leads ty)).mono fun e w' ⟨he, hk⟩ => ?_
 exact ⟨.bool true, pr, he, by simp [R], fun i B h => by simp at h, ⟨hk.os, hk.tape, hk.output, trivial, hk.size, fun k hk' _ => hk.block k hk', fun _ _ h => h, fun _ _ h => .inl h⟩⟩
theorem packhorselaw39_TraceKnown.fn : Go.X.FnT Tryd.prog 19 [] [.bool] packhorselaw39_TraceKnown := by
 intro x r h
 cases h
 exact fn_Tk
noncomputable def packhorselaw39_TraceKnown.spec : Go.X.XSpec Tryd.prog := Go.X.XSpec.t 19 [] [.bool] packhorselaw39_TraceKnown (by kernel_rfl) packhorselaw39_TraceKnown.fn
theorem hl_of_laid (W : World) {laid : List (String × DataW Unit)} (hL : laidMetH Tryd.prog laid W) (hp : laid = Rows.traceOrderRow.laid) : HL W (fun b _ => b < W.heap.size) := by
 subst hp
 rw [MakeChecks.laidMetH_plain _ _ _ (by kernel_rfl)] at hL
 obtain ⟨ty0, h0⟩ := Go.Run.laid_cells (n := "packhorse/trace.faces") (d := Rows.laid_packhorse_trace_faces) (g := 0) (t := 183) (vs := Tk_v0) hL (List.mem_of_getElem? (i := 4) rfl) (by kernel_rfl) (by kernel_rfl) (by kernel_rfl) (by kernel_rfl) (by unfold Tk_v0; decide +kernel)
 have hsz := (Array.getElem?_eq_some_iff.1 h0).1
 refine ⟨fun _ _ h => h, fun g vs hg => ?_⟩
 unfold GL at hg
 split at hg
 ·rename_i hg0; subst hg0; cases hg
  exact ⟨⟨ty0, by rw [G0_eq]; exact h0⟩, fun _ _ => hsz⟩
 ·cases hg
end Go.Proofs.YtjcbpfhlgebgdaaDoor
