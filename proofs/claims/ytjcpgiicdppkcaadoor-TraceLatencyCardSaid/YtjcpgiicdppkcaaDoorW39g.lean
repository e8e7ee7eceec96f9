import Derived.Test.YtjcpgiicdppkcaaDoorW39f
import Derived.Test.YtjcpgiicdppkcaaDoorTk3
import Derived.OpenShut
import Derived.LaidMore
import Derived.Stop.Joined
import Derived.ChangeSlices
namespace Go.Proofs.YtjcpgiicdppkcaaDoor
open Go Go.Eng Go.RowKit
set_option linter.unusedSimpArgs false
set_option linter.unusedVariables false

/-! TraceLatency: the run of TraceKnown; the row; the card -/

theorem Tryd.mixedK : Tryd.prog.follows .mixedOrders = true := by kernel_rfl
/-- The whole run. -/
theorem Tk_leads (ty0 : TypeId) : Go.Run.Leads Tryd.prog 1 (fun v _ => Go.Run.veq v (.bool true)) (Tk_c0 ty0) :=
  Go.Run.leads_cut Tryd.runF_ok Tryd.mixedK (Tk_run0 ty0) (Go.Run.leads_cut Tryd.runF_ok Tryd.mixedK (Tk_run1 ty0) (Go.Run.leads_cut Tryd.runF_ok Tryd.mixedK (Tk_run2 ty0) (Go.Run.leads_cut Tryd.runF_ok Tryd.mixedK (Tk_run3 ty0) (Go.Run.leads_cut Tryd.runF_ok Tryd.mixedK (Tk_run4 ty0) (Go.Run.leads_cut Tryd.runF_ok Tryd.mixedK (Tk_run5 ty0) (Go.Run.leads_cut Tryd.runF_ok Tryd.mixedK (Tk_run6 ty0) (Go.Run.leads_cut Tryd.runF_ok Tryd.mixedK (Tk_run7 ty0) (Go.Run.leads_cut Tryd.runF_ok Tryd.mixedK (Tk_run8 ty0) (Go.Run.leads_cut Tryd.runF_ok Tryd.mixedK (Tk_run9 ty0) (Go.Run.leads_cut Tryd.runF_ok Tryd.mixedK (Tk_run10 ty0) (Go.Run.leads_run Tryd.runF_ok Tryd.mixedK (Tk_run11 ty0))))))))))))

theorem G0_eq : G0 = Tk_v0 := by unfold G0 Tk_v0; rfl

/-- TraceKnown, as a contract. -/
theorem fn_traceKnown : Go.Eng.Fn Tryd.prog 4 [] [] (.bool true) [] := by
  intro w pr lam cargs hl hargs _ _ _
  obtain ⟨⟨ty, h0⟩, _⟩ := hl.glob 0 G0 (if_pos rfl)
  rw [G0_eq] at h0
  simp only [RL] at hargs
  have : cargs = #[] := by rw [← Array.toList_inj]; simpa using hargs
  subst this
  have hsz := (Array.getElem?_eq_some_iff.1 h0).1
  refine (Go.Run.calls_of_leads (F := Tryd.runF) (G := 1) (fn := Tryd.f4) Tryd.runF_ok (Go.Run.globOK_set Go.Run.globOK_nil (by kernel_rfl) (by decide) fun L => Go.Run.laidObj_rel h0 (by kernel_rfl) (by kernel_rfl)) (by omega) (by kernel_rfl) (by kernel_rfl) (by kernel_rfl) (Tk_leads ty)).mono fun e w' ⟨he, hk⟩ => ?_
  exact ⟨.bool true, pr, he, by simp [R], fun i B h => by simp at h, ⟨hk.os, hk.tape, hk.output, hk.size, fun k hk' _ => hk.block k hk', fun _ _ h => h, fun _ _ h => .inl h⟩⟩

/-- The call of TraceLatency. -/
theorem lawLat (W : World) (hL : laidMetH Tryd.prog Rows.traceLatencyRow.laid W) (x : Value) (zs : List Int) (hx : R ⟨W, fun b _ => b < W.heap.size, fun _ => none⟩ (.list (zs.map encI)) x) :
    Calls Tryd.prog 8 #[x] W fun e w' => e = .returned (.bool true) ∧ Below W.heap.size W w' := by
  rw [MakeChecks.laidMetH_plain _ _ _ (by kernel_rfl)] at hL
  obtain ⟨ty0, h0⟩ := Go.Run.laid_cells (n := "packhorse/trace.faces") (d := Rows.laid_packhorse_trace_faces) (g := 0) (t := 96) (vs := Tk_v0) hL (List.mem_of_getElem? (i := 4) rfl) (by kernel_rfl) (by kernel_rfl) (by kernel_rfl) (by kernel_rfl) (by unfold Tk_v0; decide +kernel)
  have hsz := (Array.getElem?_eq_some_iff.1 h0).1
  have hl : HL W (fun b _ => b < W.heap.size) := by
    refine ⟨fun _ _ h => h, fun g vs hg => ?_⟩
    unfold GL at hg
    split at hg
    · rename_i hg0; subst hg0; cases hg
      exact ⟨⟨ty0, by rw [G0_eq]; exact h0⟩, fun _ _ => hsz⟩
    · cases hg
  refine (fn_traceLatency fn_traceKnown zs W _ (fun _ => none) #[x] hl (by simp only [RL]; exact ⟨x, [], rfl, hx, rfl⟩) (fun i B h => by simp at h) (fun i j b h => by cases h) (fun _ _ => rfl)).mono fun e w' ⟨v, pr', he, hr, _, hleft⟩ => ?_
  simp only [R] at hr
  exact ⟨by rw [he, hr], { os := hleft.os, tape := hleft.tape, output := hleft.output, size := hleft.size, block := fun k hk => hleft.block k hk (by simp) }⟩
end Go.Proofs.YtjcpgiicdppkcaaDoor
