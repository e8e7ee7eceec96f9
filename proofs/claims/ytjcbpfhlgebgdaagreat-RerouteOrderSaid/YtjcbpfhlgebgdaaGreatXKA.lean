import Derived.Test.YtjcbpfhlgebgdaaGreatX9
import Derived.Test.YtjcbpfhlgebgdaaGreatChecked
import Derived.Test.YtjcbpfhlgebgdaaGreatRk8
set_option linter.unusedSimpArgs false
set_option linter.unusedVariables false
namespace Go.Proofs.YtjcbpfhlgebgdaaGreat
open Go Go.Eng Go.RowKit
theorem _root_.Go.Proofs.Tryz.mixed : Tryz.prog.follows .mixedOrders = true := by kernel_rfl
theorem Rk_leads : Go.Run.Leads Tryz.prog 0 (fun v _ => Go.Run.veq v (.bool true)) Rk_c0 :=
 Go.Run.leads_cut Tryz.runF_ok Tryz.mixed Rk_run0 (Go.Run.leads_cut Tryz.runF_ok Tryz.mixed Rk_run1 (Go.Run.leads_cut Tryz.runF_ok Tryz.mixed Rk_run2 (Go.Run.leads_cut Tryz.runF_ok Tryz.mixed Rk_run3 (Go.Run.leads_cut Tryz.runF_ok Tryz.mixed Rk_run4 (Go.Run.leads_cut Tryz.runF_ok Tryz.mixed Rk_run5 (Go.Run.leads_cut Tryz.runF_ok Tryz.mixed Rk_run6 (Go.Run.leads_cut Tryz.runF_ok Tryz.mixed Rk_run7 (Go.Run.leads_run Tryz.runF_ok Tryz.mixed Rk_run8))))))))
def packhorselaw32_RerouteKnown : Unit → Option Bool := fun _ => some true
theorem fn_Rk : Go.Eng.Fn Tryz.prog 19 [] [] (.bool true) [] := by
 intro w pr lam cargs hl hargs _ _ _
 simp only [RL] at hargs
 have : cargs = #[] := by rw [← Array.toList_inj]; simpa using hargs
 subst this
 refine (Go.Run.calls_of_leads (F := Tryz.runF) (G := 0) (fn := Tryz.f19) Tryz.runF_ok Go.Run.globOK_nil (Nat.zero_le _) (by kernel_rfl) (by kernel_rfl) (by kernel_rfl) Rk_leads).mono fun e w' ⟨he, hk⟩ => ?_
 exact ⟨.bool true, pr, he, by simp [R], fun i B h => by simp at h, ⟨hk.os, hk.tape, hk.output, trivial, hk.size, fun k hk' _ => hk.block k hk', fun _ _ h => h, fun _ _ h => .inl h⟩⟩
theorem packhorselaw32_RerouteKnown.fn : Go.X.FnT Tryz.prog 19 [] [.bool] packhorselaw32_RerouteKnown := by
 intro x r h
 cases h
 exact fn_Rk
noncomputable def packhorselaw32_RerouteKnown.spec : Go.X.XSpec Tryz.prog := Go.X.XSpec.t 19 [] [.bool] packhorselaw32_RerouteKnown (by kernel_rfl) packhorselaw32_RerouteKnown.fn
end Go.Proofs.YtjcbpfhlgebgdaaGreat
