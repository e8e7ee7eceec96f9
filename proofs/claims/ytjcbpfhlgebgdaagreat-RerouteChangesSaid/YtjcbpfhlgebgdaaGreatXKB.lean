import Derived.Test.YtjcbpfhlgebgdaaGreatX9
import Derived.Test.YtjcbpfhlgebgdaaGreatChecked
import Derived.Test.YtjcbpfhlgebgdaaGreatRa2
set_option linter.unusedSimpArgs false
set_option linter.unusedVariables false
namespace Go.Proofs.YtjcbpfhlgebgdaaGreat
open Go Go.Eng Go.RowKit
theorem _root_.Go.Proofs.Tryz.mixed : Tryz.prog.follows .mixedOrders = true := by kernel_rfl
theorem Ra_leads : Go.Run.Leads Tryz.prog 0 (fun v _ => Go.Run.veq v (.bool true)) Ra_c0 :=
 Go.Run.leads_cut Tryz.runF_ok Tryz.mixed Ra_run0 (Go.Run.leads_cut Tryz.runF_ok Tryz.mixed Ra_run1 (Go.Run.leads_run Tryz.runF_ok Tryz.mixed Ra_run2))
def packhorselaw32_awake : Unit → Option Bool := fun _ => some true
theorem fn_Ra : Go.Eng.Fn Tryz.prog 5 [] [] (.bool true) [] := by
 intro w pr lam cargs hl hargs _ _ _
 simp only [RL] at hargs
 have : cargs = #[] := by rw [← Array.toList_inj]; simpa using hargs
 subst this
 refine (Go.Run.calls_of_leads (F := Tryz.runF) (G := 0) (fn := Tryz.f5) Tryz.runF_ok Go.Run.globOK_nil (Nat.zero_le _) (by kernel_rfl) (by kernel_rfl) (by kernel_rfl) Ra_leads).mono fun e w' ⟨he, hk⟩ => ?_
 exact ⟨.bool true, pr, he, by simp [R], fun i B h => by simp at h, ⟨hk.os, hk.tape, hk.output, trivial, hk.size, fun k hk' _ => hk.block k hk', fun _ _ h => h, fun _ _ h => .inl h⟩⟩
theorem packhorselaw32_awake.fn : Go.X.FnT Tryz.prog 5 [] [.bool] packhorselaw32_awake := by
 intro x r h
 cases h
 exact fn_Ra
noncomputable def packhorselaw32_awake.spec : Go.X.XSpec Tryz.prog := Go.X.XSpec.t 5 [] [.bool] packhorselaw32_awake (by kernel_rfl) packhorselaw32_awake.fn
end Go.Proofs.YtjcbpfhlgebgdaaGreat
