import Derived.Test.YtjcbpfhlgebgdaaDoorXTt
import Derived.Test.YtjcbpfhlgebgdaaDoorX9
import Derived.Test.YtjcbpfhlgebgdaaDoorChecked
import Derived.Test.YtjcbpfhlgebgdaaDoorEa0
set_option linter.unusedSimpArgs false
set_option linter.unusedVariables false
namespace Go.Proofs.YtjcbpfhlgebgdaaDoor
open Go Go.Eng Go.RowKit
theorem Ea_leads:Go.Run.Leads Tryd.prog 0 (fun v _=>Go.Run.veq v (.bool true)) Ea_c0 :=
 Go.Run.leads_run Tryd.runF_ok Tryd.mixed Ea_run0
def packhorselaw05_awake:Unit→Option Bool:=fun _=>some true
theorem fn_Ea:Go.Eng.Fn Tryd.prog 40 [] [] (.bool true) []:=by
 intro w pr lam cargs hl hargs _ _ _
 simp only [RL] at hargs
 have:cargs = #[]:=by rw [← Array.toList_inj]; simpa using hargs
 subst this
 refine (Go.Run.calls_of_leads (F:=Tryd.runF) (G:=0) (fn:=Tryd.f40) Tryd.runF_ok Go.Run.globOK_nil (Nat.zero_le _) (by kernel_rfl) (by kernel_rfl) (by kernel_rfl) Ea_leads).mono fun e w' ⟨he,hk⟩=>?_
 exact ⟨.bool true,pr,he,by simp [R],fun i B h=>by simp at h,⟨hk.os,hk.tape,hk.output,trivial,hk.size,fun k hk' _=>hk.block k hk',fun _ _ h=>h,fun _ _ h=>.inl h⟩⟩
theorem packhorselaw05_awake.fn:Go.X.FnT Tryd.prog 40 [] [.bool] packhorselaw05_awake:=by
 intro x r h
 cases h
 exact fn_Ea
noncomputable def packhorselaw05_awake.spec:Go.X.XSpec Tryd.prog:=Go.X.XSpec.t 40 [] [.bool] packhorselaw05_awake (by kernel_rfl) packhorselaw05_awake.fn
end Go.Proofs.YtjcbpfhlgebgdaaDoor
