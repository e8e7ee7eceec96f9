import Derived.Test.YtjcbpfhlgebgdaaDoorXS
import Derived.Test.YtjcbpfhlgebgdaaDoorRunF
import Derived.Test.YtjcbpfhlgebgdaaDoorChecked
set_option linter.unusedSimpArgs false
set_option linter.unusedVariables false
namespace Go.Proofs.YtjcbpfhlgebgdaaDoor
open Go Go.Eng Go.RowKit Go.X
theorem _root_.Go.Proofs.Tryd.mixed : Tryd.prog.follows .mixedOrders = true := by kernel_rfl
def two : List Mrk := [⟨⟨2, 3, 0⟩, 50⟩, ⟨⟨2, 5, 0⟩, 90⟩]
def twoV : List Value := [.int .i64 2, .int .u64 3, .int .i64 0, .int .i64 50, .int .i64 2, .int .u64 5, .int .i64 0, .int .i64 90]
def twoT : List UInt8 := [50, 46, 51, 46, 48, 47, 53, 48, 10, 50, 46, 53, 46, 48, 47, 57, 48, 10]
def twoR : Value := .tuple #[.string ⟨twoT.toArray⟩, .int .i64 0]
set_option maxRecDepth 1000000 in
theorem St_run (ty N cap : Nat) : Go.Run.runF Tryd.prog Tryd.runF 1 (fun v _ => Go.Run.veq v twoR) 4000 (Go.Run.startS Tryd.f84 84 twoV 2 ty N cap) = true := by kernel_rfl
open Classical in
noncomputable def seen_Text : List Mrk → Option (List UInt8 × Int) := fun l => if l = two then some (twoT, 0) else none
theorem seen_Text.fn : Go.X.FnT Tryd.prog 84 [.d .l_Mrk] [.str, .i64] seen_Text := by
 intro x r h
 unfold seen_Text at h
 split at h
 case isFalse => cases h
 rename_i hx
 subst hx
 cases h
 refine fn_slice (P := Tryd.prog) (F := Tryd.runF) (fn := Tryd.f84) (rows := two.map enc_Mrk) (vs := twoV) (r := twoR) Tryd.runF_ok (by kernel_rfl) (by kernel_rfl) (by kernel_rfl) (by kernel_rfl) (by decide) (by kernel_rfl) (by kernel_rfl) (by kernel_rfl)
  (fun ty N cap => Go.Run.leads_run Tryd.runF_ok Tryd.mixed (St_run ty N cap)) (fun E => ?_) (fun _ _ => trivial)
 show R E (.tup [.str twoT, .int .i64 0]) twoR
 simp only [R, RL]
 exact ⟨_, rfl, _, _, rfl, ⟨rfl, by decide⟩, _, _, rfl, rfl, rfl⟩
noncomputable def seen_Text.spec : Go.X.XSpec Tryd.prog := Go.X.XSpec.t 84 [.d .l_Mrk] [.str, .i64] seen_Text (by kernel_rfl) seen_Text.fn
end Go.Proofs.YtjcbpfhlgebgdaaDoor
