import Derived.Test.YtjcbpfhlgebgdaaGreatDoorX9
import Derived.Test.YtjcbpfhlgebgdaaGreatDoorChecked
import Derived.Test.YtjcbpfhlgebgdaaGreatDoorLC
import Derived.OpenShut
import Derived.LaidMore
import Derived.Stop.Joined
import Derived.ChangeSlices
set_option linter.unusedSimpArgs false
set_option linter.unusedVariables false
namespace Go.Proofs.YtjcbpfhlgebgdaaGreatDoor
open Go Go.Eng Go.RowKit
theorem zlE (W:World) {laid:List (String × DataW Unit)} (hL:laidMetH Tryz.prog laid W) (hp:laid = Rows.seenTextsRow.laid):HL W (fun b _=>b < W.heap.size):=by
 subst hp
 rw [MakeChecks.laidMetH_plain _ _ _ (by kernel_rfl)] at hL
 obtain ⟨ty0, h0⟩ := Go.LC.laid_cells (n := "internal/strconv.uint64pow10") (d := Rows.laid_internal_strconv_uint64pow10) (g := 1) (t := 207) (vs := G0) hL (List.mem_of_getElem? (i := 2) rfl) (by kernel_rfl) (by kernel_rfl) (by kernel_rfl) (by kernel_rfl) (of_decide_eq_true (by kernel_rfl))
 have hsz0:=(Array.getElem?_eq_some_iff.1 h0).1
 refine ⟨fun _ _ h=>h,fun g vs hg=>?_⟩
 unfold GL at hg
 split at hg
 ·rename_i hg0; subst hg0; cases hg
  exact ⟨⟨ty0,h0⟩,fun _ _=>hsz0⟩
 ·cases hg
end Go.Proofs.YtjcbpfhlgebgdaaGreatDoor
