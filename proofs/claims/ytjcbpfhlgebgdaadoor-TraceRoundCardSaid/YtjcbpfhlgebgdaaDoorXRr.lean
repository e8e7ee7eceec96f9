import Derived.Test.YtjcbpfhlgebgdaaDoorXRw
import Derived.Test.YtjcbpfhlgebgdaaDoorXGRf
import Derived.Test.YtjcbpfhlgebgdaaDoorRoT
set_option linter.unusedSimpArgs false
set_option linter.unusedVariables false
namespace Go.Proofs.YtjcbpfhlgebgdaaDoor
open Go Go.Eng Go.RowKit Go.X Go.Seq
noncomputable def rwF (S:List UInt8) (p:Int):Option (Wd × Int) :=
 if S.length ≤ 1000 then (packhorseref03_word (S,p)).bind fun r=>if r.2 < 0 ∨ p < r.2 then some ((r.1.At,r.1.Key,r.1.Text),r.2) else none else none
noncomputable def rowG (L:List UInt8):Option (List Wd × Int) :=
 (rrF (bsOf L) (rwF L) (L.length + 1) [] 0).bind fun r=>if -1 ≤ r.2∧r.2 ≤ 1000∧r.1.length ≤ 1001∧∀ x ∈ r.1,(0 ≤ x.1∧x.1 ≤ 1000)∧x.2.1.length ≤ 1001∧x.2.2.length ≤ 1001 then some r else none
noncomputable def packhorseref03_Rows (s:List UInt8):Option (List Row × Fault) :=
 if 20000 < s.length then some ([],⟨4,20000⟩) else (refRowsF rowG (pieces 10 s) [] 0).map fun r=>(r.1.map mkRow,⟨r.2.1,r.2.2⟩)
end Go.Proofs.YtjcbpfhlgebgdaaDoor
