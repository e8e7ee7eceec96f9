import Derived.Test.YtjcbpfhlgebgdaaDoorRoR
set_option linter.unusedSimpArgs false
set_option linter.unusedVariables false
namespace Go.Seq
open Go.RowKit Go.Shelf Go.Proofs
def refRowsF (rowL:List UInt8→Option (List Wd × Int)):List (List UInt8)→List (Int × List Wd)→Int→Option (List (Int × List Wd) × Int × Int)
 | [],out,_=>some (out,0,0)
 | p :: ps,out,a=>if 1000 < p.length then some ([],4,a) else (rowL p).bind fun r =>
   if 0 ≤ r.2 then some ([],3,a + r.2) else refRowsF rowL ps (if r.1 = [] then out else out++[(a,r.1.map (shW a))]) (a + (p.length + 1))
end Go.Seq
namespace Go.Seq
open Go.RowKit Go.Shelf Go.Proofs
end Go.Seq
