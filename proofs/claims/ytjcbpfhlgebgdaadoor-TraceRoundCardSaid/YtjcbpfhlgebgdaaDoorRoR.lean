import Derived.OwnWalk
import Derived.Test.YtjcbpfhlgebgdaaDoorRoW
set_option linter.unusedSimpArgs false
set_option linter.unusedVariables false
namespace Go.Seq
open Go.RowKit Go.Shelf Go.Proofs
def rrF (S:ByteArray) (wd:Int→Option (Wd × Int)):Nat→List Wd→Int→Option (List Wd × Int)
 | 0,_,_=>none
 | k + 1,acc,p=>if p < (S.size:Int) then
   (S.data[p.toNat]?).bind fun c=>if c = 35 then some (acc,-1) else if c = 32 then rrF S wd k acc (p + 1) else
    (wd p).bind fun r=>if r.2 < 0 then some ([],p) else rrF S wd k (acc++[r.1]) r.2
  else some (acc,-1)
theorem u8_ne {c:UInt8} {n:Nat} (hn:n < 256) (h:¬ c = UInt8.ofNat n):¬ ((c.toNat:Int) = (n:Int)):=fun e=>h (UInt8.toNat_inj.1 (by rw [UInt8.toNat_ofNat']; omega))
theorem below_app {N:Nat} {w wr W1:World} (hb:Below N w wr) (hN:N ≤ wr.heap.size) (x1:Below wr.heap.size wr W1):Below N w W1 :=
 ⟨x1.os.trans hb.os,x1.tape.trans hb.tape,x1.output.trans hb.output,Nat.le_trans hb.size x1.size,fun k hk=>(x1.block k (by omega)).trans (hb.block k hk)⟩
end Go.Seq
