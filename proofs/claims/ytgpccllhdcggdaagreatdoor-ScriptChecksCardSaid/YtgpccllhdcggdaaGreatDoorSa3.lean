import Derived.Test.YtgpccllhdcggdaaGreatDoorSa2
noncomputable section
namespace Go.Proofs.YtgpccllhdcggdaaGreatDoor
open Go Go.Run Go.Run.Sh
def zhx:Value:=s [113,117,111,116,97,61,57,48,48,48]
def zwT:Value:=s [113,117,111,116,97,61]
def ztD:T Value :=
b (b (b (b (l (e (i 500)) (i 500)) (i 2) (e (i 2))) (.int .u64 2000) (b (e (.int .u64 2000)) (i 100) (e (i 100)))) (.int .u64 9000) (b (b (e (.int .u64 9000)) (i 2) (e (i 2))) (i 4) (b (e (i 4)) (i 5000) (e (i 5000))))) (i 1) (b (b (b (e (i 2)) (i 1) (e (i 1))) (.int .u64 0) (b (e (.int .u64 0)) (i 1) (e (i 1)))) (.int .u64 1000) (b (b (e (.int .u64 1000)) (i 4) (e (i 4))) (i 64) (b (e (i 64)) (i 64) (e (i 64)))))
def ztE:T Value :=
b (b (b (b (e (i 4)) (.int .u64 0) (e (i 0))) (i 0) zcT) (i 1) (b zcT (i 0) (b (e (i 0)) (i 0) (e (s []))))) (i 2) (b (b zcT (i 0) zcT) (i 2) (b (b (e (i 3)) (i 0) (e (i 0))) (i 0) (l (e (.int .u64 0)) (s []))))
def ztF:T Value :=
b (b (e (i 100)) (i 2) (e (i 0))) (i 1) (l (e (i 50)) (i 0))
def zjw:AObj :=
.cells 6 ztF 83 none (0,0)
def zk2:Value :=
.tuple #[(.agg #[(vl 467 0 2 5),(vl 495 0 1 3),(vl 525 0 2 5)]),(.agg #[(i 0),(i 0)])]
def zeK:Value :=
.agg #[(vl 611 0 2 4),(vl 612 0 1 2),(vl 613 0 2 4)]
def zo8:Value :=
.agg #[(vl 467 0 2 5),(vl 495 0 1 3),(vl 525 0 2 5)]
def zv3:AFr :=
ifr 5 80 (b (b (b (o (e zo8) .nil) (p 607 0) (e qT)) qT (o .nil (e qT))) f (b (o (o zk1 .nil) (e zk2)) (p 606 0) (o (l (e zeK) ztl) (e zk2)))) [.inRegion (Y6 (cAt Tryz.f5 [1,1,1,0])) [1,2,3,4,5,6],.code (cAt Tryz.f5 [1,1,1,1])] none [] none 5 false false
def zk3:T AObj :=
o (e (.cells 32 ztD 58 none (0,0))) .nil
def zcU:T AObj :=
o (e (.cells 30 ztE 48 none (0,0))) .nil
def ztG:T Value :=
b (b (b (l (e zoY) zcS) zht (l (e zoZ) (i 0))) (s []) (b (l (e (i 0)) (s [52])) (i 0) (e za1))) zbu (b (b (l (e zo0) (i 0)) zag (e (s [50]))) (i 0) (b (l (e (s [54,52])) za2) zo1 (e (i 0))))
def zo9:T AObj :=
o .nil (o .nil (o .nil (o (e (.cells 2 (l (e (vl 751 0 14 28)) (i 0)) 68 none (0,0))) .nil)))
def zpa:T AObj :=
o (e (.cells 3 (b (e (vl 495 0 1 3)) (vl 467 0 2 5) (e (vl 525 0 2 5))) 26 none (0,0))) .nil
def zpb:AObj :=
.cells 6 ztF 83 (some 6) (0,0)
def ztH:T Value :=
e (.agg #[(i 1),(.int .u64 9000),(.int .u64 1000),(.int .u64 2000),(.int .u64 0),(i 4),(i 64),(i 2),(i 1),(i 2),(i 4),(i 100),(i 1),(i 5000),(i 64),(i 500)])
def zeL:Value :=
.func (.func 27) #[] #[(p 693 0)]
def zpc:T AObj :=
o (o (o (o (e (.cells 30 ztE 48 (some 15) (0,0))) .nil) .nil) .nil) .nil
def zpd:T AObj :=
o (o .nil (o .nil (e (.cells 32 ztD 58 (some 16) (0,0))))) .nil
def ztI:T AObj :=
o .nil (o .nil (o (o (e (.cells 3 (b (e (vl 612 0 1 2)) (vl 611 0 2 4) (e (vl 613 0 2 4))) 26 none (0,0))) .nil) .nil))
def ztJ:T Value :=
b (b (l (e ztm) (i 0)) zjv (l (e (i 0)) (s [54,52]))) (i 0) (b (l (e ztn) zkT) zbR (e (i 0)))
def zk4:Value :=
.agg #[(i 0),(vl 751 0 14 28)]
def zpe:T AObj :=
o .nil (o .nil (o (o (e zjw) .nil) .nil))
def ztK:Code :=
cAt Tryz.f28 [1,1,0,1,0,0,1,1,0,0,1,1,1,0,1,0,0,1,1,0,0,1,1,0,1,0,0,0]
def ztL:Code :=
cAt Tryz.f28 [1,1,0,1,0,0,1,1,0,0,1,1,1,0,1,0,0,1,1,0,0,1,1,0,1,0,0,1]
def ztM:Code :=
cAt Tryz.f28 [1,1,0,1,0,0,1,1,0,0,1,1,1,0,1,0,0,1,1,0,0,1,1,0,1,0,1]
def zpf:T AObj :=
o .nil (o (o (e zdR) .nil) .nil)
def ztN:Code :=
cAt Tryz.f28 [1,1,0,1,0,0,1,1,0,0,1,1,1,0,1,0,0,1,1,0,0,1,1,1]
def zk5:T AObj :=
o .nil (o zk3 .nil)
def zqp (ty0:TypeId) (ty1:TypeId) (ty2:TypeId) (om:AObj):Cfg :=
⟨ifr 63 47 (b (o (o (e (vl 770 0 7 15)) .nil) (o (e (i 0)) .nil)) zag (b (o (e (i 7)) .nil) f (l (e t) zag)))
 [.code (cAt Tryz.f63 [1,0,1,0,0,1,1,0,0,0]),.code (cAt Tryz.f63 [1,0,1,0,0,1,1,0,0,1]),.inBlock 1,.code zo4,.inLoop (cAt Tryz.f63 [1,0,1,0,0]),.inBlock 0,.code (cAt Tryz.f63 [1,1])] none [] none 770 false false,
 [ifr 28 65 (b (o (b (b (b (e zbR) t (e (vl 767 0 3 7))) (vl 767 0 3 7) (l (e (p 763 1)) (vl 751 0 14 28))) (i 0) (o (l (e (p 768 1)) (vl 751 0 14 28)) (l (e zhx) (p 751 9)))) (o (b (l (e zag) zk4) (p 768 0) (l (e zwT) (i 3))) (b (l (e t) f) (i 1) (l (e zhx) (p 768 2))))) (vl 753 0 1 2) (b (b (o (b (e (p 768 1)) (p 753 0) (e (i 3))) (l (e zjv) (i 14))) (s []) (b (l (e zag) (i 14)) (vl 753 0 1 2) (l (e (vl 762 0 2 5)) (.agg #[(i 0),zag,zbR])))) (s []) (b (b (l (e t) (p 754 1)) zbR (l (e zht) t)) (p 754 0) (b (l (e f) (p 754 1)) (i 0) (l (e (vl 766 0 1 2)) zbR)))))
 [.inRegion (Y6 ztK) [2,3],.code ztL,.code ztM,.code ztN,.inBlock 3,.code (cAt Tryz.f28 [1,1,0,1,0,0,1,1,0,0,1,1,1,0,1,0,0,1,1,1]),.inLoop (cAt Tryz.f28 [1,1,0,1,0,0,1,1,0,0,1,1,1,0,1,0,0]),.inBlock 2,.code (cAt Tryz.f28 [1,1,0,1,0,0,1,1,0,0,1,1,1,1]),.inBlock 1,.code (cAt Tryz.f28 [1,1,0,1,0,0,1,1,1]),.inLoop (cAt Tryz.f28 [1,1,0,1,0,0]),.inBlock 0,.code (cAt Tryz.f28 [1,1,1])] none [] none 754 false false,ifr 27 15 (b (l (l (e zk4) (i 0)) (p 693 0)) zk4 (l (o (e (vl 753 0 1 2)) .nil) (p 752 0)))
 [.inRegion (Y6 (cAt Tryz.f27 [1,0])) [2,3,4,5,6,7],.code (cAt Tryz.f27 [1,1])] none [] none 752 false false,ifr 9 67 (b (b (b (o (l ztH zeK) (e (p 614 0))) (i 0) (o (e f) (e t))) (p 614 0) (b (o (e (p 692 0)) (e (i 2))) (p 693 0) (o .nil ztH))) zeK (b (b (b (l (e zk4) (.agg #[(i 0),(i 0)])) (p 694 0) (e (vl 611 0 2 4))) (p 692 0) (o .nil (e (p 611 0)))) (s []) (b (o (e (i 0)) (e (i 0))) zeL (o (e zeL) (e zeL)))))
 [.inRegion (Y6 (cAt Tryz.f9 [1,1,1,1,0,1,0,0,1,1,0,0,1,0])) [3,4],.code (cAt Tryz.f9 [1,1,1,1,0,1,0,0,1,1,0,0,1,1]),.inBlock 1,.code (cAt Tryz.f9 [1,1,1,1,0,1,0,0,1,1,1]),.inLoop (cAt Tryz.f9 [1,1,1,1,0,1,0,0]),.inBlock 0,.code (cAt Tryz.f9 [1,1,1,1,1])] none [] none 614 false false,zv3],
 ⟨771,(b (b (b (o (o (o (o (o (o .nil (e (.cells 3 (b (e (s [49])) zbu (e zhx)) 9 (some 1) (0,0)))) .nil) .nil) zpf) (o .nil (o .nil (o .nil (l (e (.cells 42 (b (b ztJ (s []) (b (b (l (e (i 0)) (s [48])) (i 0) zkW) (s [49]) (b (l (e zkV) (i 0)) zhs (e za0)))) (i 0) ztG) 119 none (0,0))) zpb))))) .nil) (zhv ty1) (o (o (o .nil zk5) zpd) (o .nil (o .nil (o .nil (o .nil (o (e (.cells 3 (b (e zjv) (i 0) (e zht)) 119 none (0,0))) .nil))))))) (zhw ty2) (o (o (o .nil zo9) .nil) (o (o (o .nil (o .nil (o zcU .nil))) (o .nil (o (o .nil (o (e (.cells 2 (l (e (.slice none 0 0)) (.pointer none)) 65 none (0,0))) .nil)) .nil))) (o zpc .nil)))) (zhu ty0) (o (b (o (o (o (o (o (o .nil (e (.cells 3 (b (e zag) (i 0) (e zbR)) 119 none (0,0)))) .nil) .nil) .nil) zo9) .nil) om (o (o zpe (o .nil (o (o .nil (o (e zdR) .nil)) .nil))) .nil)) (o (o (o (o (o (o (o .nil (e (.cells 7 (b (b (e (c 103)) (c 97) (e (c 115))) (c 108) (b (e (c 101)) (c 114) (e (c 116)))) 5 (some 1) (1,0)))) .nil) .nil) .nil) zo9) (o .nil (o .nil (o .nil (o .nil (o (e .dead) .nil)))))) (o (o ztI (o .nil (o (o .nil (o (e (.cells 16 (b zo6 (i 1) zo7) 58 none (0,0))) .nil)) .nil))) (o .nil (o (o .nil (o zpa .nil)) (o .nil (o .nil (o (e (.cells 1 (e zhx) 9 none (0,0))) .nil)))))))))⟩⟩
set_option maxRecDepth 1000000 in
theorem ztO (ty0:TypeId) (ty1:TypeId) (ty2:TypeId) (n1 n2 k:Nat):zdG Tryz.prog Tryz.runF 5 20000 [0,1,3,4,467,495,525,606,607,611,612,613,614,692,693,694,751,752,753,754,762,763,766,767,768,770] (zqo ty0 ty1 ty2 (Zc true n1 n2 k)) = some (zqp ty0 ty1 ty2 (Zc true n1 n2 k)):=by kernel_rfl
set_option maxRecDepth 1000000 in
theorem ztP (ty0:TypeId) (ty1:TypeId) (ty2:TypeId) (n1 n2 k:Nat):zdG Tryz.prog Tryz.runF 5 20000 [0,1,3,4,467,495,525,606,607,611,612,613,614,692,693,694,751,752,753,754,762,763,766,767,768,770] (zqo ty0 ty1 ty2 (Zc false n1 n2 k)) = some (zqp ty0 ty1 ty2 (Zc false n1 n2 k)):=by kernel_rfl
end Go.Proofs.YtgpccllhdcggdaaGreatDoor
