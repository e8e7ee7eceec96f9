import Derived.Test.YtgpccllhdcggdaaGreatDoorRunF
import Derived.Test.YtgpccllhdcggdaaGreatDoorR27
import Derived.Test.YtgpccllhdcggdaaGreatDoorRows
noncomputable section
namespace Go.Proofs.YtgpccllhdcggdaaGreatDoor
open Go Go.Run Go.Run.Sh
def ztj:Value:=s [99,111,110,116,97,99,116]
def zbu:Value:=s [110,111,100,101]
def ztk:Value:=s [110,111,100,101,32,50,32,113,117,111,116,97]
def Qd:Value:=s [110,111,100,101,32,50,32,113,117,111,116,97,61,57,48,48,48,32,108,97,114,103,101,115,116,61,49,48,48,48,32,119,105,110,100,111,119,61,50,48,48,48,32,108,111,119,61,48,32,114,101,116,114,121,61,52,32,114,101,116,114,121,109,97,120,61,54,52,32,98,121,112,97,115,115,61,50,32,119,101,105,103,104,116,115,61,49,46,50,46,52,32,114,97,116,101,61,49,48,48,47,49,32,98,117,114,115,116,61,53,48,48,48,32,98,108,111,99,107,115,61,54,52,32,108,105,110,107,61,53,48,48]
def qT:Value:=s [110,111,100,101,32,49,32,113,117,111,116,97,61,57,48,48,48,32,108,97,114,103,101,115,116,61,49,48,48,48,32,119,105,110,100,111,119,61,50,48,48,48,32,108,111,119,61,48,32,114,101,116,114,121,61,52,32,114,101,116,114,121,109,97,120,61,54,52,32,98,121,112,97,115,115,61,50,32,119,101,105,103,104,116,115,61,49,46,50,46,52,32,114,97,116,101,61,49,48,48,47,49,32,98,117,114,115,116,61,53,48,48,48,32,98,108,111,99,107,115,61,54,52,32,108,105,110,107,61,53,48,48,10,110,111,100,101,32,50,32,113,117,111,116,97,61,57,48,48,48,32,108,97,114,103,101,115,116,61,49,48,48,48,32,119,105,110,100,111,119,61,50,48,48,48,32,108,111,119,61,48,32,114,101,116,114,121,61,52,32,114,101,116,114,121,109,97,120,61,54,52,32,98,121,112,97,115,115,61,50,32,119,101,105,103,104,116,115,61,49,46,50,46,52,32,114,97,116,101,61,49,48,48,47,49,32,98,117,114,115,116,61,53,48,48,48,32,98,108,111,99,107,115,61,54,52,32,108,105,110,107,61,53,48,48,10,99,111,110,116,97,99,116,32,49,32,50,32,48,32,49,48,48,32,53,48,32,48,10,111,112,101,110,32,49,32,50,10,116,105,99,107,32,51,10]
def zmZ:Value:=s [110,111,100,101,32,50,32,113,117,111,116,97,61,57,48,48,48,32,108,97,114,103,101,115,116,61,49,48,48,48,32,119,105,110,100,111,119,61,50,48,48,48,32,108,111,119,61,48,32,114,101,116,114,121,61,52,32,114,101,116,114,121,109,97,120,61,54,52,32,98,121,112,97,115,115,61,50,32,119,101,105,103,104,116,115,61,49,46,50,46,52,32,114,97,116,101,61,49,48,48,47,49,32,98,117,114,115,116,61,53,48,48,48,32,98,108,111,99,107,115,61,54,52,32,108,105,110,107,61,53,48,48,10,99,111,110,116,97,99,116,32,49,32,50,32,48,32,49,48,48,32,53,48,32,48,10,111,112,101,110,32,49,32,50,10,116,105,99,107,32,51,10]
def ztl:Value:=s [110,111,100,101,32,49,32,113,117,111,116,97,61,57,48,48,48,32,108,97,114,103,101,115,116,61,49,48,48,48,32,119,105,110,100,111,119,61,50,48,48,48,32,108,111,119,61,48,32,114,101,116,114,121,61,52,32,114,101,116,114,121,109,97,120,61,54,52,32,98,121,112,97,115,115,61,50,32,119,101,105,103,104,116,115,61,49,46,50,46,52,32,114,97,116,101,61,49,48,48,47,49,32,98,117,114,115,116,61,53,48,48,48,32,98,108,111,99,107,115,61,54,52,32,108,105,110,107,61,53,48,48,10,110,111,100,101,32,50,32,113,117,111,116,97,61,57,48,48,48,32,108,97,114,103,101,115,116,61,49,48,48,48,32,119,105,110,100,111,119,61,50,48,48,48,32,108,111,119,61,48,32,114,101,116,114,121,61,52,32,114,101,116,114,121,109,97,120,61,54,52,32,98,121,112,97,115,115,61,50,32,119,101,105,103,104,116,115,61,49,46,50,46,52,32,114,97,116,101,61,49,48,48,47,49,32,98,117,114,115,116,61,53,48,48,48,32,98,108,111,99,107,115,61,54,52,32,108,105,110,107,61,53,48,48,10,99,111,110,116,97,99,116,32,49,32,50,32,48,32,49,48,48,32,53,48,32,48,10]
def ztm:Value:=s [114,97,116,101]
def zjv:Value:=s [113,117,111,116,97]
def ztn:Value:=s [53,48,48,48]
def zkT:Value:=s [114,101,116,114,121]
def zbR:Value:=s [49,48,48,48]
def zkU:Value:=s [98,121,112,97,115,115]
def zkV:Value:=s [98,108,111,99,107,115]
def zhs:Value:=s [119,105,110,100,111,119]
def za0:Value:=s [49,46,50,46,52]
def zoY:Value:=s [49,48,48,47,49]
def zcS:Value:=s [108,111,119]
def zht:Value:=s [57,48,48,48]
def zoZ:Value:=s [108,105,110,107]
def za1:Value:=s [119,101,105,103,104,116,115]
def zo0:Value:=s [98,117,114,115,116]
def zag:Value:=s [108,97,114,103,101,115,116]
def za2:Value:=s [114,101,116,114,121,109,97,120]
def zo1:Value:=s [50,48,48,48]
def zto:List Value:=(flatD Rows.laid_packhorse_script_uses).getD []
def zhu (ty:TypeId):AObj:=zkI zto ty
def ztp:List Value:=(flatD Rows.laid_internal_strconv_uint64pow10).getD []
def zhv (ty:TypeId):AObj:=zkI ztp ty
def zhw (ty:TypeId):AObj:=.cells 1 (T.set .nil 0 (.map (some 4))) ty none (0,2)
def Zc (o:Bool) (n1 n2 k:Nat):AObj:=.map (cond o [⟨ztj,(.func (.func 198) #[] #[]),n1⟩,⟨zbu,(.func (.func 197) #[] #[]),n2⟩] [⟨zbu,(.func (.func 197) #[] #[]),n1⟩,⟨ztj,(.func (.func 198) #[] #[]),n2⟩]) k
def zql (ty0:TypeId) (ty1:TypeId) (ty2:TypeId) (om:AObj):Cfg:=Go.Run.start Tryz.f5 5 5 [] (T.set (T.set (T.set (T.set .nil 0 (zhu ty0)) 3 (zhv ty1)) 1 (zhw ty2)) 4 om)
def zkW:T Value :=
l (e (s [53,48,48])) zkU
def ztq:T AObj :=
o (o (o (e (.cells 42 (b (b (b (b (l (e ztm) (i 43)) zjv (l (e (i 124)) (s [54,52]))) (i 5) (b (l (e ztn) zkT) zbR (e (i 78)))) (s []) (b (b (l (e (i 103)) (s [48])) (i 18) zkW) (s [49]) (b (l (e zkV) (i 57)) zhs (e za0)))) (i 0) (b (b (b (l (e zoY) zcS) zht (l (e zoZ) (i 69))) (s []) (b (l (e (i 114)) (s [52])) (i 31) (e za1))) zbu (b (b (l (e zo0) (i 49)) zag (e (s [50]))) (i 7) (b (l (e (s [54,52])) za2) zo1 (e (i 92)))))) 119 (some 3) (0,0))) .nil) .nil) .nil
def zo2:T Value :=
e (.func (.func 130) #[] #[(p 12 0),(p 11 0),(p 13 0)])
def zv1:T Value :=
b (o (b (o zo2 .nil) (p 8 0) (e (i 305))) (e (p 10 0))) qT (b (r (p 9 0) (e f)) (p 7 0) (o (e qT) (e qT)))
def ztr:AFr :=
ifr 5 80 (b (b (o .nil (e qT)) qT (o .nil (e qT))) f (o .nil (o (e ztl) .nil))) [.inRegion (Y6 (cAt Tryz.f5 [1,1,0])) [1,2,3,4,5,6,7,8],.code (cAt Tryz.f5 [1,1,1])] none [] none 5 false false
def zdR:AObj :=
.cells 2 (l (e (i 0)) (i 0)) 32 none (0,0)
def zts:T Value :=
b (o (b (b zo2 (p 134 0) (e (.agg #[(i 133),(.slice none 0 0)]))) (p 8 0) (l (e f) (i 305))) (l (o (e Qd) (e (.func (.func 108) #[] #[(p 135 0)]))) (p 10 0))) qT (b (b (o (e Qd) (e Qd)) (p 9 0) (e f)) (p 7 0) (b (l (e (i 132)) qT) Qd (l (e (i 133)) qT)))
def zkX:T AObj :=
o (o (o (e (.cells 3 (b (e (s [])) (i 0) (e (s []))) 119 none (0,0))) .nil) .nil) .nil
def zo3:AObj :=
.cells 3 (b (e (.slice none 0 0)) (.slice none 0 0) (e (.slice none 0 0))) 26 none (0,0)
def ztt:AFr :=
ifr 17 43 (b (o (r (p 6 0) (e qT)) .nil) qT (e (p 5 0))) [.inRegion (Y6 (cAt Tryz.f17 [1,0])) [1,2,3,4,5,6,7],.code (cAt Tryz.f17 [1,1])] none [] none 5 false false
def ztu:AObj :=
.loop .busy none 43 59 zv1 (zwM (cAt Tryz.f43 [1,1,1,1,0,1,0])) (cAt Tryz.f43 [1,1,1,1,0,1,0,0]) (cAt Tryz.f43 [1,1,1,1,0,1,0,1]) 14
def ztv:AFr :=
ifr 43 59 zv1 [.inRangeFunc 15,.inBlock 0,.code (cAt Tryz.f43 [1,1,1,1,1])] none [.coll 14] none 7 false false
def zkY:Value :=
.func (.yield 15) #[] #[]
def zo4:Code :=
cAt Tryz.f63 [1,0,1,0,0,1,1,1]
def zqm (ty0:TypeId) (ty1:TypeId) (ty2:TypeId) (om:AObj):Cfg :=
⟨ifr 63 47 (b (o (o (e (vl 140 0 12 25)) .nil) (o (e (i 0)) .nil)) ztk (b (o (e (i 12)) .nil) f (l (e t) ztk)))
 [.code (cAt Tryz.f63 [1,0,1,0,0,1,1,0,0]),.inBlock 1,.code zo4,.inLoop (cAt Tryz.f63 [1,0,1,0,0]),.inBlock 0,.code (cAt Tryz.f63 [1,1])] none [] none 140 false false,
 [ifr 110 92 (b (o (b (b (l (e (p 137 1)) Qd) (p 137 0) (l (e ztk) t)) f (b (l (e (p 137 1)) (i 0)) (.agg #[(i 0),(s []),(s [])]) (e (p 137 0)))) (b (b (l (e (p 137 0)) (p 137 0)) (p 137 1) (e (p 137 0))) (i 12) (b (l (e (i 12)) (i 12)) (p 137 0) (e (p 137 0))))) (p 137 0) (b (b (b (l (e (i 0)) (p 137 0)) (p 137 0) (e t)) (p 139 0) (b (l (e (i 0)) Qd) (p 137 0) (e Qd))) (p 138 0) (o (b (l (e (p 137 0)) (p 137 1)) (i 0) (e (p 137 0))) (b (l (e (i 12)) (i 12)) (p 137 0) (e (p 137 0))))))
 [.code (cAt Tryz.f110 [1,1,0,1,1]),.code (cAt Tryz.f110 [1,1,1])] (some ⟨(Y6 (cAt Tryz.f110 [1,1,0,1,0])),[18,19],[],(some 18)⟩) [] none 138 false false,ifr 108 52 (b (b (b (b (l (e Qd) (p 137 0)) (.agg #[Qd,(i 0)]) (o (e (p 137 0)) .nil)) (p 137 0) (l (l (e (i 0)) (c 110)) (p 137 0))) (p 135 0) (o (l (l (e (p 137 0)) (p 137 1)) (p 137 0)) (b (o (e f) .nil) (p 137 0) (e (p 137 0))))) (.func (.yield 136) #[] #[]) (o (o (l (l (e (p 137 0)) (p 137 0)) (p 137 0)) (b (l (e (c 110)) f) (p 137 0) (e (p 137 0)))) (b (l (l (e (p 137 1)) (i 0)) t) Qd (r Qd (e (p 137 0))))))
 [.inRegion (Y6 (cAt Tryz.f108 [0,1,1,0,0,1,0,1,1,0])) [1,2,3,4,5,6,7],.code (cAt Tryz.f108 [0,1,1,0,0,1,0,1,1,1]),.inBlock 1,.inLoop (cAt Tryz.f108 [0,1,1,0,0]),.inBlock 0,.inScope (cAt Tryz.f108 [0])] none [] none 137 false false,ifr 43 59 zts
 [.inRangeFunc 136,.inBlock 2,.code (cAt Tryz.f43 [1,1,1,1,0,1,0,1,0,1,1,1]),.inBlock 1] none [] (some 15) 134 false false,ifr 130 52 (b (b (b (b (o (e (i 132)) (e (i 133))) (i 132) (o (e zkY) .nil)) (p 13 0) (b (o (e (i 132)) .nil) f (o (e qT) .nil))) (p 12 0) (o (b (o (e f) .nil) (s [10]) (o (e t) .nil)) (o (o (e (i 132)) .nil) (l (e (s [10])) zmZ)))) zkY (b (o (b (o (e (i 132)) (e zmZ)) Qd (o (e Qd) .nil)) (o (o (e (i 0)) .nil) (o (e (i 132)) .nil))) (p 11 0) (o (b (o (e zmZ) .nil) (i 1) (o (e f) .nil)) (o (o (e Qd) .nil) (l (e (i 1)) (s [10]))))))
 [.inRegion (Y6 (cAt Tryz.f130 [1,0,0,0,0,1,1,1,0,0])) [2,3],.code (cAt Tryz.f130 [1,0,0,0,0,1,1,1,0,1]),.code (cAt Tryz.f130 [1,0,0,0,0,1,1,1,1]),.inBlock 3,.inLoop (cAt Tryz.f130 [1,0,0,0]),.inBlock 2,.code (cAt Tryz.f130 [1,1])] none [] none 16 false false,ztv,ztt,ztr],
 ⟨141,(b (b (b (b (e ztu) (.cells 1 (e (.slice none 0 0)) 70 none (0,0)) (o (o (o (e (.cells 1 (e Qd) 9 none (0,0))) .nil) .nil) .nil)) (zhv ty1) (b ztq (.cells 1 (e zmZ) 9 none (0,0)) zkX)) (zhw ty2) (b (r (.cells 1 (e (vl 133 0 1 3)) 70 none (0,0)) (o (o (o (e (.cells 2 (l (e (i 0)) Qd) 190 none (0,0))) .nil) .nil) .nil)) zo3 (l (o (o (o (e (.cells 2 (l (e (vl 131 0 14 29)) (i 0)) 68 (some 2) (0,0))) .nil) .nil) .nil) (.cells 1 (e (i 0)) 3 none (0,0))))) (zhu ty0) (o (b (r zdR (o (o (o (e (.loop .ready none 43 59 zts (zwM (cAt Tryz.f43 [1,1,1,1,0,1,0,1,0,1,1,0,1,0])) (cAt Tryz.f43 [1,1,1,1,0,1,0,1,0,1,1,0,1,0,0]) (cAt Tryz.f43 [1,1,1,1,0,1,0,1,0,1,1,0,1,0,1]) 14)) .nil) .nil) .nil)) om (r (.cells 1 (e (s [10])) 9 none (0,0)) (o (o (o (e (.cells 12 (b (b (b (e (c 113)) (c 101) (e (c 97))) (c 111) (l (e (c 111)) (c 50))) (c 110) (b (l (e (c 117)) (c 32)) (c 100) (l (e (c 116)) (c 32)))) 5 (some 1) (1,0))) .nil) .nil) .nil))) (b (r (.cells 1 (e (i 133)) 3 none (0,0)) zkX) zdR (l (o (o (o (e (.cells 2 (l (e (.slice none 0 0)) (i 133)) 68 none (0,0))) .nil) .nil) .nil) (.dfr true)))))⟩⟩
set_option maxRecDepth 1000000 in
theorem ztw (ty0:TypeId) (ty1:TypeId) (ty2:TypeId) (n1 n2 k:Nat):zdG Tryz.prog Tryz.runF 5 20000 [0,1,3,4,5,6,7,8,9,10,11,12,13,14,15,131,133,134,135,136,137,138,139,140] (zql ty0 ty1 ty2 (Zc true n1 n2 k)) = some (zqm ty0 ty1 ty2 (Zc true n1 n2 k)):=by kernel_rfl
set_option maxRecDepth 1000000 in
theorem ztx (ty0:TypeId) (ty1:TypeId) (ty2:TypeId) (n1 n2 k:Nat):zdG Tryz.prog Tryz.runF 5 20000 [0,1,3,4,5,6,7,8,9,10,11,12,13,14,15,131,133,134,135,136,137,138,139,140] (zql ty0 ty1 ty2 (Zc false n1 n2 k)) = some (zqm ty0 ty1 ty2 (Zc false n1 n2 k)):=by kernel_rfl
end Go.Proofs.YtgpccllhdcggdaaGreatDoor
