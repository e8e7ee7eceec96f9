import Derived.Test.YtgpccllhdcggdaaGreatDoorXM
set_option linter.unusedSimpArgs false
set_option linter.unusedVariables false
noncomputable section
namespace Go.Proofs.YtgpccllhdcggdaaGreatDoor
open Go.X Go.Eng
set_option maxRecDepth 100000
theorem zuK:Go.Eng.KeyT Tryz.prog 112:=Go.Eng.KeyT.pair (e:=3) (q:=.i64) ⟨by kernel_rfl,by kernel_rfl,by kernel_rfl,by kernel_rfl⟩ (by kernel_rfl) ⟨291,by kernel_rfl⟩ (Go.deep_law_laid (by kernel_rfl) (m:=2) (by omega) (of_decide_eq_true (by kernel_rfl)) (by kernel_rfl) (by kernel_rfl)) (by kernel_rfl)
theorem zxj:Go.Eng.KeyT Tryz.prog 9:=Go.Eng.KeyT.str (by kernel_rfl)
def zuL (t:TypeId):Bool:=Nat.beq t 112 || Nat.beq t 9
theorem zlM (t:TypeId) (h:zuL t = true):Go.Eng.KeyT Tryz.prog t:=by
 simp only [zuL,Bool.or_eq_true] at h
 rcases h with h | h
 ·have:=Nat.eq_of_beq_eq_true h; subst this; exact zuK
 ·have:=Nat.eq_of_beq_eq_true h; subst this; exact zxj
def zuM:List (Option C):=[none,none,some .i64,some .i64,some .bool,some .u8,some .u8,none,none,some .str,some .str,some .str,some .u64,none,none,none,none,none,none,none,none,some .i32,some .l_Config,some .l_Contact,some .l_Command,some .Script,some .Script,none,none,none,some .i64,some .Fault,some .Fault,none,none,none,none,none,none,none,none,none,some .u64,some .ID,some .ID,some .Bundle,some .Bundle,some .Command,some .Command,none,none,none,none,none,none,none,some .a3_i64,some .Config,some .Config,none,none,none,none,some .l_u8,none,none,some .l_Word,some .Row,some .Row,none,some .l_Row,none,none,none,none,none,none,none,none,none,none,none,some .Contact,some .Contact,none,none,none,none,none,none,none,none,none,none,none,none,none,none,none,none,none,some .W3,some .W3,some .l_W3,none,none,some .U3,some .U3,none,none,none,some .Pair,some .Pair,none,none,none,none,some .l_str,some .Word,some .Word,none,none,none,none,none,none,none,none,none,some .l_i64,some .a6_i64,none,some .Use,some .Use,none,some .BI,some .l_BI,none,none,none,none,none,none,none,none,none,none,none,none,none,none,some .l_Use,none,none,none,none,none,none,some .u64,none,none,none,none,none,none,some .u8,none,none,none,none,none,some .l_U3,none,none,none,some .RUse,some .RUse,none,none,none,none,none,none,none,none,none,none,none,none,none,none,none,none,none,none,none,none,none,none,none,none,none,none,none,none,none,none,none,none,none,none,none,none,none,some .W3,some .W3,none,none,some .l_W3,none,none,none,none,none,none,none,none,none,none,none,none,none,none,none,none,none,none,none,none,some .u32,none,some .u64,none,none,none,none,none,none,none,none,none,none,none,none,none,none,none,none,none,none,none,none,none,none,none,some .u8,none,some .i32,some .i32,none,none,none,none,none,none,none,none,some .u16,none,none,none,some .i32,none,none,none,none,none,none,none,none,none,none]
abbrev rg (a b:Nat):List Nat:=List.range' a (b + 1 - a)
def ctx (wr:Nat) (l:List (XSpec Tryz.prog)):ze1 Tryz.prog:={ code:=fun t=>(zuM[t]?).getD none,wr:=wr,key:=zuL,keyed:=zlM,known:=l }
def zyq (wr:Nat) (l:List (XSpec Tryz.prog)) (_:List Unit) (w:List (zlv Tryz.prog)):ze1 Tryz.prog:={ code:=fun t=>(zuM[t]?).getD none,wr:=wr,key:=zuL,keyed:=zlM,known:=l,owned:=w }
def zyk (wr:Nat) (l:List (XSpec Tryz.prog)) (_:List Unit) (w:List (zlv Tryz.prog)) (u:List (ziR Tryz.prog)):ze1 Tryz.prog:={ code:=fun t=>(zuM[t]?).getD none,wr:=wr,key:=zuL,keyed:=zlM,known:=l,owned:=w,muts:=u }
def zF:Int->Option (RUse × Bool) :=
 fun kind_1 =>
 br (kind_1 == 1)
 (some ((⟨([115,117,98,109,105,116]:Bs),true,false,false,false,false,true,0,0,0⟩:RUse),true))
 (br (kind_1 == 2)
 (some ((⟨([111,112,101,110]:Bs),true,true,false,false,false,false,0,0,0⟩:RUse),true))
 (br (kind_1 == 3)
 (some ((⟨([99,108,111,115,101]:Bs),true,true,false,false,false,false,0,0,0⟩:RUse),true))
 (br (kind_1 == 4)
 (some ((⟨([116,105,99,107]:Bs),false,false,true,false,false,false,1,1000,0⟩:RUse),true))
 (br (kind_1 == 5)
 (some ((⟨([100,101,108,105,118,101,114]:Bs),true,true,true,false,false,false,0,63,0⟩:RUse),true))
 (br (kind_1 == 6)
 (some ((⟨([108,111,115,101]:Bs),true,true,true,false,false,false,0,63,0⟩:RUse),true))
 (br (kind_1 == 7)
 (some ((⟨([100,111,117,98,108,101]:Bs),true,true,true,false,false,false,0,63,0⟩:RUse),true))
 (br (kind_1 == 8)
 (some ((⟨([115,119,97,112]:Bs),true,true,true,true,false,false,0,63,63⟩:RUse),true))
 (br (kind_1 == 9)
 (some ((⟨([115,112,111,105,108]:Bs),true,true,true,true,true,false,0,63,1199⟩:RUse),true))
 (br (kind_1 == 10)
 (some ((⟨([99,117,116]:Bs),true,true,true,true,false,false,0,63,1199⟩:RUse),true))
 (br (kind_1 == 11)
 (some ((⟨([99,114,97,115,104]:Bs),true,false,false,false,false,false,0,0,0⟩:RUse),true))
 (br (kind_1 == 12)
 (some ((⟨([116,114,105,112]:Bs),true,false,true,true,false,false,0,1000,262144⟩:RUse),true))
 (br (kind_1 == 13)
 (some ((⟨([114,101,115,116,97,114,116]:Bs),true,false,false,false,false,false,0,0,0⟩:RUse),true))
 (br (kind_1 == 14)
 (some ((⟨([100,114,97,105,110]:Bs),false,false,true,false,false,false,1,1000,0⟩:RUse),true))
 (some ((⟨([]:Bs),false,false,false,false,false,false,0,0,0⟩:RUse),false)))))))))))))))
theorem zF.fn:FnT Tryz.prog 93 [.d .i64] [.RUse,.bool] zF:=zo (ctx 0 []) .no Tryz.func93 rfl
def zF.spec:=zg zF.fn
def yd:(RUse × Command)->Option Bool :=
 fun (u_1,c_2) =>
 (
 (
 br u_1.node
 (br (decide (c_2.Node < 1))
 (some true)
 (some (decide (16 < c_2.Node))))
 (some false):Option (Bool)).bind fun x_3 =>
 br x_3
 (some (.inr false))
 ((
 br u_1.other
 (br (decide (c_2.Other < 1))
 (some true)
 (br (decide (16 < c_2.Other))
 (some true)
 (some (c_2.Other == c_2.Node))))
 (some false):Option (Bool)).bind fun x_4 =>
 br x_4
 (some (.inr false))
 ((
 br u_1.n
 (br (decide (c_2.N < u_1.least))
 (some true)
 (some (decide (u_1.most < c_2.N))))
 (some false):Option (Bool)).bind fun x_5 =>
 br x_5
 (some (.inr false))
 ((
 br u_1.at_
 (br (decide (c_2.At < 0))
 (some true)
 (some (decide (u_1.far < c_2.At))))
 (some false):Option (Bool)).bind fun x_6 =>
 br x_6
 (some (.inr false))
 ((
 br u_1.by_
 (br (decide (c_2.By < 1))
 (some true)
 (some (decide (255 < c_2.By))))
 (some false):Option (Bool)).bind fun x_7 =>
 br x_7
 (some (.inr false))
 (some (.inl ())))))):Option ((Unit) ⊕ (Bool))).bind fun x_9 =>
 Sum.elim
 (fun _ =>
 some true)
 (fun x_8 =>
 some x_8) x_9
theorem yd.fn:FnT Tryz.prog 94 [.d .RUse,.d .Command] [.bool] yd:=zo (ctx 0 []) (.two .no (.two (.join (rg 4 82) [] [] [(.norm,[]),(.ret,[.slot 4 .bool none])] (.two (.join (rg 5 17) [] [] [(.norm,[.slot 5 .bool none])] .no) (.two .no (.two (.join (rg 18 37) [] [] [(.norm,[.slot 18 .bool none])] .no) (.two .no (.two (.join (rg 38 54) [] [] [(.norm,[.slot 38 .bool none])] .no) (.two .no (.two (.join (rg 55 69) [] [] [(.norm,[.slot 55 .bool none])] .no) (.two .no (.two (.join (rg 70 82) [] [] [(.norm,[.slot 70 .bool none])] .no) .no)))))))))) .no)) Tryz.func94 rfl
def yd.spec:=zg yd.fn
def zA:(Script × Int)->Option Bool :=
 fun (s_1,n_2) =>
 (qQ (σ:=Int) (ρ:=(Bool) ⊕ (Unit)) (fun i_3 =>
 br (decide (i_3 < (s_1.Configs.length:Int)))
 ((idx s_1.Configs i_3).bind fun x_4 =>
 br (x_4.Node == n_2)
 (some (.done (.inl true)))
 ((yj .i64 i_3 1).bind fun x_5 =>
 some (.next x_5)))
 (some (.done (.inr ())))) 0).bind fun x_7 =>
 Sum.elim
 (fun x_6 =>
 some x_6)
 (fun _ =>
 some false) x_7
theorem zA.fn:FnT Tryz.prog 95 [.d .Script,.d .i64] [.bool] zA:=zo (ctx 0 []) (.two .no (.two (.two .no (.loop (rg 4 20) [] [.slot 5 .i64 none] [(.ret,[.slot 4 .bool none]),(.exit 0,[])] .no)) .no)) Tryz.func95 rfl
def zA.spec:=zg zA.fn
def unu (g b:Bool) (k:Option Bool):Option Bool:=br g k (br b k (some false))
def zS:(RUse × Command)->Option Bool :=
 fun (u_1,c_2) =>
 unu u_1.node (c_2.Node == 0) (unu u_1.other (c_2.Other == 0) (unu u_1.n (c_2.N == 0) (unu u_1.at_ (c_2.At == 0) (unu u_1.by_ (c_2.By == 0) (br u_1.b (some true) (some ((c_2.Bundle.ID.Node == 0) && ((c_2.Bundle.ID.Seq == 0) && ((c_2.Bundle.ID.Off == 0) && ((c_2.Bundle.Dest == 0) && ((c_2.Bundle.Prio == 0) && ((c_2.Bundle.Born == 0) && ((c_2.Bundle.Life == 0) && ((c_2.Bundle.Total == 0) && (c_2.Bundle.Data == ([]:Bs))))))))))))))))
theorem zS.fn:FnT Tryz.prog 96 [.d .RUse,.d .Command] [.bool] zS:=zo (ctx 0 []) .no Tryz.func96 rfl
def zS.spec:=zg zS.fn
def zG:ID->Option Int :=
 fun id_1 =>
 br (decide (id_1.Node < 1))
 (some 2)
 (br (decide (16 < id_1.Node))
 (some 2)
 (br (decide (1099511627776 < id_1.Seq))
 (some 2)
 (br (decide (id_1.Off < 0))
 (some 2)
 (br (decide (20000 <= id_1.Off))
 (some 2)
 (some 0)))))
theorem zG.fn:FnT Tryz.prog 119 [.d .ID] [.i64] zG:=zo (ctx 0 []) .no Tryz.func119 rfl
def zG.spec:=zg zG.fn
def yn:Bundle->Option Int :=
 fun b_1 =>
 (zG b_1.ID).bind fun x_2 =>
 br (x_2 != 0)
 (some x_2)
 (br (decide (b_1.Dest < 1))
 (some 2)
 (br (decide (16 < b_1.Dest))
 (some 2)
 (br (decide (b_1.Prio < 0))
 (some 2)
 (br (decide (2 < b_1.Prio))
 (some 2)
 (br (decide (b_1.Born < 0))
 (some 2)
 (br (decide (1099511627776 < b_1.Born))
 (some 2)
 (br (decide (b_1.Life < 1))
 (some 2)
 (br (decide (1048576 < b_1.Life))
 (some 2)
 (br (decide (b_1.Total < 1))
 (some 2)
 (br (decide (20000 < b_1.Total))
 (some 2)
 (br ((b_1.Data.length:Int) == 0)
 (some 11)
 (br (decide (1000 < (b_1.Data.length:Int)))
 (some 4)
 ((yj .i64 b_1.ID.Off (b_1.Data.length:Int)).bind fun x_3 =>
 br (decide (b_1.Total < x_3))
 (some 12)
 (some 0))))))))))))))
theorem yn.fn:FnT Tryz.prog 97 [.d .Bundle] [.i64] yn:=zo (ctx 0 [zG.spec]) .no Tryz.func97 rfl
def yn.spec:=zg yn.fn
def ya:(Script × Command × Bool)->Option Int :=
 fun (s_1,c_2,every_3) =>
 (zF c_2.Kind).bind fun (x_4,x_5) =>
 (
 br (!x_5)
 (some (.inr 7))
 ((yd (x_4,c_2)).bind fun x_6 =>
 br (!x_6)
 (some (.inr 2))
 ((
 br (!every_3)
 (br x_4.node
 ((zA (s_1,c_2.Node)).bind fun x_7 =>
 br (!x_7)
 (some true)
 (br x_4.other
 ((zA (s_1,c_2.Other)).bind fun x_8 =>
 some (!x_8))
 (some false)))
 (br x_4.other
 ((zA (s_1,c_2.Other)).bind fun x_9 =>
 some (!x_9))
 (some false)))
 (some false):Option (Bool)).bind fun x_10 =>
 br x_10
 (some (.inr 8))
 ((zS (x_4,c_2)).bind fun x_11 =>
 br (!x_11)
 (some (.inr 3))
 (br x_4.b
 ((yn c_2.Bundle).bind fun x_12 =>
 some (.inr x_12))
 (some (.inl ())))))):Option ((Unit) ⊕ (Int))).bind fun x_14 =>
 Sum.elim
 (fun _ =>
 some 0)
 (fun x_13 =>
 some x_13) x_14
theorem ya.fn:FnT Tryz.prog 61 [.d .Script,.d .Command,.d .bool] [.i64] ya:=zo (ctx 0 [zF.spec,yd.spec,zA.spec,zS.spec,yn.spec]) (.two .no (.two .no (.two (.join ([6]++rg 15 58) [] [] [(.norm,[]),(.ret,[.slot 6 .i64 none])] (.two .no (.two .no (.two .no (.two .no (.two (.join (rg 23 47) [] [] [(.norm,[.slot 23 .bool none])] .no) .no)))))) .no))) Tryz.func61 rfl
def ya.spec:=zg ya.fn
def yI:(Script × Command)->Option Int :=
 fun (s_1,c_2) =>
 (ya (s_1,c_2,false)).bind fun x_3 =>
 some x_3
theorem yI.fn:FnT Tryz.prog 26 [.d .Script,.d .Command] [.i64] yI:=zo (ctx 0 [ya.spec]) .no Tryz.func26 rfl
def yI.spec:=zg yI.fn
def zp:Int->Option (List UInt8) :=
 fun n_1 =>
 (qQ (σ:=Int × (List UInt8)) (ρ:=List UInt8) (fun (n_2,out_3) =>
 br (decide (0 < n_2))
 ((zf6 n_2 10).bind fun x_4 =>
 (yj .u64 48 x_4).bind fun x_5 =>
 (Zz ([Go.IntKind.wrap .u8 x_5]:List Int)).bind fun x_6 =>
 (zO x_6 out_3).bind fun x_7 =>
 (zbz .u64 n_2 10).bind fun x_8 =>
 some (.next (x_8,x_7)))
 (br (out_3 == ([]:Bs))
 ((zf6 n_2 10).bind fun x_9 =>
 (yj .u64 48 x_9).bind fun x_10 =>
 (Zz ([Go.IntKind.wrap .u8 x_10]:List Int)).bind fun x_11 =>
 (zO x_11 out_3).bind fun x_12 =>
 (zbz .u64 n_2 10).bind fun x_13 =>
 some (.next (x_13,x_12)))
 (some (.done out_3)))) (n_1,([]:Bs))).bind fun out_14 =>
 some out_14
theorem zp.fn:FnT Tryz.prog 76 [.d .u64] [.str] zp:=zo (ctx 0 []) (.two .no (.two .no (.two (.loop ([0]++rg 3 19) [] [.slot 0 .u64 none,.slot 3 .str none] [(.exit 0,[.slot 3 .str none])] .no) .no))) Tryz.func76 rfl
def zp.spec:=zg zp.fn
def za:Int->Option (List UInt8) :=
 fun n_1 =>
 (zp (Go.IntKind.wrap .u64 n_1)).bind fun x_2 =>
 some x_2
theorem za.fn:FnT Tryz.prog 75 [.d .i64] [.str] za:=zo (ctx 0 [zp.spec]) .no Tryz.func75 rfl
def za.spec:=zg za.fn
def yE (self_:Int->Option (List UInt8)):Int->Option (List UInt8) :=
 fun n_1 =>
 br (decide (n_1 < 10))
 ((yj .u64 48 n_1).bind fun x_2 =>
 (Zz ([Go.IntKind.wrap .u8 x_2]:List Int)).bind fun x_3 =>
 some x_3)
 ((zbz .u64 n_1 10).bind fun x_4 =>
 (self_ x_4).bind fun x_5 =>
 (zf6 n_1 10).bind fun x_6 =>
 (yj .u64 48 x_6).bind fun x_7 =>
 (Zz ([Go.IntKind.wrap .u8 x_7]:List Int)).bind fun x_8 =>
 (zO x_5 x_8).bind fun x_9 =>
 some x_9)
def ze:Nat->Int->Option (List UInt8)
 | 0=>fun _=>none
 | k + 1=>yE (ze k)
def zy:Int->Option (List UInt8):=ze 30
def zy.ann:Ann:=.no
theorem ze.step (k:Nat) (ih:FnT Tryz.prog 144 [.d .u64] [.str] (ze k)):FnT Tryz.prog 144 [.d .u64] [.str] (ze (k + 1)) :=
 FnT.of (X:=ctx 0 [XSpec.t 144 [.d .u64] [.str] (ze k) (by kernel_rfl) ih]) Tryz.mixed zy.ann Tryz.func144 rfl (by kernel_rfl) (Nat.le_of_ble_eq_true rfl) (fun x=>by kernel_rfl)
theorem ze.fn:∀ k,FnT Tryz.prog 144 [.d .u64] [.str] (ze k)
 | 0=>fun x r h=>by cases h
 | k + 1=>ze.step k (ze.fn k)
theorem zy.fn:FnT Tryz.prog 144 [.d .u64] [.str] zy:=ze.fn 30
def zy.spec:XSpec Tryz.prog:=XSpec.t 144 [.d .u64] [.str] zy (by kernel_rfl) zy.fn
def yJ:ID->Option ((List UInt8) × Int) :=
 fun id_1 =>
 (zG id_1).bind fun x_2 =>
 br (x_2 != 0)
 (some (([]:Bs),x_2))
 ((zy (Go.IntKind.wrap .u64 id_1.Node)).bind fun x_3 =>
 (zO x_3 ([46]:Bs)).bind fun x_4 =>
 (zy id_1.Seq).bind fun x_5 =>
 (zO x_4 x_5).bind fun x_6 =>
 (zO x_6 ([46]:Bs)).bind fun x_7 =>
 (zy (Go.IntKind.wrap .u64 id_1.Off)).bind fun x_8 =>
 (zO x_7 x_8).bind fun x_9 =>
 some (x_9,0))
theorem yJ.fn:FnT Tryz.prog 128 [.d .ID] [.str,.i64] yJ:=zo (ctx 0 [zG.spec,zy.spec]) .no Tryz.func128 rfl
def yJ.spec:=zg yJ.fn
def yy:Int->Option Bool :=
 fun c_1 =>
 br (decide (33 <= c_1))
 (br (decide (c_1 <= 126))
 (br (c_1 != 34)
 (br (c_1 != 61)
 (some (c_1 != 92))
 (some false))
 (some false))
 (some false))
 (some false)
theorem yy.fn:FnT Tryz.prog 154 [.d .u8] [.bool] yy:=zo (ctx 0 []) .no Tryz.func154 rfl
def yy.spec:=zg yy.fn
def zZ:List UInt8->Option Bool :=
 fun s_1 =>
 (qQ (σ:=Int) (ρ:=(Bool) ⊕ (Unit)) (fun i_2 =>
 br (decide (i_2 < (s_1.length:Int)))
 ((za7 s_1 i_2).bind fun x_3 =>
 (yy x_3).bind fun x_4 =>
 br (!x_4)
 (some (.done (.inl false)))
 ((yj .i64 i_2 1).bind fun x_5 =>
 some (.next x_5)))
 (some (.done (.inr ())))) 0).bind fun x_8 =>
 Sum.elim
 (fun x_6 =>
 some x_6)
 (fun _ =>
 br (!(s_1 == ([]:Bs)))
 ((za7 s_1 0).bind fun x_7 =>
 some (x_7 != 35))
 (some false)) x_8
theorem zZ.fn:FnT Tryz.prog 145 [.d .str] [.bool] zZ:=zo (ctx 0 [yy.spec]) (.two .no (.two (.two .no (.loop (rg 2 14) [] [.slot 3 .i64 none] [(.ret,[.slot 2 .bool none]),(.exit 0,[])] .no)) .no)) Tryz.func145 rfl
def zZ.spec:=zg zZ.fn
def yo:List UInt8->Option (List UInt8) :=
 fun s_1 =>
 (zZ s_1).bind fun x_2 =>
 br x_2
 (some s_1)
 ((qQ (σ:=(List Int) × Int) (ρ:=List Int) (fun (out_3,i_4) =>
 br (decide (i_4 < (s_1.length:Int)))
 ((za7 s_1 i_4).bind fun x_5 =>
 br (x_5 == 34)
 ((app 1 out_3 ([92,x_5]:List Int)).bind fun x_6 =>
 (yj .i64 i_4 1).bind fun x_7 =>
 some (.next (x_6,x_7)))
 (br (x_5 == 92)
 ((app 1 out_3 ([92,x_5]:List Int)).bind fun x_8 =>
 (yj .i64 i_4 1).bind fun x_9 =>
 some (.next (x_8,x_9)))
 (br (x_5 == 10)
 ((app 1 out_3 ([92,110]:List Int)).bind fun x_10 =>
 (yj .i64 i_4 1).bind fun x_11 =>
 some (.next (x_10,x_11)))
 (br (decide (x_5 < 32))
 ((zbz .u8 x_5 16).bind fun x_12 =>
 (za7 ([48,49,50,51,52,53,54,55,56,57,97,98,99,100,101,102]:Bs) x_12).bind fun x_13 =>
 (zf6 x_5 16).bind fun x_14 =>
 (za7 ([48,49,50,51,52,53,54,55,56,57,97,98,99,100,101,102]:Bs) x_14).bind fun x_15 =>
 (app 1 out_3 ([92,120,x_13,x_15]:List Int)).bind fun x_16 =>
 (yj .i64 i_4 1).bind fun x_17 =>
 some (.next (x_16,x_17)))
 (br (decide (126 < x_5))
 ((zbz .u8 x_5 16).bind fun x_18 =>
 (za7 ([48,49,50,51,52,53,54,55,56,57,97,98,99,100,101,102]:Bs) x_18).bind fun x_19 =>
 (zf6 x_5 16).bind fun x_20 =>
 (za7 ([48,49,50,51,52,53,54,55,56,57,97,98,99,100,101,102]:Bs) x_20).bind fun x_21 =>
 (app 1 out_3 ([92,120,x_19,x_21]:List Int)).bind fun x_22 =>
 (yj .i64 i_4 1).bind fun x_23 =>
 some (.next (x_22,x_23)))
 ((app 1 out_3 ([x_5]:List Int)).bind fun x_24 =>
 (yj .i64 i_4 1).bind fun x_25 =>
 some (.next (x_24,x_25))))))))
 (some (.done out_3))) (([34]:List Int),0)).bind fun out_26 =>
 (app 1 out_26 ([34]:List Int)).bind fun x_27 =>
 (Zz x_27).bind fun x_28 =>
 some x_28)
theorem yo.fn:FnT Tryz.prog 129 [.d .str] [.str] yo:=zo (ctx 0 [zZ.spec]) (.two .no (.two .no (.two .no (.two .no (.two (.two .no (.loop ([4,5,6]++rg 11 58) [] [.slot 4 .l_u8 (some (10,5)),.slot 5 .i64 none] [(.exit 0,[.slot 4 .l_u8 (some (10,5))])] .no)) .no))))) Tryz.func129 rfl
def yo.spec:=zg yo.fn
def zT:Bundle->Option (List UInt8) :=
 fun b_1 =>
 (yJ b_1.ID).bind fun (x_2,x_3) =>
 (zO ([32,105,100,61]:Bs) x_2).bind fun x_4 =>
 (zO x_4 ([32,116,111,61]:Bs)).bind fun x_5 =>
 (za b_1.Dest).bind fun x_6 =>
 (zO x_5 x_6).bind fun x_7 =>
 (zO x_7 ([32,112,114,105,111,61]:Bs)).bind fun x_8 =>
 (za b_1.Prio).bind fun x_9 =>
 (zO x_8 x_9).bind fun x_10 =>
 (zO x_10 ([32,98,111,114,110,61]:Bs)).bind fun x_11 =>
 (za b_1.Born).bind fun x_12 =>
 (zO x_11 x_12).bind fun x_13 =>
 (zO x_13 ([32,108,105,102,101,61]:Bs)).bind fun x_14 =>
 (za b_1.Life).bind fun x_15 =>
 (zO x_14 x_15).bind fun x_16 =>
 (zO x_16 ([32,116,111,116,97,108,61]:Bs)).bind fun x_17 =>
 (za b_1.Total).bind fun x_18 =>
 (zO x_17 x_18).bind fun x_19 =>
 (zO x_19 ([32,100,97,116,97,61]:Bs)).bind fun x_20 =>
 (yo b_1.Data).bind fun x_21 =>
 (zO x_20 x_21).bind fun x_22 =>
 some x_22
theorem zT.fn:FnT Tryz.prog 106 [.d .Bundle] [.str] zT:=zo (ctx 0 [yJ.spec,za.spec,yo.spec]) .no Tryz.func106 rfl
def zT.spec:=zg zT.fn
def yK:Command->Option (List UInt8) :=
 fun c_1 =>
 (zF c_1.Kind).bind fun (x_2,x_3) =>
 (
 br x_2.node
 ((zO x_2.word ([32]:Bs)).bind fun x_4 =>
 (za c_1.Node).bind fun x_5 =>
 (zO x_4 x_5).bind fun x_6 =>
 some x_6)
 (some x_2.word):Option (List UInt8)).bind fun out_7 =>
 (
 br x_2.other
 ((zO out_7 ([32]:Bs)).bind fun x_8 =>
 (za c_1.Other).bind fun x_9 =>
 (zO x_8 x_9).bind fun x_10 =>
 some x_10)
 (some out_7):Option (List UInt8)).bind fun out_11 =>
 (
 br x_2.n
 ((zO out_11 ([32]:Bs)).bind fun x_12 =>
 (za c_1.N).bind fun x_13 =>
 (zO x_12 x_13).bind fun x_14 =>
 some x_14)
 (some out_11):Option (List UInt8)).bind fun out_15 =>
 (
 br x_2.at_
 ((zO out_15 ([32]:Bs)).bind fun x_16 =>
 (za c_1.At).bind fun x_17 =>
 (zO x_16 x_17).bind fun x_18 =>
 some x_18)
 (some out_15):Option (List UInt8)).bind fun out_19 =>
 (
 br x_2.by_
 ((zO out_19 ([32]:Bs)).bind fun x_20 =>
 (za c_1.By).bind fun x_21 =>
 (zO x_20 x_21).bind fun x_22 =>
 some x_22)
 (some out_19):Option (List UInt8)).bind fun out_23 =>
 (
 br x_2.b
 ((zT c_1.Bundle).bind fun x_24 =>
 (zO out_23 x_24).bind fun x_25 =>
 some x_25)
 (some out_23):Option (List UInt8)).bind fun out_26 =>
 some out_26
theorem yK.fn:FnT Tryz.prog 77 [.d .Command] [.str] yK:=zo (ctx 0 [zF.spec,za.spec,zT.spec]) (.two .no (.two .no (.two .no (.two (.join ([5]++rg 14 21) [] [.slot 5 .str none] [(.norm,[.slot 5 .str none])] .no) (.two (.join ([5]++rg 22 29) [] [.slot 5 .str none] [(.norm,[.slot 5 .str none])] .no) (.two (.join ([5]++rg 30 37) [] [.slot 5 .str none] [(.norm,[.slot 5 .str none])] .no) (.two (.join ([5]++rg 38 45) [] [.slot 5 .str none] [(.norm,[.slot 5 .str none])] .no) (.two (.join ([5]++rg 46 53) [] [.slot 5 .str none] [(.norm,[.slot 5 .str none])] .no) (.two (.join ([5]++rg 54 60) [] [.slot 5 .str none] [(.norm,[.slot 5 .str none])] .no) .no))))))))) Tryz.func77 rfl
def yK.spec:=zg yK.fn
def yL:Command->Option ((List UInt8) × Int) :=
 fun c_1 =>
 (ya ((⟨([]:List Config),([]:List Contact),([]:List Command)⟩:Script),c_1,true)).bind fun x_2 =>
 br (x_2 != 0)
 (some (([]:Bs),x_2))
 ((yK c_1).bind fun x_3 =>
 br (decide (1000 < (x_3.length:Int)))
 (some (([]:Bs),4))
 ((zO x_3 ([10]:Bs)).bind fun x_4 =>
 some (x_4,0)))
theorem yL.fn:FnT Tryz.prog 37 [.d .Command] [.str,.i64] yL:=zo (ctx 0 [ya.spec,yK.spec]) .no Tryz.func37 rfl
def yL.spec:=zg yL.fn
def zf:(Int × Int × Int)->Option Bool :=
 fun (n_1,low_2,high_3) =>
 br (decide (low_2 <= n_1))
 (some (decide (n_1 <= high_3)))
 (some false)
theorem zf.fn:FnT Tryz.prog 57 [.d .i64,.d .i64,.d .i64] [.bool] zf:=zo (ctx 0 []) .no Tryz.func57 rfl
def zf.spec:=zg zf.fn
def yp:Config->Option Int :=
 fun c_1 =>
 (
 (zf (c_1.Node,1,16)).bind fun x_2 =>
 br x_2
 (br (decide (1 <= c_1.Quota))
 (br (decide (c_1.Quota <= 1099511627776))
 (br (decide (1 <= c_1.Largest))
 (br (decide (c_1.Largest <= 1200))
 (br (decide (c_1.Window <= c_1.Quota))
 (some (decide (c_1.Low <= c_1.Quota)))
 (some false))
 (some false))
 (some false))
 (some false))
 (some false))
 (some false):Option (Bool)).bind fun ok_3 =>
 (
 br ok_3
 ((zf (c_1.Retry,1,1000)).bind fun x_4 =>
 br x_4
 ((zf (c_1.RetryMax,c_1.Retry,100000)).bind fun x_5 =>
 br x_5
 ((zf (c_1.Bypass,0,100)).bind fun x_6 =>
 some x_6)
 (some false))
 (some false))
 (some false):Option (Bool)).bind fun ok_7 =>
 (qQ (σ:=Bool × Int) (ρ:=Bool) (fun (ok_8,i_9) =>
 (
 br (decide (i_9 < 3))
 (some (.inl ()))
 (some (.inr ())):Option ((Unit) ⊕ (Unit))).bind fun x_14 =>
 Sum.elim
 (fun _ =>
 (
 br ok_8
 (br (inB i_9 3)
 ((idx (qi c_1.Weights) i_9).bind fun x_10 =>
 (zf (x_10,1,100)).bind fun x_11 =>
 some x_11)
 (none))
 (some false):Option (Bool)).bind fun ok_12 =>
 (yj .i64 i_9 1).bind fun x_13 =>
 some (.next (ok_12,x_13)))
 (fun _ =>
 some (.done ok_8)) x_14) (ok_7,0)).bind fun ok_15 =>
 (
 br ok_15
 ((zf (c_1.RateN,0,1048576)).bind fun x_16 =>
 br x_16
 ((zf (c_1.RateD,1,1048576)).bind fun x_17 =>
 br x_17
 ((zf (c_1.Burst,1,1099511627776)).bind fun x_18 =>
 br x_18
 ((zf (c_1.Blocks,8,4096)).bind fun x_19 =>
 br x_19
 ((zf (c_1.Rate,0,1048576)).bind fun x_20 =>
 some x_20)
 (some false))
 (some false))
 (some false))
 (some false))
 (some false):Option (Bool)).bind fun ok_21 =>
 (
 br (!ok_21)
 (some (.inr 2))
 (some (.inl ())):Option ((Unit) ⊕ (Int))).bind fun x_23 =>
 Sum.elim
 (fun _ =>
 some 0)
 (fun x_22 =>
 some x_22) x_23
theorem yp.fn:FnT Tryz.prog 24 [.d .Config] [.i64] yp:=zo (ctx 0 [zf.spec]) (.two .no (.two (.join ([3]++rg 5 41) [] [] [(.norm,[.slot 3 .bool none])] .no) (.two (.join ([3]++rg 42 59) [] [.slot 3 .bool none] [(.norm,[.slot 3 .bool none])] .no) (.two (.two .no (.loop ([3,4]++rg 60 71) [] [.slot 3 .bool none,.slot 4 .i64 none] [(.exit 0,[.slot 3 .bool none])] (.two (.join [60,61] [] [] [(.norm,[]),(.exit 0,[])] .no) (.two (.join ([3]++rg 64 71) [] [.slot 3 .bool none] [(.norm,[.slot 3 .bool none])] .no) .no)))) (.two (.join ([3]++rg 72 97) [] [.slot 3 .bool none] [(.norm,[.slot 3 .bool none])] .no) (.two (.join [2,98,99] [] [] [(.norm,[]),(.ret,[.slot 2 .i64 none])] .no) .no)))))) Tryz.func24 rfl
def yp.spec:=zg yp.fn
def yM:Contact->Option Int :=
 fun c_1 =>
 br (decide (c_1.From < 1))
 (some 2)
 (br (decide (16 < c_1.From))
 (some 2)
 (br (decide (c_1.To < 1))
 (some 2)
 (br (decide (16 < c_1.To))
 (some 2)
 (br (c_1.From == c_1.To)
 (some 2)
 (br (decide (c_1.Start < 0))
 (some 2)
 (br (decide (c_1.End <= c_1.Start))
 (some 2)
 (br (decide (1099511627776 < c_1.End))
 (some 2)
 (br (decide (c_1.Rate < 1))
 (some 2)
 (br (decide (1048576 < c_1.Rate))
 (some 2)
 (br (decide (c_1.Delay < 0))
 (some 2)
 (br (decide (1048576 < c_1.Delay))
 (some 2)
 (some 0))))))))))))
theorem yM.fn:FnT Tryz.prog 58 [.d .Contact] [.i64] yM:=zo (ctx 0 []) .no Tryz.func58 rfl
def yM.spec:=zg yM.fn
def ye:(Contact × Contact)->Option Bool :=
 fun (a_1,b_2) =>
 br (a_1.Start != b_2.Start)
 (some (decide (a_1.Start < b_2.Start)))
 (br (a_1.From != b_2.From)
 (some (decide (a_1.From < b_2.From)))
 (some (decide (a_1.To < b_2.To))))
theorem ye.fn:FnT Tryz.prog 59 [.d .Contact,.d .Contact] [.bool] ye:=zo (ctx 0 []) .no Tryz.func59 rfl
def ye.spec:=zg ye.fn
def yg:(Contact × Contact)->Option Bool :=
 fun (a_1,b_2) =>
 br (a_1.From == b_2.From)
 (some (a_1.To == b_2.To))
 (some false)
theorem yg.fn:FnT Tryz.prog 60 [.d .Contact,.d .Contact] [.bool] yg:=zo (ctx 0 []) .no Tryz.func60 rfl
def yg.spec:=zg yg.fn
def z6:List Contact->Option (Int × Int) :=
 fun l_1 =>
 br (decide (200 < (l_1.length:Int)))
 (some (5,0))
 ((qQ (σ:=Int) (ρ:=(Int × Int) ⊕ (Unit)) (fun i_2 =>
 br (decide (i_2 < (l_1.length:Int)))
 ((idx l_1 i_2).bind fun x_3 =>
 (yM x_3).bind fun x_4 =>
 br (x_4 != 0)
 (some (.done (.inl (2,i_2))))
 (br (decide (0 < i_2))
 ((zf5 .i64 i_2 1).bind fun x_5 =>
 (idx l_1 x_5).bind fun x_6 =>
 (idx l_1 i_2).bind fun x_7 =>
 (ye (x_6,x_7)).bind fun x_8 =>
 br (!x_8)
 (some (.done (.inl (19,i_2))))
 ((qQ (σ:=Int) (ρ:=(Int × Int) ⊕ (Unit)) (fun k_9 =>
 br (decide (k_9 < i_2))
 ((idx l_1 k_9).bind fun x_10 =>
 (idx l_1 i_2).bind fun x_11 =>
 (yg (x_10,x_11)).bind fun x_12 =>
 br x_12
 ((idx l_1 k_9).bind fun x_13 =>
 (idx l_1 i_2).bind fun x_14 =>
 br (decide (x_14.Start < x_13.End))
 (some (.done (.inl (12,i_2))))
 ((yj .i64 k_9 1).bind fun x_15 =>
 some (.next x_15)))
 ((yj .i64 k_9 1).bind fun x_16 =>
 some (.next x_16)))
 (some (.done (.inr ())))) 0).bind fun x_20 =>
 Sum.elim
 (fun (x_17,x_18) =>
 some (.done (.inl (x_17,x_18))))
 (fun _ =>
 (yj .i64 i_2 1).bind fun x_19 =>
 some (.next x_19)) x_20))
 ((qQ (σ:=Int) (ρ:=(Int × Int) ⊕ (Unit)) (fun k_21 =>
 br (decide (k_21 < i_2))
 ((idx l_1 k_21).bind fun x_22 =>
 (idx l_1 i_2).bind fun x_23 =>
 (yg (x_22,x_23)).bind fun x_24 =>
 br x_24
 ((idx l_1 k_21).bind fun x_25 =>
 (idx l_1 i_2).bind fun x_26 =>
 br (decide (x_26.Start < x_25.End))
 (some (.done (.inl (12,i_2))))
 ((yj .i64 k_21 1).bind fun x_27 =>
 some (.next x_27)))
 ((yj .i64 k_21 1).bind fun x_28 =>
 some (.next x_28)))
 (some (.done (.inr ())))) 0).bind fun x_32 =>
 Sum.elim
 (fun (x_29,x_30) =>
 some (.done (.inl (x_29,x_30))))
 (fun _ =>
 (yj .i64 i_2 1).bind fun x_31 =>
 some (.next x_31)) x_32)))
 (some (.done (.inr ())))) 0).bind fun x_35 =>
 Sum.elim
 (fun (x_33,x_34) =>
 some (x_33,x_34))
 (fun _ =>
 some (0,0)) x_35)
theorem z6.fn:FnT Tryz.prog 25 [.d .l_Contact] [.i64,.i64] z6:=zo (ctx 0 [yM.spec,ye.spec,yg.spec]) (.two .no (.two .no (.two (.two .no (.loop ([2,3,4,5]++rg 9 65) [] [.slot 4 .i64 none] [(.ret,[.slot 2 .i64 none,.slot 3 .i64 none]),(.exit 0,[])] (.two .no (.two (.two .no (.two .no (.two .no (.loop ([2,3,5]++rg 38 65) [] [.slot 5 .i64 none] [(.ret,[.slot 2 .i64 none,.slot 3 .i64 none]),(.exit 2,[])] .no)))) .no)))) .no))) Tryz.func25 rfl
def z6.spec:=zg z6.fn
def zk:Script->Option Fault :=
 fun s_1 =>
 br ((s_1.Configs.length:Int) == 0)
 (some (⟨8,0⟩:Fault))
 (br (decide (16 < (s_1.Configs.length:Int)))
 (some (⟨5,0⟩:Fault))
 ((qQ (σ:=Int × Fault) (ρ:=(Fault) ⊕ (Fault)) (fun (i_2,x_3) =>
 br (decide (i_2 < (s_1.Configs.length:Int)))
 ((idx s_1.Configs i_2).bind fun x_4 =>
 (yp (⟨x_4.Node,x_4.Quota,x_4.Largest,x_4.Window,x_4.Low,x_4.Retry,x_4.RetryMax,x_4.Bypass,(qi x_4.Weights),x_4.RateN,x_4.RateD,x_4.Burst,x_4.Blocks,x_4.Rate⟩:Config)).bind fun x_5 =>
 br (x_5 != 0)
 (some (.done (.inl (⟨x_5,i_2⟩:Fault))))
 (br (decide (0 < i_2))
 ((idx s_1.Configs i_2).bind fun x_6 =>
 (zf5 .i64 i_2 1).bind fun x_7 =>
 (idx s_1.Configs x_7).bind fun x_8 =>
 br (decide (x_6.Node <= x_8.Node))
 (some (.done (.inl (⟨19,i_2⟩:Fault))))
 ((yj .i64 i_2 1).bind fun x_9 =>
 some (.next (x_9,x_3))))
 ((yj .i64 i_2 1).bind fun x_10 =>
 some (.next (x_10,x_3)))))
 (some (.done (.inr x_3)))) (0,(⟨0,0⟩:Fault))).bind fun x_23 =>
 Sum.elim
 (fun x_11 =>
 some x_11)
 (fun x_12 =>
 (z6 s_1.Plan).bind fun (x_13,x_14) =>
 br (x_13 != 0)
 (some (⟨x_13,x_14⟩:Fault))
 (br (decide (400 < (s_1.Commands.length:Int)))
 (some (⟨5,0⟩:Fault))
 ((qQ (σ:=Int × Fault) (ρ:=(Fault) ⊕ (Fault)) (fun (i_15,x_16) =>
 br (decide (i_15 < (s_1.Commands.length:Int)))
 ((idx s_1.Commands i_15).bind fun x_17 =>
 (yI (s_1,x_17)).bind fun x_18 =>
 br (x_18 != 0)
 (some (.done (.inl (⟨x_18,i_15⟩:Fault))))
 ((yj .i64 i_15 1).bind fun x_19 =>
 some (.next (x_19,x_16))))
 (some (.done (.inr x_16)))) (0,x_12)).bind fun x_22 =>
 Sum.elim
 (fun x_20 =>
 some x_20)
 (fun x_21 =>
 some (⟨0,0⟩:Fault)) x_22))) x_23))
theorem zk.fn:FnT Tryz.prog 8 [.d .Script] [.Fault] zk:=zo (ctx 0 [yp.spec,z6.spec,yI.spec]) (.two .no (.two .no (.two (.two .no (.loop ([3,4]++rg 20 57) [1] [.slot 3 .i64 none,.box 1 .Fault] [(.ret,[.box 1 .Fault]),(.exit 1,[.box 1 .Fault])] .no)) (.two .no (.two .no (.two .no (.two (.two .no (.loop ([5,7]++rg 74 92) [1] [.slot 7 .i64 none,.box 1 .Fault] [(.ret,[.box 1 .Fault]),(.exit 3,[.box 1 .Fault])] .no)) .no))))))) Tryz.func8 rfl
def zk.spec:=zg zk.fn
def zU:Config->Option (List UInt8) :=
 fun c_1 =>
 (za c_1.Node).bind fun x_2 =>
 (zO ([110,111,100,101,32]:Bs) x_2).bind fun x_3 =>
 (zO x_3 ([32,113,117,111,116,97,61]:Bs)).bind fun x_4 =>
 (zp c_1.Quota).bind fun x_5 =>
 (zO x_4 x_5).bind fun x_6 =>
 (zO x_6 ([32,108,97,114,103,101,115,116,61]:Bs)).bind fun x_7 =>
 (zp c_1.Largest).bind fun x_8 =>
 (zO x_7 x_8).bind fun x_9 =>
 (zO x_9 ([32,119,105,110,100,111,119,61]:Bs)).bind fun x_10 =>
 (zp c_1.Window).bind fun x_11 =>
 (zO x_10 x_11).bind fun x_12 =>
 (zO x_12 ([32,108,111,119,61]:Bs)).bind fun x_13 =>
 (zp c_1.Low).bind fun x_14 =>
 (zO x_13 x_14).bind fun x_15 =>
 (zO x_15 ([32,114,101,116,114,121,61]:Bs)).bind fun x_16 =>
 (za c_1.Retry).bind fun x_17 =>
 (zO x_16 x_17).bind fun x_18 =>
 (zO x_18 ([32,114,101,116,114,121,109,97,120,61]:Bs)).bind fun x_19 =>
 (za c_1.RetryMax).bind fun x_20 =>
 (zO x_19 x_20).bind fun x_21 =>
 (zO x_21 ([32,98,121,112,97,115,115,61]:Bs)).bind fun x_22 =>
 (za c_1.Bypass).bind fun x_23 =>
 (zO x_22 x_23).bind fun x_24 =>
 (zO x_24 ([32,119,101,105,103,104,116,115,61]:Bs)).bind fun x_25 =>
 (za (c_1.Weights.getD 0 0)).bind fun x_26 =>
 (zO x_25 x_26).bind fun x_27 =>
 (zO x_27 ([46]:Bs)).bind fun x_28 =>
 (za (c_1.Weights.getD 1 0)).bind fun x_29 =>
 (zO x_28 x_29).bind fun x_30 =>
 (zO x_30 ([46]:Bs)).bind fun x_31 =>
 (za (c_1.Weights.getD 2 0)).bind fun x_32 =>
 (zO x_31 x_32).bind fun x_33 =>
 (zO x_33 ([32,114,97,116,101,61]:Bs)).bind fun x_34 =>
 (za c_1.RateN).bind fun x_35 =>
 (zO x_34 x_35).bind fun x_36 =>
 (zO x_36 ([47]:Bs)).bind fun x_37 =>
 (za c_1.RateD).bind fun x_38 =>
 (zO x_37 x_38).bind fun x_39 =>
 (zO x_39 ([32,98,117,114,115,116,61]:Bs)).bind fun x_40 =>
 (za c_1.Burst).bind fun x_41 =>
 (zO x_40 x_41).bind fun x_42 =>
 (zO x_42 ([32,98,108,111,99,107,115,61]:Bs)).bind fun x_43 =>
 (za c_1.Blocks).bind fun x_44 =>
 (zO x_43 x_44).bind fun x_45 =>
 (zO x_45 ([32,108,105,110,107,61]:Bs)).bind fun x_46 =>
 (za c_1.Rate).bind fun x_47 =>
 (zO x_46 x_47).bind fun x_48 =>
 (zO x_48 ([10]:Bs)).bind fun x_49 =>
 some x_49
theorem zU.fn:FnT Tryz.prog 35 [.d .Config] [.str] zU:=zo (ctx 0 [za.spec,zp.spec]) .no Tryz.func35 rfl
def zU.spec:=zg zU.fn
def z7:Contact->Option (List UInt8) :=
 fun c_1 =>
 (za c_1.From).bind fun x_2 =>
 (zO ([99,111,110,116,97,99,116,32]:Bs) x_2).bind fun x_3 =>
 (zO x_3 ([32]:Bs)).bind fun x_4 =>
 (za c_1.To).bind fun x_5 =>
 (zO x_4 x_5).bind fun x_6 =>
 (zO x_6 ([32]:Bs)).bind fun x_7 =>
 (za c_1.Start).bind fun x_8 =>
 (zO x_7 x_8).bind fun x_9 =>
 (zO x_9 ([32]:Bs)).bind fun x_10 =>
 (za c_1.End).bind fun x_11 =>
 (zO x_10 x_11).bind fun x_12 =>
 (zO x_12 ([32]:Bs)).bind fun x_13 =>
 (za c_1.Rate).bind fun x_14 =>
 (zO x_13 x_14).bind fun x_15 =>
 (zO x_15 ([32]:Bs)).bind fun x_16 =>
 (za c_1.Delay).bind fun x_17 =>
 (zO x_16 x_17).bind fun x_18 =>
 (zO x_18 ([10]:Bs)).bind fun x_19 =>
 some x_19
theorem z7.fn:FnT Tryz.prog 36 [.d .Contact] [.str] z7:=zo (ctx 0 [za.spec]) .no Tryz.func36 rfl
def z7.spec:=zg z7.fn
def zW:Script->Option ((List UInt8) × Int) :=
 fun s_1 =>
 (zk s_1).bind fun x_2 =>
 br (x_2.Err != 0)
 (some (([]:Bs),x_2.Err))
 ((qQ (σ:=(List UInt8) × Int) (ρ:=List UInt8) (fun (out_3,i_4) =>
 br (decide (i_4 < (s_1.Configs.length:Int)))
 ((idx s_1.Configs i_4).bind fun x_5 =>
 (zU (⟨x_5.Node,x_5.Quota,x_5.Largest,x_5.Window,x_5.Low,x_5.Retry,x_5.RetryMax,x_5.Bypass,(qi x_5.Weights),x_5.RateN,x_5.RateD,x_5.Burst,x_5.Blocks,x_5.Rate⟩:Config)).bind fun x_6 =>
 (zO out_3 x_6).bind fun x_7 =>
 (yj .i64 i_4 1).bind fun x_8 =>
 some (.next (x_7,x_8)))
 (some (.done out_3))) (([]:Bs),0)).bind fun out_9 =>
 (qQ (σ:=(List UInt8) × Int) (ρ:=List UInt8) (fun (out_10,i_11) =>
 br (decide (i_11 < (s_1.Plan.length:Int)))
 ((idx s_1.Plan i_11).bind fun x_12 =>
 (z7 x_12).bind fun x_13 =>
 (zO out_10 x_13).bind fun x_14 =>
 (yj .i64 i_11 1).bind fun x_15 =>
 some (.next (x_14,x_15)))
 (some (.done out_10))) (out_9,0)).bind fun out_16 =>
 (qQ (σ:=(List UInt8) × Int) (ρ:=((List UInt8) × Int) ⊕ (List UInt8)) (fun (out_17,i_18) =>
 br (decide (i_18 < (s_1.Commands.length:Int)))
 ((idx s_1.Commands i_18).bind fun x_19 =>
 (yL x_19).bind fun (x_20,x_21) =>
 br (x_21 != 0)
 (some (.done (.inl (([]:Bs),x_21))))
 ((zO out_17 x_20).bind fun x_22 =>
 (yj .i64 i_18 1).bind fun x_23 =>
 some (.next (x_22,x_23))))
 (some (.done (.inr out_17)))) (out_16,0)).bind fun x_27 =>
 Sum.elim
 (fun (x_24,x_25) =>
 some (x_24,x_25))
 (fun out_26 =>
 br (decide (20000 < (out_26.length:Int)))
 (some (([]:Bs),4))
 (some (out_26,0))) x_27)
theorem zW.fn:FnT Tryz.prog 10 [.d .Script] [.str,.i64] zW:=zo (ctx 0 [zk.spec,zU.spec,z7.spec,yL.spec]) (.two .no (.two .no (.two .no (.two .no (.two (.two .no (.loop ([5,6]++rg 18 32) [] [.slot 5 .str none,.slot 6 .i64 none] [(.exit 0,[.slot 5 .str none])] .no)) (.two (.two .no (.loop ([5,7]++rg 33 47) [] [.slot 5 .str none,.slot 7 .i64 none] [(.exit 2,[.slot 5 .str none])] .no)) (.two (.two .no (.loop ([2,3,5,8,9,10]++rg 48 69) [] [.slot 5 .str none,.slot 8 .i64 none] [(.ret,[.slot 2 .str none,.slot 3 .i64 none]),(.exit 4,[.slot 5 .str none])] .no)) .no))))))) Tryz.func10 rfl
def zW.spec:=zg zW.fn
def zQ:Script->Option (Int × Int) :=
 fun s_1 =>
 (zk s_1).bind fun x_2 =>
 br (x_2.Err != 0)
 (some (0,x_2.Err))
 ((qQ (σ:=Int × Int) (ρ:=Int) (fun (n_3,i_4) =>
 br (decide (i_4 < (s_1.Commands.length:Int)))
 ((idx s_1.Commands i_4).bind fun x_5 =>
 br (x_5.Kind == 4)
 ((idx s_1.Commands i_4).bind fun x_6 =>
 (yj .i64 n_3 x_6.N).bind fun x_7 =>
 (yj .i64 i_4 1).bind fun x_8 =>
 some (.next (x_7,x_8)))
 ((yj .i64 i_4 1).bind fun x_9 =>
 some (.next (n_3,x_9))))
 (some (.done n_3))) (0,0)).bind fun n_10 =>
 some (n_10,0))
theorem zQ.fn:FnT Tryz.prog 14 [.d .Script] [.i64,.i64] zQ:=zo (ctx 0 [zk.spec]) (.two .no (.two .no (.two .no (.two .no (.two (.two .no (.loop ([5,6]++rg 14 35) [] [.slot 5 .i64 none,.slot 6 .i64 none] [(.exit 0,[.slot 5 .i64 none])] .no)) .no))))) Tryz.func14 rfl
def zQ.spec:=zg zQ.fn
def yN:(Script × Int × Int)->Option (Script × Int) :=
 fun (s_1,from_2,to_3) =>
 (zk s_1).bind fun x_4 =>
 br (x_4.Err != 0)
 (b6_ (some ((⟨([]:List Config),([]:List Contact),([]:List Command)⟩:Script),x_4.Err)))
 (br (decide (from_2 < 0))
 (some ((⟨([]:List Config),([]:List Contact),([]:List Command)⟩:Script),2))
 (br (decide (to_3 < from_2))
 (some ((⟨([]:List Config),([]:List Contact),([]:List Command)⟩:Script),2))
 (br (decide ((s_1.Commands.length:Int) < to_3))
 (some ((⟨([]:List Config),([]:List Contact),([]:List Command)⟩:Script),2))
 ((app 128 ([]:List Config) s_1.Configs).bind fun x_5 =>
 (app 48 ([]:List Contact) s_1.Plan).bind fun x_6 =>
 (slc s_1.Commands from_2 to_3).bind fun x_7 =>
 (app 128 ([]:List Command) x_7).bind fun x_8 =>
 some ((⟨x_5,x_6,x_8⟩:Script),0)))))
theorem yN.fn:FnT Tryz.prog 12 [.d .Script,.d .i64,.d .i64] [.Script,.i64] yN:=zo (ctx 0 [zk.spec]) (.two .no (.two .no (.two (.two .no (.two (.two .full .no) .no)) .no))) Tryz.func12 rfl
def yN.spec:=zg yN.fn
end Go.Proofs.YtgpccllhdcggdaaGreatDoor
