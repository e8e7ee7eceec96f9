import Derived.Test.YtclelomalmmpbaaGreatDoorXKS
import Derived.Test.YtclelomalmmpbaaGreatDoorXP
open Nat renaming le_of_ble_eq_true -> zvN
set_option linter.unusedVariables false
noncomputable section
namespace Go.Proofs.YtclelomalmmpbaaGreatDoor
open Go.X Go.Eng
abbrev rg (a b:Nat):List Nat:=List.range' a (b + 1 - a)
theorem zuA:Go.Eng.KeyT Tryz.prog 9:=Go.Eng.KeyT.str (by kernel_rfl)
theorem zsr:Go.Eng.KeyT Tryz.prog 196:=Go.Eng.KeyT.pair (e:=3) (q:=.i64) ⟨by kernel_rfl,by kernel_rfl,by kernel_rfl,by kernel_rfl⟩ (by kernel_rfl) ⟨315,by kernel_rfl⟩ (Go.deep_law_laid (by kernel_rfl) (m:=2) (by omega) (of_decide_eq_true (by kernel_rfl)) (by kernel_rfl) (by kernel_rfl)) (by kernel_rfl)
def zqf (t:TypeId):Bool:=Nat.beq t 9 || Nat.beq t 196
theorem zfL (t:TypeId) (h:zqf t = true):Go.Eng.KeyT Tryz.prog t:=by
 simp only [zqf,Bool.or_eq_true] at h
 rcases h with h | h
 ·have:=Nat.eq_of_beq_eq_true h; subst this; exact zuA
 ·have:=Nat.eq_of_beq_eq_true h; subst this; exact zsr
def zph:List (Option C):=[none,none,some .i64,some .i64,some .bool,some .u8,some .u8,none,none,some .str,some .str,some .str,some .u64,none,none,none,none,none,none,none,none,some .i32,some .l_Config,some .l_Contact,some .l_Command,some .Script,some .Script,some .u64,some .ID,some .ID,some .Bundle,some .Bundle,some .Command,some .Command,none,none,some .i64,none,none,none,none,none,some .Fault,some .Fault,none,none,none,none,none,none,some .l_i64,none,none,none,none,none,none,none,none,none,none,none,none,none,none,none,some .l_Word,some .Row,some .Row,none,some .l_Row,none,none,none,some .W3,some .Config,some .Config,none,none,none,none,none,none,none,none,none,none,none,none,none,none,none,none,none,none,some .Contact,some .Contact,none,some .Word,some .Word,none,none,none,none,none,some .l_u8,none,none,none,none,none,none,none,none,none,none,none,none,none,none,none,some .Use,some .Use,none,none,none,some .l_str,none,none,some .BI,some .l_BI,none,none,none,none,some .RUse,some .RUse,none,none,none,none,none,none,none,none,none,none,none,none,none,none,none,none,some .l_Use,none,none,none,none,none,none,some .u64,none,none,none,none,none,none,some .u8,none,none,none,none,none,none,none,none,none,none,none,none,none,none,none,none,none,some .W3,some .W3,some .l_W3,none,none,none,none,none,none,none,some .Pair,some .Pair,none,none,none,none,some .W3,some .W3,none,none,some .l_W3,none,none,none,none,none,none,none,none,none,none,none,none,none,none,none,none,none,none,none,none,none,none,none,none,none,none,none,none,none,none,none,none,none,none,none,none,none,none,none,none,none,none,none,none,none,none,none,none,none,none,none,none,none,none,none,none,none,none,some .u32,none,some .u64,none,none,none,none,none,none,none,none,none,none,none,none,none,none,none,none,none,none,none,none,none,none,some .u8,none,some .i32,some .i32,none,none,none,none,none,none,none,none,some .u16,none,none,none,some .i32,none,none,none,none,none,none,none,none,none,none]
def ctx (wr:Nat) (l:List (XSpec Tryz.prog)):zeq Tryz.prog:={ code:=fun t=>(zph[t]?).getD none,wr:=wr,key:=zqf,keyed:=zfL,known:=l }
def zvo (wr:Nat) (l:List (XSpec Tryz.prog)) (s:List (zcg Tryz.prog)):zeq Tryz.prog:={ code:=fun t=>(zph[t]?).getD none,wr:=wr,key:=zqf,keyed:=zfL,known:=l,sorts:=s }
def zvp (wr:Nat) (l:List (XSpec Tryz.prog)) (s:List (zcg Tryz.prog)) (w:List (zhd Tryz.prog)):zeq Tryz.prog:={ code:=fun t=>(zph[t]?).getD none,wr:=wr,key:=zqf,keyed:=zfL,known:=l,sorts:=s,owned:=w }
def zvq (wr:Nat) (l:List (XSpec Tryz.prog)) (s:List (zcg Tryz.prog)) (w:List (zhd Tryz.prog)) (u:List (zml Tryz.prog)):zeq Tryz.prog:={ code:=fun t=>(zph[t]?).getD none,wr:=wr,key:=zqf,keyed:=zfL,known:=l,sorts:=s,owned:=w,muts:=u }
def zr:Int->Option (RUse × Bool) :=
 fun kind_1 =>
 br (kind_1 == 1)
 (some ((⟨([115,117,98,109,105,116]:List UInt8),true,false,false,false,false,true,0,0,0⟩:RUse),true))
 (br (kind_1 == 2)
 (some ((⟨([111,112,101,110]:List UInt8),true,true,false,false,false,false,0,0,0⟩:RUse),true))
 (br (kind_1 == 3)
 (some ((⟨([99,108,111,115,101]:List UInt8),true,true,false,false,false,false,0,0,0⟩:RUse),true))
 (br (kind_1 == 4)
 (some ((⟨([116,105,99,107]:List UInt8),false,false,true,false,false,false,1,1000,0⟩:RUse),true))
 (br (kind_1 == 5)
 (some ((⟨([100,101,108,105,118,101,114]:List UInt8),true,true,true,false,false,false,0,63,0⟩:RUse),true))
 (br (kind_1 == 6)
 (some ((⟨([108,111,115,101]:List UInt8),true,true,true,false,false,false,0,63,0⟩:RUse),true))
 (br (kind_1 == 7)
 (some ((⟨([100,111,117,98,108,101]:List UInt8),true,true,true,false,false,false,0,63,0⟩:RUse),true))
 (br (kind_1 == 8)
 (some ((⟨([115,119,97,112]:List UInt8),true,true,true,true,false,false,0,63,63⟩:RUse),true))
 (br (kind_1 == 9)
 (some ((⟨([115,112,111,105,108]:List UInt8),true,true,true,true,true,false,0,63,1199⟩:RUse),true))
 (br (kind_1 == 10)
 (some ((⟨([99,117,116]:List UInt8),true,true,true,true,false,false,0,63,1199⟩:RUse),true))
 (br (kind_1 == 11)
 (some ((⟨([99,114,97,115,104]:List UInt8),true,false,false,false,false,false,0,0,0⟩:RUse),true))
 (br (kind_1 == 12)
 (some ((⟨([116,114,105,112]:List UInt8),true,false,true,true,false,false,0,1000,262144⟩:RUse),true))
 (br (kind_1 == 13)
 (some ((⟨([114,101,115,116,97,114,116]:List UInt8),true,false,false,false,false,false,0,0,0⟩:RUse),true))
 (br (kind_1 == 14)
 (some ((⟨([100,114,97,105,110]:List UInt8),false,false,true,false,false,false,1,1000,0⟩:RUse),true))
 (some ((⟨([]:List UInt8),false,false,false,false,false,false,0,0,0⟩:RUse),false)))))))))))))))
def zr.ann:Ann:=.no
set_option maxRecDepth 100000 in
theorem zr.fn:FnT Tryz.prog 82 [.d .i64] [.RUse,.bool] zr :=
 FnT.of (X:=ctx 0 []) Tryz.mixed zr.ann Tryz.func82 rfl (by kernel_rfl) (zvN rfl) (fun x=>by kernel_rfl)
def zr.spec:XSpec Tryz.prog:=XSpec.t 82 [.d .i64] [.RUse,.bool] zr (by kernel_rfl) zr.fn
def zF:(RUse × Command)->Option Bool :=
 fun (u_1,c_2) =>
 (
 (
 br u_1.node
 (br (decide (c_2.Node < 1))
 (some true)
 (some (decide (16 < c_2.Node))))
 (some false):Option (Bool)).bind fun x_3 =>
 br x_3
 (some (.inr false))
 ((
 br u_1.other
 (br (decide (c_2.Other < 1))
 (some true)
 (br (decide (16 < c_2.Other))
 (some true)
 (some (c_2.Other == c_2.Node))))
 (some false):Option (Bool)).bind fun x_4 =>
 br x_4
 (some (.inr false))
 ((
 br u_1.n
 (br (decide (c_2.N < u_1.least))
 (some true)
 (some (decide (u_1.most < c_2.N))))
 (some false):Option (Bool)).bind fun x_5 =>
 br x_5
 (some (.inr false))
 ((
 br u_1.at_
 (br (decide (c_2.At < 0))
 (some true)
 (some (decide (u_1.far < c_2.At))))
 (some false):Option (Bool)).bind fun x_6 =>
 br x_6
 (some (.inr false))
 ((
 br u_1.by_
 (br (decide (c_2.By < 1))
 (some true)
 (some (decide (255 < c_2.By))))
 (some false):Option (Bool)).bind fun x_7 =>
 br x_7
 (some (.inr false))
 (some (.inl ())))))):Option ((Unit) ⊕ (Bool))).bind fun x_9 =>
 Sum.elim
 (fun _ =>
 some true)
 (fun x_8 =>
 some x_8) x_9
def zF.ann:Ann:=(.two .no (.two (.join (rg 4 82) [] [] [(.norm,[]),(.ret,[.slot 4 .bool none])] (.two (.join (rg 5 17) [] [] [(.norm,[.slot 5 .bool none])] .no) (.two .no (.two (.join (rg 18 37) [] [] [(.norm,[.slot 18 .bool none])] .no) (.two .no (.two (.join (rg 38 54) [] [] [(.norm,[.slot 38 .bool none])] .no) (.two .no (.two (.join (rg 55 69) [] [] [(.norm,[.slot 55 .bool none])] .no) (.two .no (.two (.join (rg 70 82) [] [] [(.norm,[.slot 70 .bool none])] .no) .no)))))))))) .no))
set_option maxRecDepth 100000 in
theorem zF.fn:FnT Tryz.prog 83 [.d .RUse,.d .Command] [.bool] zF :=
 FnT.of (X:=ctx 0 []) Tryz.mixed zF.ann Tryz.func83 rfl (by kernel_rfl) (zvN rfl) (fun x=>by kernel_rfl)
def zF.spec:XSpec Tryz.prog:=XSpec.t 83 [.d .RUse,.d .Command] [.bool] zF (by kernel_rfl) zF.fn
def zm:(Script × Int)->Option Bool :=
 fun (s_1,n_2) =>
 (Qq (σ:=Int) (ρ:=(Bool) ⊕ (Unit)) (fun i_3 =>
 br (decide (i_3 < (s_1.Configs.length:Int)))
 ((idx s_1.Configs i_3).bind fun x_4 =>
 br (x_4.Node == n_2)
 (some (.done (.inl true)))
 ((qg .i64 i_3 1).bind fun x_5 =>
 some (.next x_5)))
 (some (.done (.inr ())))) 0).bind fun x_7 =>
 Sum.elim
 (fun x_6 =>
 some x_6)
 (fun _ =>
 some false) x_7
def zm.ann:Ann:=(.two .no (.two (.two .no (.loop (rg 4 20) [] [.slot 5 .i64 none] [(.ret,[.slot 4 .bool none]),(.exit 0,[])] .no)) .no))
set_option maxRecDepth 100000 in
theorem zm.fn:FnT Tryz.prog 84 [.d .Script,.d .i64] [.bool] zm :=
 FnT.of (X:=ctx 0 []) Tryz.mixed zm.ann Tryz.func84 rfl (by kernel_rfl) (zvN rfl) (fun x=>by kernel_rfl)
def zm.spec:XSpec Tryz.prog:=XSpec.t 84 [.d .Script,.d .i64] [.bool] zm (by kernel_rfl) zm.fn
def unu (g b:Bool) (k:Option Bool):Option Bool:=br g k (br b k (some false))
def zy:(RUse × Command)->Option Bool :=
 fun (u_1,c_2) =>
 unu u_1.node (c_2.Node == 0) (unu u_1.other (c_2.Other == 0) (unu u_1.n (c_2.N == 0) (unu u_1.at_ (c_2.At == 0) (unu u_1.by_ (c_2.By == 0) (br u_1.b (some true) (some ((c_2.Bundle.ID.Node == 0) && ((c_2.Bundle.ID.Seq == 0) && ((c_2.Bundle.ID.Off == 0) && ((c_2.Bundle.Dest == 0) && ((c_2.Bundle.Prio == 0) && ((c_2.Bundle.Born == 0) && ((c_2.Bundle.Life == 0) && ((c_2.Bundle.Total == 0) && (c_2.Bundle.Data == ([]:List UInt8))))))))))))))))
def zy.ann:Ann:=.no
set_option maxRecDepth 100000 in
theorem zy.fn:FnT Tryz.prog 85 [.d .RUse,.d .Command] [.bool] zy :=
 FnT.of (X:=ctx 0 []) Tryz.mixed zy.ann Tryz.func85 rfl (by kernel_rfl) (zvN rfl) (fun x=>by kernel_rfl)
def zy.spec:XSpec Tryz.prog:=XSpec.t 85 [.d .RUse,.d .Command] [.bool] zy (by kernel_rfl) zy.fn
def zp:ID->Option Int :=
 fun id_1 =>
 br (decide (id_1.Node < 1))
 (some 2)
 (br (decide (16 < id_1.Node))
 (some 2)
 (br (decide (1099511627776 < id_1.Seq))
 (some 2)
 (br (decide (id_1.Off < 0))
 (some 2)
 (br (decide (20000 <= id_1.Off))
 (some 2)
 (some 0)))))
def zp.ann:Ann:=.no
set_option maxRecDepth 100000 in
theorem zp.fn:FnT Tryz.prog 126 [.d .ID] [.i64] zp :=
 FnT.of (X:=ctx 0 []) Tryz.mixed zp.ann Tryz.func126 rfl (by kernel_rfl) (zvN rfl) (fun x=>by kernel_rfl)
def zp.spec:XSpec Tryz.prog:=XSpec.t 126 [.d .ID] [.i64] zp (by kernel_rfl) zp.fn
def zM:Bundle->Option Int :=
 fun b_1 =>
 (zp b_1.ID).bind fun x_2 =>
 br (x_2 != 0)
 (some x_2)
 (br (decide (b_1.Dest < 1))
 (some 2)
 (br (decide (16 < b_1.Dest))
 (some 2)
 (br (decide (b_1.Prio < 0))
 (some 2)
 (br (decide (2 < b_1.Prio))
 (some 2)
 (br (decide (b_1.Born < 0))
 (some 2)
 (br (decide (1099511627776 < b_1.Born))
 (some 2)
 (br (decide (b_1.Life < 1))
 (some 2)
 (br (decide (1048576 < b_1.Life))
 (some 2)
 (br (decide (b_1.Total < 1))
 (some 2)
 (br (decide (20000 < b_1.Total))
 (some 2)
 (br ((b_1.Data.length:Int) == 0)
 (some 11)
 (br (decide (1000 < (b_1.Data.length:Int)))
 (some 4)
 ((qg .i64 b_1.ID.Off (b_1.Data.length:Int)).bind fun x_3 =>
 br (decide (b_1.Total < x_3))
 (some 12)
 (some 0))))))))))))))
def zM.ann:Ann:=.no
set_option maxRecDepth 100000 in
theorem zM.fn:FnT Tryz.prog 86 [.d .Bundle] [.i64] zM :=
 FnT.of (X:=ctx 0 [zp.spec]) Tryz.mixed zM.ann Tryz.func86 rfl (by kernel_rfl) (zvN rfl) (fun x=>by kernel_rfl)
def zM.spec:XSpec Tryz.prog:=XSpec.t 86 [.d .Bundle] [.i64] zM (by kernel_rfl) zM.fn
def zD:(Script × Command × Bool)->Option Int :=
 fun (s_1,c_2,every_3) =>
 (zr c_2.Kind).bind fun (x_4,x_5) =>
 (
 br (!x_5)
 (some (.inr 7))
 ((zF (x_4,c_2)).bind fun x_6 =>
 br (!x_6)
 (some (.inr 2))
 ((
 br (!every_3)
 (br x_4.node
 ((zm (s_1,c_2.Node)).bind fun x_7 =>
 br (!x_7)
 (some true)
 (br x_4.other
 ((zm (s_1,c_2.Other)).bind fun x_8 =>
 some (!x_8))
 (some false)))
 (br x_4.other
 ((zm (s_1,c_2.Other)).bind fun x_9 =>
 some (!x_9))
 (some false)))
 (some false):Option (Bool)).bind fun x_10 =>
 br x_10
 (some (.inr 8))
 ((zy (x_4,c_2)).bind fun x_11 =>
 br (!x_11)
 (some (.inr 3))
 (br x_4.b
 ((zM c_2.Bundle).bind fun x_12 =>
 some (.inr x_12))
 (some (.inl ())))))):Option ((Unit) ⊕ (Int))).bind fun x_14 =>
 Sum.elim
 (fun _ =>
 some 0)
 (fun x_13 =>
 some x_13) x_14
def zD.ann:Ann:=(.two .no (.two .no (.two (.join ([6]++rg 15 58) [] [] [(.norm,[]),(.ret,[.slot 6 .i64 none])] (.two .no (.two .no (.two .no (.two .no (.two (.join (rg 23 47) [] [] [(.norm,[.slot 23 .bool none])] .no) .no)))))) .no)))
set_option maxRecDepth 100000 in
theorem zD.fn:FnT Tryz.prog 36 [.d .Script,.d .Command,.d .bool] [.i64] zD :=
 FnT.of (X:=ctx 0 [zr.spec,zF.spec,zm.spec,zy.spec,zM.spec]) Tryz.mixed zD.ann Tryz.func36 rfl (by kernel_rfl) (zvN rfl) (fun x=>by kernel_rfl)
def zD.spec:XSpec Tryz.prog:=XSpec.t 36 [.d .Script,.d .Command,.d .bool] [.i64] zD (by kernel_rfl) zD.fn
def zW:(Script × Command)->Option Int :=
 fun (s_1,c_2) =>
 (zD (s_1,c_2,false)).bind fun x_3 =>
 some x_3
def zW.ann:Ann:=.no
set_option maxRecDepth 100000 in
theorem zW.fn:FnT Tryz.prog 15 [.d .Script,.d .Command] [.i64] zW :=
 FnT.of (X:=ctx 0 [zD.spec]) Tryz.mixed zW.ann Tryz.func15 rfl (by kernel_rfl) (zvN rfl) (fun x=>by kernel_rfl)
def zW.spec:XSpec Tryz.prog:=XSpec.t 15 [.d .Script,.d .Command] [.i64] zW (by kernel_rfl) zW.fn
def zG:Int->Option (List UInt8) :=
 fun n_1 =>
 (Qq (σ:=Int × (List UInt8)) (ρ:=List UInt8) (fun (n_2,out_3) =>
 br (decide (0 < n_2))
 ((zfq n_2 10).bind fun x_4 =>
 (qg .u64 48 x_4).bind fun x_5 =>
 (Z6 ([Go.IntKind.wrap .u8 x_5]:List Int)).bind fun x_6 =>
 (qa x_6 out_3).bind fun x_7 =>
 (za4 .u64 n_2 10).bind fun x_8 =>
 some (.next (x_8,x_7)))
 (br (out_3 == ([]:List UInt8))
 ((zfq n_2 10).bind fun x_9 =>
 (qg .u64 48 x_9).bind fun x_10 =>
 (Z6 ([Go.IntKind.wrap .u8 x_10]:List Int)).bind fun x_11 =>
 (qa x_11 out_3).bind fun x_12 =>
 (za4 .u64 n_2 10).bind fun x_13 =>
 some (.next (x_13,x_12)))
 (some (.done out_3)))) (n_1,([]:List UInt8))).bind fun out_14 =>
 some out_14
def zG.ann:Ann:=(.two .no (.two .no (.two (.loop ([0]++rg 3 19) [] [.slot 0 .u64 none,.slot 3 .str none] [(.exit 0,[.slot 3 .str none])] .no) .no)))
set_option maxRecDepth 100000 in
theorem zG.fn:FnT Tryz.prog 119 [.d .u64] [.str] zG :=
 FnT.of (X:=ctx 0 []) Tryz.mixed zG.ann Tryz.func119 rfl (by kernel_rfl) (zvN rfl) (fun x=>by kernel_rfl)
def zG.spec:XSpec Tryz.prog:=XSpec.t 119 [.d .u64] [.str] zG (by kernel_rfl) zG.fn
def zf:Int->Option (List UInt8) :=
 fun n_1 =>
 (zG (Go.IntKind.wrap .u64 n_1)).bind fun x_2 =>
 some x_2
def zf.ann:Ann:=.no
set_option maxRecDepth 100000 in
theorem zf.fn:FnT Tryz.prog 87 [.d .i64] [.str] zf :=
 FnT.of (X:=ctx 0 [zG.spec]) Tryz.mixed zf.ann Tryz.func87 rfl (by kernel_rfl) (zvN rfl) (fun x=>by kernel_rfl)
def zf.spec:XSpec Tryz.prog:=XSpec.t 87 [.d .i64] [.str] zf (by kernel_rfl) zf.fn
def yo (self_:Int->Option (List UInt8)):Int->Option (List UInt8) :=
 fun n_1 =>
 br (decide (n_1 < 10))
 ((qg .u64 48 n_1).bind fun x_2 =>
 (Z6 ([Go.IntKind.wrap .u8 x_2]:List Int)).bind fun x_3 =>
 some x_3)
 ((za4 .u64 n_1 10).bind fun x_4 =>
 (self_ x_4).bind fun x_5 =>
 (zfq n_1 10).bind fun x_6 =>
 (qg .u64 48 x_6).bind fun x_7 =>
 (Z6 ([Go.IntKind.wrap .u8 x_7]:List Int)).bind fun x_8 =>
 (qa x_5 x_8).bind fun x_9 =>
 some x_9)
def zc:Nat->Int->Option (List UInt8)
 | 0=>fun _=>none
 | k + 1=>yo (zc k)
def zz:Int->Option (List UInt8):=zc 30
def zz.ann:Ann:=.no
set_option maxRecDepth 100000 in
theorem zc.step (k:Nat) (ih:FnT Tryz.prog 151 [.d .u64] [.str] (zc k)):FnT Tryz.prog 151 [.d .u64] [.str] (zc (k + 1)) :=
 FnT.of (X:=ctx 0 [XSpec.t 151 [.d .u64] [.str] (zc k) (by kernel_rfl) ih]) Tryz.mixed zz.ann Tryz.func151 rfl (by kernel_rfl) (zvN rfl) (fun x=>by kernel_rfl)
theorem zc.fn:∀ k,FnT Tryz.prog 151 [.d .u64] [.str] (zc k)
 | 0=>fun x r h=>by cases h
 | k + 1=>zc.step k (zc.fn k)
theorem zz.fn:FnT Tryz.prog 151 [.d .u64] [.str] zz:=zc.fn 30
def zz.spec:XSpec Tryz.prog:=XSpec.t 151 [.d .u64] [.str] zz (by kernel_rfl) zz.fn
def zX:ID->Option ((List UInt8) × Int) :=
 fun id_1 =>
 (zp id_1).bind fun x_2 =>
 br (x_2 != 0)
 (some (([]:List UInt8),x_2))
 ((zz (Go.IntKind.wrap .u64 id_1.Node)).bind fun x_3 =>
 (qa x_3 ([46]:List UInt8)).bind fun x_4 =>
 (zz id_1.Seq).bind fun x_5 =>
 (qa x_4 x_5).bind fun x_6 =>
 (qa x_6 ([46]:List UInt8)).bind fun x_7 =>
 (zz (Go.IntKind.wrap .u64 id_1.Off)).bind fun x_8 =>
 (qa x_7 x_8).bind fun x_9 =>
 some (x_9,0))
def zX.ann:Ann:=.no
set_option maxRecDepth 100000 in
theorem zX.fn:FnT Tryz.prog 127 [.d .ID] [.str,.i64] zX :=
 FnT.of (X:=ctx 0 [zp.spec,zz.spec]) Tryz.mixed zX.ann Tryz.func127 rfl (by kernel_rfl) (zvN rfl) (fun x=>by kernel_rfl)
def zX.spec:XSpec Tryz.prog:=XSpec.t 127 [.d .ID] [.str,.i64] zX (by kernel_rfl) zX.fn
def zT:Int->Option Bool :=
 fun c_1 =>
 br (decide (33 <= c_1))
 (br (decide (c_1 <= 126))
 (br (c_1 != 34)
 (br (c_1 != 61)
 (some (c_1 != 92))
 (some false))
 (some false))
 (some false))
 (some false)
def zT.ann:Ann:=.no
set_option maxRecDepth 100000 in
theorem zT.fn:FnT Tryz.prog 171 [.d .u8] [.bool] zT :=
 FnT.of (X:=ctx 0 []) Tryz.mixed zT.ann Tryz.func171 rfl (by kernel_rfl) (zvN rfl) (fun x=>by kernel_rfl)
def zT.spec:XSpec Tryz.prog:=XSpec.t 171 [.d .u8] [.bool] zT (by kernel_rfl) zT.fn
def zE:List UInt8->Option Bool :=
 fun s_1 =>
 (Qq (σ:=Int) (ρ:=(Bool) ⊕ (Unit)) (fun i_2 =>
 br (decide (i_2 < (s_1.length:Int)))
 ((zaI s_1 i_2).bind fun x_3 =>
 (zT x_3).bind fun x_4 =>
 br (!x_4)
 (some (.done (.inl false)))
 ((qg .i64 i_2 1).bind fun x_5 =>
 some (.next x_5)))
 (some (.done (.inr ())))) 0).bind fun x_8 =>
 Sum.elim
 (fun x_6 =>
 some x_6)
 (fun _ =>
 br (!(s_1 == ([]:List UInt8)))
 ((zaI s_1 0).bind fun x_7 =>
 some (x_7 != 35))
 (some false)) x_8
def zE.ann:Ann:=(.two .no (.two (.two .no (.loop (rg 2 14) [] [.slot 3 .i64 none] [(.ret,[.slot 2 .bool none]),(.exit 0,[])] .no)) .no))
set_option maxRecDepth 100000 in
theorem zE.fn:FnT Tryz.prog 152 [.d .str] [.bool] zE :=
 FnT.of (X:=ctx 0 [zT.spec]) Tryz.mixed zE.ann Tryz.func152 rfl (by kernel_rfl) (zvN rfl) (fun x=>by kernel_rfl)
def zE.spec:XSpec Tryz.prog:=XSpec.t 152 [.d .str] [.bool] zE (by kernel_rfl) zE.fn
def zN:List UInt8->Option (List UInt8) :=
 fun s_1 =>
 (zE s_1).bind fun x_2 =>
 br x_2
 (some s_1)
 ((Qq (σ:=(List Int) × Int) (ρ:=List Int) (fun (out_3,i_4) =>
 br (decide (i_4 < (s_1.length:Int)))
 ((zaI s_1 i_4).bind fun x_5 =>
 br (x_5 == 34)
 ((app 1 out_3 ([92,x_5]:List Int)).bind fun x_6 =>
 (qg .i64 i_4 1).bind fun x_7 =>
 some (.next (x_6,x_7)))
 (br (x_5 == 92)
 ((app 1 out_3 ([92,x_5]:List Int)).bind fun x_8 =>
 (qg .i64 i_4 1).bind fun x_9 =>
 some (.next (x_8,x_9)))
 (br (x_5 == 10)
 ((app 1 out_3 ([92,110]:List Int)).bind fun x_10 =>
 (qg .i64 i_4 1).bind fun x_11 =>
 some (.next (x_10,x_11)))
 (br (decide (x_5 < 32))
 ((za4 .u8 x_5 16).bind fun x_12 =>
 (zaI ([48,49,50,51,52,53,54,55,56,57,97,98,99,100,101,102]:List UInt8) x_12).bind fun x_13 =>
 (zfq x_5 16).bind fun x_14 =>
 (zaI ([48,49,50,51,52,53,54,55,56,57,97,98,99,100,101,102]:List UInt8) x_14).bind fun x_15 =>
 (app 1 out_3 ([92,120,x_13,x_15]:List Int)).bind fun x_16 =>
 (qg .i64 i_4 1).bind fun x_17 =>
 some (.next (x_16,x_17)))
 (br (decide (126 < x_5))
 ((za4 .u8 x_5 16).bind fun x_18 =>
 (zaI ([48,49,50,51,52,53,54,55,56,57,97,98,99,100,101,102]:List UInt8) x_18).bind fun x_19 =>
 (zfq x_5 16).bind fun x_20 =>
 (zaI ([48,49,50,51,52,53,54,55,56,57,97,98,99,100,101,102]:List UInt8) x_20).bind fun x_21 =>
 (app 1 out_3 ([92,120,x_19,x_21]:List Int)).bind fun x_22 =>
 (qg .i64 i_4 1).bind fun x_23 =>
 some (.next (x_22,x_23)))
 ((app 1 out_3 ([x_5]:List Int)).bind fun x_24 =>
 (qg .i64 i_4 1).bind fun x_25 =>
 some (.next (x_24,x_25))))))))
 (some (.done out_3))) (([34]:List Int),0)).bind fun out_26 =>
 (app 1 out_26 ([34]:List Int)).bind fun x_27 =>
 (Z6 x_27).bind fun x_28 =>
 some x_28)
def zN.ann:Ann:=(.two .no (.two .no (.two .no (.two .no (.two (.two .no (.loop ([4,5,6]++rg 11 58) [] [.slot 4 .l_u8 (some (10,5)),.slot 5 .i64 none] [(.exit 0,[.slot 4 .l_u8 (some (10,5))])] .no)) .no)))))
set_option maxRecDepth 100000 in
theorem zN.fn:FnT Tryz.prog 128 [.d .str] [.str] zN :=
 FnT.of (X:=ctx 0 [zE.spec]) Tryz.mixed zN.ann Tryz.func128 rfl (by kernel_rfl) (zvN rfl) (fun x=>by kernel_rfl)
def zN.spec:XSpec Tryz.prog:=XSpec.t 128 [.d .str] [.str] zN (by kernel_rfl) zN.fn
def zA:Bundle->Option (List UInt8) :=
 fun b_1 =>
 (zX b_1.ID).bind fun (x_2,x_3) =>
 (qa ([32,105,100,61]:List UInt8) x_2).bind fun x_4 =>
 (qa x_4 ([32,116,111,61]:List UInt8)).bind fun x_5 =>
 (zf b_1.Dest).bind fun x_6 =>
 (qa x_5 x_6).bind fun x_7 =>
 (qa x_7 ([32,112,114,105,111,61]:List UInt8)).bind fun x_8 =>
 (zf b_1.Prio).bind fun x_9 =>
 (qa x_8 x_9).bind fun x_10 =>
 (qa x_10 ([32,98,111,114,110,61]:List UInt8)).bind fun x_11 =>
 (zf b_1.Born).bind fun x_12 =>
 (qa x_11 x_12).bind fun x_13 =>
 (qa x_13 ([32,108,105,102,101,61]:List UInt8)).bind fun x_14 =>
 (zf b_1.Life).bind fun x_15 =>
 (qa x_14 x_15).bind fun x_16 =>
 (qa x_16 ([32,116,111,116,97,108,61]:List UInt8)).bind fun x_17 =>
 (zf b_1.Total).bind fun x_18 =>
 (qa x_17 x_18).bind fun x_19 =>
 (qa x_19 ([32,100,97,116,97,61]:List UInt8)).bind fun x_20 =>
 (zN b_1.Data).bind fun x_21 =>
 (qa x_20 x_21).bind fun x_22 =>
 some x_22
def zA.ann:Ann:=.no
set_option maxRecDepth 100000 in
theorem zA.fn:FnT Tryz.prog 88 [.d .Bundle] [.str] zA :=
 FnT.of (X:=ctx 0 [zX.spec,zf.spec,zN.spec]) Tryz.mixed zA.ann Tryz.func88 rfl (by kernel_rfl) (zvN rfl) (fun x=>by kernel_rfl)
def zA.spec:XSpec Tryz.prog:=XSpec.t 88 [.d .Bundle] [.str] zA (by kernel_rfl) zA.fn
def zY:Command->Option (List UInt8) :=
 fun c_1 =>
 (zr c_1.Kind).bind fun (x_2,x_3) =>
 (
 br x_2.node
 ((qa x_2.word ([32]:List UInt8)).bind fun x_4 =>
 (zf c_1.Node).bind fun x_5 =>
 (qa x_4 x_5).bind fun x_6 =>
 some x_6)
 (some x_2.word):Option (List UInt8)).bind fun out_7 =>
 (
 br x_2.other
 ((qa out_7 ([32]:List UInt8)).bind fun x_8 =>
 (zf c_1.Other).bind fun x_9 =>
 (qa x_8 x_9).bind fun x_10 =>
 some x_10)
 (some out_7):Option (List UInt8)).bind fun out_11 =>
 (
 br x_2.n
 ((qa out_11 ([32]:List UInt8)).bind fun x_12 =>
 (zf c_1.N).bind fun x_13 =>
 (qa x_12 x_13).bind fun x_14 =>
 some x_14)
 (some out_11):Option (List UInt8)).bind fun out_15 =>
 (
 br x_2.at_
 ((qa out_15 ([32]:List UInt8)).bind fun x_16 =>
 (zf c_1.At).bind fun x_17 =>
 (qa x_16 x_17).bind fun x_18 =>
 some x_18)
 (some out_15):Option (List UInt8)).bind fun out_19 =>
 (
 br x_2.by_
 ((qa out_19 ([32]:List UInt8)).bind fun x_20 =>
 (zf c_1.By).bind fun x_21 =>
 (qa x_20 x_21).bind fun x_22 =>
 some x_22)
 (some out_19):Option (List UInt8)).bind fun out_23 =>
 (
 br x_2.b
 ((zA c_1.Bundle).bind fun x_24 =>
 (qa out_23 x_24).bind fun x_25 =>
 some x_25)
 (some out_23):Option (List UInt8)).bind fun out_26 =>
 some out_26
def zY.ann:Ann:=(.two .no (.two .no (.two .no (.two (.join ([5]++rg 14 21) [] [.slot 5 .str none] [(.norm,[.slot 5 .str none])] .no) (.two (.join ([5]++rg 22 29) [] [.slot 5 .str none] [(.norm,[.slot 5 .str none])] .no) (.two (.join ([5]++rg 30 37) [] [.slot 5 .str none] [(.norm,[.slot 5 .str none])] .no) (.two (.join ([5]++rg 38 45) [] [.slot 5 .str none] [(.norm,[.slot 5 .str none])] .no) (.two (.join ([5]++rg 46 53) [] [.slot 5 .str none] [(.norm,[.slot 5 .str none])] .no) (.two (.join ([5]++rg 54 60) [] [.slot 5 .str none] [(.norm,[.slot 5 .str none])] .no) .no)))))))))
set_option maxRecDepth 100000 in
theorem zY.fn:FnT Tryz.prog 37 [.d .Command] [.str] zY :=
 FnT.of (X:=ctx 0 [zr.spec,zf.spec,zA.spec]) Tryz.mixed zY.ann Tryz.func37 rfl (by kernel_rfl) (zvN rfl) (fun x=>by kernel_rfl)
def zY.spec:XSpec Tryz.prog:=XSpec.t 37 [.d .Command] [.str] zY (by kernel_rfl) zY.fn
def zQ:Command->Option ((List UInt8) × Int) :=
 fun c_1 =>
 (zD ((⟨([]:List Config),([]:List Contact),([]:List Command)⟩:Script),c_1,true)).bind fun x_2 =>
 br (x_2 != 0)
 (some (([]:List UInt8),x_2))
 ((zY c_1).bind fun x_3 =>
 br (decide (1000 < (x_3.length:Int)))
 (some (([]:List UInt8),4))
 ((qa x_3 ([10]:List UInt8)).bind fun x_4 =>
 some (x_4,0)))
def zQ.ann:Ann:=.no
set_option maxRecDepth 100000 in
theorem zQ.fn:FnT Tryz.prog 12 [.d .Command] [.str,.i64] zQ :=
 FnT.of (X:=ctx 0 [zD.spec,zY.spec]) Tryz.mixed zQ.ann Tryz.func12 rfl (by kernel_rfl) (zvN rfl) (fun x=>by kernel_rfl)
def zQ.spec:XSpec Tryz.prog:=XSpec.t 12 [.d .Command] [.str,.i64] zQ (by kernel_rfl) zQ.fn
