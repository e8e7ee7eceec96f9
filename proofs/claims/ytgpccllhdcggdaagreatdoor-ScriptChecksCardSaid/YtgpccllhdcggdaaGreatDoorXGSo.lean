import Derived.Test.YtgpccllhdcggdaaGreatDoorTX4
import Derived.Test.YtgpccllhdcggdaaGreatDoorXKS
set_option linter.unusedSimpArgs false
set_option linter.unusedVariables false
noncomputable section
namespace Go.Proofs.YtgpccllhdcggdaaGreatDoor
open Go.X Go.Eng
set_option maxRecDepth 100000
def yq:List Contact->Option (List Contact) :=
 fun l_1 =>
 (app 48 ([]:List Contact) l_1).bind fun x_2 =>
 some x_2
theorem yq.fn:FnT Tryz.prog 21 [.d .l_Contact] [.l_Contact] yq:=zo (ctx 0 []) .no Tryz.func21 rfl
def yq.spec:=zg yq.fn
def yO:Script->Option Script :=
 fun s_1 =>
 (app 128 ([]:List Config) s_1.Configs).bind fun x_2 =>
 (yq s_1.Plan).bind fun x_3 =>
 (app 128 ([]:List Command) s_1.Commands).bind fun x_4 =>
 some (⟨x_2,x_3,x_4⟩:Script)
theorem yO.fn:FnT Tryz.prog 6 [.d .Script] [.Script] yO:=zo (ctx 0 [yq.spec]) .no Tryz.func6 rfl
def yO.spec:=zg yO.fn
def qX:List Config->Option (List Config) :=
 fun s_1 =>
 znw s_1
 (some ([]:List Config))
 ((app 128 ([]:List Config) s_1).bind fun x_2 =>
 some x_2)
theorem qX.fn:FnT Tryz.prog 38 [.d .l_Config] [.l_Config] qX:=zo (ctx 0 []) .no Tryz.func38 rfl
def qX.spec:=zg qX.fn
def qv:List Contact->Option (List Contact) :=
 fun s_1 =>
 znw s_1
 (some ([]:List Contact))
 ((app 48 ([]:List Contact) s_1).bind fun x_2 =>
 some x_2)
theorem qv.fn:FnT Tryz.prog 39 [.d .l_Contact] [.l_Contact] qv:=zo (ctx 0 []) .no Tryz.func39 rfl
def qv.spec:=zg qv.fn
def qw:List Command->Option (List Command) :=
 fun s_1 =>
 znw s_1
 (some ([]:List Command))
 ((app 128 ([]:List Command) s_1).bind fun x_2 =>
 some x_2)
theorem qw.fn:FnT Tryz.prog 40 [.d .l_Command] [.l_Command] qw:=zo (ctx 0 []) .no Tryz.func40 rfl
def qw.spec:=zg qw.fn
def ZP:(Script × Int × Int)->Option (Script × Int) :=
 fun (s_1,from_2,to_3) =>
 (zX s_1).bind fun x_4 =>
 br (x_4.Err != 0)
 (b6_ (some ((⟨([]:List Config),([]:List Contact),([]:List Command)⟩:Script),x_4.Err)))
 (br (decide (from_2 < 0))
 (some ((⟨([]:List Config),([]:List Contact),([]:List Command)⟩:Script),2))
 (br (decide (to_3 < from_2))
 (some ((⟨([]:List Config),([]:List Contact),([]:List Command)⟩:Script),2))
 (br (decide ((s_1.Commands.length:Int) < to_3))
 (some ((⟨([]:List Config),([]:List Contact),([]:List Command)⟩:Script),2))
 ((qX s_1.Configs).bind fun x_5 =>
 (qv s_1.Plan).bind fun x_6 =>
 (slc s_1.Commands from_2 to_3).bind fun x_7 =>
 (qw x_7).bind fun x_8 =>
 some ((⟨x_5,x_6,x_8⟩:Script),0)))))
theorem ZP.fn:FnT Tryz.prog 11 [.d .Script,.d .i64,.d .i64] [.Script,.i64] ZP:=zo (ctx 0 [zX.spec,qX.spec,qv.spec,qw.spec]) (.two .no (.two (.two .no (.two .no (.two (.two .full .no) .no))) .no)) Tryz.func11 rfl
def ZP.spec:=zg ZP.fn
def qt:Script->Option (Int × Int) :=
 fun s_1 =>
 (zX s_1).bind fun x_2 =>
 br (x_2.Err != 0)
 (some (0,x_2.Err))
 ((qQ (σ:=Int × Int) (ρ:=Int) (fun (n_3,x_4) =>
 br (decide (x_4 < (s_1.Commands.length:Int)))
 ((idx s_1.Commands x_4).bind fun x_5 =>
 br (x_5.Kind == 4)
 ((yj .i64 n_3 x_5.N).bind fun x_6 =>
 (yj .i64 x_4 1).bind fun x_7 =>
 some (.next (x_6,x_7)))
 ((yj .i64 x_4 1).bind fun x_8 =>
 some (.next (n_3,x_8))))
 (some (.done n_3))) (0,0)).bind fun n_9 =>
 some (n_9,0))
theorem qt.fn:FnT Tryz.prog 13 [.d .Script] [.i64,.i64] qt:=zo (ctx 0 [zX.spec]) (.two .no (.two .no (.two .no (.two (.two .no (.loop ([5,7]++rg 18 29) [] [.slot 5 .i64 none,.slot 18 .i64 none] [(.exit 0,[.slot 5 .i64 none])] .no)) .no)))) Tryz.func13 rfl
def qt.spec:=zg qt.fn
def yf:((List Contact) × (List Contact))->Option Bool :=
 fun (a_1,b_2) =>
 br ((a_1.length:Int) != (b_2.length:Int))
 (some false)
 ((qQ (σ:=Int) (ρ:=(Bool) ⊕ (Unit)) (fun i_3 =>
 br (decide (i_3 < (a_1.length:Int)))
 ((idx a_1 i_3).bind fun x_4 =>
 (idx b_2 i_3).bind fun x_5 =>
 br (!((x_4.From == x_5.From) && ((x_4.To == x_5.To) && ((x_4.Start == x_5.Start) && ((x_4.End == x_5.End) && ((x_4.Rate == x_5.Rate) && (x_4.Delay == x_5.Delay)))))))
 (some (.done (.inl false)))
 ((yj .i64 i_3 1).bind fun x_6 =>
 some (.next x_6)))
 (some (.done (.inr ())))) 0).bind fun x_8 =>
 Sum.elim
 (fun x_7 =>
 some x_7)
 (fun _ =>
 some true) x_8)
theorem yf.fn:FnT Tryz.prog 41 [.d .l_Contact,.d .l_Contact] [.bool] yf:=zo (ctx 0 []) (.two .no (.two .no (.two (.two .no (.loop ([4,5]++rg 11 25) [] [.slot 5 .i64 none] [(.ret,[.slot 4 .bool none]),(.exit 0,[])] .no)) .no))) Tryz.func41 rfl
def yf.spec:=zg yf.fn
def yh:(Script × Script)->Option Bool :=
 fun (a_1,b_2) =>
 br ((a_1.Configs.length:Int) != (b_2.Configs.length:Int))
 (some false)
 (br ((a_1.Commands.length:Int) != (b_2.Commands.length:Int))
 (some false)
 ((yf (a_1.Plan,b_2.Plan)).bind fun x_3 =>
 br (!x_3)
 (some false)
 ((qQ (σ:=Int) (ρ:=(Bool) ⊕ (Unit)) (fun i_4 =>
 br (decide (i_4 < (a_1.Configs.length:Int)))
 ((idx a_1.Configs i_4).bind fun x_5 =>
 (idx b_2.Configs i_4).bind fun x_6 =>
 br (!((x_5.Node == x_6.Node) && ((x_5.Quota == x_6.Quota) && ((x_5.Largest == x_6.Largest) && ((x_5.Window == x_6.Window) && ((x_5.Low == x_6.Low) && ((x_5.Retry == x_6.Retry) && ((x_5.RetryMax == x_6.RetryMax) && ((x_5.Bypass == x_6.Bypass) && (((x_5.Weights.getD 0 0) == (x_6.Weights.getD 0 0)) && (((x_5.Weights.getD 1 0) == (x_6.Weights.getD 1 0)) && (((x_5.Weights.getD 2 0) == (x_6.Weights.getD 2 0)) && ((x_5.RateN == x_6.RateN) && ((x_5.RateD == x_6.RateD) && ((x_5.Burst == x_6.Burst) && ((x_5.Blocks == x_6.Blocks) && (x_5.Rate == x_6.Rate)))))))))))))))))
 (some (.done (.inl false)))
 ((yj .i64 i_4 1).bind fun x_7 =>
 some (.next x_7)))
 (some (.done (.inr ())))) 0).bind fun x_15 =>
 Sum.elim
 (fun x_8 =>
 some x_8)
 (fun _ =>
 (qQ (σ:=Int) (ρ:=(Bool) ⊕ (Unit)) (fun i_9 =>
 br (decide (i_9 < (a_1.Commands.length:Int)))
 ((idx a_1.Commands i_9).bind fun x_10 =>
 (idx b_2.Commands i_9).bind fun x_11 =>
 br (!((x_10.Kind == x_11.Kind) && ((x_10.Node == x_11.Node) && ((x_10.Other == x_11.Other) && ((x_10.N == x_11.N) && ((x_10.At == x_11.At) && ((x_10.By == x_11.By) && ((x_10.Bundle.ID.Node == x_11.Bundle.ID.Node) && ((x_10.Bundle.ID.Seq == x_11.Bundle.ID.Seq) && ((x_10.Bundle.ID.Off == x_11.Bundle.ID.Off) && ((x_10.Bundle.Dest == x_11.Bundle.Dest) && ((x_10.Bundle.Prio == x_11.Bundle.Prio) && ((x_10.Bundle.Born == x_11.Bundle.Born) && ((x_10.Bundle.Life == x_11.Bundle.Life) && ((x_10.Bundle.Total == x_11.Bundle.Total) && (x_10.Bundle.Data == x_11.Bundle.Data))))))))))))))))
 (some (.done (.inl false)))
 ((yj .i64 i_9 1).bind fun x_12 =>
 some (.next x_12)))
 (some (.done (.inr ())))) 0).bind fun x_14 =>
 Sum.elim
 (fun x_13 =>
 some x_13)
 (fun _ =>
 some true) x_14) x_15)))
theorem yh.fn:FnT Tryz.prog 15 [.d .Script,.d .Script] [.bool] yh:=zo (ctx 0 [yf.spec]) (.two .no (.two .no (.two (.two .no (.loop ([4,5]++rg 31 48) [] [.slot 5 .i64 none] [(.ret,[.slot 4 .bool none]),(.exit 0,[])] .no)) (.two (.two .no (.loop ([4,6]++rg 49 66) [] [.slot 6 .i64 none] [(.ret,[.slot 4 .bool none]),(.exit 2,[])] .no)) .no)))) Tryz.func15 rfl
def yh.spec:=zg yh.fn
def zP:(Script × Int × Int)->Option Bool :=
 fun (s_1,from_2,to_3) =>
 (yl s_1).bind fun x_4 =>
 br x_4
 ((z8 ()).bind fun x_5 =>
 some x_5)
 ((yO s_1).bind fun x_6 =>
 (zX x_6).bind fun x_7 =>
 (zk s_1).bind fun x_8 =>
 br (!((x_7.Err == x_8.Err) && (x_7.At == x_8.At)))
 (some false)
 ((qj x_6).bind fun (x_9,x_10) =>
 (zW s_1).bind fun (x_11,x_12) =>
 br (!(x_9 == x_11))
 (some false)
 (br (x_10 != x_12)
 (some false)
 ((ZP (x_6,from_2,to_3)).bind fun (x_13,x_14) =>
 (yN (s_1,from_2,to_3)).bind fun (x_15,x_16) =>
 (qt x_6).bind fun (x_17,x_18) =>
 (zQ s_1).bind fun (x_19,x_20) =>
 (yh (x_13,x_15)).bind fun x_21 =>
 br x_21
 (br (x_14 == x_16)
 (br (x_17 == x_19)
 (br (x_18 == x_20)
 ((yh (x_6,s_1)).bind fun x_22 =>
 br x_22
 ((z8 ()).bind fun x_23 =>
 some x_23)
 (some false))
 (some false))
 (some false))
 (some false))
 (some false)))))
theorem zP.fn:FnT Tryz.prog 3 [.d .Script,.d .i64,.d .i64] [.bool] zP:=zo (ctx 0 [yl.spec,z8.spec,yO.spec,zX.spec,zk.spec,qj.spec,zW.spec,ZP.spec,yN.spec,qt.spec,zQ.spec,yh.spec]) .no Tryz.func3 rfl
def zP.spec:=zg zP.fn
end Go.Proofs.YtgpccllhdcggdaaGreatDoor
