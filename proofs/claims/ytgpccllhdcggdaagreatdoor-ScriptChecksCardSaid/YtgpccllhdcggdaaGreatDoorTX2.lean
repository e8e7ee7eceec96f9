import Derived.Test.YtgpccllhdcggdaaGreatDoorWQ3
import Derived.Test.YtgpccllhdcggdaaGreatDoorXAp
open Nat renaming le_of_ble_eq_true -> zyN
set_option linter.unusedSimpArgs false
set_option linter.unusedVariables false
noncomputable section
namespace Go.Proofs.YtgpccllhdcggdaaGreatDoor
open Go.X Go.Eng
set_option maxRecDepth 100000
def YR:List W3->Option Bool :=
 fun l_1 =>
 (qQ (σ:=Int) (ρ:=(Bool) ⊕ (Unit)) (fun x_2 =>
  br (decide (x_2 < (l_1.length:Int)))
   ((idx l_1 x_2).bind fun x_3 =>
   br (decide (x_3.a < x_3.b))
    (some (.done (.inl false)))
    (br (decide (x_3.c < x_3.a))
     (some (.done (.inl false)))
     ((yj .i64 x_2 (1:Int)).bind fun x_4 =>
     some (.next x_4))))
   (some (.done (.inr ())))) (0:Int)).bind fun x_6 =>
 Sum.elim
  (fun x_5 =>
  some x_5)
  (fun _ =>
  some true) x_6
theorem YR.fn:FnT Tryz.prog 52 [.d .l_W3] [.bool] YR:=zo (ctx 0 []) (.two .no (.two (.two .no (.loop ([2,4]++rg 7 23) [] [.slot 7 .i64 none] [(.ret,[.slot 2 .bool none]),(.exit 0,[])] .no)) .no)) Tryz.func52 rfl
def YR.spec:=zg YR.fn
def ZI:List U3->Option Bool :=
 fun l_1 =>
 (qQ (σ:=Int) (ρ:=(Bool) ⊕ (Unit)) (fun x_2 =>
  br (decide (x_2 < (l_1.length:Int)))
   ((idx l_1 x_2).bind fun x_3 =>
   br (decide (x_3.a < x_3.b))
    (some (.done (.inl false)))
    (br (decide (x_3.c < x_3.a))
     (some (.done (.inl false)))
     ((yj .i64 x_2 (1:Int)).bind fun x_4 =>
     some (.next x_4))))
   (some (.done (.inr ())))) (0:Int)).bind fun x_6 =>
 Sum.elim
  (fun x_5 =>
  some x_5)
  (fun _ =>
  some true) x_6
theorem ZI.fn:FnT Tryz.prog 53 [.d .l_U3] [.bool] ZI:=zo (ctx 0 []) (.two .no (.two (.two .no (.loop ([2,4]++rg 7 23) [] [.slot 7 .i64 none] [(.ret,[.slot 2 .bool none]),(.exit 0,[])] .no)) .no)) Tryz.func53 rfl
def ZI.spec:=zg ZI.fn
def Zi:Config->Option Int :=
 fun c_1 =>
 (qQ (σ:=(List W3) × Int) (ρ:=List W3) (fun (numbers_2,x_3) =>
  br (decide (x_3 < (3:Int)))
   (br (inB x_3 3)
    ((idx (qi c_1.Weights) x_3).bind fun x_4 =>
    (app 24 numbers_2 ([(⟨x_4,(1:Int),(100:Int)⟩:W3)]:List W3)).bind fun x_5 =>
    (yj .i64 x_3 (1:Int)).bind fun x_6 =>
    some (.next (x_5,x_6)))
    (none))
   (some (.done numbers_2))) (([(⟨c_1.Node,(1:Int),(16:Int)⟩:W3),(⟨c_1.Retry,(1:Int),(1000:Int)⟩:W3),(⟨c_1.RetryMax,c_1.Retry,(100000:Int)⟩:W3),(⟨c_1.Bypass,(0:Int),(100:Int)⟩:W3),(⟨c_1.RateN,(0:Int),(1048576:Int)⟩:W3),(⟨c_1.RateD,(1:Int),(1048576:Int)⟩:W3),(⟨c_1.Burst,(1:Int),(1099511627776:Int)⟩:W3),(⟨c_1.Blocks,(8:Int),(4096:Int)⟩:W3),(⟨c_1.Rate,(0:Int),(1048576:Int)⟩:W3)]:List W3),(0:Int))).bind fun numbers_7 =>
 (YR numbers_7).bind fun x_8 =>
 br (!x_8)
  (some (2:Int))
  ((ZI ([(⟨c_1.Quota,(1:Int),(1099511627776:Int)⟩:U3),(⟨c_1.Largest,(1:Int),(1200:Int)⟩:U3),(⟨c_1.Window,(0:Int),c_1.Quota⟩:U3),(⟨c_1.Low,(0:Int),c_1.Quota⟩:U3)]:List U3)).bind fun x_9 =>
  br (!x_9)
   (some (2:Int))
   (some (0:Int)))
theorem Zi.fn:FnT Tryz.prog 22 [.d .Config] [.i64] Zi:=zo (ctx 0 [YR.spec,ZI.spec]) (.two .no (.two .no (.two (.two .no (.loop ([3,5]++rg 38 46) [] [.slot 3 .l_W3 (some (35,102)),.slot 38 .i64 none] [(.exit 0,[.slot 3 .l_W3 (some (35,102))])] .no)) .no))) Tryz.func22 rfl
def Zi.spec:=zg Zi.fn
def ZJ:List Int->Option Bool :=
 fun l_1 =>
 (qQ (σ:=Int) (ρ:=(Bool) ⊕ (Unit)) (fun x_2 =>
  br (decide (x_2 < (l_1.length:Int)))
   ((idx l_1 x_2).bind fun x_3 =>
   br (decide (x_3 < (1:Int)))
    (some (.done (.inl false)))
    (br (decide ((16:Int) < x_3))
     (some (.done (.inl false)))
     ((yj .i64 x_2 (1:Int)).bind fun x_4 =>
     some (.next x_4))))
   (some (.done (.inr ())))) (0:Int)).bind fun x_6 =>
 Sum.elim
  (fun x_5 =>
  some x_5)
  (fun _ =>
  some true) x_6
theorem ZJ.fn:FnT Tryz.prog 90 [.d .l_i64] [.bool] ZJ:=zo (ctx 0 []) (.two .no (.two (.two .no (.loop ([2,4]++rg 7 17) [] [.slot 7 .i64 none] [(.ret,[.slot 2 .bool none]),(.exit 0,[])] .no)) .no)) Tryz.func90 rfl
def ZJ.spec:=zg ZJ.fn
def YS:Contact->Option Int :=
 fun c_1 =>
 (ZJ ([c_1.From,c_1.To]:List Int)).bind fun x_2 =>
 br (!x_2)
  (some (2:Int))
  (br (c_1.From == c_1.To)
   (some (2:Int))
   (br (decide (c_1.Start < (0:Int)))
    (some (2:Int))
    (br (decide (c_1.End <= c_1.Start))
     (some (2:Int))
     (br (decide ((1099511627776:Int) < c_1.End))
      (some (2:Int))
      (br (decide (c_1.Rate < (1:Int)))
       (some (2:Int))
       (br (decide ((1048576:Int) < c_1.Rate))
        (some (2:Int))
        (br (decide (c_1.Delay < (0:Int)))
         (some (2:Int))
         (br (decide ((1048576:Int) < c_1.Delay))
          (some (2:Int))
          (some (0:Int))))))))))
theorem YS.fn:FnT Tryz.prog 54 [.d .Contact] [.i64] YS:=zo (ctx 0 [ZJ.spec]) .no Tryz.func54 rfl
def YS.spec:=zg YS.fn
def ZS:Int->Option Bool :=
 fun x_1 =>
 some (x_1 != x_1)
theorem ZS.fn:FnT Tryz.prog 118 [.d .i64] [.bool] ZS:=zo (ctx 0 []) .no Tryz.func118 rfl
def ZS.spec:=zg ZS.fn
def qG:(Int × Int)->Option Int :=
 fun (x_1,y_2) =>
 (ZS x_1).bind fun x_3 =>
 (ZS y_2).bind fun x_4 =>
 br x_3
  (br x_4
   (some (0:Int))
   (some (-1:Int)))
  (br x_4
   (some (1:Int))
   (br (decide (x_1 < y_2))
    (some (-1:Int))
    (br (decide (y_2 < x_1))
     (some (1:Int))
     (some (0:Int)))))
theorem qG.fn:FnT Tryz.prog 92 [.d .i64,.d .i64] [.i64] qG:=zo (ctx 0 [ZS.spec]) .no Tryz.func92 rfl
def qG.spec:=zg qG.fn
def zbS:List Int->Option Int :=
 fun vals_1 =>
 (qQ (σ:=Int) (ρ:=(Int) ⊕ (Unit)) (fun x_2 =>
  br (decide (x_2 < (vals_1.length:Int)))
   ((idx vals_1 x_2).bind fun x_3 =>
   br (x_3 != (0:Int))
    (some (.done (.inl x_3)))
    ((yj .i64 x_2 (1:Int)).bind fun x_4 =>
    some (.next x_4)))
   (some (.done (.inr ())))) (0:Int)).bind fun x_6 =>
 Sum.elim
  (fun x_5 =>
  some x_5)
  (fun _ =>
  some (0:Int)) x_6
theorem zbS.fn:FnT Tryz.prog 91 [.d .l_i64] [.i64] zbS:=zo (ctx 0 []) (.two .no (.two .no (.two (.two .no (.loop ([2,5]++rg 8 16) [] [.slot 8 .i64 none] [(.ret,[.slot 2 .i64 none]),(.exit 0,[])] .no)) .no))) Tryz.func91 rfl
def zbS.spec:=zg zbS.fn
def qU:(Contact × Contact)->Option Int :=
 fun (a_1,b_2) =>
 (qG (a_1.Start,b_2.Start)).bind fun x_3 =>
 (qG (a_1.From,b_2.From)).bind fun x_4 =>
 (qG (a_1.To,b_2.To)).bind fun x_5 =>
 (zbS ([x_3,x_4,x_5]:List Int)).bind fun x_6 =>
 some x_6
theorem qU.fn:FnT Tryz.prog 55 [.d .Contact,.d .Contact] [.i64] qU:=zo (ctx 0 [qG.spec,zbS.spec]) .no Tryz.func55 rfl
def qU.spec:=zg qU.fn
def Z4:Contact->Option Pair :=
 fun c_1 =>
 some (⟨c_1.From,c_1.To⟩:Pair)
theorem Z4.fn:FnT Tryz.prog 56 [.d .Contact] [.Pair] Z4:=zo (ctx 0 []) .no Tryz.func56 rfl
def Z4.spec:=zg Z4.fn
def qn:List Contact->Option (Int × Int) :=
 fun l_1 =>
 br (decide ((200:Int) < (l_1.length:Int)))
  (some ((5:Int),(0:Int)))
  ((qQ (σ:=Int × (List (Pair × Int))) (ρ:=(Int × Int × (List (Pair × Int))) ⊕ (List (Pair × Int))) (fun (x_2,x_3) =>
   br (decide (x_2 < (l_1.length:Int)))
    ((idx l_1 x_2).bind fun x_4 =>
    (YS x_4).bind fun x_5 =>
    br (x_5 != (0:Int))
     (some (.done (.inl ((2:Int),x_2,x_3))))
     (br (decide ((0:Int) < x_2))
      ((zf5 .i64 x_2 (1:Int)).bind fun x_6 =>
      (idx l_1 x_6).bind fun x_7 =>
      (qU (x_7,x_4)).bind fun x_8 =>
      br (decide ((0:Int) <= x_8))
       (some (.done (.inl ((19:Int),x_2,x_3))))
       ((Z4 x_4).bind fun x_9 =>
       (znr (α:=Pair) (β:=Int) (zaC .Pair) x_3 x_9).bind fun x_10 =>
       br (decide (x_4.Start < (x_10.getD (0:Int))))
        (some (.done (.inl ((12:Int),x_2,x_3))))
        ((Z4 x_4).bind fun x_11 =>
        (zns (α:=Pair) (β:=Int) (zaC .Pair) x_3 x_11 x_4.End).bind fun x_12 =>
        (yj .i64 x_2 (1:Int)).bind fun x_13 =>
        some (.next (x_13,x_12)))))
      ((Z4 x_4).bind fun x_14 =>
      (znr (α:=Pair) (β:=Int) (zaC .Pair) x_3 x_14).bind fun x_15 =>
      br (decide (x_4.Start < (x_15.getD (0:Int))))
       (some (.done (.inl ((12:Int),x_2,x_3))))
       ((Z4 x_4).bind fun x_16 =>
       (zns (α:=Pair) (β:=Int) (zaC .Pair) x_3 x_16 x_4.End).bind fun x_17 =>
       (yj .i64 x_2 (1:Int)).bind fun x_18 =>
       some (.next (x_18,x_17))))))
    (some (.done (.inr x_3)))) ((0:Int),([]:List (Pair × Int)))).bind fun x_23 =>
  Sum.elim
   (fun (x_19,x_20,x_21) =>
   some (x_19,x_20))
   (fun x_22 =>
   some ((0:Int),(0:Int))) x_23)
theorem qn.fn:FnT Tryz.prog 23 [.d .l_Contact] [.i64,.i64] qn:=zo (ctx 0 [YS.spec,qU.spec,Z4.spec]) (.two .no (.two .no (.two .no (.two (.two .no (.loop ([2,3,5,6]++rg 13 51) [0] [.slot 13 .i64 none,.mapb 0 .Pair .i64] [(.ret,[.slot 2 .i64 none,.slot 3 .i64 none,.mapb 0 .Pair .i64]),(.exit 0,[.mapb 0 .Pair .i64])] .no)) .no)))) Tryz.func23 rfl
def qn.spec:=zg qn.fn
def yZ:Config->Int->Option ((Bool) × (Int)) :=
 fun x_1 x_2 =>
 some (x_1.Node == x_2,x_2)
def yZ.ann:Ann:=.no
theorem yZ.fn:FnB Tryz.prog 51 [.d .Config,.l 0 0] [(.i64,3)] [.bool] yZ :=
 FnB.of (X:=ctx 0 []) Tryz.mixed yZ.ann Tryz.func51 rfl (by kernel_rfl) (zyN rfl) (fun x y=>by kernel_rfl)
def yZ.spec:XSpec Tryz.prog:=XSpec.b 51 [.d .Config,.l 0 0] [(.i64,3)] [.bool] yZ (by kernel_rfl) yZ.fn
def zI:List Config->Int->Option ((Int) × (Int)) :=
 fun s_1 x_2 =>
 (qQ (σ:=Int × Int) (ρ:=(Int × Int) ⊕ (Int)) (fun (x_3,x_4) =>
  br (decide (x_3 < (s_1.length:Int)))
   ((idx s_1 x_3).bind fun x_5 =>
   (yZ (⟨x_5.Node,x_5.Quota,x_5.Largest,x_5.Window,x_5.Low,x_5.Retry,x_5.RetryMax,x_5.Bypass,(qi x_5.Weights),x_5.RateN,x_5.RateD,x_5.Burst,x_5.Blocks,x_5.Rate⟩:Config) x_4).bind fun (x_6,x_7) =>
   br x_6
    (some (.done (.inl (x_3,x_7))))
    ((yj .i64 x_3 (1:Int)).bind fun x_8 =>
    some (.next (x_8,x_7))))
   (some (.done (.inr x_4)))) ((0:Int),x_2)).bind fun x_12 =>
 Sum.elim
  (fun (x_9,x_10) =>
  some (x_9,x_10))
  (fun x_11 =>
  some ((-1:Int),x_11)) x_12
def zI.ann:Ann:=(.two .no (.two (.two .no (.loop ([4,5]++rg 8 18) [0] [.slot 8 .i64 none,.box 0 .i64] [(.ret,[.slot 4 .i64 none,.box 0 .i64]),(.exit 0,[.box 0 .i64])] .no)) .no))
theorem zI.fn:FnB Tryz.prog 89 [.d .l_Config,.f 51 [0]] [(.i64,3)] [.i64] zI :=
 FnB.of (X:=ctx 0 [yZ.spec]) Tryz.mixed zI.ann Tryz.func89 rfl (by kernel_rfl) (zyN rfl) (fun x y=>by kernel_rfl)
def zI.spec:XSpec Tryz.prog:=XSpec.b 89 [.d .l_Config,.f 51 [0]] [(.i64,3)] [.i64] zI (by kernel_rfl) zI.fn
def zx:List Config->Int->Option ((Bool) × (Int)) :=
 fun s_1 x_2 =>
 (zI s_1 x_2).bind fun (x_3,x_4) =>
 some (decide ((0:Int) <= x_3),x_4)
def zx.ann:Ann:=.no
theorem zx.fn:FnB Tryz.prog 50 [.d .l_Config,.f 51 [0]] [(.i64,3)] [.bool] zx :=
 FnB.of (X:=ctx 0 [zI.spec]) Tryz.mixed zx.ann Tryz.func50 rfl (by kernel_rfl) (zyN rfl) (fun x y=>by kernel_rfl)
def zx.spec:XSpec Tryz.prog:=XSpec.b 50 [.d .l_Config,.f 51 [0]] [(.i64,3)] [.bool] zx (by kernel_rfl) zx.fn
def qa:Int->Script->Option ((Bool) × (Script)) :=
 fun node_1 x_2 =>
 (zx x_2.Configs node_1).bind fun (x_3,x_4) =>
 some (x_3,x_2)
def qa.ann:Ann:=.no
theorem qa.fn:FnB Tryz.prog 49 [.d .i64,.l 0 0] [(.Script,26)] [.bool] qa :=
 FnB.of (X:=ctx 0 [zx.spec]) Tryz.mixed qa.ann Tryz.func49 rfl (by kernel_rfl) (zyN rfl) (fun x y=>by kernel_rfl)
def qa.spec:XSpec Tryz.prog:=XSpec.b 49 [.d .i64,.l 0 0] [(.Script,26)] [.bool] qa (by kernel_rfl) qa.fn
def yG:Command->Script->Option ((Int) × (Script)) :=
 fun c_1 x_2 =>
 (
  (
   br (decide (c_1.Kind < (1:Int)))
    (some true)
    (some (decide ((14:Int) < c_1.Kind))):Option (Bool)).bind fun x_3 =>
  br x_3
   (some (.inr (7:Int)))
   (some (.inl ())):Option ((Unit) ⊕ (Int))).bind fun x_35 =>
 Sum.elim
  (fun _ =>
  br (inB c_1.Kind 15)
   ((znu .Use 0 (0 + (c_1.Kind).toNat * 8) 8).bind fun x_4 =>
   (
    (
     (
      br x_4.node
       ((yY c_1.Node).bind fun x_5 =>
       some (!x_5))
       (some false):Option (Bool)).bind fun x_6 =>
     br x_6
      (some true)
      (br x_4.other
       ((yY c_1.Other).bind fun x_7 =>
       br (!x_7)
        (some true)
        (some (c_1.Other == c_1.Node)))
       (some false)):Option (Bool)).bind fun x_8 =>
    br x_8
     (some (.inr ((2:Int),x_2)))
     ((
      (yQ (c_1.N,x_4.low,x_4.n)).bind fun x_9 =>
      br (!x_9)
       (some true)
       ((yQ (c_1.At,(0:Int),x_4.at_)).bind fun x_10 =>
       br (!x_10)
        (some true)
        ((yQ (c_1.By,(1:Int),x_4.by_)).bind fun x_11 =>
        some (!x_11))):Option (Bool)).bind fun x_12 =>
     br x_12
      (some (.inr ((2:Int),x_2)))
      ((
       (
        br x_4.node
         ((qa c_1.Node x_2).bind fun (x_13,x_14) =>
         some (!x_13,x_14))
         (some (false,x_2)):Option (Bool × Script)).bind fun (x_15,x_16) =>
       br x_15
        (some (true,x_16))
        (br x_4.other
         ((qa c_1.Other x_16).bind fun (x_17,x_18) =>
         some (!x_17,x_18))
         (some (false,x_16))):Option (Bool × Script)).bind fun (x_19,x_20) =>
      br x_19
       (some (.inr ((8:Int),x_20)))
       ((
        (
         br (!x_4.node)
          (some (c_1.Node != (0:Int)))
          (some false):Option (Bool)).bind fun x_21 =>
        br x_21
         (some true)
         ((
          br (!x_4.other)
           (some (c_1.Other != (0:Int)))
           (some false):Option (Bool)).bind fun x_22 =>
         br x_22
          (some true)
          ((
           br (decide (x_4.n < (0:Int)))
            (some (c_1.N != (0:Int)))
            (some false):Option (Bool)).bind fun x_23 =>
          br x_23
           (some true)
           ((
            br (decide (x_4.at_ < (0:Int)))
             (some (c_1.At != (0:Int)))
             (some false):Option (Bool)).bind fun x_24 =>
           br x_24
            (some true)
            ((
             br (decide (x_4.by_ < (0:Int)))
              (some (c_1.By != (0:Int)))
              (some false):Option (Bool)).bind fun x_25 =>
            br x_25
             (some true)
             (br (!x_4.bndl)
              (some (!((c_1.Bundle.ID.Node == (0:Int)) && ((c_1.Bundle.ID.Seq == (0:Int)) && ((c_1.Bundle.ID.Off == (0:Int)) && ((c_1.Bundle.Dest == (0:Int)) && ((c_1.Bundle.Prio == (0:Int)) && ((c_1.Bundle.Born == (0:Int)) && ((c_1.Bundle.Life == (0:Int)) && ((c_1.Bundle.Total == (0:Int)) && (c_1.Bundle.Data == ([]:Bs))))))))))))
              (some false)))))):Option (Bool)).bind fun x_26 =>
       br x_26
        (some (.inr ((3:Int),x_20)))
        (some (.inl x_20))))):Option ((Script) ⊕ (Int × Script))).bind fun x_33 =>
   Sum.elim
    (fun x_27 =>
    (
     br x_4.bndl
      ((qp c_1.Bundle).bind fun x_28 =>
      some (.inr x_28))
      (some (.inl ())):Option ((Unit) ⊕ (Int))).bind fun x_30 =>
    Sum.elim
     (fun _ =>
     some ((0:Int),x_27))
     (fun x_29 =>
     some (x_29,x_27)) x_30)
    (fun (x_31,x_32) =>
    some (x_31,x_32)) x_33)
   (none))
  (fun x_34 =>
  some (x_34,x_2)) x_35
def yG.ann:Ann:=(.two .no (.two (.join ([4]++rg 6 13) [] [] [(.norm,[]),(.ret,[.slot 4 .i64 none])] (.two (.join (rg 6 13) [] [] [(.norm,[.slot 13 .bool none])] .no) .no)) (.two .no (.two (.join ([4]++rg 18 135) [0] [.box 0 .Script] [(.norm,[.box 0 .Script]),(.ret,[.slot 4 .i64 none,.box 0 .Script])] (.two (.join (rg 18 41) [] [] [(.norm,[.slot 18 .bool none])] (.two (.join (rg 18 26) [] [] [(.norm,[.slot 18 .bool none])] .no) .no)) (.two .no (.two (.join (rg 42 66) [] [] [(.norm,[.slot 42 .bool none])] .no) (.two .no (.two (.join (rg 67 85) [0] [.box 0 .Script] [(.norm,[.slot 67 .bool none,.box 0 .Script])] (.two (.join (rg 67 76) [0] [.box 0 .Script] [(.norm,[.slot 67 .bool none,.box 0 .Script])] .no) .no)) (.two .no (.two (.join (rg 86 135) [] [] [(.norm,[.slot 86 .bool none])] (.two (.join (rg 86 94) [] [] [(.norm,[.slot 86 .bool none])] .no) (.two .no (.two (.join ([86]++rg 95 102) [] [] [(.norm,[.slot 86 .bool none])] .no) (.two .no (.two (.join ([86]++rg 103 110) [] [] [(.norm,[.slot 86 .bool none])] .no) (.two .no (.two (.join ([86]++rg 111 118) [] [] [(.norm,[.slot 86 .bool none])] .no) (.two .no (.two (.join ([86]++rg 119 126) [] [] [(.norm,[.slot 86 .bool none])] .no) .no)))))))))) .no)))))))) (.two (.join [4,136,137,138,139,140] [] [] [(.norm,[]),(.ret,[.slot 4 .i64 none])] .no) .no)))))
theorem yG.fn:FnB Tryz.prog 47 [.d .Command,.f 49 [0]] [(.Script,26)] [.i64] yG :=
 FnB.of (X:=ctx 0 [yY.spec,yQ.spec,qa.spec,qp.spec]) Tryz.mixed yG.ann Tryz.func47 rfl (by kernel_rfl) (zyN rfl) (fun x y=>by kernel_rfl)
def yG.spec:XSpec Tryz.prog:=XSpec.b 47 [.d .Command,.f 49 [0]] [(.Script,26)] [.i64] yG (by kernel_rfl) yG.fn
def ZK:(Script × Command)->Option Int :=
 fun (s_1,c_2) =>
 (yG c_2 s_1).bind fun (x_3,x_4) =>
 some x_3
theorem ZK.fn:FnT Tryz.prog 20 [.d .Script,.d .Command] [.i64] ZK:=zo (ctx 0 [yG.spec]) .no Tryz.func20 rfl
def ZK.spec:=zg ZK.fn
def zX:Script->Option Fault :=
 fun s_1 =>
 (
  br ((s_1.Configs.length:Int) == (0:Int))
   (some (.inr (⟨(8:Int),(0:Int)⟩:Fault)))
   (some (.inl (⟨(⟨(0:Int),(0:Int)⟩:Fault).Err,(⟨(0:Int),(0:Int)⟩:Fault).At⟩:Fault))):Option ((Fault) ⊕ (Fault))).bind fun x_39 =>
 Sum.elim
  (fun x_2 =>
  (
   br (decide ((16:Int) < (s_1.Configs.length:Int)))
    (some (.inr (⟨(5:Int),(0:Int)⟩:Fault)))
    (some (.inl x_2)):Option ((Fault) ⊕ (Fault))).bind fun x_37 =>
  Sum.elim
   (fun x_3 =>
   (qQ (σ:=Int × Fault) (ρ:=(Fault) ⊕ (Fault)) (fun (x_4,x_5) =>
    (
     br (decide (x_4 < (s_1.Configs.length:Int)))
      (some (.inl ()))
      (some (.inr ())):Option ((Unit) ⊕ (Unit))).bind fun x_15 =>
    Sum.elim
     (fun _ =>
     (idx s_1.Configs x_4).bind fun x_6 =>
     (
      (Zi (⟨x_6.Node,x_6.Quota,x_6.Largest,x_6.Window,x_6.Low,x_6.Retry,x_6.RetryMax,x_6.Bypass,(qi x_6.Weights),x_6.RateN,x_6.RateD,x_6.Burst,x_6.Blocks,x_6.Rate⟩:Config)).bind fun x_7 =>
      br (x_7 != (0:Int))
       (some (.inr (⟨x_7,x_4⟩:Fault)))
       (some (.inl x_5)):Option ((Fault) ⊕ (Fault))).bind fun x_14 =>
     Sum.elim
      (fun x_8 =>
      (
       br (decide ((0:Int) < x_4))
        ((zf5 .i64 x_4 (1:Int)).bind fun x_9 =>
        (idx s_1.Configs x_9).bind fun x_10 =>
        some (decide (x_6.Node <= x_10.Node)))
        (some false):Option (Bool)).bind fun x_11 =>
      br x_11
       (some (.done (.inl (⟨(19:Int),x_4⟩:Fault))))
       ((yj .i64 x_4 (1:Int)).bind fun x_12 =>
       some (.next (x_12,x_8))))
      (fun x_13 =>
      some (.done (.inl x_13))) x_14)
     (fun _ =>
     some (.done (.inr x_5))) x_15) ((0:Int),x_3)).bind fun x_35 =>
   Sum.elim
    (fun x_16 =>
    some x_16)
    (fun x_17 =>
    (
     (qn s_1.Plan).bind fun (x_18,x_19) =>
     br (x_18 != (0:Int))
      (some (.inr (⟨x_18,x_19⟩:Fault)))
      (some (.inl x_17)):Option ((Fault) ⊕ (Fault))).bind fun x_34 =>
    Sum.elim
     (fun x_20 =>
     (
      br (decide ((400:Int) < (s_1.Commands.length:Int)))
       (some (.inr (⟨(5:Int),(0:Int)⟩:Fault)))
       (some (.inl x_20)):Option ((Fault) ⊕ (Fault))).bind fun x_32 =>
     Sum.elim
      (fun x_21 =>
      (qQ (σ:=Int × Fault) (ρ:=(Fault) ⊕ (Fault)) (fun (x_22,x_23) =>
       (
        br (decide (x_22 < (s_1.Commands.length:Int)))
         (some (.inl ()))
         (some (.inr ())):Option ((Unit) ⊕ (Unit))).bind fun x_27 =>
       Sum.elim
        (fun _ =>
        (idx s_1.Commands x_22).bind fun x_24 =>
        (ZK (s_1,x_24)).bind fun x_25 =>
        br (x_25 != (0:Int))
         (some (.done (.inl (⟨x_25,x_22⟩:Fault))))
         ((yj .i64 x_22 (1:Int)).bind fun x_26 =>
         some (.next (x_26,x_23))))
        (fun _ =>
        some (.done (.inr x_23))) x_27) ((0:Int),x_21)).bind fun x_30 =>
      Sum.elim
       (fun x_28 =>
       some x_28)
       (fun x_29 =>
       some (⟨(0:Int),(0:Int)⟩:Fault)) x_30)
      (fun x_31 =>
      some x_31) x_32)
     (fun x_33 =>
     some x_33) x_34) x_35)
   (fun x_36 =>
   some x_36) x_37)
  (fun x_38 =>
  some x_38) x_39
theorem zX.fn:FnT Tryz.prog 7 [.d .Script] [.Fault] zX:=zo (ctx 0 [Zi.spec,qn.spec,ZK.spec]) (.two .no (.two (.join [11,12,13,14,15] [1] [.box 1 .Fault] [(.norm,[.box 1 .Fault]),(.ret,[.box 1 .Fault])] .no) (.two (.join [16,17,18,19,20] [1] [.box 1 .Fault] [(.norm,[.box 1 .Fault]),(.ret,[.box 1 .Fault])] .no) (.two (.two .no (.loop ([3,4,5]++rg 24 52) [1] [.slot 24 .i64 none,.box 1 .Fault] [(.ret,[.box 1 .Fault]),(.exit 0,[.box 1 .Fault])] (.two .no (.two (.join [] [] [] [(.norm,[]),(.exit 0,[])] .no) (.two (.two .no (.two (.join ([5]++rg 29 35) [1] [.box 1 .Fault] [(.norm,[.box 1 .Fault]),(.ret,[.box 1 .Fault])] .no) (.two (.join (rg 36 49) [] [] [(.norm,[.slot 49 .bool none])] .no) .no))) .no))))) (.two (.join ([6,7]++rg 53 63) [1] [.box 1 .Fault] [(.norm,[.box 1 .Fault]),(.ret,[.box 1 .Fault])] .no) (.two (.join [64,65,66,67,68] [1] [.box 1 .Fault] [(.norm,[.box 1 .Fault]),(.ret,[.box 1 .Fault])] .no) (.two (.two .no (.loop ([8,9,10]++rg 72 85) [1] [.slot 72 .i64 none,.box 1 .Fault] [(.ret,[.box 1 .Fault]),(.exit 2,[.box 1 .Fault])] (.two .no (.two (.join [] [] [] [(.norm,[]),(.exit 2,[])] .no) .no)))) .no))))))) Tryz.func7 rfl
def zX.spec:=zg zX.fn
def qy:List Row->Option ((List UInt8) × Int) :=
 fun rows_1 =>
 (qQ (σ:=(List UInt8) × Int) (ρ:=((List UInt8) × Int) ⊕ (List UInt8)) (fun (out_2,x_3) =>
  br (decide (x_3 < (rows_1.length:Int)))
   ((idx rows_1 x_3).bind fun x_4 =>
   br ((x_4.Words.length:Int) == (0:Int))
    (some (.done (.inl (([]:Bs),(3:Int)))))
    ((qQ (σ:=(List (List UInt8)) × Int) (ρ:=((List UInt8) × Int) ⊕ (List (List UInt8))) (fun (l_5,x_6) =>
     br (decide (x_6 < (x_4.Words.length:Int)))
      ((idx x_4.Words x_6).bind fun x_7 =>
      (qu x_7.Text).bind fun x_8 =>
      br (!(x_7.Key == ([]:Bs)))
             ((qJ x_7.Key).bind fun x_9 =>
             br (!x_9)
              (some (.done (.inl (([]:Bs),(6:Int)))))
              ((zO x_7.Key ([61]:Bs)).bind fun x_10 =>
              (zO x_10 x_8).bind fun x_11 =>
              (app 16 l_5 ([x_11]:List (List UInt8))).bind fun x_12 =>
              (yj .i64 x_6 (1:Int)).bind fun x_13 =>
              some (.next (x_12,x_13))))
             ((app 16 l_5 ([x_8]:List (List UInt8))).bind fun x_14 =>
             (yj .i64 x_6 (1:Int)).bind fun x_15 =>
             some (.next (x_14,x_15))))
      (some (.done (.inr l_5)))) (([]:List (List UInt8)),(0:Int))).bind fun x_23 =>
    Sum.elim
     (fun (x_16,x_17) =>
     some (.done (.inl (x_16,x_17))))
     (fun l_18 =>
     (strings_Join (l_18,([32]:Bs))).bind fun x_19 =>
     (zO x_19 ([10]:Bs)).bind fun x_20 =>
     (zO out_2 x_20).bind fun x_21 =>
     br (decide ((1000:Int) < (x_19.length:Int)))
      (some (.done (.inl (([]:Bs),(4:Int)))))
      (br (decide ((20000:Int) < (x_21.length:Int)))
             (some (.done (.inl (([]:Bs),(4:Int)))))
             ((yj .i64 x_3 (1:Int)).bind fun x_22 =>
             some (.next (x_21,x_22))))) x_23))
   (some (.done (.inr out_2)))) (([]:Bs),(0:Int))).bind fun x_27 =>
 Sum.elim
  (fun (x_24,x_25) =>
  some (x_24,x_25))
  (fun out_26 =>
  some (out_26,(0:Int))) x_27
theorem qy.fn:FnT Tryz.prog 28 [.d .l_Row] [.str,.i64] qy:=zo (ctx 0 [qu.spec,qJ.spec,strings_Join.spec]) (.two .no (.two .no (.two (.two .no (.loop ([2,3,4,6,7,9,10,11]++rg 14 63) [] [.slot 4 .str none,.slot 14 .i64 none] [(.ret,[.slot 2 .str none,.slot 3 .i64 none]),(.exit 0,[.slot 4 .str none])] (.two .no (.two .no (.two (.two .no (.two .no (.two .no (.two (.two .no (.loop ([2,3,7,9,10]++rg 25 48) [] [.slot 7 .l_str (some (7,9)),.slot 25 .i64 none] [(.ret,[.slot 2 .str none,.slot 3 .i64 none]),(.exit 2,[.slot 7 .l_str (some (7,9))])] .no)) .no)))) .no))))) .no))) Tryz.func28 rfl
def qy.spec:=zg qy.fn
def qq:List UInt8->Option Word :=
 fun s_1 =>
 some (⟨(0:Int),([]:Bs),s_1⟩:Word)
theorem qq.fn:FnT Tryz.prog 69 [.d .str] [.Word] qq:=zo (ctx 0 []) .no Tryz.func69 rfl
def qq.spec:=zg qq.fn
def yx:Int->Option Word :=
 fun n_1 =>
 (strconv_Itoa n_1).bind fun x_2 =>
 (qq x_2).bind fun x_3 =>
 some x_3
theorem yx.fn:FnT Tryz.prog 70 [.d .i64] [.Word] yx:=zo (ctx 0 [strconv_Itoa.spec,qq.spec]) .no Tryz.func70 rfl
def yx.spec:=zg yx.fn
def yv:((List UInt8) × (List UInt8))->Option Word :=
 fun (key_1,s_2) =>
 some (⟨(0:Int),key_1,s_2⟩:Word)
theorem yv.fn:FnT Tryz.prog 67 [.d .str,.d .str] [.Word] yv:=zo (ctx 0 []) .no Tryz.func67 rfl
def yv.spec:=zg yv.fn
def zB:((List UInt8) × Int)->Option Word :=
 fun (key_1,n_2) =>
 (strconv_Itoa n_2).bind fun x_3 =>
 (yv (key_1,x_3)).bind fun x_4 =>
 some x_4
theorem zB.fn:FnT Tryz.prog 71 [.d .str,.d .i64] [.Word] zB:=zo (ctx 0 [strconv_Itoa.spec,yv.spec]) .no Tryz.func71 rfl
def zB.spec:=zg zB.fn
def ZL:Command->Option Row :=
 fun c_1 =>
 br (inB c_1.Kind 15)
  ((znu .Use 0 (0 + (c_1.Kind).toNat * 8) 8).bind fun x_2 =>
  (qq x_2.word).bind fun x_3 =>
  (qQ (σ:=(List Word) × Int) (ρ:=List Word) (fun (l_4,x_5) =>
   br (decide (x_5 < (([(⟨x_2.node,c_1.Node⟩:BI),(⟨x_2.other,c_1.Other⟩:BI),(⟨decide ((0:Int) <= x_2.n),c_1.N⟩:BI),(⟨decide ((0:Int) <= x_2.at_),c_1.At⟩:BI),(⟨decide ((0:Int) <= x_2.by_),c_1.By⟩:BI)]:List BI).length:Int)))
    ((idx ([(⟨x_2.node,c_1.Node⟩:BI),(⟨x_2.other,c_1.Other⟩:BI),(⟨decide ((0:Int) <= x_2.n),c_1.N⟩:BI),(⟨decide ((0:Int) <= x_2.at_),c_1.At⟩:BI),(⟨decide ((0:Int) <= x_2.by_),c_1.By⟩:BI)]:List BI) x_5).bind fun x_6 =>
    br x_6.used
     ((yx x_6.n).bind fun x_7 =>
     (app 40 l_4 ([x_7]:List Word)).bind fun x_8 =>
     (yj .i64 x_5 (1:Int)).bind fun x_9 =>
     some (.next (x_8,x_9)))
     ((yj .i64 x_5 (1:Int)).bind fun x_10 =>
     some (.next (l_4,x_10))))
    (some (.done l_4))) (([x_3]:List Word),(0:Int))).bind fun l_11 =>
  br x_2.bndl
   ((ZD c_1.Bundle.ID).bind fun (x_12,x_13) =>
   (yv (([105,100]:Bs),x_12)).bind fun x_14 =>
   (zB (([116,111]:Bs),c_1.Bundle.Dest)).bind fun x_15 =>
   (zB (([112,114,105,111]:Bs),c_1.Bundle.Prio)).bind fun x_16 =>
   (zB (([98,111,114,110]:Bs),c_1.Bundle.Born)).bind fun x_17 =>
   (zB (([108,105,102,101]:Bs),c_1.Bundle.Life)).bind fun x_18 =>
   (zB (([116,111,116,97,108]:Bs),c_1.Bundle.Total)).bind fun x_19 =>
   (yv (([100,97,116,97]:Bs),c_1.Bundle.Data)).bind fun x_20 =>
   (app 40 l_11 ([x_14,x_15,x_16,x_17,x_18,x_19,x_20]:List Word)).bind fun x_21 =>
   some (⟨(0:Int),x_21⟩:Row))
   (some (⟨(0:Int),l_11⟩:Row)))
  (none)
theorem ZL.fn:FnT Tryz.prog 32 [.d .Command] [.Row] ZL:=zo (ctx 0 [qq.spec,yx.spec,ZD.spec,yv.spec,zB.spec]) (.two .no (.two .no (.two .no (.two (.two .no (.loop ([4,6]++rg 48 60) [] [.slot 4 .l_Word (some (17,119)),.slot 48 .i64 none] [(.exit 0,[.slot 4 .l_Word (some (17,119))])] .no)) .no)))) Tryz.func32 rfl
def ZL.spec:=zg ZL.fn
def Yg:List Contact->Option ((List UInt8) × Int) :=
 fun l_1 =>
 (qn l_1).bind fun (x_2,x_3) =>
 br (x_2 != (0:Int))
  (some (([]:Bs),x_2))
  ((qQ (σ:=(List Int) × Int) (ρ:=List Int) (fun (out_4,x_5) =>
   br (decide (x_5 < (l_1.length:Int)))
    ((idx l_1 x_5).bind fun x_6 =>
    (qQ (σ:=(List Int) × (List Int) × Int) (ρ:=(List Int) × (List Int)) (fun (out_7,row_8,x_9) =>
     br (decide (x_9 < (6:Int)))
      (br (inB x_9 6)
       ((idx ([x_6.From,x_6.To,x_6.Start,x_6.End,x_6.Rate,x_6.Delay]:List Int) x_9).bind fun x_10 =>
       br (decide ((row_8.length:Int) = (row_8.length:Int)))
        ((slc row_8 (0:Int) (row_8.length:Int)).bind fun x_11 =>
        (app 1 x_11 ([(32:Int)]:List Int)).bind fun x_12 =>
        (znK x_12 x_10 (10:Int)).bind fun x_13 =>
        (yj .i64 x_9 (1:Int)).bind fun x_14 =>
        some (.next (out_7,x_13,x_14)))
        (none))
       (none))
      (some (.done (out_7,row_8)))) (out_4,([(99:Int),(111:Int),(110:Int),(116:Int),(97:Int),(99:Int),(116:Int)]:List Int),(0:Int))).bind fun (out_15,row_16) =>
    (app 1 out_15 row_16).bind fun x_17 =>
    (app 1 x_17 ([(10:Int)]:List Int)).bind fun x_18 =>
    (yj .i64 x_5 (1:Int)).bind fun x_19 =>
    some (.next (x_18,x_19)))
    (some (.done out_4))) (([]:List Int),(0:Int))).bind fun out_20 =>
  br (decide ((20000:Int) < (out_20.length:Int)))
   (some (([]:Bs),(4:Int)))
   ((Zz out_20).bind fun x_21 =>
   some (x_21,(0:Int))))
theorem Yg.fn:FnT Tryz.prog 31 [.d .l_Contact] [.str,.i64] Yg:=zo (zyk 2251799813685248 [qn.spec] [] [] [appendI.mu]) (.two .no (.two .no (.two .no (.two (.two .no (.loop ([6,8,9,11]++rg 22 60) [] [.slot 6 .l_u8 (some (6,5)),.slot 22 .i64 none] [(.exit 0,[.slot 6 .l_u8 (some (6,5))])] (.two .no (.two .no (.two (.two .no (.two .no (.two (.two .no (.loop ([6,9,11]++rg 41 54) [] [.slot 6 .l_u8 (some (6,5)),.slot 9 .l_u8 none,.slot 41 .i64 none] [(.exit 2,[.slot 6 .l_u8 (some (6,5)),.slot 9 .l_u8 none])] .no)) .no))) .no))))) .no)))) Tryz.func31 rfl
def Yg.spec:=zg Yg.fn
def zM:((List UInt8) × Int)->Option Word :=
 fun (key_1,n_2) =>
 (zD (n_2,(10:Int))).bind fun x_3 =>
 (yv (key_1,x_3)).bind fun x_4 =>
 some x_4
theorem zM.fn:FnT Tryz.prog 66 [.d .str,.d .u64] [.Word] zM:=zo (ctx 0 [zD.spec,yv.spec]) .no Tryz.func66 rfl
def zM.spec:=zg zM.fn
def qr:((List UInt8) × (List Int))->Option (List UInt8) :=
 fun (by_1,l_2) =>
 (qQ (σ:=(List (List UInt8)) × Int) (ρ:=List (List UInt8)) (fun (out_3,x_4) =>
  br (decide (x_4 < (l_2.length:Int)))
   ((idx l_2 x_4).bind fun x_5 =>
   (strconv_Itoa x_5).bind fun x_6 =>
   (app 16 out_3 ([x_6]:List (List UInt8))).bind fun x_7 =>
   (yj .i64 x_4 (1:Int)).bind fun x_8 =>
   some (.next (x_7,x_8)))
   (some (.done out_3))) (([]:List (List UInt8)),(0:Int))).bind fun out_9 =>
 (strings_Join (out_9,by_1)).bind fun x_10 =>
 some x_10
theorem qr.fn:FnT Tryz.prog 72 [.d .str,.d .l_i64] [.str] qr:=zo (ctx 0 [strconv_Itoa.spec,strings_Join.spec]) (.two .no (.two .no (.two (.two .no (.loop ([5,7]++rg 10 19) [] [.slot 5 .l_str (some (5,9)),.slot 10 .i64 none] [(.exit 0,[.slot 5 .l_str (some (5,9))])] .no)) .no))) Tryz.func72 rfl
def qr.spec:=zg qr.fn
def yC:Config->Option Row :=
 fun c_1 =>
 (qq ([110,111,100,101]:Bs)).bind fun x_2 =>
 (yx c_1.Node).bind fun x_3 =>
 (zM (([113,117,111,116,97]:Bs),c_1.Quota)).bind fun x_4 =>
 (zM (([108,97,114,103,101,115,116]:Bs),c_1.Largest)).bind fun x_5 =>
 (zM (([119,105,110,100,111,119]:Bs),c_1.Window)).bind fun x_6 =>
 (zM (([108,111,119]:Bs),c_1.Low)).bind fun x_7 =>
 (zB (([114,101,116,114,121]:Bs),c_1.Retry)).bind fun x_8 =>
 (zB (([114,101,116,114,121,109,97,120]:Bs),c_1.RetryMax)).bind fun x_9 =>
 (zB (([98,121,112,97,115,115]:Bs),c_1.Bypass)).bind fun x_10 =>
 (qr (([46]:Bs),([(c_1.Weights.getD 0 0),(c_1.Weights.getD 1 0),(c_1.Weights.getD 2 0)]:List Int))).bind fun x_11 =>
 (yv (([119,101,105,103,104,116,115]:Bs),x_11)).bind fun x_12 =>
 (qr (([47]:Bs),([c_1.RateN,c_1.RateD]:List Int))).bind fun x_13 =>
 (yv (([114,97,116,101]:Bs),x_13)).bind fun x_14 =>
 (zB (([98,117,114,115,116]:Bs),c_1.Burst)).bind fun x_15 =>
 (zB (([98,108,111,99,107,115]:Bs),c_1.Blocks)).bind fun x_16 =>
 (zB (([108,105,110,107]:Bs),c_1.Rate)).bind fun x_17 =>
 some (⟨(0:Int),([x_2,x_3,x_4,x_5,x_6,x_7,x_8,x_9,x_10,x_12,x_14,x_15,x_16,x_17]:List Word)⟩:Row)
theorem yC.fn:FnT Tryz.prog 30 [.d .Config] [.Row] yC:=zo (ctx 2 [qq.spec,yx.spec,zM.spec,zB.spec,qr.spec,yv.spec]) .no Tryz.func30 rfl
def yC.spec:=zg yC.fn
open Go Go.Eng Go.RowKit Go.X Go.Shelf
structure TI (N:Nat) (w1:World) (acc:List UInt8) (W:World):Prop where
 isb:Lib.IsBuilderF 65 5 N N (Lib.byteCells acc) W
 bel:Below N w1 W
 sz:N + 1 <= W.heap.size
theorem TI.alloc {N:Nat} {w1 W:World} {acc:List UInt8} (h:TI N w1 acc W) (o:Obj):TI N w1 acc (W.alloc o) :=
 ⟨h.isb.alloc o,h.bel.alloc (by have:=h.sz; omega) o,by have:=h.sz; simp; omega⟩
theorem TI.put {N:Nat} {w1 W W':World} {acc acc':List UInt8} (h:TI N w1 acc W) (hb:Lib.BuilderAtF 65 5 N N (.pointer (some ⟨N,0,none⟩)) (Lib.byteCells acc') W') (hl:Below N W W'):TI N w1 acc' W' :=
 ⟨.inr hb,⟨hl.os.trans h.bel.os,hl.tape.trans h.bel.tape,hl.output.trans h.bel.output,Nat.le_trans h.bel.size hl.size,fun k hk=>(hl.block k hk).trans (h.bel.block k hk)⟩,hb.lt⟩
theorem zrl {N:Nat} {bs:List Value} {A B:World} (h:Lib.IsBuilderF 65 5 N N bs A) (hf:Below A.heap.size A B):Lib.IsBuilderF 65 5 N N bs B:=by
 have key:∀ p,Lib.BuilderAtF 65 5 N N p bs A->Lib.BuilderAtF 65 5 N N p bs B:=by
  rintro p ⟨h1,v,h2,⟨hl,h0 | ⟨g,cap,cur,fz,hv,hb,hg,r⟩⟩,h4⟩
  ·exact ⟨h1,v,(hf.block N (Array.getElem?_eq_some_iff.1 h2).1).trans h2,⟨hl,.inl h0⟩,h4⟩
  ·exact ⟨h1,v,(hf.block N (Array.getElem?_eq_some_iff.1 h2).1).trans h2,⟨hl,.inr ⟨g,cap,cur,fz,hv,hb,(hf.block g (Array.getElem?_eq_some_iff.1 hg).1).trans hg,r⟩⟩,h4⟩
 exact h.imp (key _) (key _)
theorem TI.below {N:Nat} {w1 W W':World} {acc:List UInt8} (h:TI N w1 acc W) (hl:Below W.heap.size W W'):TI N w1 acc W' :=
 ⟨zrl h.isb hl,h.bel.trans (hl.mono (by have:=h.sz; omega)),Nat.le_trans h.sz hl.size⟩
theorem ztW {N:Nat} {w1 W:World} {acc:List UInt8} (h:TI N w1 acc W):N <= W.heap.size:=by have:=h.sz; omega
theorem ztX {N:Nat} {w1 W W':World} {A B:List UInt8} (hti:TI N w1 A W)
  (v1:Lib.BuilderAtF 65 5 N N (.pointer (some ⟨N,0,none⟩)) (Lib.byteCells A++Lib.strCells ⟨B.toArray⟩) W') (v2:Below N W W'):TI N w1 (A++B) W' :=
 hti.put (by rw [zah,<- strCells_eq B]; exact v1) v2
theorem zbT {f:FuncId} {ak:List AK} {rs:List C} {g:qW (Zq ak)->Option (qW rs)} (hg:FnT Tryz.prog f ak rs g) {W:World} {pr:Nat->Nat->Prop} (hl:HL W pr) {x:qW (Zq ak)} {r:qW rs} (h:g x = some r)
  {args:Array Value} (ha:RL ⟨W,pr,fun _=>none⟩ (zi (buildA ak (ZW _ x))) args.toList) :
  Calls Tryz.prog f args W fun e W'=>∃ v pr',e = .returned v/\R ⟨W',pr',fun _=>none⟩ (zik rs r) v/\HL W' pr'/\Below W.heap.size W W':=by
 refine (hg x r h W pr (fun _=>none) args hl ha (fun i B h=>by simp at h) (fun i j b h=>by cases h) (fun _ _=>rfl)).mono ?_
 rintro en W' ⟨v,pr',rfl,hr,_,hk⟩
 have hb:Below W.heap.size W W':=⟨hk.os,hk.tape,hk.output,hk.size,fun k h=>hk.block k h (fun i e=>by cases e)⟩
 have hl':=Qs hl hb
 exact ⟨v,pr',rfl,hr,⟨fun b o hp=>by
  rcases hk.new b o hp with h | ⟨_,h⟩
  ·exact hl'.lt b o h
  ·exact h,fun g vs hg=>⟨(hl'.glob g vs hg).1,fun i hi=>hk.sub _ _ ((hl'.glob g vs hg).2 i hi)⟩,fun g hg=>by
  obtain ⟨b,h1,h2,h3⟩:=hl'.tab g hg
  exact ⟨b,h1,hk.sub _ _ h2,hk.sub _ _ h3⟩⟩,hb⟩
theorem zph {W:World} {pr:Nat->Nat->Prop} (hl:HL W pr) {r:Row} {at':Int} {wv:Value} (hr:R ⟨W,pr,fun _=>none⟩ (enc .Row r) (.agg #[.int .i64 at',wv])) {t:List UInt8 × Int} (h:qy [r] = some t) :
  Calls Tryz.prog 28 #[.slice (some ⟨W.heap.size,0,none⟩) 1 1] (W.alloc (.cells #[.int .i64 at',wv] 68)) fun e W'=>e = .returned (.tuple #[.string ⟨t.1.toArray⟩,.int .i64 t.2])/\Below (W.heap.size + 1) (W.alloc (.cells #[.int .i64 at',wv] 68)) W':=by
 have h0:Below W.heap.size W (W.alloc (.cells #[.int .i64 at',wv] 68)):=(Below.refl _ _).alloc (Nat.le_refl _) _
 have hM:=zdd W (.cells #[.int .i64 at',wv] 68)
 have hl1:=zpZ (Qs hl h0) (M:=W.heap.size) (by simp)
 have hle:Env.Le ⟨W,pr,fun _=>none⟩ ⟨W.alloc (.cells #[.int .i64 at',wv] 68),fun b o=>pr b o ∨ b = W.heap.size,fun _=>none⟩ :=
  ⟨fun _ _ h=>h,fun _ _ h=>.inl h,fun b o hp=>h0.cell (p:=⟨b,o,none⟩) (hl.lt b o hp)⟩
 have hr1:=R.mono hle _ _ hr
 refine (zbT qy.fn hl1 (x:=[r]) h (args:=#[.slice (some ⟨W.heap.size,0,none⟩) 1 1]) ?_).mono ?_
 ·show RL _ [.list [enc .Row r]] [.slice (some ⟨W.heap.size,0,none⟩) 1 1]
  have hr2:R ⟨W.alloc (.cells #[.int .i64 at',wv] 68),fun b o=>pr b o ∨ b = W.heap.size,fun _=>none⟩ (.agg [.int .i64 r.At,.list (r.Words.map (enc .Word))]) (.agg #[.int .i64 at',wv]):=hr1
  have hone:∀ y ∈ [Value.int .i64 at',wv],y.oneCell' = true:=by
   simp only [R,RL] at hr2
   obtain ⟨xs,e,_,ho⟩:=hr2
   have e':xs = [.int .i64 at',wv]:=by simpa using (congrArg (fun v=>match v with | .agg a=>a.toList | _=>[]) e).symm
   rw [<- e']; exact ho
  simp only [RL,R,RR]
  refine ⟨_,_,rfl,⟨some ⟨W.heap.size,0,none⟩,1,rfl,Nat.le_refl _,by unfold maxLen; omega,.inr ⟨_,_,2,rfl,⟨_,hr1,rfl,fun j z hj=>?_⟩,trivial⟩⟩,rfl⟩
  have hz:z ∈ [Value.int .i64 at',wv]:=by
   have:=List.mem_of_getElem? (l:=[Value.int .i64 at',wv]) (i:=j) (a:=z) (by simpa [Value.cells] using hj)
   exact this
  refine ⟨⟨?_,.inr rfl⟩,hone z hz⟩
  show World.cell? _ _ = _
  unfold World.cell?
  rw [hM]
  simpa [Value.cells] using hj
 ·rintro e W' ⟨v,pr',rfl,hr,_,hb⟩
  change R _ (.tup [.str t.1,.int .i64 t.2]) v at hr
  simp only [R,RL] at hr
  obtain ⟨xs,rfl,y,ys,rfl,⟨rfl,_⟩,y2,ys2,rfl,rfl,rfl⟩:=hr
  exact ⟨rfl,by simpa using hb⟩
open Go Go.Eng Go.RowKit Go.X Go.Shelf
set_option maxRecDepth 20000 in
set_option maxHeartbeats 8000000 in
theorem zhz {N:Nat} {w1 W:World} {acc:List UInt8} {pr:Nat->Nat->Prop} (hl:HL W pr) (hti:TI N w1 acc W) {r:Row} {v:Value} (hr:R ⟨W,pr,fun _=>none⟩ (enc .Row r) v) {t:List UInt8 × Int} (h:qy [r] = some t)
  (hlen:acc.length + t.1.length <= 1000000000) :
  Calls Tryz.prog 27 #[v,.pointer (some ⟨N,0,none⟩)] W fun e W'=>e = .returned (.int .i64 t.2)/\TI N w1 (acc++t.1) W':=by
 have hr0:R ⟨W,pr,fun _=>none⟩ (.agg [.int .i64 r.At,.list (r.Words.map (enc .Word))]) v:=hr
 simp only [R,RL] at hr0
 obtain ⟨xs,rfl,⟨y,ys,rfl,rfl,y2,ys2,rfl,⟨base,cap,rfl,_⟩,rfl⟩,_⟩:=hr0
 have hb0:Below W.heap.size W (W.alloc (.cells #[.int .i64 r.At,.slice base (r.Words.map (enc .Word)).length cap] 68)):=(Below.refl _ _).alloc (Nat.le_refl _) _
 have hle:Env.Le ⟨W,pr,fun _=>none⟩ ⟨W.alloc (.cells #[.int .i64 r.At,.slice base (r.Words.map (enc .Word)).length cap] 68),pr,fun _=>none⟩ :=
  ⟨fun _ _ h=>h,fun _ _ h=>h,fun b o hp=>hb0.cell (p:=⟨b,o,none⟩) (hl.lt b o hp)⟩
 have hcall:=zph (Qs hl hb0) (R.mono hle _ _ hr) h
 have hti1:=(hti.alloc (.cells #[.int .i64 r.At,.slice base (r.Words.map (enc .Word)).length cap] 68)).alloc (.cells #[.int .i64 r.At,.slice base (r.Words.map (enc .Word)).length cap] 68)
 have hbl:acc.length + t.1.length <= 140737488355328:=by omega
 obtain ⟨t1,t2⟩:=t
 dsimp only at hcall hbl ⊢
 simp only [List.length_map,Qt] at hcall hti1 ⊢
 clear hr hl hti h hb0 hle hlen
 have mixed:Tryz.prog.follows .mixedOrders = true:=by kernel_rfl
 go_enter Tryz.func27,Tryz.ntmps27
 go_wp2_with (first
  | (go_at_call 28; refine hcall.mono ?_; rintro e W1 ⟨rfl,y1⟩; have hti2:=hti1.below (by simpa only [Qt] using y1))
  | (go_at_call 29; refine Calls.mono (Any.Builder_WriteString_k Tryz.wsI zhB N N _ _ W1 hti2.isb (by rw [Lib.byteCells_length]; exact hbl) (ztW hti2)) ?_; rintro e W3 ⟨rfl,v1,v2,v3⟩; have hti3:=ztX hti2 v1 v2))
 go_ret
 exact ⟨rfl,hti3⟩
end Go.Proofs.YtgpccllhdcggdaaGreatDoor
