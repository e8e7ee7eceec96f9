import Derived.Test.YtclelomalmmpbaaGreatDoorWQ3
open Nat renaming le_of_ble_eq_true -> zvN
set_option linter.unusedVariables false
noncomputable section
namespace Go.Proofs.YtclelomalmmpbaaGreatDoor
open Go.X Go.Eng
def yl:Command->Option Int :=
 fun c_1 =>
 (
  (
   br (decide (c_1.Kind < 1))
    (some true)
    (some (decide (14 < c_1.Kind))):Option (Bool)).bind fun x_2 =>
  br x_2
   (some (.inr 7))
   (some (.inl ())):Option ((Unit) ⊕ (Int))).bind fun x_28 =>
 Sum.elim
  (fun _ =>
  br (inB c_1.Kind 15)
   ((zmh .Use 0 (0 + (c_1.Kind).toNat * 8) 8).bind fun x_3 =>
   (
    (
     (
      br x_3.node
       ((zI c_1.Node).bind fun x_4 =>
       some (!x_4))
       (some false):Option (Bool)).bind fun x_5 =>
     br x_5
      (some true)
      (br x_3.other
       ((zI c_1.Other).bind fun x_6 =>
       br (!x_6)
        (some true)
        (some (c_1.Other == c_1.Node)))
       (some false)):Option (Bool)).bind fun x_7 =>
    br x_7
     (some (.inr 2))
     ((
      (zJ (c_1.N,x_3.low,x_3.n)).bind fun x_8 =>
      br (!x_8)
       (some true)
       ((zJ (c_1.At,0,x_3.at_)).bind fun x_9 =>
       br (!x_9)
        (some true)
        ((zJ (c_1.By,1,x_3.by_)).bind fun x_10 =>
        some (!x_10))):Option (Bool)).bind fun x_11 =>
     br x_11
      (some (.inr 2))
      ((
       (
        br x_3.node
         ((zI c_1.Node).bind fun x_12 =>
         some (!x_12))
         (some false):Option (Bool)).bind fun x_13 =>
       br x_13
        (some true)
        (br x_3.other
         ((zI c_1.Other).bind fun x_14 =>
         some (!x_14))
         (some false)):Option (Bool)).bind fun x_15 =>
      br x_15
       (some (.inr 8))
       ((
        (
         br (!x_3.node)
          (some (c_1.Node != 0))
          (some false):Option (Bool)).bind fun x_16 =>
        br x_16
         (some true)
         ((
          br (!x_3.other)
           (some (c_1.Other != 0))
           (some false):Option (Bool)).bind fun x_17 =>
         br x_17
          (some true)
          ((
           br (decide (x_3.n < 0))
            (some (c_1.N != 0))
            (some false):Option (Bool)).bind fun x_18 =>
          br x_18
           (some true)
           ((
            br (decide (x_3.at_ < 0))
             (some (c_1.At != 0))
             (some false):Option (Bool)).bind fun x_19 =>
           br x_19
            (some true)
            ((
             br (decide (x_3.by_ < 0))
              (some (c_1.By != 0))
              (some false):Option (Bool)).bind fun x_20 =>
            br x_20
             (some true)
             (br (!x_3.bndl)
              (some (!((c_1.Bundle.ID.Node == 0) && ((c_1.Bundle.ID.Seq == 0) && ((c_1.Bundle.ID.Off == 0) && ((c_1.Bundle.Dest == 0) && ((c_1.Bundle.Prio == 0) && ((c_1.Bundle.Born == 0) && ((c_1.Bundle.Life == 0) && ((c_1.Bundle.Total == 0) && (c_1.Bundle.Data == ([]:List UInt8))))))))))))
              (some false)))))):Option (Bool)).bind fun x_21 =>
       br x_21
        (some (.inr 3))
        (some (.inl ()))))):Option ((Unit) ⊕ (Int))).bind fun x_26 =>
   Sum.elim
    (fun _ =>
    (
     br x_3.bndl
      ((yD c_1.Bundle).bind fun x_22 =>
      some (.inr x_22))
      (some (.inl ())):Option ((Unit) ⊕ (Int))).bind fun x_24 =>
    Sum.elim
     (fun _ =>
     some 0)
     (fun x_23 =>
     some x_23) x_24)
    (fun x_25 =>
    some x_25) x_26)
   (none))
  (fun x_27 =>
  some x_27) x_28
def yl.ann:Ann:=(.two .no (.two (.join ([4]++rg 6 13) [] [] [(.norm,[]),(.ret,[.slot 4 .i64 none])] (.two (.join (rg 6 13) [] [] [(.norm,[.slot 13 .bool none])] .no) .no)) (.two .no (.two (.join ([4]++rg 18 135) [] [] [(.norm,[]),(.ret,[.slot 4 .i64 none])] (.two (.join (rg 18 41) [] [] [(.norm,[.slot 18 .bool none])] (.two (.join (rg 18 26) [] [] [(.norm,[.slot 18 .bool none])] .no) .no)) (.two .no (.two (.join (rg 42 66) [] [] [(.norm,[.slot 42 .bool none])] .no) (.two .no (.two (.join (rg 67 85) [] [] [(.norm,[.slot 67 .bool none])] (.two (.join (rg 67 76) [] [] [(.norm,[.slot 67 .bool none])] .no) .no)) (.two .no (.two (.join (rg 86 135) [] [] [(.norm,[.slot 86 .bool none])] (.two (.join (rg 86 94) [] [] [(.norm,[.slot 86 .bool none])] .no) (.two .no (.two (.join ([86]++rg 95 102) [] [] [(.norm,[.slot 86 .bool none])] .no) (.two .no (.two (.join ([86]++rg 103 110) [] [] [(.norm,[.slot 86 .bool none])] .no) (.two .no (.two (.join ([86]++rg 111 118) [] [] [(.norm,[.slot 86 .bool none])] .no) (.two .no (.two (.join ([86]++rg 119 126) [] [] [(.norm,[.slot 86 .bool none])] .no) .no)))))))))) .no)))))))) (.two (.join [4,136,137,138,139,140] [] [] [(.norm,[]),(.ret,[.slot 4 .i64 none])] .no) .no)))))
set_option maxRecDepth 100000 in
theorem yl.fn:FnT Tryz.prog 32 [.d .Command,.f 33 []] [.i64] yl :=
 FnT.of (X:=ctx 0 [zI.spec,zJ.spec,yD.spec]) Tryz.mixed yl.ann Tryz.func32 rfl (by kernel_rfl) (zvN rfl) (fun x=>by kernel_rfl)
def yl.spec:XSpec Tryz.prog:=XSpec.t 32 [.d .Command,.f 33 []] [.i64] yl (by kernel_rfl) yl.fn
def yQ:List UInt8->Option Word :=
 fun s_1 =>
 some (⟨0,([]:List UInt8),s_1⟩:Word)
def yQ.ann:Ann:=.no
set_option maxRecDepth 100000 in
theorem yQ.fn:FnT Tryz.prog 77 [.d .str] [.Word] yQ :=
 FnT.of (X:=ctx 0 []) Tryz.mixed yQ.ann Tryz.func77 rfl (by kernel_rfl) (zvN rfl) (fun x=>by kernel_rfl)
def yQ.spec:XSpec Tryz.prog:=XSpec.t 77 [.d .str] [.Word] yQ (by kernel_rfl) yQ.fn
def yu:Int->Option Word :=
 fun n_1 =>
 (strconv_Itoa n_1).bind fun x_2 =>
 (yQ x_2).bind fun x_3 =>
 some x_3
def yu.ann:Ann:=.no
set_option maxRecDepth 100000 in
theorem yu.fn:FnT Tryz.prog 78 [.d .i64] [.Word] yu :=
 FnT.of (X:=ctx 0 [strconv_Itoa.spec,yQ.spec]) Tryz.mixed yu.ann Tryz.func78 rfl (by kernel_rfl) (zvN rfl) (fun x=>by kernel_rfl)
def yu.spec:XSpec Tryz.prog:=XSpec.t 78 [.d .i64] [.Word] yu (by kernel_rfl) yu.fn
def yv:((List UInt8) × (List UInt8))->Option Word :=
 fun (key_1,s_2) =>
 some (⟨0,key_1,s_2⟩:Word)
def yv.ann:Ann:=.no
set_option maxRecDepth 100000 in
theorem yv.fn:FnT Tryz.prog 80 [.d .str,.d .str] [.Word] yv :=
 FnT.of (X:=ctx 0 []) Tryz.mixed yv.ann Tryz.func80 rfl (by kernel_rfl) (zvN rfl) (fun x=>by kernel_rfl)
def yv.spec:XSpec Tryz.prog:=XSpec.t 80 [.d .str,.d .str] [.Word] yv (by kernel_rfl) yv.fn
def yd:((List UInt8) × Int)->Option Word :=
 fun (key_1,n_2) =>
 (strconv_Itoa n_2).bind fun x_3 =>
 (yv (key_1,x_3)).bind fun x_4 =>
 some x_4
def yd.ann:Ann:=.no
set_option maxRecDepth 100000 in
theorem yd.fn:FnT Tryz.prog 81 [.d .str,.d .i64] [.Word] yd :=
 FnT.of (X:=ctx 0 [strconv_Itoa.spec,yv.spec]) Tryz.mixed yd.ann Tryz.func81 rfl (by kernel_rfl) (zvN rfl) (fun x=>by kernel_rfl)
def yd.spec:XSpec Tryz.prog:=XSpec.t 81 [.d .str,.d .i64] [.Word] yd (by kernel_rfl) yd.fn
def qq:Command->Option Row :=
 fun c_1 =>
 br (inB c_1.Kind 15)
 ((zmh .Use 0 (0 + (c_1.Kind).toNat * 8) 8).bind fun x_2 =>
 (yQ x_2.word).bind fun x_3 =>
 (Qq (σ:=(List Word) × Int) (ρ:=List Word) (fun (l_4,x_5) =>
 br (decide (x_5 < (([(⟨x_2.node,c_1.Node⟩:BI),(⟨x_2.other,c_1.Other⟩:BI),(⟨decide (0 <= x_2.n),c_1.N⟩:BI),(⟨decide (0 <= x_2.at_),c_1.At⟩:BI),(⟨decide (0 <= x_2.by_),c_1.By⟩:BI)]:List BI).length:Int)))
 ((idx ([(⟨x_2.node,c_1.Node⟩:BI),(⟨x_2.other,c_1.Other⟩:BI),(⟨decide (0 <= x_2.n),c_1.N⟩:BI),(⟨decide (0 <= x_2.at_),c_1.At⟩:BI),(⟨decide (0 <= x_2.by_),c_1.By⟩:BI)]:List BI) x_5).bind fun x_6 =>
 br x_6.used
 ((yu x_6.n).bind fun x_7 =>
 (app 40 l_4 ([x_7]:List Word)).bind fun x_8 =>
 (qg .i64 x_5 1).bind fun x_9 =>
 some (.next (x_8,x_9)))
 ((qg .i64 x_5 1).bind fun x_10 =>
 some (.next (l_4,x_10))))
 (some (.done l_4))) (([x_3]:List Word),0)).bind fun l_11 =>
 br x_2.bndl
 ((qk c_1.Bundle.ID).bind fun (x_12,x_13) =>
 (yv (([105,100]:List UInt8),x_12)).bind fun x_14 =>
 (yd (([116,111]:List UInt8),c_1.Bundle.Dest)).bind fun x_15 =>
 (yd (([112,114,105,111]:List UInt8),c_1.Bundle.Prio)).bind fun x_16 =>
 (yd (([98,111,114,110]:List UInt8),c_1.Bundle.Born)).bind fun x_17 =>
 (yd (([108,105,102,101]:List UInt8),c_1.Bundle.Life)).bind fun x_18 =>
 (yd (([116,111,116,97,108]:List UInt8),c_1.Bundle.Total)).bind fun x_19 =>
 (yv (([100,97,116,97]:List UInt8),c_1.Bundle.Data)).bind fun x_20 =>
 (app 40 l_11 ([x_14,x_15,x_16,x_17,x_18,x_19,x_20]:List Word)).bind fun x_21 =>
 some (⟨0,x_21⟩:Row))
 (some (⟨0,l_11⟩:Row)))
 (none)
def qq.ann:Ann:=(.two .no (.two .no (.two .no (.two (.two .no (.loop ([4,6]++rg 48 60) [] [.slot 4 .l_Word (some (17,99)),.slot 48 .i64 none] [(.exit 0,[.slot 4 .l_Word (some (17,99))])] .no)) .no))))
set_option maxRecDepth 100000 in
theorem qq.fn:FnT Tryz.prog 35 [.d .Command] [.Row] qq :=
 FnT.of (X:=ctx 0 [yQ.spec,yu.spec,qk.spec,yv.spec,yd.spec]) Tryz.mixed qq.ann Tryz.func35 rfl (by kernel_rfl) (zvN rfl) (fun x=>by kernel_rfl)
def qq.spec:XSpec Tryz.prog:=XSpec.t 35 [.d .Command] [.Row] qq (by kernel_rfl) qq.fn
def qr:List Row->Option ((List UInt8) × Int) :=
 fun rows_1 =>
 (Qq (σ:=(List UInt8) × Int) (ρ:=((List UInt8) × Int) ⊕ (List UInt8)) (fun (out_2,x_3) =>
 br (decide (x_3 < (rows_1.length:Int)))
 ((idx rows_1 x_3).bind fun x_4 =>
 br ((x_4.Words.length:Int) == 0)
 (some (.done (.inl (([]:List UInt8),3))))
 ((Qq (σ:=(List (List UInt8)) × Int) (ρ:=((List UInt8) × Int) ⊕ (List (List UInt8))) (fun (l_5,x_6) =>
 br (decide (x_6 < (x_4.Words.length:Int)))
 ((idx x_4.Words x_6).bind fun x_7 =>
 (y4 x_7.Text).bind fun x_8 =>
 br (!(x_7.Key == ([]:List UInt8)))
 ((y8 x_7.Key).bind fun x_9 =>
 br (!x_9)
 (some (.done (.inl (([]:List UInt8),6))))
 ((qa x_7.Key ([61]:List UInt8)).bind fun x_10 =>
 (qa x_10 x_8).bind fun x_11 =>
 (app 16 l_5 ([x_11]:List (List UInt8))).bind fun x_12 =>
 (qg .i64 x_6 1).bind fun x_13 =>
 some (.next (x_12,x_13))))
 ((app 16 l_5 ([x_8]:List (List UInt8))).bind fun x_14 =>
 (qg .i64 x_6 1).bind fun x_15 =>
 some (.next (x_14,x_15))))
 (some (.done (.inr l_5)))) (([]:List (List UInt8)),0)).bind fun x_23 =>
 Sum.elim
 (fun (x_16,x_17) =>
 some (.done (.inl (x_16,x_17))))
 (fun l_18 =>
 (strings_Join (l_18,([32]:List UInt8))).bind fun x_19 =>
 (qa x_19 ([10]:List UInt8)).bind fun x_20 =>
 (qa out_2 x_20).bind fun x_21 =>
 br (decide (1000 < (x_19.length:Int)))
 (some (.done (.inl (([]:List UInt8),4))))
 (br (decide (20000 < (x_21.length:Int)))
 (some (.done (.inl (([]:List UInt8),4))))
 ((qg .i64 x_3 1).bind fun x_22 =>
 some (.next (x_21,x_22))))) x_23))
 (some (.done (.inr out_2)))) (([]:List UInt8),0)).bind fun x_27 =>
 Sum.elim
 (fun (x_24,x_25) =>
 some (x_24,x_25))
 (fun out_26 =>
 some (out_26,0)) x_27
def qr.ann:Ann:=(.two .no (.two .no (.two (.two .no (.loop ([2,3,4,6,7,9,10,11]++rg 14 63) [] [.slot 4 .str none,.slot 14 .i64 none] [(.ret,[.slot 2 .str none,.slot 3 .i64 none]),(.exit 0,[.slot 4 .str none])] (.two .no (.two .no (.two (.two .no (.two .no (.two .no (.two (.two .no (.loop ([2,3,7,9,10]++rg 25 48) [] [.slot 7 .l_str (some (7,9)),.slot 25 .i64 none] [(.ret,[.slot 2 .str none,.slot 3 .i64 none]),(.exit 2,[.slot 7 .l_str (some (7,9))])] .no)) .no)))) .no))))) .no)))
set_option maxRecDepth 100000 in
theorem qr.fn:FnT Tryz.prog 34 [.d .l_Row] [.str,.i64] qr :=
 FnT.of (X:=ctx 0 [y4.spec,y8.spec,strings_Join.spec]) Tryz.mixed qr.ann Tryz.func34 rfl (by kernel_rfl) (zvN rfl) (fun x=>by kernel_rfl)
def qr.spec:XSpec Tryz.prog:=XSpec.t 34 [.d .l_Row] [.str,.i64] qr (by kernel_rfl) qr.fn
def y9:Command->Option ((List UInt8) × Int) :=
 fun c_1 =>
 (yl c_1).bind fun x_2 =>
 br (x_2 != 0)
 (some (([]:List UInt8),x_2))
 ((qq c_1).bind fun x_3 =>
 (qr ([x_3]:List Row)).bind fun (x_4,x_5) =>
 some (x_4,x_5))
def y9.ann:Ann:=.no
set_option maxRecDepth 100000 in
theorem y9.fn:FnT Tryz.prog 11 [.d .Command] [.str,.i64] y9 :=
 FnT.of (X:=ctx 0 [yl.spec,qq.spec,qr.spec]) Tryz.mixed y9.ann Tryz.func11 rfl (by kernel_rfl) (zvN rfl) (fun x=>by kernel_rfl)
def y9.spec:XSpec Tryz.prog:=XSpec.t 11 [.d .Command] [.str,.i64] y9 (by kernel_rfl) y9.fn
def zi:List Contact->Option (List Contact) :=
 fun l_1 =>
 (app 48 ([]:List Contact) l_1).bind fun x_2 =>
 some x_2
def zi.ann:Ann:=.no
set_option maxRecDepth 100000 in
theorem zi.fn:FnT Tryz.prog 41 [.d .l_Contact] [.l_Contact] zi :=
 FnT.of (X:=ctx 0 []) Tryz.mixed zi.ann Tryz.func41 rfl (by kernel_rfl) (zvN rfl) (fun x=>by kernel_rfl)
def zi.spec:XSpec Tryz.prog:=XSpec.t 41 [.d .l_Contact] [.l_Contact] zi (by kernel_rfl) zi.fn
def zZ:Script->Option Script :=
 fun s_1 =>
 (app 128 ([]:List Config) s_1.Configs).bind fun x_2 =>
 (zi s_1.Plan).bind fun x_3 =>
 (app 128 ([]:List Command) s_1.Commands).bind fun x_4 =>
 some (⟨x_2,x_3,x_4⟩:Script)
def zZ.ann:Ann:=.no
set_option maxRecDepth 100000 in
theorem zZ.fn:FnT Tryz.prog 14 [.d .Script] [.Script] zZ :=
 FnT.of (X:=ctx 0 [zi.spec]) Tryz.mixed zZ.ann Tryz.func14 rfl (by kernel_rfl) (zvN rfl) (fun x=>by kernel_rfl)
def zZ.spec:XSpec Tryz.prog:=XSpec.t 14 [.d .Script] [.Script] zZ (by kernel_rfl) zZ.fn
def yB:Config->Int->Option ((Bool) × (Int)) :=
 fun x_1 x_2 =>
 some (x_1.Node == x_2,x_2)
def yB.ann:Ann:=.no
set_option maxRecDepth 100000 in
theorem yB.fn:FnB Tryz.prog 40 [.d .Config,.l 0 0] [(.i64,3)] [.bool] yB :=
 FnB.of (X:=ctx 0 []) Tryz.mixed yB.ann Tryz.func40 rfl (by kernel_rfl) (zvN rfl) (fun x y=>by kernel_rfl)
def yB.spec:XSpec Tryz.prog:=XSpec.b 40 [.d .Config,.l 0 0] [(.i64,3)] [.bool] yB (by kernel_rfl) yB.fn
def zO:List Config->Int->Option ((Int) × (Int)) :=
 fun s_1 x_2 =>
 (Qq (σ:=Int × Int) (ρ:=(Int × Int) ⊕ (Int)) (fun (x_3,x_4) =>
 br (decide (x_3 < (s_1.length:Int)))
 ((idx s_1 x_3).bind fun x_5 =>
 (yB x_5 x_4).bind fun (x_6,x_7) =>
 br x_6
 (some (.done (.inl (x_3,x_7))))
 ((qg .i64 x_3 1).bind fun x_8 =>
 some (.next (x_8,x_7))))
 (some (.done (.inr x_4)))) (0,x_2)).bind fun x_12 =>
 Sum.elim
 (fun (x_9,x_10) =>
 some (x_9,x_10))
 (fun x_11 =>
 some ((-1),x_11)) x_12
def zO.ann:Ann:=(.two .no (.two (.two .no (.loop ([4,5]++rg 8 18) [0] [.slot 8 .i64 none,.box 0 .i64] [(.ret,[.slot 4 .i64 none,.box 0 .i64]),(.exit 0,[.box 0 .i64])] .no)) .no))
set_option maxRecDepth 100000 in
theorem zO.fn:FnB Tryz.prog 89 [.d .l_Config,.f 40 [0]] [(.i64,3)] [.i64] zO :=
 FnB.of (X:=ctx 0 [yB.spec]) Tryz.mixed zO.ann Tryz.func89 rfl (by kernel_rfl) (zvN rfl) (fun x y=>by kernel_rfl)
def zO.spec:XSpec Tryz.prog:=XSpec.b 89 [.d .l_Config,.f 40 [0]] [(.i64,3)] [.i64] zO (by kernel_rfl) zO.fn
def zx:List Config->Int->Option ((Bool) × (Int)) :=
 fun s_1 x_2 =>
 (zO s_1 x_2).bind fun (x_3,x_4) =>
 some (decide (0 <= x_3),x_4)
def zx.ann:Ann:=.no
set_option maxRecDepth 100000 in
theorem zx.fn:FnB Tryz.prog 39 [.d .l_Config,.f 40 [0]] [(.i64,3)] [.bool] zx :=
 FnB.of (X:=ctx 0 [zO.spec]) Tryz.mixed zx.ann Tryz.func39 rfl (by kernel_rfl) (zvN rfl) (fun x y=>by kernel_rfl)
def zx.spec:XSpec Tryz.prog:=XSpec.b 39 [.d .l_Config,.f 40 [0]] [(.i64,3)] [.bool] zx (by kernel_rfl) zx.fn
def yF:Int->Script->Option ((Bool) × (Script)) :=
 fun node_1 x_2 =>
 (zx x_2.Configs node_1).bind fun (x_3,x_4) =>
 some (x_3,x_2)
def yF.ann:Ann:=.no
set_option maxRecDepth 100000 in
theorem yF.fn:FnB Tryz.prog 38 [.d .i64,.l 0 0] [(.Script,26)] [.bool] yF :=
 FnB.of (X:=ctx 0 [zx.spec]) Tryz.mixed yF.ann Tryz.func38 rfl (by kernel_rfl) (zvN rfl) (fun x y=>by kernel_rfl)
def yF.spec:XSpec Tryz.prog:=XSpec.b 38 [.d .i64,.l 0 0] [(.Script,26)] [.bool] yF (by kernel_rfl) yF.fn
def yr:Command->Script->Option ((Int) × (Script)) :=
 fun c_1 x_2 =>
 (
 (
 br (decide (c_1.Kind < 1))
 (some true)
 (some (decide (14 < c_1.Kind))):Option (Bool)).bind fun x_3 =>
 br x_3
 (some (.inr 7))
 (some (.inl ())):Option ((Unit) ⊕ (Int))).bind fun x_35 =>
 Sum.elim
 (fun _ =>
 br (inB c_1.Kind 15)
 ((zmh .Use 0 (0 + (c_1.Kind).toNat * 8) 8).bind fun x_4 =>
 (
 (
 (
 br x_4.node
 ((zI c_1.Node).bind fun x_5 =>
 some (!x_5))
 (some false):Option (Bool)).bind fun x_6 =>
 br x_6
 (some true)
 (br x_4.other
 ((zI c_1.Other).bind fun x_7 =>
 br (!x_7)
 (some true)
 (some (c_1.Other == c_1.Node)))
 (some false)):Option (Bool)).bind fun x_8 =>
 br x_8
 (some (.inr (2,x_2)))
 ((
 (zJ (c_1.N,x_4.low,x_4.n)).bind fun x_9 =>
 br (!x_9)
 (some true)
 ((zJ (c_1.At,0,x_4.at_)).bind fun x_10 =>
 br (!x_10)
 (some true)
 ((zJ (c_1.By,1,x_4.by_)).bind fun x_11 =>
 some (!x_11))):Option (Bool)).bind fun x_12 =>
 br x_12
 (some (.inr (2,x_2)))
 ((
 (
 br x_4.node
 ((yF c_1.Node x_2).bind fun (x_13,x_14) =>
 some (!x_13,x_14))
 (some (false,x_2)):Option (Bool × Script)).bind fun (x_15,x_16) =>
 br x_15
 (some (true,x_16))
 (br x_4.other
 ((yF c_1.Other x_16).bind fun (x_17,x_18) =>
 some (!x_17,x_18))
 (some (false,x_16))):Option (Bool × Script)).bind fun (x_19,x_20) =>
 br x_19
 (some (.inr (8,x_20)))
 ((
 (
 br (!x_4.node)
 (some (c_1.Node != 0))
 (some false):Option (Bool)).bind fun x_21 =>
 br x_21
 (some true)
 ((
 br (!x_4.other)
 (some (c_1.Other != 0))
 (some false):Option (Bool)).bind fun x_22 =>
 br x_22
 (some true)
 ((
 br (decide (x_4.n < 0))
 (some (c_1.N != 0))
 (some false):Option (Bool)).bind fun x_23 =>
 br x_23
 (some true)
 ((
 br (decide (x_4.at_ < 0))
 (some (c_1.At != 0))
 (some false):Option (Bool)).bind fun x_24 =>
 br x_24
 (some true)
 ((
 br (decide (x_4.by_ < 0))
 (some (c_1.By != 0))
 (some false):Option (Bool)).bind fun x_25 =>
 br x_25
 (some true)
 (br (!x_4.bndl)
 (some (!((c_1.Bundle.ID.Node == 0) && ((c_1.Bundle.ID.Seq == 0) && ((c_1.Bundle.ID.Off == 0) && ((c_1.Bundle.Dest == 0) && ((c_1.Bundle.Prio == 0) && ((c_1.Bundle.Born == 0) && ((c_1.Bundle.Life == 0) && ((c_1.Bundle.Total == 0) && (c_1.Bundle.Data == ([]:List UInt8))))))))))))
 (some false)))))):Option (Bool)).bind fun x_26 =>
 br x_26
 (some (.inr (3,x_20)))
 (some (.inl x_20))))):Option ((Script) ⊕ (Int × Script))).bind fun x_33 =>
 Sum.elim
 (fun x_27 =>
 (
 br x_4.bndl
 ((yD c_1.Bundle).bind fun x_28 =>
 some (.inr x_28))
 (some (.inl ())):Option ((Unit) ⊕ (Int))).bind fun x_30 =>
 Sum.elim
 (fun _ =>
 some (0,x_27))
 (fun x_29 =>
 some (x_29,x_27)) x_30)
 (fun (x_31,x_32) =>
 some (x_31,x_32)) x_33)
 (none))
 (fun x_34 =>
 some (x_34,x_2)) x_35
def yr.ann:Ann:=(.two .no (.two (.join ([4]++rg 6 13) [] [] [(.norm,[]),(.ret,[.slot 4 .i64 none])] (.two (.join (rg 6 13) [] [] [(.norm,[.slot 13 .bool none])] .no) .no)) (.two .no (.two (.join ([4]++rg 18 135) [0] [.box 0 .Script] [(.norm,[.box 0 .Script]),(.ret,[.slot 4 .i64 none,.box 0 .Script])] (.two (.join (rg 18 41) [] [] [(.norm,[.slot 18 .bool none])] (.two (.join (rg 18 26) [] [] [(.norm,[.slot 18 .bool none])] .no) .no)) (.two .no (.two (.join (rg 42 66) [] [] [(.norm,[.slot 42 .bool none])] .no) (.two .no (.two (.join (rg 67 85) [0] [.box 0 .Script] [(.norm,[.slot 67 .bool none,.box 0 .Script])] (.two (.join (rg 67 76) [0] [.box 0 .Script] [(.norm,[.slot 67 .bool none,.box 0 .Script])] .no) .no)) (.two .no (.two (.join (rg 86 135) [] [] [(.norm,[.slot 86 .bool none])] (.two (.join (rg 86 94) [] [] [(.norm,[.slot 86 .bool none])] .no) (.two .no (.two (.join ([86]++rg 95 102) [] [] [(.norm,[.slot 86 .bool none])] .no) (.two .no (.two (.join ([86]++rg 103 110) [] [] [(.norm,[.slot 86 .bool none])] .no) (.two .no (.two (.join ([86]++rg 111 118) [] [] [(.norm,[.slot 86 .bool none])] .no) (.two .no (.two (.join ([86]++rg 119 126) [] [] [(.norm,[.slot 86 .bool none])] .no) .no)))))))))) .no)))))))) (.two (.join [4,136,137,138,139,140] [] [] [(.norm,[]),(.ret,[.slot 4 .i64 none])] .no) .no)))))
set_option maxRecDepth 100000 in
theorem yr.fn:FnB Tryz.prog 32 [.d .Command,.f 38 [0]] [(.Script,26)] [.i64] yr :=
 FnB.of (X:=ctx 0 [zI.spec,zJ.spec,yF.spec,yD.spec]) Tryz.mixed yr.ann Tryz.func32 rfl (by kernel_rfl) (zvN rfl) (fun x y=>by kernel_rfl)
def yr.spec:XSpec Tryz.prog:=XSpec.b 32 [.d .Command,.f 38 [0]] [(.Script,26)] [.i64] yr (by kernel_rfl) yr.fn
def qt:(Script × Command)->Option Int :=
 fun (s_1,c_2) =>
 (yr c_2 s_1).bind fun (x_3,x_4) =>
 some x_3
def qt.ann:Ann:=.no
set_option maxRecDepth 100000 in
theorem qt.fn:FnT Tryz.prog 13 [.d .Script,.d .Command] [.i64] qt :=
 FnT.of (X:=ctx 0 [yr.spec]) Tryz.mixed qt.ann Tryz.func13 rfl (by kernel_rfl) (zvN rfl) (fun x=>by kernel_rfl)
def qt.spec:XSpec Tryz.prog:=XSpec.t 13 [.d .Script,.d .Command] [.i64] qt (by kernel_rfl) qt.fn
def zC:(Script × Command)->Option Bool :=
 fun (s_1,c_2) =>
 (zL s_1).bind fun x_3 =>
 br x_3
 ((zU ()).bind fun x_4 =>
 some x_4)
 (br (decide (1010 < (c_2.Bundle.Data.length:Int)))
 ((zU ()).bind fun x_5 =>
 some x_5)
 ((y9 c_2).bind fun (x_6,x_7) =>
 (zQ c_2).bind fun (x_8,x_9) =>
 (zZ s_1).bind fun x_10 =>
 (qt (x_10,c_2)).bind fun x_11 =>
 (zW (s_1,c_2)).bind fun x_12 =>
 br (x_11 == x_12)
 (br (x_6 == x_8)
 (br (x_7 == x_9)
 ((zU ()).bind fun x_13 =>
 some x_13)
 (some false))
 (some false))
 (some false)))
def zC.ann:Ann:=.no
set_option maxRecDepth 100000 in
theorem zC.fn:FnT Tryz.prog 3 [.d .Script,.d .Command] [.bool] zC :=
 FnT.of (X:=ctx 0 [zL.spec,zU.spec,y9.spec,zQ.spec,zZ.spec,qt.spec,zW.spec]) Tryz.mixed zC.ann Tryz.func3 rfl (by kernel_rfl) (zvN rfl) (fun x=>by kernel_rfl)
def zC.spec:XSpec Tryz.prog:=XSpec.t 3 [.d .Script,.d .Command] [.bool] zC (by kernel_rfl) zC.fn
