import Derived.Test.YtjcbpfhlgebgdaaGreatDoorXWd
import Derived.Test.YtjcbpfhlgebgdaaGreatDoorXRw
import Derived.Test.YtjcbpfhlgebgdaaGreatDoorXRr
import Derived.Test.YtjcbpfhlgebgdaaGreatDoorXKp
import Derived.Test.YtjcbpfhlgebgdaaGreatDoorP6l
import Derived.Test.YtjcbpfhlgebgdaaGreatDoorX9
import Derived.Test.YtjcbpfhlgebgdaaGreatDoorChecked
import Derived.KernelRfl
open Nat renaming le_of_ble_eq_true -> zvK
set_option linter.unusedSimpArgs false
set_option linter.unusedVariables false
namespace Go.Proofs.YtjcbpfhlgebgdaaGreatDoor
open Go.X Go.Eng
noncomputable def yC:Outc->Option (List Word) :=
 fun o_1 =>
 br (inB o_1.Kind 16)
  ((zjV .Face 0 (0 + (o_1.Kind).toNat * 2) 2).bind fun x_2 =>
  br ((YW .and .i64 x_2.uses 1) != 0)
   ((app 16 ([(IV.int 107 o_1.Tick),(IV.int 108 o_1.Node),(IV.int 109 o_1.Kind)]:List IV) ([(IV.id 111 o_1.ID)]:List IV)).bind fun x_3 =>
   br (o_1.Other != 0)
    ((app 16 x_3 ([(IV.int 112 o_1.Other)]:List IV)).bind fun x_4 =>
    (qg (σ:=(List Word) × Int) (ρ:=List Word) (fun (l_5,x_6) =>
     br (decide (x_6 < (x_4.length:Int)))
      ((idx x_4 x_6).bind fun x_7 =>
      (yi x_7).bind fun x_8 =>
      (app 40 l_5 ([x_8]:List Word)).bind fun x_9 =>
      (zD .i64 x_6 1).bind fun x_10 =>
      some (.next (x_9,x_10)))
      (some (.done l_5))) (([]:List Word),0)).bind fun l_11 =>
    some l_11)
    ((qg (σ:=(List Word) × Int) (ρ:=List Word) (fun (l_12,x_13) =>
     br (decide (x_13 < (x_3.length:Int)))
      ((idx x_3 x_13).bind fun x_14 =>
      (yi x_14).bind fun x_15 =>
      (app 40 l_12 ([x_15]:List Word)).bind fun x_16 =>
      (zD .i64 x_13 1).bind fun x_17 =>
      some (.next (x_16,x_17)))
      (some (.done l_12))) (([]:List Word),0)).bind fun l_18 =>
    some l_18))
   (br (o_1.Other != 0)
    ((app 16 ([(IV.int 107 o_1.Tick),(IV.int 108 o_1.Node),(IV.int 109 o_1.Kind)]:List IV) ([(IV.int 112 o_1.Other)]:List IV)).bind fun x_19 =>
    (qg (σ:=(List Word) × Int) (ρ:=List Word) (fun (l_20,x_21) =>
     br (decide (x_21 < (x_19.length:Int)))
      ((idx x_19 x_21).bind fun x_22 =>
      (yi x_22).bind fun x_23 =>
      (app 40 l_20 ([x_23]:List Word)).bind fun x_24 =>
      (zD .i64 x_21 1).bind fun x_25 =>
      some (.next (x_24,x_25)))
      (some (.done l_20))) (([]:List Word),0)).bind fun l_26 =>
    some l_26)
    ((qg (σ:=(List Word) × Int) (ρ:=List Word) (fun (l_27,x_28) =>
     br (decide (x_28 < (([(IV.int 107 o_1.Tick),(IV.int 108 o_1.Node),(IV.int 109 o_1.Kind)]:List IV).length:Int)))
      ((idx ([(IV.int 107 o_1.Tick),(IV.int 108 o_1.Node),(IV.int 109 o_1.Kind)]:List IV) x_28).bind fun x_29 =>
      (yi x_29).bind fun x_30 =>
      (app 40 l_27 ([x_30]:List Word)).bind fun x_31 =>
      (zD .i64 x_28 1).bind fun x_32 =>
      some (.next (x_31,x_32)))
      (some (.done l_27))) (([]:List Word),0)).bind fun l_33 =>
    some l_33)))
  (none)
def yC.ann:Ann:=(.two .no (.two .no (.two .no (.two .no (.two .no (.two .no (.two (.two .no (.loop [5,7,43,44,45,46,47,48,49,50,51,52] [] [.slot 5 .l_Word (some (5,57)),.slot 43 .i64 none] [(.exit 0,[.slot 5 .l_Word (some (5,57))])] .no)) .no)))))))
set_option maxRecDepth 100000 in
theorem yC.fn:FnT Tryz.prog 22 [.d .Outc] [.l_Word] yC :=
 FnT.of (X:=ctx 0 [yi.spec]) Tryz.mixed yC.ann Tryz.func22 rfl (by kernel_rfl) (zvK rfl) (fun x=>by kernel_rfl)
noncomputable def yC.spec:zb Tryz.prog:=zb.t 22 [.d .Outc] [.l_Word] yC (by kernel_rfl) yC.fn
set_option maxRecDepth 100000 in
theorem yC.fo:zhy Tryz.prog 22 [.d .Outc] .Word 57 yC :=
 zhy.of (X:=ctx 0 [yi.spec]) Tryz.mixed yC.ann Tryz.func22 rfl (by kernel_rfl) (zvK rfl) (fun x=>by kernel_rfl)
noncomputable def yC.ow:zbg Tryz.prog:=zbg.t 22 [.d .Outc] .Word 57 yC (by kernel_rfl) yC.fo
noncomputable def yx:List UInt8->Option Int :=
 fun s_1 =>
 (yU s_1).bind fun (x_2,x_3) =>
 br (!x_3)
  (some (-1))
  (some (Go.IntKind.wrap .i64 x_2))
def yx.ann:Ann:=.no
set_option maxRecDepth 100000 in
theorem yx.fn:FnT Tryz.prog 63 [.d .str] [.i64] yx :=
 FnT.of (X:=ctx 0 [yU.spec]) Tryz.mixed yx.ann Tryz.func63 rfl (by kernel_rfl) (zvK rfl) (fun x=>by kernel_rfl)
noncomputable def yx.spec:zb Tryz.prog:=zb.t 63 [.d .str] [.i64] yx (by kernel_rfl) yx.fn
noncomputable def zo:((List UInt8) × (List UInt8))->Option Bool :=
 fun (s_1,prefix_2) =>
 br (decide ((prefix_2.length:Int) <= (s_1.length:Int)))
  ((slc s_1 0 (prefix_2.length:Int)).bind fun x_3 =>
  some (x_3 == prefix_2))
  (some false)
def zo.ann:Ann:=.no
set_option maxRecDepth 100000 in
theorem zo.fn:FnT Tryz.prog 125 [.d .str,.d .str] [.bool] zo :=
 FnT.of (X:=ctx 0 []) Tryz.mixed zo.ann Tryz.func125 rfl (by kernel_rfl) (zvK rfl) (fun x=>by kernel_rfl)
noncomputable def zo.spec:zb Tryz.prog:=zb.t 125 [.d .str,.d .str] [.bool] zo (by kernel_rfl) zo.fn
noncomputable def zk:((List UInt8) × (List UInt8))->Option (List UInt8) :=
 fun (s_1,prefix_2) =>
 (zo (s_1,prefix_2)).bind fun x_3 =>
 br x_3
  ((slc s_1 (prefix_2.length:Int) (s_1.length:Int)).bind fun x_4 =>
  some x_4)
  (some s_1)
def zk.ann:Ann:=.no
set_option maxRecDepth 100000 in
theorem zk.fn:FnT Tryz.prog 101 [.d .str,.d .str] [.str] zk :=
 FnT.of (X:=ctx 0 [zo.spec]) Tryz.mixed zk.ann Tryz.func101 rfl (by kernel_rfl) (zvK rfl) (fun x=>by kernel_rfl)
noncomputable def zk.spec:zb Tryz.prog:=zb.t 101 [.d .str,.d .str] [.str] zk (by kernel_rfl) zk.fn
noncomputable def zZ:((List UInt8) × (List UInt8))->Option (List UInt8) :=
 fun (s_1,prefix_2) =>
 (zk (s_1,prefix_2)).bind fun x_3 =>
 some x_3
def zZ.ann:Ann:=.no
set_option maxRecDepth 100000 in
theorem zZ.fn:FnT Tryz.prog 64 [.d .str,.d .str] [.str] zZ :=
 FnT.of (X:=ctx 0 [zk.spec]) Tryz.mixed zZ.ann Tryz.func64 rfl (by kernel_rfl) (zvK rfl) (fun x=>by kernel_rfl)
noncomputable def zZ.spec:zb Tryz.prog:=zb.t 64 [.d .str,.d .str] [.str] zZ (by kernel_rfl) zZ.fn
noncomputable def yP:Face->Word->Option ((Bool) × (Word)) :=
 fun f_1 x_2 =>
 br (!(f_1.word == ([]:List UInt8)))
  (some (f_1.word == x_2.Text,x_2))
  (some (false,x_2))
def yP.ann:Ann:=.no
set_option maxRecDepth 100000 in
theorem yP.fn:FnB Tryz.prog 66 [.d .Face,.l 0 0] [(.Word,57)] [.bool] yP :=
 FnB.of (X:=ctx 0 []) Tryz.mixed yP.ann Tryz.func66 rfl (by kernel_rfl) (zvK rfl) (fun x y=>by kernel_rfl)
noncomputable def yP.spec:zb Tryz.prog:=zb.b 66 [.d .Face,.l 0 0] [(.Word,57)] [.bool] yP (by kernel_rfl) yP.fn
noncomputable def zS:List Face->Word->Option ((Int) × (Word)) :=
 fun s_1 x_2 =>
 (qg (σ:=Int × Word) (ρ:=(Int × Word) ⊕ (Word)) (fun (x_3,x_4) =>
  br (decide (x_3 < (s_1.length:Int)))
   ((idx s_1 x_3).bind fun x_5 =>
   (yP x_5 x_4).bind fun (x_6,x_7) =>
   br x_6
    (some (.done (.inl (x_3,x_7))))
    ((zD .i64 x_3 1).bind fun x_8 =>
    some (.next (x_8,x_7))))
   (some (.done (.inr x_4)))) (0,x_2)).bind fun x_12 =>
 Sum.elim
  (fun (x_9,x_10) =>
  some (x_9,x_10))
  (fun x_11 =>
  some ((-1),x_11)) x_12
def zS.ann:Ann:=(.two .no (.two (.two .no (.loop [4,5,8,9,10,11,12,13,14,15,16,17,18] [0] [.slot 8 .i64 none,.box 0 .Word] [(.ret,[.slot 4 .i64 none,.box 0 .Word]),(.exit 0,[.box 0 .Word])] .no)) .no))
set_option maxRecDepth 100000 in
theorem zS.fn:FnB Tryz.prog 65 [.d .l_Face,.f 66 [0]] [(.Word,57)] [.i64] zS :=
 FnB.of (X:=ctx 0 [yP.spec]) Tryz.mixed zS.ann Tryz.func65 rfl (by kernel_rfl) (zvK rfl) (fun x y=>by kernel_rfl)
noncomputable def zS.spec:zb Tryz.prog:=zb.b 65 [.d .l_Face,.f 66 [0]] [(.Word,57)] [.i64] zS (by kernel_rfl) zS.fn
noncomputable def yQ:List Word->Option Outc :=
 fun l_1 =>
 (qg (σ:=Int × Outc) (ρ:=Outc) (fun (x_2,x_3) =>
  br (decide (x_2 < (l_1.length:Int)))
   ((idx l_1 x_2).bind fun x_4 =>
   br (x_2 == 0)
    ((yx x_4.Text).bind fun x_5 =>
    (zD .i64 x_2 1).bind fun x_6 =>
    some (.next (x_6,(⟨x_5,x_3.Node,x_3.Kind,x_3.ID,x_3.Other⟩:Outc))))
    (br (x_2 == 1)
     ((zZ (x_4.Text,([110]:List UInt8))).bind fun x_7 =>
     (yx x_7).bind fun x_8 =>
     (zD .i64 x_2 1).bind fun x_9 =>
     some (.next (x_9,(⟨x_3.Tick,x_8,x_3.Kind,x_3.ID,x_3.Other⟩:Outc))))
     (br (x_2 == 2)
      ((zjW .Face 0 2 16 (0)).bind fun x_10 =>
      (zS x_10 x_4).bind fun (x_11,x_12) =>
      (zD .i64 x_2 1).bind fun x_13 =>
      some (.next (x_13,(⟨x_3.Tick,x_3.Node,x_11,x_3.ID,x_3.Other⟩:Outc))))
      (br (x_4.Key == ([105,100]:List UInt8))
             ((ym x_4.Text).bind fun (x_14,x_15) =>
             (zD .i64 x_2 1).bind fun x_16 =>
             some (.next (x_16,(⟨x_3.Tick,x_3.Node,x_3.Kind,x_14,x_3.Other⟩:Outc))))
             (br (x_4.Key == ([97,116]:List UInt8))
              ((yx x_4.Text).bind fun x_17 =>
              (zD .i64 x_2 1).bind fun x_18 =>
              some (.next (x_18,(⟨x_3.Tick,x_3.Node,x_3.Kind,x_3.ID,x_17⟩:Outc))))
              ((zD .i64 x_2 1).bind fun x_19 =>
              some (.next (x_19,x_3))))))))
   (some (.done x_3))) (0,(⟨0,0,0,(⟨0,0,0⟩:ID),0⟩:Outc))).bind fun x_20 =>
 some x_20
def yQ.ann:Ann:=(.two .no (.two .no (.two (.two .no (.loop [4,5,8,9,10,11,12,13,14,15,16,17,18,19,20,21,22,23,24,25,26,27,28,29,30,31,32,33,34,35,36,37,38,39,40,41,42,43,44,45,46,47,48,49,50,51,52,53,54] [1] [.slot 8 .i64 none,.box 1 .Outc] [(.exit 0,[.box 1 .Outc])] .no)) .no)))
set_option maxRecDepth 100000 in
theorem yQ.fn:FnT Tryz.prog 30 [.d .l_Word] [.Outc] yQ :=
 FnT.of (X:=ctx 0 [yx.spec,zZ.spec,zS.spec,ym.spec]) Tryz.mixed yQ.ann Tryz.func30 rfl (by kernel_rfl) (zvK rfl) (fun x=>by kernel_rfl)
noncomputable def yQ.spec:zb Tryz.prog:=zb.t 30 [.d .l_Word] [.Outc] yQ (by kernel_rfl) yQ.fn
noncomputable def qN:Outc->Option Int :=
 fun o_1 =>
 br (decide (o_1.Kind < 1))
  (some 7)
  (br (decide (15 < o_1.Kind))
   (some 7)
   (br (inB o_1.Kind 16)
    ((zpV .i64 0 (0 + (o_1.Kind).toNat * 2 + 1)).bind fun x_2 =>
    br ((YW .and .i64 x_2 1) != 0)
     ((zm o_1.ID).bind fun x_3 =>
     br ((YW .and .i64 x_2 2) != 0)
      (br (decide (1 <= o_1.Other))
       (br (decide (o_1.Other <= 16))
        (br (o_1.Other != o_1.Node)
         (br (decide (o_1.Tick < 0))
          (some 2)
          (br (decide (1099511627776 < o_1.Tick))
           (some 2)
           (br (decide (o_1.Node < 1))
            (some 2)
            (br (decide (16 < o_1.Node))
             (some 2)
             (br (!(x_3 == 0))
              (some 2)
              (some 0))))))
         (br ((YW .and .i64 x_2 4) != 0)
          (br (decide (o_1.Tick < 0))
           (some 2)
           (br (decide (1099511627776 < o_1.Tick))
            (some 2)
            (br (decide (o_1.Node < 1))
             (some 2)
             (br (decide (16 < o_1.Node))
              (some 2)
              (br (!(x_3 == 0))
               (some 2)
               (br (!(o_1.Other == 0))
                (some 2)
                (some 0)))))))
          (br (decide (o_1.Tick < 0))
           (some 2)
           (br (decide (1099511627776 < o_1.Tick))
            (some 2)
            (br (decide (o_1.Node < 1))
             (some 2)
             (br (decide (16 < o_1.Node))
              (some 2)
              (br (!(x_3 == 0))
               (some 2)
               (some 2))))))))
        (br ((YW .and .i64 x_2 4) != 0)
         (br (decide (o_1.Tick < 0))
          (some 2)
          (br (decide (1099511627776 < o_1.Tick))
           (some 2)
           (br (decide (o_1.Node < 1))
            (some 2)
            (br (decide (16 < o_1.Node))
             (some 2)
             (br (!(x_3 == 0))
              (some 2)
              (br (!(o_1.Other == 0))
               (some 2)
               (some 0)))))))
         (br (decide (o_1.Tick < 0))
          (some 2)
          (br (decide (1099511627776 < o_1.Tick))
           (some 2)
           (br (decide (o_1.Node < 1))
            (some 2)
            (br (decide (16 < o_1.Node))
             (some 2)
             (br (!(x_3 == 0))
              (some 2)
              (some 2))))))))
       (br ((YW .and .i64 x_2 4) != 0)
        (br (decide (o_1.Tick < 0))
         (some 2)
         (br (decide (1099511627776 < o_1.Tick))
          (some 2)
          (br (decide (o_1.Node < 1))
           (some 2)
           (br (decide (16 < o_1.Node))
            (some 2)
            (br (!(x_3 == 0))
             (some 2)
             (br (!(o_1.Other == 0))
              (some 2)
              (some 0)))))))
        (br (decide (o_1.Tick < 0))
         (some 2)
         (br (decide (1099511627776 < o_1.Tick))
          (some 2)
          (br (decide (o_1.Node < 1))
           (some 2)
           (br (decide (16 < o_1.Node))
            (some 2)
            (br (!(x_3 == 0))
             (some 2)
             (some 2))))))))
      (br (decide (o_1.Tick < 0))
       (some 2)
       (br (decide (1099511627776 < o_1.Tick))
        (some 2)
        (br (decide (o_1.Node < 1))
         (some 2)
         (br (decide (16 < o_1.Node))
          (some 2)
          (br (!(x_3 == 0))
           (some 2)
           (br (!(o_1.Other == 0))
            (some 2)
            (some 0))))))))
     (br ((YW .and .i64 x_2 2) != 0)
      (br (decide (1 <= o_1.Other))
       (br (decide (o_1.Other <= 16))
        (br (o_1.Other != o_1.Node)
         (br (decide (o_1.Tick < 0))
          (some 2)
          (br (decide (1099511627776 < o_1.Tick))
           (some 2)
           (br (decide (o_1.Node < 1))
            (some 2)
            (br (decide (16 < o_1.Node))
             (some 2)
             (br (!((o_1.ID.Node == 0) && ((o_1.ID.Seq == 0) && (o_1.ID.Off == 0))))
              (some 2)
              (some 0))))))
         (br ((YW .and .i64 x_2 4) != 0)
          (br (decide (o_1.Tick < 0))
           (some 2)
           (br (decide (1099511627776 < o_1.Tick))
            (some 2)
            (br (decide (o_1.Node < 1))
             (some 2)
             (br (decide (16 < o_1.Node))
              (some 2)
              (br (!((o_1.ID.Node == 0) && ((o_1.ID.Seq == 0) && (o_1.ID.Off == 0))))
               (some 2)
               (br (!(o_1.Other == 0))
                (some 2)
                (some 0)))))))
          (br (decide (o_1.Tick < 0))
           (some 2)
           (br (decide (1099511627776 < o_1.Tick))
            (some 2)
            (br (decide (o_1.Node < 1))
             (some 2)
             (br (decide (16 < o_1.Node))
              (some 2)
              (br (!((o_1.ID.Node == 0) && ((o_1.ID.Seq == 0) && (o_1.ID.Off == 0))))
               (some 2)
               (some 2))))))))
        (br ((YW .and .i64 x_2 4) != 0)
         (br (decide (o_1.Tick < 0))
          (some 2)
          (br (decide (1099511627776 < o_1.Tick))
           (some 2)
           (br (decide (o_1.Node < 1))
            (some 2)
            (br (decide (16 < o_1.Node))
             (some 2)
             (br (!((o_1.ID.Node == 0) && ((o_1.ID.Seq == 0) && (o_1.ID.Off == 0))))
              (some 2)
              (br (!(o_1.Other == 0))
               (some 2)
               (some 0)))))))
         (br (decide (o_1.Tick < 0))
          (some 2)
          (br (decide (1099511627776 < o_1.Tick))
           (some 2)
           (br (decide (o_1.Node < 1))
            (some 2)
            (br (decide (16 < o_1.Node))
             (some 2)
             (br (!((o_1.ID.Node == 0) && ((o_1.ID.Seq == 0) && (o_1.ID.Off == 0))))
              (some 2)
              (some 2))))))))
       (br ((YW .and .i64 x_2 4) != 0)
        (br (decide (o_1.Tick < 0))
         (some 2)
         (br (decide (1099511627776 < o_1.Tick))
          (some 2)
          (br (decide (o_1.Node < 1))
           (some 2)
           (br (decide (16 < o_1.Node))
            (some 2)
            (br (!((o_1.ID.Node == 0) && ((o_1.ID.Seq == 0) && (o_1.ID.Off == 0))))
             (some 2)
             (br (!(o_1.Other == 0))
              (some 2)
              (some 0)))))))
        (br (decide (o_1.Tick < 0))
         (some 2)
         (br (decide (1099511627776 < o_1.Tick))
          (some 2)
          (br (decide (o_1.Node < 1))
           (some 2)
           (br (decide (16 < o_1.Node))
            (some 2)
            (br (!((o_1.ID.Node == 0) && ((o_1.ID.Seq == 0) && (o_1.ID.Off == 0))))
             (some 2)
             (some 2))))))))
      (br (decide (o_1.Tick < 0))
       (some 2)
       (br (decide (1099511627776 < o_1.Tick))
        (some 2)
        (br (decide (o_1.Node < 1))
         (some 2)
         (br (decide (16 < o_1.Node))
          (some 2)
          (br (!((o_1.ID.Node == 0) && ((o_1.ID.Seq == 0) && (o_1.ID.Off == 0))))
           (some 2)
           (br (!(o_1.Other == 0))
            (some 2)
            (some 0)))))))))
    (none)))
def qN.ann:Ann:=.no
set_option maxRecDepth 100000 in
theorem qN.fn:FnT Tryz.prog 31 [.d .Outc] [.i64] qN :=
 FnT.of (X:=ctx 0 [zm.spec]) Tryz.mixed qN.ann Tryz.func31 rfl (by kernel_rfl) (zvK rfl) (fun x=>by kernel_rfl)
noncomputable def qN.spec:zb Tryz.prog:=zb.t 31 [.d .Outc] [.i64] qN (by kernel_rfl) qN.fn
noncomputable def qL:List Outc->Option (Int × Int) :=
 fun l_1 =>
 br (decide (5000 < (l_1.length:Int)))
  (some (5,0))
  ((qg (σ:=Int) (ρ:=(Int × Int) ⊕ (Unit)) (fun x_2 =>
   br (decide (x_2 < (l_1.length:Int)))
    ((idx l_1 x_2).bind fun x_3 =>
    (qN x_3).bind fun x_4 =>
    br (x_4 != 0)
     (some (.done (.inl (x_4,x_2))))
     (br (decide (0 < x_2))
      ((Z9 .i64 x_2 1).bind fun x_5 =>
      (idx l_1 x_5).bind fun x_6 =>
      br (decide (x_3.Tick < x_6.Tick))
       (some (.done (.inl (19,x_2))))
       ((zD .i64 x_2 1).bind fun x_7 =>
       some (.next x_7)))
      ((zD .i64 x_2 1).bind fun x_8 =>
      some (.next x_8))))
    (some (.done (.inr ())))) 0).bind fun x_11 =>
  Sum.elim
   (fun (x_9,x_10) =>
   some (x_9,x_10))
   (fun _ =>
   some (0,0)) x_11)
def qL.ann:Ann:=(.two .no (.two .no (.two (.two .no (.loop [2,3,4,5,6,12,13,14,15,16,17,18,19,20,21,22,23,24,25,26,27,28,29,30,31,32,33,34,35,36,37] [] [.slot 12 .i64 none] [(.ret,[.slot 2 .i64 none,.slot 3 .i64 none]),(.exit 0,[])] .no)) .no)))
set_option maxRecDepth 100000 in
theorem qL.fn:FnT Tryz.prog 55 [.d .l_Outc] [.i64,.i64] qL :=
 FnT.of (X:=ctx 0 [qN.spec]) Tryz.mixed qL.ann Tryz.func55 rfl (by kernel_rfl) (zvK rfl) (fun x=>by kernel_rfl)
noncomputable def qL.spec:zb Tryz.prog:=zb.t 55 [.d .l_Outc] [.i64,.i64] qL (by kernel_rfl) qL.fn
noncomputable def qa:List Outc->Option Int :=
 fun l_1 =>
 (qL l_1).bind fun (x_2,x_3) =>
 some x_2
def qa.ann:Ann:=.no
set_option maxRecDepth 100000 in
theorem qa.fn:FnT Tryz.prog 21 [.d .l_Outc] [.i64] qa :=
 FnT.of (X:=ctx 0 [qL.spec]) Tryz.mixed qa.ann Tryz.func21 rfl (by kernel_rfl) (zvK rfl) (fun x=>by kernel_rfl)
noncomputable def qa.spec:zb Tryz.prog:=zb.t 21 [.d .l_Outc] [.i64] qa (by kernel_rfl) qa.fn
noncomputable def qe:(Word × Word)->Option Bool :=
 fun (a_1,b_2) =>
 br (a_1.Key == b_2.Key)
  (some (a_1.Text == b_2.Text))
  (some false)
def qe.ann:Ann:=.no
set_option maxRecDepth 100000 in
theorem qe.fn:FnT Tryz.prog 33 [.d .Word,.d .Word] [.bool] qe :=
 FnT.of (X:=ctx 0 []) Tryz.mixed qe.ann Tryz.func33 rfl (by kernel_rfl) (zvK rfl) (fun x=>by kernel_rfl)
noncomputable def qe.spec:zb Tryz.prog:=zb.t 33 [.d .Word,.d .Word] [.bool] qe (by kernel_rfl) qe.fn
noncomputable def zT:((List Word) × (List Word))->Option Bool :=
 fun (s1_1,s2_2) =>
 br ((s1_1.length:Int) != (s2_2.length:Int))
  (some false)
  ((qg (σ:=Int) (ρ:=(Bool) ⊕ (Unit)) (fun x_3 =>
   br (decide (x_3 < (s1_1.length:Int)))
    ((idx s1_1 x_3).bind fun x_4 =>
    (idx s2_2 x_3).bind fun x_5 =>
    (qe (x_4,x_5)).bind fun x_6 =>
    br (!x_6)
     (some (.done (.inl false)))
     ((zD .i64 x_3 1).bind fun x_7 =>
     some (.next x_7)))
    (some (.done (.inr ())))) 0).bind fun x_9 =>
  Sum.elim
   (fun x_8 =>
   some x_8)
   (fun _ =>
   some true) x_9)
def zT.ann:Ann:=(.two .no (.two .no (.two (.two .no (.loop [6,7,8,9,17,18,19,20,21,22,23,24,25,26,27,28,29,30,31] [] [.slot 17 .i64 none] [(.ret,[.slot 6 .bool none]),(.exit 0,[])] .no)) .no)))
set_option maxRecDepth 100000 in
theorem zT.fn:FnT Tryz.prog 32 [.d .l_Word,.d .l_Word,.f 33 []] [.bool] zT :=
 FnT.of (X:=ctx 0 [qe.spec]) Tryz.mixed zT.ann Tryz.func32 rfl (by kernel_rfl) (zvK rfl) (fun x=>by kernel_rfl)
noncomputable def zT.spec:zb Tryz.prog:=zb.t 32 [.d .l_Word,.d .l_Word,.f 33 []] [.bool] zT (by kernel_rfl) zT.fn
noncomputable def b3 {γ:Type} (A:Option γ):Option γ:=zhf A (zhf A A)
noncomputable def b4 {γ:Type} (A:Option γ):Option γ:=zhf (zhf A A) A
noncomputable def yN:List UInt8->Option ((List Outc) × Fault) :=
 fun text_1 =>
 (qx text_1).bind fun (x_2,x_3) =>
 br (x_3.Err != 0)
  (some (([]:List Outc),x_3))
  ((qg (σ:=(List Outc) × Int × Fault) (ρ:=((List Outc) × Fault) ⊕ ((List Outc) × Fault)) (fun (out_4,x_5,x_6) =>
   br (decide (x_5 < (x_2.length:Int)))
    ((idx x_2 x_5).bind fun x_7 =>
    (idx x_7.Words 0).bind fun x_8 =>
    br (decide (5000 <= x_5))
     (some (.done (.inl (([]:List Outc),(⟨5,x_8.At⟩:Fault)))))
     ((yQ x_7.Words).bind fun x_9 =>
     (qN x_9).bind fun x_10 =>
     zhf
      (br (x_10 != 0)
       (b3 (some (.done (.inl (([]:List Outc),(⟨3,x_8.At⟩:Fault))))))
       (b3
                 ((yC x_9).bind fun x_11 =>
                (zT (x_7.Words,x_11)).bind fun x_12 =>
                br (!x_12)
                 (some (.done (.inl (([]:List Outc),(⟨3,x_8.At⟩:Fault)))))
                 (br (decide (0 < x_5))
                  ((Z9 .i64 x_5 1).bind fun x_13 =>
                  (idx out_4 x_13).bind fun x_14 =>
                  br (decide (x_9.Tick < x_14.Tick))
                   (some (.done (.inl (([]:List Outc),(⟨19,x_8.At⟩:Fault)))))
                   ((app 56 out_4 ([x_9]:List Outc)).bind fun x_15 =>
                   (zD .i64 x_5 1).bind fun x_16 =>
                   some (.next (x_15,x_16,x_6))))
                  ((app 56 out_4 ([x_9]:List Outc)).bind fun x_17 =>
                  (zD .i64 x_5 1).bind fun x_18 =>
                  some (.next (x_17,x_18,x_6)))))
       ))
      (br (x_10 != 0)
       (b4 (some (.done (.inl (([]:List Outc),(⟨3,x_8.At⟩:Fault))))))
       (b4
                 ((yC x_9).bind fun x_11 =>
                (zT (x_7.Words,x_11)).bind fun x_12 =>
                br (!x_12)
                 (some (.done (.inl (([]:List Outc),(⟨3,x_8.At⟩:Fault)))))
                 (br (decide (0 < x_5))
                  ((Z9 .i64 x_5 1).bind fun x_13 =>
                  (idx out_4 x_13).bind fun x_14 =>
                  br (decide (x_9.Tick < x_14.Tick))
                   (some (.done (.inl (([]:List Outc),(⟨19,x_8.At⟩:Fault)))))
                   ((app 56 out_4 ([x_9]:List Outc)).bind fun x_15 =>
                   (zD .i64 x_5 1).bind fun x_16 =>
                   some (.next (x_15,x_16,x_6))))
                  ((app 56 out_4 ([x_9]:List Outc)).bind fun x_17 =>
                  (zD .i64 x_5 1).bind fun x_18 =>
                  some (.next (x_17,x_18,x_6)))))
       ))))
    (some (.done (.inr (out_4,x_6))))) (([]:List Outc),0,(⟨0,0⟩:Fault))).bind fun x_63 =>
  Sum.elim
   (fun (x_59,x_60) =>
   some (x_59,x_60))
   (fun (out_61,x_62) =>
   some (out_61,(⟨0,0⟩:Fault))) x_63)
def yN.ann:Ann:=(.two .no (.two .no (.two .no (.two .no (.two (.two .no (.loop [2,6,7,8,9,10,22,23,24,25,26,27,28,29,30,31,32,33,34,35,36,37,38,39,40,41,42,43,44,45,46,47,48,49,50,51,52,53,54,55,56,57,58,59,60,61,62,63,64,65,66,67,68,69,70,71] [0] [.slot 6 .l_Outc (some (6,53)),.slot 22 .i64 none,.box 0 .Fault] [(.ret,[.slot 2 .l_Outc (some (2,53)),.box 0 .Fault]),(.exit 0,[.slot 6 .l_Outc (some (6,53)),.box 0 .Fault])] (.two .no (.two .no (.two (.two .no (.two .no (.two .no (.two .no (.two (.two .full .no) .no))))) .no))))) .no)))))
set_option maxRecDepth 100000 in
theorem yN.fn:FnT Tryz.prog 10 [.d .str] [.l_Outc,.Fault] yN :=
 FnT.of (X:=zts 0 [qx.spec,yQ.spec,qN.spec,yC.spec,zT.spec] [] [yC.ow]) Tryz.mixed yN.ann Tryz.func10 rfl (by kernel_rfl) (zvK rfl) (fun x=>by kernel_rfl)
noncomputable def yN.spec:zb Tryz.prog:=zb.t 10 [.d .str] [.l_Outc,.Fault] yN (by kernel_rfl) yN.fn
noncomputable def zN:Int->Option Bool :=
 fun kind_1 =>
 br (kind_1 == 6)
  (some true)
  (br (kind_1 == 7)
   (some true)
   (br (kind_1 == 10)
    (some true)
    (br (kind_1 == 11)
     (some true)
     (br (kind_1 == 12)
      (some true)
      (some (kind_1 == 13))))))
def zN.ann:Ann:=.no
set_option maxRecDepth 100000 in
theorem zN.fn:FnT Tryz.prog 105 [.d .i64] [.bool] zN :=
 FnT.of (X:=ctx 0 []) Tryz.mixed zN.ann Tryz.func105 rfl (by kernel_rfl) (zvK rfl) (fun x=>by kernel_rfl)
noncomputable def zN.spec:zb Tryz.prog:=zb.t 105 [.d .i64] [.bool] zN (by kernel_rfl) zN.fn
noncomputable def yf:Outc->Option Bool :=
 fun o_1 =>
 (zN o_1.Kind).bind fun x_2 =>
 br (!x_2)
  (some (o_1.Other == 0))
  (br (o_1.Kind == 12)
   (br (o_1.Other == 0)
    (some (o_1.Other == 0))
    (br (decide (1 <= o_1.Other))
     (br (decide (o_1.Other <= 16))
      (some (o_1.Other != o_1.Node))
      (some false))
     (some false)))
   (br (decide (1 <= o_1.Other))
    (br (decide (o_1.Other <= 16))
     (some (o_1.Other != o_1.Node))
     (some false))
    (some false)))
def yf.ann:Ann:=.no
set_option maxRecDepth 100000 in
theorem yf.fn:FnT Tryz.prog 73 [.d .Outc] [.bool] yf :=
 FnT.of (X:=ctx 0 [zN.spec]) Tryz.mixed yf.ann Tryz.func73 rfl (by kernel_rfl) (zvK rfl) (fun x=>by kernel_rfl)
noncomputable def yf.spec:zb Tryz.prog:=zb.t 73 [.d .Outc] [.bool] yf (by kernel_rfl) yf.fn
noncomputable def zM:Int->Option Bool :=
 fun kind_1 =>
 br (decide (1 <= kind_1))
  (br (decide (kind_1 <= 10))
   (some (kind_1 != 5))
   (some false))
  (some false)
def zM.ann:Ann:=.no
set_option maxRecDepth 100000 in
theorem zM.fn:FnT Tryz.prog 60 [.d .i64] [.bool] zM :=
 FnT.of (X:=ctx 0 []) Tryz.mixed zM.ann Tryz.func60 rfl (by kernel_rfl) (zvK rfl) (fun x=>by kernel_rfl)
noncomputable def zM.spec:zb Tryz.prog:=zb.t 60 [.d .i64] [.bool] zM (by kernel_rfl) zM.fn
noncomputable def z6:Outc->Option Int :=
 fun o_1 =>
 br (decide (o_1.Kind < 1))
  (some 7)
  (br (decide (15 < o_1.Kind))
   (some 7)
   (br (decide (o_1.Tick < 0))
    (some 2)
    (br (decide (1099511627776 < o_1.Tick))
     (some 2)
     (br (decide (o_1.Node < 1))
      (some 2)
      (br (decide (16 < o_1.Node))
       (some 2)
       ((yf o_1).bind fun x_2 =>
       br (!x_2)
        (some 2)
        ((zM o_1.Kind).bind fun x_3 =>
        br x_3
         ((zd o_1.ID).bind fun x_4 =>
         some x_4)
         (br (!((o_1.ID.Node == 0) && ((o_1.ID.Seq == 0) && (o_1.ID.Off == 0))))
          (some 2)
          (some 0)))))))))
def z6.ann:Ann:=.no
set_option maxRecDepth 100000 in
theorem z6.fn:FnT Tryz.prog 36 [.d .Outc] [.i64] z6 :=
 FnT.of (X:=ctx 0 [yf.spec,zM.spec,zd.spec]) Tryz.mixed z6.ann Tryz.func36 rfl (by kernel_rfl) (zvK rfl) (fun x=>by kernel_rfl)
noncomputable def z6.spec:zb Tryz.prog:=zb.t 36 [.d .Outc] [.i64] z6 (by kernel_rfl) z6.fn
noncomputable def yg:List Outc->Option (Int × Int) :=
 fun l_1 =>
 br (decide (5000 < (l_1.length:Int)))
  (some (5,0))
  ((qg (σ:=Int) (ρ:=(Int × Int) ⊕ (Unit)) (fun i_2 =>
   br (decide (i_2 < (l_1.length:Int)))
    ((idx l_1 i_2).bind fun x_3 =>
    (z6 x_3).bind fun x_4 =>
    br (x_4 != 0)
     (some (.done (.inl (x_4,i_2))))
     (br (decide (0 < i_2))
      ((idx l_1 i_2).bind fun x_5 =>
      (Z9 .i64 i_2 1).bind fun x_6 =>
      (idx l_1 x_6).bind fun x_7 =>
      br (decide (x_5.Tick < x_7.Tick))
       (some (.done (.inl (19,i_2))))
       ((zD .i64 i_2 1).bind fun x_8 =>
       some (.next x_8)))
      ((zD .i64 i_2 1).bind fun x_9 =>
      some (.next x_9))))
    (some (.done (.inr ())))) 0).bind fun x_12 =>
  Sum.elim
   (fun (x_10,x_11) =>
   some (x_10,x_11))
   (fun _ =>
   some (0,0)) x_12)
def yg.ann:Ann:=(.two .no (.two .no (.two (.two .no (.loop [2,3,4,5,9,10,11,12,13,14,15,16,17,18,19,20,21,22,23,24,25,26,27,28,29,30,31,32,33,34,35,36,37,38,39,40] [] [.slot 4 .i64 none] [(.ret,[.slot 2 .i64 none,.slot 3 .i64 none]),(.exit 0,[])] .no)) .no)))
set_option maxRecDepth 100000 in
theorem yg.fn:FnT Tryz.prog 27 [.d .l_Outc] [.i64,.i64] yg :=
 FnT.of (X:=ctx 0 [z6.spec]) Tryz.mixed yg.ann Tryz.func27 rfl (by kernel_rfl) (zvK rfl) (fun x=>by kernel_rfl)
noncomputable def yg.spec:zb Tryz.prog:=zb.t 27 [.d .l_Outc] [.i64,.i64] yg (by kernel_rfl) yg.fn
noncomputable def zl:Int->Option (List UInt8) :=
 fun n_1 =>
 (qg (σ:=Int × (List UInt8)) (ρ:=List UInt8) (fun (n_2,out_3) =>
  br (decide (0 < n_2))
   ((zhU n_2 10).bind fun x_4 =>
   (zD .i64 48 x_4).bind fun x_5 =>
   (Y7 ([Go.IntKind.wrap .u8 x_5]:List Int)).bind fun x_6 =>
   (qQ x_6 out_3).bind fun x_7 =>
   (zez .i64 n_2 10).bind fun x_8 =>
   some (.next (x_8,x_7)))
   (br (out_3 == ([]:List UInt8))
    ((zhU n_2 10).bind fun x_9 =>
    (zD .i64 48 x_9).bind fun x_10 =>
    (Y7 ([Go.IntKind.wrap .u8 x_10]:List Int)).bind fun x_11 =>
    (qQ x_11 out_3).bind fun x_12 =>
    (zez .i64 n_2 10).bind fun x_13 =>
    some (.next (x_13,x_12)))
    (some (.done out_3)))) (n_1,([]:List UInt8))).bind fun out_14 =>
 some out_14
def zl.ann:Ann:=(.two .no (.two .no (.two (.loop [0,3,4,5,6,7,8,9,10,11,12,13,14,15,16,17,18,19] [] [.slot 0 .i64 none,.slot 3 .str none] [(.exit 0,[.slot 3 .str none])] .no) .no)))
set_option maxRecDepth 100000 in
theorem zl.fn:FnT Tryz.prog 58 [.d .i64] [.str] zl :=
 FnT.of (X:=ctx 0 []) Tryz.mixed zl.ann Tryz.func58 rfl (by kernel_rfl) (zvK rfl) (fun x=>by kernel_rfl)
noncomputable def zl.spec:zb Tryz.prog:=zb.t 58 [.d .i64] [.str] zl (by kernel_rfl) zl.fn
noncomputable def zU:Unit->Option (List (List UInt8)) :=
 fun _ =>
 some ([([]:List UInt8),([97,99,99,101,112,116,101,100]:List UInt8),([114,97,116,101,45,108,105,109,105,116,101,100]:List UInt8),([102,111,114,101,99,97,115,116,45,102,117,108,108]:List UInt8),([116,111,111,45,108,97,114,103,101]:List UInt8),([109,97,108,102,111,114,109,101,100]:List UInt8),([116,111,111,107]:List UInt8),([104,97,110,100,101,100]:List UInt8),([100,101,108,105,118,101,114,101,100]:List UInt8),([101,120,112,105,114,101,100]:List UInt8),([114,101,102,117,115,101,100]:List UInt8),([115,116,97,108,101]:List UInt8),([103,97,114,98,108,101,100]:List UInt8),([111,118,101,114,114,117,110]:List UInt8),([99,114,97,115,104,101,100]:List UInt8),([114,101,115,116,97,114,116,101,100]:List UInt8)]:List (List UInt8))
def zU.ann:Ann:=.no
set_option maxRecDepth 100000 in
theorem zU.fn:FnT Tryz.prog 59 [] [.l_str] zU :=
 FnT.of (X:=ctx 0 []) Tryz.mixed zU.ann Tryz.func59 rfl (by kernel_rfl) (zvK rfl) (fun x=>by kernel_rfl)
noncomputable def zU.spec:zb Tryz.prog:=zb.t 59 [] [.l_str] zU (by kernel_rfl) zU.fn
noncomputable def z7:Outc->Option (List UInt8) :=
 fun o_1 =>
 (zl o_1.Tick).bind fun x_2 =>
 (qQ x_2 ([32,110]:List UInt8)).bind fun x_3 =>
 (zl o_1.Node).bind fun x_4 =>
 (qQ x_3 x_4).bind fun x_5 =>
 (qQ x_5 ([32]:List UInt8)).bind fun x_6 =>
 (zU ()).bind fun x_7 =>
 (idx x_7 o_1.Kind).bind fun x_8 =>
 (qQ x_6 x_8).bind fun x_9 =>
 (zM o_1.Kind).bind fun x_10 =>
 br x_10
  ((qQ x_9 ([32,105,100,61]:List UInt8)).bind fun x_11 =>
  (zl o_1.ID.Node).bind fun x_12 =>
  (qQ x_11 x_12).bind fun x_13 =>
  (qQ x_13 ([46]:List UInt8)).bind fun x_14 =>
  (zl (Go.IntKind.wrap .i64 o_1.ID.Seq)).bind fun x_15 =>
  (qQ x_14 x_15).bind fun x_16 =>
  (qQ x_16 ([46]:List UInt8)).bind fun x_17 =>
  (zl o_1.ID.Off).bind fun x_18 =>
  (qQ x_17 x_18).bind fun x_19 =>
  br (decide (0 < o_1.Other))
   ((qQ x_19 ([32,97,116,61]:List UInt8)).bind fun x_20 =>
   (zl o_1.Other).bind fun x_21 =>
   (qQ x_20 x_21).bind fun x_22 =>
   some x_22)
   (some x_19))
  (br (decide (0 < o_1.Other))
   ((qQ x_9 ([32,97,116,61]:List UInt8)).bind fun x_23 =>
   (zl o_1.Other).bind fun x_24 =>
   (qQ x_23 x_24).bind fun x_25 =>
   some x_25)
   (some x_9))
def z7.ann:Ann:=.no
set_option maxRecDepth 100000 in
theorem z7.fn:FnT Tryz.prog 28 [.d .Outc] [.str] z7 :=
 FnT.of (X:=ctx 0 [zl.spec,zU.spec,zM.spec]) Tryz.mixed z7.ann Tryz.func28 rfl (by kernel_rfl) (zvK rfl) (fun x=>by kernel_rfl)
noncomputable def z7.spec:zb Tryz.prog:=zb.t 28 [.d .Outc] [.str] z7 (by kernel_rfl) z7.fn
noncomputable def z8:List Outc->Option ((List UInt8) × Int) :=
 fun l_1 =>
 (yg l_1).bind fun (x_2,x_3) =>
 br (x_2 != 0)
  (some (([]:List UInt8),x_2))
  ((qg (σ:=(List UInt8) × Int) (ρ:=((List UInt8) × Int) ⊕ (List UInt8)) (fun (out_4,i_5) =>
   br (decide (i_5 < (l_1.length:Int)))
    ((idx l_1 i_5).bind fun x_6 =>
    (z7 x_6).bind fun x_7 =>
    (qQ out_4 x_7).bind fun x_8 =>
    (qQ x_8 ([10]:List UInt8)).bind fun x_9 =>
    br (decide (20000 < (x_9.length:Int)))
     (some (.done (.inl (([]:List UInt8),4))))
     ((zD .i64 i_5 1).bind fun x_10 =>
     some (.next (x_9,x_10))))
    (some (.done (.inr out_4)))) (([]:List UInt8),0)).bind fun x_14 =>
  Sum.elim
   (fun (x_11,x_12) =>
   some (x_11,x_12))
   (fun out_13 =>
   some (out_13,0)) x_14)
def z8.ann:Ann:=(.two .no (.two .no (.two .no (.two .no (.two (.two .no (.loop [2,3,6,7,16,17,18,19,20,21,22,23,24,25,26,27,28,29,30,31,32] [] [.slot 6 .str none,.slot 7 .i64 none] [(.ret,[.slot 2 .str none,.slot 3 .i64 none]),(.exit 0,[.slot 6 .str none])] .no)) .no)))))
set_option maxRecDepth 100000 in
theorem z8.fn:FnT Tryz.prog 9 [.d .l_Outc] [.str,.i64] z8 :=
 FnT.of (X:=ctx 0 [yg.spec,z7.spec]) Tryz.mixed z8.ann Tryz.func9 rfl (by kernel_rfl) (zvK rfl) (fun x=>by kernel_rfl)
noncomputable def z8.spec:zb Tryz.prog:=zb.t 9 [.d .l_Outc] [.str,.i64] z8 (by kernel_rfl) z8.fn
noncomputable def yb:List UInt8->Option Int :=
 fun s_1 =>
 (zU ()).bind fun x_2 =>
 (qg (σ:=Int) (ρ:=(Int) ⊕ (Unit)) (fun i_3 =>
  br (decide (i_3 < (x_2.length:Int)))
   ((idx x_2 i_3).bind fun x_4 =>
   br (x_4 == s_1)
    (some (.done (.inl i_3)))
    ((zD .i64 i_3 1).bind fun x_5 =>
    some (.next x_5)))
   (some (.done (.inr ())))) 1).bind fun x_7 =>
 Sum.elim
  (fun x_6 =>
  some x_6)
  (fun _ =>
  some 0) x_7
def yb.ann:Ann:=(.two .no (.two .no (.two (.two .no (.loop [2,4,6,7,8,9,10,11,12,13,14,15,16,17,18] [] [.slot 4 .i64 none] [(.ret,[.slot 2 .i64 none]),(.exit 0,[])] .no)) .no)))
set_option maxRecDepth 100000 in
theorem yb.fn:FnT Tryz.prog 71 [.d .str] [.i64] yb :=
 FnT.of (X:=ctx 0 [zU.spec]) Tryz.mixed yb.ann Tryz.func71 rfl (by kernel_rfl) (zvK rfl) (fun x=>by kernel_rfl)
noncomputable def yb.spec:zb Tryz.prog:=zb.t 71 [.d .str] [.i64] yb (by kernel_rfl) yb.fn
noncomputable def zH:List Word->Option (Outc × Bool) :=
 fun w_1 =>
 br (decide ((w_1.length:Int) < 3))
  (some ((⟨0,0,0,(⟨0,0,0⟩:ID),0⟩:Outc),false))
  ((idx w_1 1).bind fun x_2 =>
  br (x_2.Text == ([]:List UInt8))
   (some ((⟨0,0,0,(⟨0,0,0⟩:ID),0⟩:Outc),false))
   ((idx w_1 0).bind fun x_3 =>
   (zg x_3.Text).bind fun (x_4,x_5) =>
   (idx w_1 1).bind fun x_6 =>
   (slc x_6.Text 1 (x_6.Text.length:Int)).bind fun x_7 =>
   (zg x_7).bind fun (x_8,x_9) =>
   (idx w_1 2).bind fun x_10 =>
   (yb x_10.Text).bind fun x_11 =>
   (qg (σ:=Int × Outc × Outc) (ρ:=(Bool × Outc × Outc) ⊕ (Outc × Outc)) (fun (i_12,x_13,x_14) =>
    br (decide (i_12 < (w_1.length:Int)))
     ((idx w_1 i_12).bind fun x_15 =>
     br (x_15.Key == ([105,100]:List UInt8))
      ((idx w_1 i_12).bind fun x_16 =>
      (zy x_16.Text).bind fun (x_17,x_18) =>
      br (x_18 != 0)
       (some (.done (.inl (false,x_14,x_14))))
       ((zD .i64 i_12 1).bind fun x_19 =>
       some (.next (x_19,x_13,(⟨x_14.Tick,x_14.Node,x_14.Kind,x_17,x_14.Other⟩:Outc)))))
      ((idx w_1 i_12).bind fun x_20 =>
      (zg x_20.Text).bind fun (x_21,x_22) =>
      br (!x_22)
       (some (.done (.inl (false,x_14,x_14))))
       ((zD .i64 i_12 1).bind fun x_23 =>
       some (.next (x_23,x_13,(⟨x_14.Tick,x_14.Node,x_14.Kind,x_14.ID,Go.IntKind.wrap .i64 x_21⟩:Outc))))))
     (some (.done (.inr (x_13,x_14))))) (3,(⟨0,0,0,(⟨0,0,0⟩:ID),0⟩:Outc),(⟨Go.IntKind.wrap .i64 x_4,Go.IntKind.wrap .i64 x_8,x_11,(⟨0,0,0⟩:ID),0⟩:Outc))).bind fun x_29 =>
   Sum.elim
    (fun (x_24,x_25,x_26) =>
    some (x_25,x_24))
    (fun (x_27,x_28) =>
    br x_5
     (some (x_28,x_9))
     (some (x_28,false))) x_29))
def zH.ann:Ann:=(.two .no (.two .no (.two .no (.two .no (.two .no (.two .no (.two .no (.two .no (.two (.two .no (.loop [3,9,10,11,12,13,54,55,56,57,58,59,60,61,62,63,64,65,66,67,68,69,70,71,72,73,74,75,76,77,78,79,80,81,82,83,84,85,86,87,88,89,90,91,92,93,94] [0,1] [.slot 9 .i64 none,.box 0 .Outc,.box 1 .Outc] [(.ret,[.slot 3 .bool none,.box 0 .Outc,.box 1 .Outc]),(.exit 0,[.box 0 .Outc,.box 1 .Outc])] .no)) .no)))))))))
set_option maxRecDepth 100000 in
theorem zH.fn:FnT Tryz.prog 35 [.d .l_Word] [.Outc,.bool] zH :=
 FnT.of (X:=ctx 0 [zg.spec,yb.spec,zy.spec]) Tryz.mixed zH.ann Tryz.func35 rfl (by kernel_rfl) (zvK rfl) (fun x=>by kernel_rfl)
noncomputable def zH.spec:zb Tryz.prog:=zb.t 35 [.d .l_Word] [.Outc,.bool] zH (by kernel_rfl) zH.fn
noncomputable def ze:List UInt8->Option (List UInt8) :=
 fun s_1 =>
 (zu s_1).bind fun x_2 =>
 br x_2
  (some s_1)
  ((qg (σ:=(List Int) × Int) (ρ:=List Int) (fun (out_3,i_4) =>
   br (decide (i_4 < (s_1.length:Int)))
    ((yq s_1 i_4).bind fun x_5 =>
    br (x_5 == 34)
     ((app 1 out_3 ([92,x_5]:List Int)).bind fun x_6 =>
     (zD .i64 i_4 1).bind fun x_7 =>
     some (.next (x_6,x_7)))
     (br (x_5 == 92)
      ((app 1 out_3 ([92,x_5]:List Int)).bind fun x_8 =>
      (zD .i64 i_4 1).bind fun x_9 =>
      some (.next (x_8,x_9)))
      (br (x_5 == 10)
       ((app 1 out_3 ([92,110]:List Int)).bind fun x_10 =>
       (zD .i64 i_4 1).bind fun x_11 =>
       some (.next (x_10,x_11)))
       (br (decide (x_5 < 32))
        ((zez .u8 x_5 16).bind fun x_12 =>
        (yq ([48,49,50,51,52,53,54,55,56,57,97,98,99,100,101,102]:List UInt8) x_12).bind fun x_13 =>
        (zhU x_5 16).bind fun x_14 =>
        (yq ([48,49,50,51,52,53,54,55,56,57,97,98,99,100,101,102]:List UInt8) x_14).bind fun x_15 =>
        (app 1 out_3 ([92,120,x_13,x_15]:List Int)).bind fun x_16 =>
        (zD .i64 i_4 1).bind fun x_17 =>
        some (.next (x_16,x_17)))
        (br (decide (126 < x_5))
                ((zez .u8 x_5 16).bind fun x_18 =>
                (yq ([48,49,50,51,52,53,54,55,56,57,97,98,99,100,101,102]:List UInt8) x_18).bind fun x_19 =>
                (zhU x_5 16).bind fun x_20 =>
                (yq ([48,49,50,51,52,53,54,55,56,57,97,98,99,100,101,102]:List UInt8) x_20).bind fun x_21 =>
                (app 1 out_3 ([92,120,x_19,x_21]:List Int)).bind fun x_22 =>
                (zD .i64 i_4 1).bind fun x_23 =>
                some (.next (x_22,x_23)))
                ((app 1 out_3 ([x_5]:List Int)).bind fun x_24 =>
                (zD .i64 i_4 1).bind fun x_25 =>
                some (.next (x_24,x_25))))))))
    (some (.done out_3))) (([34]:List Int),0)).bind fun out_26 =>
  (app 1 out_26 ([34]:List Int)).bind fun x_27 =>
  (Y7 x_27).bind fun x_28 =>
  some x_28)
def ze.ann:Ann:=(.two .no (.two .no (.two .no (.two .no (.two (.two .no (.loop [4,5,6,11,12,13,14,15,16,17,18,19,20,21,22,23,24,25,26,27,28,29,30,31,32,33,34,35,36,37,38,39,40,41,42,43,44,45,46,47,48,49,50,51,52,53,54,55,56,57,58] [] [.slot 4 .l_u8 (some (10,5)),.slot 5 .i64 none] [(.exit 0,[.slot 4 .l_u8 (some (10,5))])] .no)) .no)))))
set_option maxRecDepth 100000 in
theorem ze.fn:FnT Tryz.prog 76 [.d .str] [.str] ze :=
 FnT.of (X:=ctx 0 [zu.spec]) Tryz.mixed ze.ann Tryz.func76 rfl (by kernel_rfl) (zvK rfl) (fun x=>by kernel_rfl)
noncomputable def ze.spec:zb Tryz.prog:=zb.t 76 [.d .str] [.str] ze (by kernel_rfl) ze.fn
noncomputable def ye:List Row->Option ((List UInt8) × Int) :=
 fun rows_1 =>
 (qg (σ:=(List UInt8) × Int) (ρ:=((List UInt8) × Int) ⊕ (List UInt8)) (fun (out_2,i_3) =>
  br (decide (i_3 < (rows_1.length:Int)))
   ((idx rows_1 i_3).bind fun x_4 =>
   br ((x_4.Words.length:Int) == 0)
    (some (.done (.inl (([]:List UInt8),3))))
    ((qg (σ:=(List UInt8) × Int) (ρ:=((List UInt8) × Int) ⊕ (List UInt8)) (fun (line_5,k_6) =>
     (idx rows_1 i_3).bind fun x_7 =>
     br (decide (k_6 < (x_7.Words.length:Int)))
      ((idx rows_1 i_3).bind fun x_8 =>
      (idx x_8.Words k_6).bind fun x_9 =>
      br (!(x_9.Key == ([]:List UInt8)))
             ((zJ x_9.Key).bind fun x_10 =>
             br (!x_10)
              (some (.done (.inl (([]:List UInt8),6))))
              (br (decide (0 < k_6))
               ((qQ line_5 ([32]:List UInt8)).bind fun x_11 =>
               br (!(x_9.Key == ([]:List UInt8)))
                ((qQ x_11 x_9.Key).bind fun x_12 =>
                (qQ x_12 ([61]:List UInt8)).bind fun x_13 =>
                (ze x_9.Text).bind fun x_14 =>
                (qQ x_13 x_14).bind fun x_15 =>
                (zD .i64 k_6 1).bind fun x_16 =>
                some (.next (x_15,x_16)))
                ((ze x_9.Text).bind fun x_17 =>
                (qQ x_11 x_17).bind fun x_18 =>
                (zD .i64 k_6 1).bind fun x_19 =>
                some (.next (x_18,x_19))))
               (br (!(x_9.Key == ([]:List UInt8)))
                ((qQ line_5 x_9.Key).bind fun x_20 =>
                (qQ x_20 ([61]:List UInt8)).bind fun x_21 =>
                (ze x_9.Text).bind fun x_22 =>
                (qQ x_21 x_22).bind fun x_23 =>
                (zD .i64 k_6 1).bind fun x_24 =>
                some (.next (x_23,x_24)))
                ((ze x_9.Text).bind fun x_25 =>
                (qQ line_5 x_25).bind fun x_26 =>
                (zD .i64 k_6 1).bind fun x_27 =>
                some (.next (x_26,x_27))))))
             (br (decide (0 < k_6))
              ((qQ line_5 ([32]:List UInt8)).bind fun x_28 =>
              br (!(x_9.Key == ([]:List UInt8)))
               ((qQ x_28 x_9.Key).bind fun x_29 =>
               (qQ x_29 ([61]:List UInt8)).bind fun x_30 =>
               (ze x_9.Text).bind fun x_31 =>
               (qQ x_30 x_31).bind fun x_32 =>
               (zD .i64 k_6 1).bind fun x_33 =>
               some (.next (x_32,x_33)))
               ((ze x_9.Text).bind fun x_34 =>
               (qQ x_28 x_34).bind fun x_35 =>
               (zD .i64 k_6 1).bind fun x_36 =>
               some (.next (x_35,x_36))))
              (br (!(x_9.Key == ([]:List UInt8)))
               ((qQ line_5 x_9.Key).bind fun x_37 =>
               (qQ x_37 ([61]:List UInt8)).bind fun x_38 =>
               (ze x_9.Text).bind fun x_39 =>
               (qQ x_38 x_39).bind fun x_40 =>
               (zD .i64 k_6 1).bind fun x_41 =>
               some (.next (x_40,x_41)))
               ((ze x_9.Text).bind fun x_42 =>
               (qQ line_5 x_42).bind fun x_43 =>
               (zD .i64 k_6 1).bind fun x_44 =>
               some (.next (x_43,x_44))))))
      (some (.done (.inr line_5)))) (([]:List UInt8),0)).bind fun x_51 =>
    Sum.elim
     (fun (x_45,x_46) =>
     some (.done (.inl (x_45,x_46))))
     (fun line_47 =>
     (qQ out_2 line_47).bind fun x_48 =>
     (qQ x_48 ([10]:List UInt8)).bind fun x_49 =>
     br (decide (1000 < (line_47.length:Int)))
      (some (.done (.inl (([]:List UInt8),4))))
      (br (decide (20000 < (x_49.length:Int)))
             (some (.done (.inl (([]:List UInt8),4))))
             ((zD .i64 i_3 1).bind fun x_50 =>
             some (.next (x_49,x_50))))) x_51))
   (some (.done (.inr out_2)))) (([]:List UInt8),0)).bind fun x_55 =>
 Sum.elim
  (fun (x_52,x_53) =>
  some (x_52,x_53))
  (fun out_54 =>
  some (out_54,0)) x_55
def ye.ann:Ann:=(.two .no (.two .no (.two (.two .no (.loop [2,3,4,5,6,7,8,9,10,11,12,13,14,15,16,17,18,19,20,21,22,23,24,25,26,27,28,29,30,31,32,33,34,35,36,37,38,39,40,41,42,43,44,45,46,47,48,49,50,51,52,53,54,55,56,57,58,59,60,61,62,63,64,65,66,67,68,69,70,71,72,73,74,75,76,77] [] [.slot 4 .str none,.slot 5 .i64 none] [(.ret,[.slot 2 .str none,.slot 3 .i64 none]),(.exit 0,[.slot 4 .str none])] (.two .no (.two (.two .no (.two .no (.two (.two .no (.loop [2,3,6,7,8,22,23,24,25,26,27,28,29,30,31,32,33,34,35,36,37,38,39,40,41,42,43,44,45,46,47,48,49,50,51,52,53,54,55,56,57,58,59,60,61,62,63,64,65] [] [.slot 6 .str none,.slot 7 .i64 none] [(.ret,[.slot 2 .str none,.slot 3 .i64 none]),(.exit 2,[.slot 6 .str none])] .no)) .no))) .no)))) .no)))
set_option maxRecDepth 100000 in
theorem ye.fn:FnT Tryz.prog 37 [.d .l_Row] [.str,.i64] ye :=
 FnT.of (X:=ctx 0 [zJ.spec,ze.spec]) Tryz.mixed ye.ann Tryz.func37 rfl (by kernel_rfl) (zvK rfl) (fun x=>by kernel_rfl)
noncomputable def ye.spec:zb Tryz.prog:=zb.t 37 [.d .l_Row] [.str,.i64] ye (by kernel_rfl) ye.fn
noncomputable def zL:List UInt8->Option ((List Outc) × Fault) :=
 fun text_1 =>
 (yw text_1).bind fun (x_2,x_3) =>
 br (x_3.Err != 0)
  (some (([]:List Outc),x_3))
  ((qg (σ:=(List Outc) × Int × Fault) (ρ:=((List Outc) × Fault) ⊕ ((List Outc) × Fault)) (fun (out_4,i_5,x_6) =>
   br (decide (i_5 < (x_2.length:Int)))
    ((idx x_2 i_5).bind fun x_7 =>
    (idx x_7.Words 0).bind fun x_8 =>
    br (i_5 == 5000)
     (some (.done (.inl (([]:List Outc),(⟨5,x_8.At⟩:Fault)))))
     ((idx x_2 i_5).bind fun x_9 =>
     (zH x_9.Words).bind fun (x_10,x_11) =>
     br (!x_11)
      (some (.done (.inl (([]:List Outc),(⟨3,x_8.At⟩:Fault)))))
      ((z6 x_10).bind fun x_12 =>
      br (x_12 != 0)
       (some (.done (.inl (([]:List Outc),(⟨3,x_8.At⟩:Fault)))))
       ((zD .i64 i_5 1).bind fun x_13 =>
       (slc x_2 i_5 x_13).bind fun x_14 =>
       (ye x_14).bind fun (x_15,x_16) =>
       (z7 x_10).bind fun x_17 =>
       (qQ x_17 ([10]:List UInt8)).bind fun x_18 =>
       br (!(x_15 == x_18))
        (some (.done (.inl (([]:List Outc),(⟨3,x_8.At⟩:Fault)))))
        (br (decide (0 < i_5))
                ((Z9 .i64 i_5 1).bind fun x_19 =>
                (idx out_4 x_19).bind fun x_20 =>
                br (decide (x_10.Tick < x_20.Tick))
                 (some (.done (.inl (([]:List Outc),(⟨19,x_8.At⟩:Fault)))))
                 ((app 56 out_4 ([x_10]:List Outc)).bind fun x_21 =>
                 (zD .i64 i_5 1).bind fun x_22 =>
                 some (.next (x_21,x_22,x_6))))
                ((app 56 out_4 ([x_10]:List Outc)).bind fun x_23 =>
                (zD .i64 i_5 1).bind fun x_24 =>
                some (.next (x_23,x_24,x_6))))))))
    (some (.done (.inr (out_4,x_6))))) (([]:List Outc),0,(⟨0,0⟩:Fault))).bind fun x_29 =>
  Sum.elim
   (fun (x_25,x_26) =>
   some (x_25,x_26))
   (fun (out_27,x_28) =>
   some (out_27,(⟨0,0⟩:Fault))) x_29)
def zL.ann:Ann:=(.two .no (.two .no (.two .no (.two .no (.two (.two .no (.loop [2,6,7,8,9,10,11,12,22,23,24,25,26,27,28,29,30,31,32,33,34,35,36,37,38,39,40,41,42,43,44,45,46,47,48,49,50,51,52,53,54,55,56,57,58,59,60,61,62,63,64,65,66,67,68,69,70,71,72,73,74,75,76,77,78,79,80,81,82,83,84,85,86,87,88,89,90,91,92] [0] [.slot 6 .l_Outc (some (6,53)),.slot 7 .i64 none,.box 0 .Fault] [(.ret,[.slot 2 .l_Outc (some (2,53)),.box 0 .Fault]),(.exit 0,[.slot 6 .l_Outc (some (6,53)),.box 0 .Fault])] .no)) .no)))))
set_option maxRecDepth 100000 in
theorem zL.fn:FnT Tryz.prog 11 [.d .str] [.l_Outc,.Fault] zL :=
 FnT.of (X:=ctx 0 [yw.spec,zH.spec,z6.spec,ye.spec,z7.spec]) Tryz.mixed zL.ann Tryz.func11 rfl (by kernel_rfl) (zvK rfl) (fun x=>by kernel_rfl)
noncomputable def zL.spec:zb Tryz.prog:=zb.t 11 [.d .str] [.l_Outc,.Fault] zL (by kernel_rfl) zL.fn
end Go.Proofs.YtjcbpfhlgebgdaaGreatDoor
