import Derived.Test.YtjcbpfhlgebgdaaGreatDoorXTw
import Derived.Test.YtjcbpfhlgebgdaaGreatDoorX9
import Derived.Test.YtjcbpfhlgebgdaaGreatDoorChecked
import Derived.KernelRfl
open Nat renaming le_of_ble_eq_true -> zvK
set_option linter.unusedSimpArgs false
set_option linter.unusedVariables false
namespace Go.Proofs.YtjcbpfhlgebgdaaGreatDoor
open Go.X Go.Eng
def zr3 (t:TypeId):Bool:=false
theorem zfX (t:TypeId) (h:zr3 t = true):Go.Eng.KeyT Tryz.prog t:=Bool.noConfusion h
def zpc:List (Option C):=[none,none,some .i64,some .i64,some .bool,some .u8,some .u8,none,none,some .str,some .str,some .str,some .u64,none,none,none,none,none,none,none,none,some .i32,some .l_Outc,none,none,some .i64,none,none,none,some .Fault,some .Fault,none,none,none,none,none,none,none,none,none,none,none,none,none,some .u64,some .ID,some .ID,none,none,some .l_u8,none,none,some .Outc,some .Outc,some .l_Word,none,some .Word,some .Word,none,none,none,none,none,none,none,none,none,none,some .l_Row,none,none,some .Row,some .Row,none,none,none,none,none,none,none,none,none,none,none,none,none,none,none,none,none,none,none,none,none,none,none,none,none,none,none,none,none,none,none,some .Face,some .Face,none,some .i64,some .i64,some .i64,some .l_iv,some .ID,some .i64,some .iv,some .iv,none,none,some .l_str,none,none,none,none,none,none,none,none,none,none,some .l_Face,none,none,none,none,none,none,none,none,none,none,none,none,none,none,none,none,none,none,none,none,none,none,none,none,none,none,none,none,none,none,none,none,none,none,some .Scanner,some .Scanner,none,none,none,some .W3,none,some .l_i64,none,some .W3,some .W3,some .l_W3,none,none,none,none,none,none,none,none,none,none,none,none,none,none,none,none,none,none,none,none,none,none,some .u64,none,none,none,none,none,none,none,none,none,none,some .u32,none,none,none,none,none,none,none,none,none,none,none,none,none,none,none,none,none,none,none,none,none,none,some .u8,some .u8,none,some .i32,some .i32,none,none]
noncomputable def ctx (wr:Nat) (l:List (zb Tryz.prog)):zc6 Tryz.prog:={ code:=fun t=>(zpc[t]?).getD none,wr:=wr,key:=zr3,keyed:=zfX,known:=l }
noncomputable def zvG (wr:Nat) (l:List (zb Tryz.prog)) (s:List (zcL Tryz.prog)):zc6 Tryz.prog:={ code:=fun t=>(zpc[t]?).getD none,wr:=wr,key:=zr3,keyed:=zfX,known:=l,sorts:=s }
noncomputable def zts (wr:Nat) (l:List (zb Tryz.prog)) (s:List (zcL Tryz.prog)) (w:List (zbg Tryz.prog)):zc6 Tryz.prog:={ code:=fun t=>(zpc[t]?).getD none,wr:=wr,key:=zr3,keyed:=zfX,known:=l,sorts:=s,owned:=w }
noncomputable def zvH (wr:Nat) (l:List (zb Tryz.prog)) (s:List (zcL Tryz.prog)) (w:List (zbg Tryz.prog)) (u:List (zl6 Tryz.prog)):zc6 Tryz.prog:={ code:=fun t=>(zpc[t]?).getD none,wr:=wr,key:=zr3,keyed:=zfX,known:=l,sorts:=s,owned:=w,muts:=u }
noncomputable def yz:Unit->Scanner->Option ((Bool) × (Scanner)) :=
 fun _ x_1 =>
 some (decide (x_1.pos < (x_1.s.length:Int)),x_1)
def yz.ann:Ann:=.no
set_option maxRecDepth 100000 in
theorem yz.fn:FnB Tryz.prog 99 [.l 0 0] [(.Scanner,164)] [.bool] yz :=
 FnB.of (X:=ctx 0 []) Tryz.mixed yz.ann Tryz.func99 rfl (by kernel_rfl) (zvK rfl) (fun x y=>by kernel_rfl)
noncomputable def yz.spec:zb Tryz.prog:=zb.b 99 [.l 0 0] [(.Scanner,164)] [.bool] yz (by kernel_rfl) yz.fn
noncomputable def zc:Unit->Scanner->Option ((Int) × (Scanner)) :=
 fun _ x_1 =>
 (yz () x_1).bind fun (x_2,x_3) =>
 br (!x_2)
  (some (0,x_3))
  ((zD .i64 x_3.pos 1).bind fun x_4 =>
  (Z9 .i64 x_4 1).bind fun x_5 =>
  (yq x_3.s x_5).bind fun x_6 =>
  some (x_6,(⟨x_3.s,x_4⟩:Scanner)))
def zc.ann:Ann:=.no
set_option maxRecDepth 100000 in
theorem zc.fn:FnB Tryz.prog 156 [.l 0 0] [(.Scanner,164)] [.u8] zc :=
 FnB.of (X:=ctx 0 [yz.spec]) Tryz.mixed zc.ann Tryz.func156 rfl (by kernel_rfl) (zvK rfl) (fun x y=>by kernel_rfl)
noncomputable def zc.spec:zb Tryz.prog:=zb.b 156 [.l 0 0] [(.Scanner,164)] [.u8] zc (by kernel_rfl) zc.fn
noncomputable def zC:Unit->Scanner->Option ((Int × Bool) × (Scanner)) :=
 fun _ x_1 =>
 (zc () x_1).bind fun (x_2,x_3) =>
 br (x_2 == 110)
  (some ((10,true),x_3))
  (br (x_2 == 34)
   (some ((x_2,true),x_3))
   (br (x_2 == 92)
    (some ((x_2,true),x_3))
    (br (x_2 == 120)
     ((zc () x_3).bind fun (x_4,x_5) =>
     (zc () x_5).bind fun (x_6,x_7) =>
     (strings_IndexByte (([48,49,50,51,52,53,54,55,56,57,97,98,99,100,101,102]:List UInt8),x_4)).bind fun x_8 =>
     (strings_IndexByte (([48,49,50,51,52,53,54,55,56,57,97,98,99,100,101,102]:List UInt8),x_6)).bind fun x_9 =>
     (zbA .i64 16 x_8).bind fun x_10 =>
     (zD .i64 x_10 x_9).bind fun x_11 =>
     br (decide (0 <= x_8))
      (some ((Go.IntKind.wrap .u8 x_11,decide (0 <= x_9)),x_7))
      (some ((Go.IntKind.wrap .u8 x_11,false),x_7)))
     (some ((0,false),x_3)))))
def zC.ann:Ann:=.no
set_option maxRecDepth 100000 in
theorem zC.fn:FnB Tryz.prog 155 [.l 0 0] [(.Scanner,164)] [.u8,.bool] zC :=
 FnB.of (X:=ctx 0 [zc.spec,strings_IndexByte.spec]) Tryz.mixed zC.ann Tryz.func155 rfl (by kernel_rfl) (zvK rfl) (fun x y=>by kernel_rfl)
noncomputable def zC.spec:zb Tryz.prog:=zb.b 155 [.l 0 0] [(.Scanner,164)] [.u8,.bool] zC (by kernel_rfl) zC.fn
noncomputable def qD:List UInt8->Option Bool :=
 fun s_1 =>
 (qg (σ:=Int) (ρ:=(Bool) ⊕ (Unit)) (fun x_2 =>
  br (decide (x_2 < ((yu s_1).length:Int)))
   ((idx (yu s_1) x_2).bind fun x_3 =>
   br (decide (97 <= x_3))
    (br (!(decide (x_3 <= 122)))
     (br (x_2 == 0)
      (some (.done (.inl false)))
      (br (x_3 != 45)
             (br (decide (x_3 < 48))
              (some (.done (.inl false)))
              (br (decide (57 < x_3))
               (some (.done (.inl false)))
               ((zD .i64 x_2 1).bind fun x_4 =>
               some (.next x_4))))
             ((zD .i64 x_2 1).bind fun x_5 =>
             some (.next x_5))))
     ((zD .i64 x_2 1).bind fun x_6 =>
     some (.next x_6)))
    (br (x_2 == 0)
     (some (.done (.inl false)))
     (br (x_3 != 45)
      (br (decide (x_3 < 48))
             (some (.done (.inl false)))
             (br (decide (57 < x_3))
              (some (.done (.inl false)))
              ((zD .i64 x_2 1).bind fun x_7 =>
              some (.next x_7))))
      ((zD .i64 x_2 1).bind fun x_8 =>
      some (.next x_8)))))
   (some (.done (.inr ())))) 0).bind fun x_10 =>
 Sum.elim
  (fun x_9 =>
  some x_9)
  (fun _ =>
  br (decide (1 <= (s_1.length:Int)))
   (some (decide ((s_1.length:Int) <= 20)))
   (some false)) x_10
def qD.ann:Ann:=(.two .no (.two (.two .no (.loop [2,3,4,5,9,10,11,12,13,14,15,16,17,18,19,20,21,22,23,24,25,26,27,28,29,30,31,32,33,34,35,36,37,38] [] [.slot 9 .i64 none] [(.ret,[.slot 2 .bool none]),(.exit 0,[])] .no)) .no))
set_option maxRecDepth 100000 in
theorem qD.fn:FnT Tryz.prog 123 [.d .str] [.bool] qD :=
 FnT.of (X:=ctx 0 []) Tryz.mixed qD.ann Tryz.func123 rfl (by kernel_rfl) (zvK rfl) (fun x=>by kernel_rfl)
noncomputable def qD.spec:zb Tryz.prog:=zb.t 123 [.d .str] [.bool] qD (by kernel_rfl) qD.fn
noncomputable def qp:Int->Option Bool :=
 fun c_1 =>
 br (c_1 == 34)
  (some false)
  (br (c_1 == 61)
   (some false)
   (br (c_1 == 92)
    (some false)
    (br (decide (32 < c_1))
     (some (decide (c_1 < 127)))
     (some false))))
def qp.ann:Ann:=.no
set_option maxRecDepth 100000 in
theorem qp.fn:FnT Tryz.prog 140 [.d .u8] [.bool] qp :=
 FnT.of (X:=ctx 0 []) Tryz.mixed qp.ann Tryz.func140 rfl (by kernel_rfl) (zvK rfl) (fun x=>by kernel_rfl)
noncomputable def qp.spec:zb Tryz.prog:=zb.t 140 [.d .u8] [.bool] qp (by kernel_rfl) qp.fn
noncomputable def qv:List UInt8->Option Bool :=
 fun s_1 =>
 (qg (σ:=Int) (ρ:=(Bool) ⊕ (Unit)) (fun x_2 =>
  br (decide (x_2 < ((yu s_1).length:Int)))
   ((idx (yu s_1) x_2).bind fun x_3 =>
   (qp x_3).bind fun x_4 =>
   br (!x_4)
    (some (.done (.inl false)))
    ((zD .i64 x_2 1).bind fun x_5 =>
    some (.next x_5)))
   (some (.done (.inr ())))) 0).bind fun x_8 =>
 Sum.elim
  (fun x_6 =>
  some x_6)
  (fun _ =>
  br (!(s_1 == ([]:List UInt8)))
   ((yq s_1 0).bind fun x_7 =>
   some (x_7 != 35))
   (some false)) x_8
def qv.ann:Ann:=(.two .no (.two (.two .no (.loop [2,4,8,9,10,11,12,13,14,15] [] [.slot 8 .i64 none] [(.ret,[.slot 2 .bool none]),(.exit 0,[])] .no)) .no))
set_option maxRecDepth 100000 in
theorem qv.fn:FnT Tryz.prog 141 [.d .str] [.bool] qv :=
 FnT.of (X:=ctx 0 [qp.spec]) Tryz.mixed qv.ann Tryz.func141 rfl (by kernel_rfl) (zvK rfl) (fun x=>by kernel_rfl)
noncomputable def qv.spec:zb Tryz.prog:=zb.t 141 [.d .str] [.bool] qv (by kernel_rfl) qv.fn
end Go.Proofs.YtjcbpfhlgebgdaaGreatDoor
