import Derived.Test.YtjcbpfhlgebgdaaGreatDoorXTw
import Derived.Test.YtjcbpfhlgebgdaaGreatDoorX9
import Derived.Test.YtjcbpfhlgebgdaaGreatDoorChecked
import Derived.KernelRfl
open Nat renaming le_of_ble_eq_true -> zue
set_option linter.unusedSimpArgs false
set_option linter.unusedVariables false
namespace Go.Proofs.YtjcbpfhlgebgdaaGreatDoor
open Go.X Go.Eng
def zrN (t:TypeId):Bool:=false
theorem zjz (t:TypeId) (h:zrN t = true):Go.Eng.KeyT Tryz.prog t:=Bool.noConfusion h
def zqx:List (Option C):=[none,none,some .i64,some .i64,some .bool,some .u8,some .u8,none,none,some .str,some .str,some .str,some .u64,none,none,none,none,none,none,none,none,some .i32,none,none,none,some .i64,none,none,none,some .Fault,some .Fault,none,none,none,none,some .l_Mrk,none,none,none,none,none,none,none,none,some .u64,some .ID,some .ID,none,none,some .l_u8,none,none,some .Outc,some .Outc,some .l_Word,none,some .Word,some .Word,none,none,none,none,none,none,none,none,none,none,some .l_Row,none,none,some .Row,some .Row,none,none,none,none,none,none,none,some .Mrk,some .Mrk,none,none,none,none,none,none,none,none,none,none,none,none,none,none,none,none,none,none,none,none,none,none,none,none,none,some .i64,some .i64,some .i64,none,some .ID,some .i64,some .iv,some .iv,none,none,some .l_str,none,none,none,none,none,none,none,none,none,none,none,none,none,none,none,none,none,none,none,none,none,none,none,none,none,none,none,none,none,none,none,none,none,some .a4_u64,none,none,none,some .l_u64,none,none,none,none,none,none,none,some .Scanner,some .Scanner,none,none,none,some .W3,none,some .l_i64,none,some .W3,some .W3,some .l_W3,none,none,none,none,none,none,none,none,none,none,none,none,none,none,none,none,none,none,none,none,none,none,some .u64,none,none,none,none,none,none,none,none,none,none,some .u32,none,none,none,none,none,none,none,none,none,none,none,none,none,none,none,none,none,none,none,none,none,none,some .u8,some .u8,none,some .i32,some .i32,none,none]
noncomputable def ctx (wr:Nat) (l:List (ze Tryz.prog)):zcm Tryz.prog:={ code:=fun t=>(zqx[t]?).getD none,wr:=wr,key:=zrN,keyed:=zjz,known:=l }
noncomputable def zt8 (wr:Nat) (l:List (ze Tryz.prog)) (s:List (zdv Tryz.prog)) (w:List (zcL Tryz.prog)):zcm Tryz.prog:={ code:=fun t=>(zqx[t]?).getD none,wr:=wr,key:=zrN,keyed:=zjz,known:=l,sorts:=s,owned:=w }
noncomputable def ztH (wr:Nat) (l:List (ze Tryz.prog)) (s:List (zdv Tryz.prog)) (w:List (zcL Tryz.prog)) (u:List (zeg Tryz.prog)):zcm Tryz.prog:={ code:=fun t=>(zqx[t]?).getD none,wr:=wr,key:=zrN,keyed:=zjz,known:=l,sorts:=s,owned:=w,muts:=u }
noncomputable def ym:Unit->Scanner->Option ((Bool) × (Scanner)) :=
 fun _ x_1 =>
 some (decide (x_1.pos < (x_1.s.length:Int)),x_1)
def ym.ann:Ann:=.no
set_option maxRecDepth 100000 in
theorem ym.fn:FnB Tryz.prog 99 [.l 0 0] [(.Scanner,164)] [.bool] ym :=
 FnB.of (X:=ctx 0 []) Tryz.mixed ym.ann Tryz.func99 rfl (by kernel_rfl) (zue rfl) (fun x y=>by kernel_rfl)
noncomputable def ym.spec:ze Tryz.prog:=ze.b 99 [.l 0 0] [(.Scanner,164)] [.bool] ym (by kernel_rfl) ym.fn
noncomputable def zb:Unit->Scanner->Option ((Int) × (Scanner)) :=
 fun _ x_1 =>
 (ym () x_1).bind fun (x_2,x_3) =>
 br (!x_2)
  (some (0,x_3))
  ((zO .i64 x_3.pos 1).bind fun x_4 =>
  (Yb .i64 x_4 1).bind fun x_5 =>
  (yi x_3.s x_5).bind fun x_6 =>
  some (x_6,(⟨x_3.s,x_4⟩:Scanner)))
def zb.ann:Ann:=.no
set_option maxRecDepth 100000 in
theorem zb.fn:FnB Tryz.prog 156 [.l 0 0] [(.Scanner,164)] [.u8] zb :=
 FnB.of (X:=ctx 0 [ym.spec]) Tryz.mixed zb.ann Tryz.func156 rfl (by kernel_rfl) (zue rfl) (fun x y=>by kernel_rfl)
noncomputable def zb.spec:ze Tryz.prog:=ze.b 156 [.l 0 0] [(.Scanner,164)] [.u8] zb (by kernel_rfl) zb.fn
noncomputable def zH:Unit->Scanner->Option ((Int × Bool) × (Scanner)) :=
 fun _ x_1 =>
 (zb () x_1).bind fun (x_2,x_3) =>
 br (x_2 == 110)
  (some ((10,true),x_3))
  (br (x_2 == 34)
   (some ((x_2,true),x_3))
   (br (x_2 == 92)
    (some ((x_2,true),x_3))
    (br (x_2 == 120)
     ((zb () x_3).bind fun (x_4,x_5) =>
     (zb () x_5).bind fun (x_6,x_7) =>
     (strings_IndexByte (([48,49,50,51,52,53,54,55,56,57,97,98,99,100,101,102]:List UInt8),x_4)).bind fun x_8 =>
     (strings_IndexByte (([48,49,50,51,52,53,54,55,56,57,97,98,99,100,101,102]:List UInt8),x_6)).bind fun x_9 =>
     (zbd .i64 16 x_8).bind fun x_10 =>
     (zO .i64 x_10 x_9).bind fun x_11 =>
     br (decide (0 <= x_8))
      (some ((Go.IntKind.wrap .u8 x_11,decide (0 <= x_9)),x_7))
      (some ((Go.IntKind.wrap .u8 x_11,false),x_7)))
     (some ((0,false),x_3)))))
def zH.ann:Ann:=.no
set_option maxRecDepth 100000 in
theorem zH.fn:FnB Tryz.prog 155 [.l 0 0] [(.Scanner,164)] [.u8,.bool] zH :=
 FnB.of (X:=ctx 0 [zb.spec,strings_IndexByte.spec]) Tryz.mixed zH.ann Tryz.func155 rfl (by kernel_rfl) (zue rfl) (fun x y=>by kernel_rfl)
noncomputable def Zi:List UInt8->Option Bool :=
 fun s_1 =>
 (qO (σ:=Int) (ρ:=(Bool) ⊕ (Unit)) (fun x_2 =>
  br (decide (x_2 < ((yd s_1).length:Int)))
   ((idx (yd s_1) x_2).bind fun x_3 =>
   br (decide (97 <= x_3))
    (br (!(decide (x_3 <= 122)))
     (br (x_2 == 0)
      (some (.done (.inl false)))
      (br (x_3 != 45)
             (br (decide (x_3 < 48))
              (some (.done (.inl false)))
              (br (decide (57 < x_3))
               (some (.done (.inl false)))
               ((zO .i64 x_2 1).bind fun x_4 =>
               some (.next x_4))))
             ((zO .i64 x_2 1).bind fun x_5 =>
             some (.next x_5))))
     ((zO .i64 x_2 1).bind fun x_6 =>
     some (.next x_6)))
    (br (x_2 == 0)
     (some (.done (.inl false)))
     (br (x_3 != 45)
      (br (decide (x_3 < 48))
             (some (.done (.inl false)))
             (br (decide (57 < x_3))
              (some (.done (.inl false)))
              ((zO .i64 x_2 1).bind fun x_7 =>
              some (.next x_7))))
      ((zO .i64 x_2 1).bind fun x_8 =>
      some (.next x_8)))))
   (some (.done (.inr ())))) 0).bind fun x_10 =>
 Sum.elim
  (fun x_9 =>
  some x_9)
  (fun _ =>
  br (decide (1 <= (s_1.length:Int)))
   (some (decide ((s_1.length:Int) <= 20)))
   (some false)) x_10
def Zi.ann:Ann:=(.two .no (.two (.two .no (.loop [2,3,4,5,9,10,11,12,13,14,15,16,17,18,19,20,21,22,23,24,25,26,27,28,29,30,31,32,33,34,35,36,37,38] [] [.slot 9 .i64 none] [(.ret,[.slot 2 .bool none]),(.exit 0,[])] .no)) .no))
set_option maxRecDepth 100000 in
theorem Zi.fn:FnT Tryz.prog 123 [.d .str] [.bool] Zi :=
 FnT.of (X:=ctx 0 []) Tryz.mixed Zi.ann Tryz.func123 rfl (by kernel_rfl) (zue rfl) (fun x=>by kernel_rfl)
noncomputable def y8:Int->Option Bool :=
 fun c_1 =>
 br (c_1 == 34)
  (some false)
  (br (c_1 == 61)
   (some false)
   (br (c_1 == 92)
    (some false)
    (br (decide (32 < c_1))
     (some (decide (c_1 < 127)))
     (some false))))
def y8.ann:Ann:=.no
set_option maxRecDepth 100000 in
theorem y8.fn:FnT Tryz.prog 140 [.d .u8] [.bool] y8 :=
 FnT.of (X:=ctx 0 []) Tryz.mixed y8.ann Tryz.func140 rfl (by kernel_rfl) (zue rfl) (fun x=>by kernel_rfl)
noncomputable def y8.spec:ze Tryz.prog:=ze.t 140 [.d .u8] [.bool] y8 (by kernel_rfl) y8.fn
noncomputable def qP:List UInt8->Option Bool :=
 fun s_1 =>
 (qO (σ:=Int) (ρ:=(Bool) ⊕ (Unit)) (fun x_2 =>
  br (decide (x_2 < ((yd s_1).length:Int)))
   ((idx (yd s_1) x_2).bind fun x_3 =>
   (y8 x_3).bind fun x_4 =>
   br (!x_4)
    (some (.done (.inl false)))
    ((zO .i64 x_2 1).bind fun x_5 =>
    some (.next x_5)))
   (some (.done (.inr ())))) 0).bind fun x_8 =>
 Sum.elim
  (fun x_6 =>
  some x_6)
  (fun _ =>
  br (!(s_1 == ([]:List UInt8)))
   ((yi s_1 0).bind fun x_7 =>
   some (x_7 != 35))
   (some false)) x_8
def qP.ann:Ann:=(.two .no (.two (.two .no (.loop [2,4,8,9,10,11,12,13,14,15] [] [.slot 8 .i64 none] [(.ret,[.slot 2 .bool none]),(.exit 0,[])] .no)) .no))
set_option maxRecDepth 100000 in
theorem qP.fn:FnT Tryz.prog 141 [.d .str] [.bool] qP :=
 FnT.of (X:=ctx 0 [y8.spec]) Tryz.mixed qP.ann Tryz.func141 rfl (by kernel_rfl) (zue rfl) (fun x=>by kernel_rfl)
end Go.Proofs.YtjcbpfhlgebgdaaGreatDoor
