import Derived.Test.YtjcbpfhlgebgdaaGreatDoorXSp
import Derived.Test.YtjcbpfhlgebgdaaGreatDoorP22v
import Derived.Test.YtjcbpfhlgebgdaaGreatDoorX9
import Derived.Test.YtjcbpfhlgebgdaaGreatDoorChecked
import Derived.KernelRfl
set_option linter.unusedSimpArgs false
set_option linter.unusedVariables false
namespace Go.Proofs.YtjcbpfhlgebgdaaGreatDoor
open Go.X Go.Eng
noncomputable def zC:((List UInt8) × (List UInt8))->Option ((List UInt8) × (List UInt8) × Bool) :=
 fun (s_1,sep_2) =>
 (zN (s_1,sep_2)).bind fun x_3 =>
 br (decide (0 <= x_3))
  ((slc s_1 0 x_3).bind fun x_4 =>
  (zO .i64 x_3 (sep_2.length:Int)).bind fun x_5 =>
  (slc s_1 x_5 (s_1.length:Int)).bind fun x_6 =>
  some (x_4,x_6,true))
  (some (s_1,([]:List UInt8),false))
def zC.ann:Ann:=.no
set_option maxRecDepth 100000 in
theorem zC.fn:FnT Tryz.prog 115 [.d .str,.d .str] [.str,.str,.bool] zC :=
 FnT.of (X:=ctx 0 [zN.spec]) Tryz.mixed zC.ann Tryz.func115 rfl (by kernel_rfl) (Nat.le_of_ble_eq_true rfl) (fun x=>by kernel_rfl)
noncomputable def zC.spec:ze Tryz.prog:=ze.t 115 [.d .str,.d .str] [.str,.str,.bool] zC (by kernel_rfl) zC.fn
noncomputable def y7:((List UInt8) × (List UInt8))->Option ((List UInt8) × (List UInt8) × Bool) :=
 fun (s_1,sep_2) =>
 (zC (s_1,sep_2)).bind fun (x_3,x_4,x_5) =>
 some (x_3,x_4,x_5)
def y7.ann:Ann:=.no
set_option maxRecDepth 100000 in
theorem y7.fn:FnT Tryz.prog 88 [.d .str,.d .str] [.str,.str,.bool] y7 :=
 FnT.of (X:=ctx 0 [zC.spec]) Tryz.mixed y7.ann Tryz.func88 rfl (by kernel_rfl) (Nat.le_of_ble_eq_true rfl) (fun x=>by kernel_rfl)
noncomputable def y7.spec:ze Tryz.prog:=ze.t 88 [.d .str,.d .str] [.str,.str,.bool] y7 (by kernel_rfl) y7.fn
noncomputable def Zo:List UInt8->Option (Mrk × Bool) :=
 fun s_1 =>
 (y7 (s_1,([47]:List UInt8))).bind fun (x_2,x_3,x_4) =>
 (qe (x_2,([46]:List UInt8))).bind fun x_5 =>
 br (!x_4)
  (some ((⟨(⟨0,0,0⟩:ID),0⟩:Mrk),false))
  (br ((x_5.length:Int) != 3)
   (some ((⟨(⟨0,0,0⟩:ID),0⟩:Mrk),false))
   ((app 16 x_5 ([x_3]:List (List UInt8))).bind fun x_6 =>
   (qO (σ:=Int × Mrk × (List Int)) (ρ:=(Bool × Mrk × (List Int)) ⊕ (Mrk × (List Int))) (fun (x_7,x_8,x_9) =>
    br (decide (x_7 < (x_6.length:Int)))
     ((idx x_6 x_7).bind fun x_10 =>
     (yN x_10).bind fun (x_11,x_12) =>
     br (!x_12)
      (some (.done (.inl (false,(⟨(⟨0,0,0⟩:ID),0⟩:Mrk),(Y5 x_9)))))
      (br (inB x_7 4)
       ((zp9 (Y5 x_9) x_7 x_11).bind fun x_13 =>
       (zO .i64 x_7 1).bind fun x_14 =>
       some (.next (x_14,x_8,(Y5 x_13))))
       (none)))
     (some (.done (.inr (x_8,(Y5 x_9)))))) (0,(⟨(⟨0,0,0⟩:ID),0⟩:Mrk),([0,0,0,0]:List Int))).bind fun x_20 =>
   Sum.elim
    (fun (x_15,x_16,x_17) =>
    some (x_16,x_15))
    (fun (x_18,x_19) =>
    some ((⟨(⟨Go.IntKind.wrap .i64 (x_19.getD 0 0),(x_19.getD 1 0),Go.IntKind.wrap .i64 (x_19.getD 2 0)⟩:ID),Go.IntKind.wrap .i64 (x_19.getD 3 0)⟩:Mrk),true)) x_20))
def Zo.ann:Ann:=(.two .no (.two .no (.two .no (.two .no (.two .no (.two (.two .no (.loop [3,9,10,11,12,34,35,36,37,38,39,40,41,42,43,44,45,46,47,48,49,50] [0,1] [.slot 34 .i64 none,.box 0 .Mrk,.box 1 .a4_u64] [(.ret,[.slot 3 .bool none,.box 0 .Mrk,.box 1 .a4_u64]),(.exit 0,[.box 0 .Mrk,.box 1 .a4_u64])] .no)) .no))))))
set_option maxRecDepth 100000 in
theorem Zo.fn:FnT Tryz.prog 48 [.d .str] [.Mrk,.bool] Zo :=
 FnT.of (X:=zt8 0 [y7.spec,yN.spec] [] [qe.ow]) Tryz.mixed Zo.ann Tryz.func48 rfl (by kernel_rfl) (Nat.le_of_ble_eq_true rfl) (fun x=>by kernel_rfl)
noncomputable def Zo.spec:ze Tryz.prog:=ze.t 48 [.d .str] [.Mrk,.bool] Zo (by kernel_rfl) Zo.fn
end Go.Proofs.YtjcbpfhlgebgdaaGreatDoor
