import Derived.Test.YtjcbpfhlgebgdaaDoorXTx
import Derived.Test.YtjcbpfhlgebgdaaDoorX9
import Derived.Test.YtjcbpfhlgebgdaaDoorChecked
import Derived.KernelRfl
set_option linter.unusedSimpArgs false
set_option linter.unusedVariables false
namespace Go.Proofs.YtjcbpfhlgebgdaaDoor
open Go.X Go.Eng
noncomputable def bk1 {γ:Type} (A:Option γ):Option γ:=both (both A A) A
noncomputable def bk2 {γ:Type} (A:Option γ):Option γ:=both A A
noncomputable def packhorselaw39_shown:Unit→Option (List Outc) :=
 fun _ =>
 some ([(⟨(5:Int),(1:Int),(1:Int),(⟨(1:Int),(7:Int),(0:Int)⟩:ID),(0:Int)⟩:Outc),(⟨(8:Int),(2:Int),(6:Int),(⟨(1:Int),(7:Int),(0:Int)⟩:ID),(1:Int)⟩:Outc),(⟨(8:Int),(1:Int),(7:Int),(⟨(1:Int),(7:Int),(0:Int)⟩:ID),(2:Int)⟩:Outc),(⟨(9:Int),(2:Int),(8:Int),(⟨(1:Int),(7:Int),(0:Int)⟩:ID),(0:Int)⟩:Outc)]:List Outc)
def packhorselaw39_shown.ann:Ann:=.no
set_option maxRecDepth 100000 in
theorem packhorselaw39_shown.fn:FnT Tryd.prog 65 [] [.l_Outc] packhorselaw39_shown :=
 FnT.of (X:=ctx 0 []) Tryd.mixed packhorselaw39_shown.ann Tryd.func65 rfl (by kernel_rfl) (Nat.le_of_ble_eq_true rfl) (fun x=>by kernel_rfl)
noncomputable def packhorselaw39_shown.spec:XSpec Tryd.prog:=XSpec.t 65 [] [.l_Outc] packhorselaw39_shown (by kernel_rfl) packhorselaw39_shown.fn
set_option maxRecDepth 100000 in
theorem packhorselaw39_shown.fo:FnTO Tryd.prog 65 [] .Outc 53 packhorselaw39_shown :=
 FnTO.of (X:=ctx 0 []) Tryd.mixed packhorselaw39_shown.ann Tryd.func65 rfl (by kernel_rfl) (Nat.le_of_ble_eq_true rfl) (fun x=>by kernel_rfl)
noncomputable def packhorselaw39_shown.ow:XOwn Tryd.prog:=XOwn.t 65 [] .Outc 53 packhorselaw39_shown (by kernel_rfl) packhorselaw39_shown.fo
noncomputable def trace_Of_1:Outc→ID→Option ((Bool) × (ID)) :=
 fun o_1 x_2 =>
 some (((o_1.ID.Node == x_2.Node) && ((o_1.ID.Seq == x_2.Seq) && (o_1.ID.Off == x_2.Off))),x_2)
def trace_Of_1.ann:Ann:=.no
set_option maxRecDepth 100000 in
theorem trace_Of_1.fn:FnB Tryd.prog 127 [.d .Outc,.l 0 0] [(.ID,51)] [.bool] trace_Of_1 :=
 FnB.of (X:=ctx 0 []) Tryd.mixed trace_Of_1.ann Tryd.func127 rfl (by kernel_rfl) (Nat.le_of_ble_eq_true rfl) (fun x y=>by kernel_rfl)
noncomputable def trace_Of_1.spec:XSpec Tryd.prog:=XSpec.b 127 [.d .Outc,.l 0 0] [(.ID,51)] [.bool] trace_Of_1 (by kernel_rfl) trace_Of_1.fn
noncomputable def trace_filter_f127:List Outc→ID→Option ((List Outc) × (ID)) :=
 fun l_1 x_2 =>
 (iter (σ:=(List Outc) × Int × ID) (ρ:=(List Outc) × ID) (fun (out_3,x_4,x_5) =>
  br (decide (x_4 < (l_1.length:Int)))
   ((idx l_1 x_4).bind fun x_6 =>
   (trace_Of_1 x_6 x_5).bind fun (x_7,x_8) =>
   br x_7
    ((app 56 out_3 ([x_6]:List Outc)).bind fun x_9 =>
    (addI .i64 x_4 (1:Int)).bind fun x_10 =>
    some (.next (x_9,x_10,x_8)))
    ((addI .i64 x_4 (1:Int)).bind fun x_11 =>
    some (.next (out_3,x_11,x_8))))
   (some (.done (out_3,x_5)))) (([]:List Outc),(0:Int),x_2)).bind fun (out_12,x_13) =>
 some (out_12,x_13)
def trace_filter_f127.ann:Ann:=(.two .no (.two .no (.two (.two .no (.loop [5,7,10,11,12,13,14,15,16,17,18,19,20,21] [0] [.slot 5 .l_Outc (some (5,53)),.slot 10 .i64 none,.box 0 .ID] [(.exit 0,[.slot 5 .l_Outc (some (5,53)),.box 0 .ID])] .no)) .no)))
set_option maxRecDepth 100000 in
theorem trace_filter_f127.fn:FnB Tryd.prog 126 [.d .l_Outc,.f 127 [0]] [(.ID,51)] [.l_Outc] trace_filter_f127 :=
 FnB.of (X:=ctx 0 [trace_Of_1.spec]) Tryd.mixed trace_filter_f127.ann Tryd.func126 rfl (by kernel_rfl) (Nat.le_of_ble_eq_true rfl) (fun x y=>by kernel_rfl)
noncomputable def trace_filter_f127.spec:XSpec Tryd.prog:=XSpec.b 126 [.d .l_Outc,.f 127 [0]] [(.ID,51)] [.l_Outc] trace_filter_f127 (by kernel_rfl) trace_filter_f127.fn
noncomputable def trace_Of:((List Outc) × ID)→Option ((List Outc) × Int) :=
 fun (l_1,id_2) =>
 (trace_valid l_1).bind fun x_3 =>
 br (x_3 != (0:Int))
  (some (([]:List Outc),x_3))
  ((bundle_CheckID id_2).bind fun x_4 =>
  br (x_4 != (0:Int))
   (some (([]:List Outc),(2:Int)))
   ((trace_filter_f127 l_1 id_2).bind fun (x_5,x_6) =>
   some (x_5,(0:Int))))
def trace_Of.ann:Ann:=.no
set_option maxRecDepth 100000 in
theorem trace_Of.fn:FnT Tryd.prog 64 [.d .l_Outc,.d .ID] [.l_Outc,.i64] trace_Of :=
 FnT.of (X:=ctx 0 [trace_valid.spec,bundle_CheckID.spec,trace_filter_f127.spec]) Tryd.mixed trace_Of.ann Tryd.func64 rfl (by kernel_rfl) (Nat.le_of_ble_eq_true rfl) (fun x=>by kernel_rfl)
noncomputable def trace_Of.spec:XSpec Tryd.prog:=XSpec.t 64 [.d .l_Outc,.d .ID] [.l_Outc,.i64] trace_Of (by kernel_rfl) trace_Of.fn
noncomputable def trace_At_1:Outc→Int→Option ((Bool) × (Int)) :=
 fun o_1 x_2 =>
 some (o_1.Node == x_2,x_2)
def trace_At_1.ann:Ann:=.no
set_option maxRecDepth 100000 in
theorem trace_At_1.fn:FnB Tryd.prog 128 [.d .Outc,.l 0 0] [(.i64,3)] [.bool] trace_At_1 :=
 FnB.of (X:=ctx 0 []) Tryd.mixed trace_At_1.ann Tryd.func128 rfl (by kernel_rfl) (Nat.le_of_ble_eq_true rfl) (fun x y=>by kernel_rfl)
noncomputable def trace_At_1.spec:XSpec Tryd.prog:=XSpec.b 128 [.d .Outc,.l 0 0] [(.i64,3)] [.bool] trace_At_1 (by kernel_rfl) trace_At_1.fn
noncomputable def trace_filter_f128:List Outc→Int→Option ((List Outc) × (Int)) :=
 fun l_1 x_2 =>
 (iter (σ:=(List Outc) × Int × Int) (ρ:=(List Outc) × Int) (fun (out_3,x_4,x_5) =>
  br (decide (x_4 < (l_1.length:Int)))
   ((idx l_1 x_4).bind fun x_6 =>
   (trace_At_1 x_6 x_5).bind fun (x_7,x_8) =>
   br x_7
    ((app 56 out_3 ([x_6]:List Outc)).bind fun x_9 =>
    (addI .i64 x_4 (1:Int)).bind fun x_10 =>
    some (.next (x_9,x_10,x_8)))
    ((addI .i64 x_4 (1:Int)).bind fun x_11 =>
    some (.next (out_3,x_11,x_8))))
   (some (.done (out_3,x_5)))) (([]:List Outc),(0:Int),x_2)).bind fun (out_12,x_13) =>
 some (out_12,x_13)
def trace_filter_f128.ann:Ann:=(.two .no (.two .no (.two (.two .no (.loop [5,7,10,11,12,13,14,15,16,17,18,19,20,21] [0] [.slot 5 .l_Outc (some (5,53)),.slot 10 .i64 none,.box 0 .i64] [(.exit 0,[.slot 5 .l_Outc (some (5,53)),.box 0 .i64])] .no)) .no)))
set_option maxRecDepth 100000 in
theorem trace_filter_f128.fn:FnB Tryd.prog 126 [.d .l_Outc,.f 128 [0]] [(.i64,3)] [.l_Outc] trace_filter_f128 :=
 FnB.of (X:=ctx 0 [trace_At_1.spec]) Tryd.mixed trace_filter_f128.ann Tryd.func126 rfl (by kernel_rfl) (Nat.le_of_ble_eq_true rfl) (fun x y=>by kernel_rfl)
noncomputable def trace_filter_f128.spec:XSpec Tryd.prog:=XSpec.b 126 [.d .l_Outc,.f 128 [0]] [(.i64,3)] [.l_Outc] trace_filter_f128 (by kernel_rfl) trace_filter_f128.fn
noncomputable def trace_At:((List Outc) × Int)→Option ((List Outc) × Int) :=
 fun (l_1,node_2) =>
 (trace_valid l_1).bind fun x_3 =>
 br (x_3 != (0:Int))
  (some (([]:List Outc),x_3))
  (br (decide (node_2 < (1:Int)))
   (some (([]:List Outc),(2:Int)))
   (br (decide ((16:Int) < node_2))
    (some (([]:List Outc),(2:Int)))
    ((trace_filter_f128 l_1 node_2).bind fun (x_4,x_5) =>
    some (x_4,(0:Int)))))
def trace_At.ann:Ann:=.no
set_option maxRecDepth 100000 in
theorem trace_At.fn:FnT Tryd.prog 66 [.d .l_Outc,.d .i64] [.l_Outc,.i64] trace_At :=
 FnT.of (X:=ctx 0 [trace_valid.spec,trace_filter_f128.spec]) Tryd.mixed trace_At.ann Tryd.func66 rfl (by kernel_rfl) (Nat.le_of_ble_eq_true rfl) (fun x=>by kernel_rfl)
noncomputable def trace_At.spec:XSpec Tryd.prog:=XSpec.t 66 [.d .l_Outc,.d .i64] [.l_Outc,.i64] trace_At (by kernel_rfl) trace_At.fn
noncomputable def trace_Count:List Outc→Option ((List Int) × Int) :=
 fun l_1 =>
 (trace_valid l_1).bind fun x_2 =>
 br (x_2 != (0:Int))
  (some (([]:List Int),x_2))
  ((mkL (0:Int) 8 (15:Int) (15:Int)).bind fun x_3 =>
  (iter (σ:=(List Int) × Int) (ρ:=List Int) (fun (out_4,x_5) =>
   br (decide (x_5 < (l_1.length:Int)))
    ((idx l_1 x_5).bind fun x_6 =>
    (subI .i64 x_6.Kind (1:Int)).bind fun x_7 =>
    (idx out_4 x_7).bind fun x_8 =>
    (addI .i64 x_8 (1:Int)).bind fun x_9 =>
    br (inB x_7 out_4.length)
     ((idx out_4 x_7).bind fun x_10 =>
     (addI .i64 x_5 (1:Int)).bind fun x_11 =>
     some (.next (setI out_4 x_7 x_9,x_11)))
     (none))
    (some (.done out_4))) (x_3,(0:Int))).bind fun out_12 =>
  some (out_12,(0:Int)))
def trace_Count.ann:Ann:=(.two .no (.two .no (.two .no (.two (.two .no (.loop [2,5,7,13,16,17,18,19,20,21,22,23,24,25,26,27,28] [] [.slot 5 .l_i64 (some (13,3)),.slot 16 .i64 none] [(.exit 0,[.slot 5 .l_i64 (some (13,3))])] .no)) .no))))
set_option maxRecDepth 100000 in
theorem trace_Count.fn:FnT Tryd.prog 67 [.d .l_Outc] [.l_i64,.i64] trace_Count :=
 FnT.of (X:=ctx 134217728 [trace_valid.spec]) Tryd.mixed trace_Count.ann Tryd.func67 rfl (by kernel_rfl) (Nat.le_of_ble_eq_true rfl) (fun x=>by kernel_rfl)
noncomputable def trace_Count.spec:XSpec Tryd.prog:=XSpec.t 67 [.d .l_Outc] [.l_i64,.i64] trace_Count (by kernel_rfl) trace_Count.fn
noncomputable def trace_Same:((List Outc) × (List Outc))→Option (Bool × Int) :=
 fun (a_1,b_2) =>
 (trace_valid a_1).bind fun x_3 =>
 br (x_3 != (0:Int))
  (some (false,x_3))
  ((trace_valid b_2).bind fun x_4 =>
  br (x_4 != (0:Int))
   (some (false,x_4))
   ((iter (σ:=Int × (List (Outc × Int))) (ρ:=List (Outc × Int)) (fun (x_5,x_6) =>
    br (decide (x_5 < (a_1.length:Int)))
     ((idx a_1 x_5).bind fun x_7 =>
     (mget (α:=Outc) (β:=Int) (kinC .Outc) x_6 x_7).bind fun x_8 =>
     (addI .i64 (x_8.getD (0:Int)) (1:Int)).bind fun x_9 =>
     (mput (α:=Outc) (β:=Int) (kinC .Outc) x_6 x_7 x_9).bind fun x_10 =>
     (addI .i64 x_5 (1:Int)).bind fun x_11 =>
     some (.next (x_11,x_10)))
     (some (.done x_6))) ((0:Int),([]:List (Outc × Int)))).bind fun x_12 =>
   (iter (σ:=Int × (List (Outc × Int))) (ρ:=List (Outc × Int)) (fun (x_13,x_14) =>
    br (decide (x_13 < (b_2.length:Int)))
     ((idx b_2 x_13).bind fun x_15 =>
     (mget (α:=Outc) (β:=Int) (kinC .Outc) x_14 x_15).bind fun x_16 =>
     (subI .i64 (x_16.getD (0:Int)) (1:Int)).bind fun x_17 =>
     (mput (α:=Outc) (β:=Int) (kinC .Outc) x_14 x_15 x_17).bind fun x_18 =>
     (mget (α:=Outc) (β:=Int) (kinC .Outc) x_18 x_15).bind fun x_19 =>
     br ((x_19.getD (0:Int)) == (0:Int))
      ((mdel (α:=Outc) (β:=Int) (kinC .Outc) x_18 x_15).bind fun x_20 =>
      (addI .i64 x_13 (1:Int)).bind fun x_21 =>
      some (.next (x_21,x_20)))
      ((addI .i64 x_13 (1:Int)).bind fun x_22 =>
      some (.next (x_22,x_18))))
     (some (.done x_14))) ((0:Int),x_12)).bind fun x_23 =>
   some ((x_23.length:Int) == (0:Int),(0:Int))))
def trace_Same.ann:Ann:=(.two .no (.two .no (.two .no (.two .no (.two (.two .no (.loop [10,26,27,28,29,30,31,32,33,34,35,36] [0] [.slot 26 .i64 none,.mapb 0 .Outc .i64] [(.exit 0,[.mapb 0 .Outc .i64])] .no)) (.two (.two .no (.loop [12,39,40,41,42,43,44,45,46,47,48,49,50,51,52,53,54,55] [0] [.slot 39 .i64 none,.mapb 0 .Outc .i64] [(.exit 2,[.mapb 0 .Outc .i64])] .no)) .no))))))
set_option maxRecDepth 100000 in
theorem trace_Same.fn:FnT Tryd.prog 24 [.d .l_Outc,.d .l_Outc] [.bool,.i64] trace_Same :=
 FnT.of (X:=ctx 0 [trace_valid.spec]) Tryd.mixed trace_Same.ann Tryd.func24 rfl (by kernel_rfl) (Nat.le_of_ble_eq_true rfl) (fun x=>by kernel_rfl)
noncomputable def trace_Same.spec:XSpec Tryd.prog:=XSpec.t 24 [.d .l_Outc,.d .l_Outc] [.bool,.i64] trace_Same (by kernel_rfl) trace_Same.fn
noncomputable def trace_Latency_1:Outc→Option Bool :=
 fun o_1 =>
 br (o_1.Kind == (1:Int))
  (some true)
  (some (o_1.Kind == (8:Int)))
def trace_Latency_1.ann:Ann:=.no
set_option maxRecDepth 100000 in
theorem trace_Latency_1.fn:FnT Tryd.prog 129 [.d .Outc] [.bool] trace_Latency_1 :=
 FnT.of (X:=ctx 0 []) Tryd.mixed trace_Latency_1.ann Tryd.func129 rfl (by kernel_rfl) (Nat.le_of_ble_eq_true rfl) (fun x=>by kernel_rfl)
noncomputable def trace_Latency_1.spec:XSpec Tryd.prog:=XSpec.t 129 [.d .Outc] [.bool] trace_Latency_1 (by kernel_rfl) trace_Latency_1.fn
noncomputable def trace_filter_f129:List Outc→Option (List Outc) :=
 fun l_1 =>
 (iter (σ:=(List Outc) × Int) (ρ:=List Outc) (fun (out_2,x_3) =>
  br (decide (x_3 < (l_1.length:Int)))
   ((idx l_1 x_3).bind fun x_4 =>
   (trace_Latency_1 x_4).bind fun x_5 =>
   br x_5
    ((app 56 out_2 ([x_4]:List Outc)).bind fun x_6 =>
    (addI .i64 x_3 (1:Int)).bind fun x_7 =>
    some (.next (x_6,x_7)))
    ((addI .i64 x_3 (1:Int)).bind fun x_8 =>
    some (.next (out_2,x_8))))
   (some (.done out_2))) (([]:List Outc),(0:Int))).bind fun out_9 =>
 some out_9
def trace_filter_f129.ann:Ann:=(.two .no (.two .no (.two (.two .no (.loop [5,7,10,11,12,13,14,15,16,17,18,19,20,21] [] [.slot 5 .l_Outc (some (5,53)),.slot 10 .i64 none] [(.exit 0,[.slot 5 .l_Outc (some (5,53))])] .no)) .no)))
set_option maxRecDepth 100000 in
theorem trace_filter_f129.fn:FnT Tryd.prog 126 [.d .l_Outc,.f 129 []] [.l_Outc] trace_filter_f129 :=
 FnT.of (X:=ctx 0 [trace_Latency_1.spec]) Tryd.mixed trace_filter_f129.ann Tryd.func126 rfl (by kernel_rfl) (Nat.le_of_ble_eq_true rfl) (fun x=>by kernel_rfl)
noncomputable def trace_filter_f129.spec:XSpec Tryd.prog:=XSpec.t 126 [.d .l_Outc,.f 129 []] [.l_Outc] trace_filter_f129 (by kernel_rfl) trace_filter_f129.fn
set_option maxRecDepth 100000 in
theorem trace_filter_f129.fo:FnTO Tryd.prog 126 [.d .l_Outc,.f 129 []] .Outc 53 trace_filter_f129 :=
 FnTO.of (X:=ctx 0 [trace_Latency_1.spec]) Tryd.mixed trace_filter_f129.ann Tryd.func126 rfl (by kernel_rfl) (Nat.le_of_ble_eq_true rfl) (fun x=>by kernel_rfl)
noncomputable def trace_filter_f129.ow:XOwn Tryd.prog:=XOwn.t 126 [.d .l_Outc,.f 129 []] .Outc 53 trace_filter_f129 (by kernel_rfl) trace_filter_f129.fo
noncomputable def trace_Latency:((List Outc) × ID)→Option (Int × Int) :=
 fun (l_1,id_2) =>
 (trace_Of (l_1,id_2)).bind fun (x_3,x_4) =>
 br (x_4 != (0:Int))
  (some ((0:Int),x_4))
  ((trace_filter_f129 x_3).bind fun x_5 =>
  br ((x_5.length:Int) != (2:Int))
   (some ((0:Int),(8:Int)))
   ((idx x_5 (0:Int)).bind fun x_6 =>
   br (x_6.Kind != (1:Int))
    (some ((0:Int),(8:Int)))
    ((idx x_5 (1:Int)).bind fun x_7 =>
    br (x_7.Kind != (8:Int))
     (some ((0:Int),(8:Int)))
     ((idx x_5 (1:Int)).bind fun x_8 =>
     (idx x_5 (0:Int)).bind fun x_9 =>
     (subI .i64 x_8.Tick x_9.Tick).bind fun x_10 =>
     some (x_10,(0:Int))))))
def trace_Latency.ann:Ann:=.no
set_option maxRecDepth 100000 in
theorem trace_Latency.fn:FnT Tryd.prog 68 [.d .l_Outc,.d .ID] [.i64,.i64] trace_Latency :=
 FnT.of (X:=ctxO 0 [trace_Of.spec,trace_filter_f129.spec] [] [trace_filter_f129.ow]) Tryd.mixed trace_Latency.ann Tryd.func68 rfl (by kernel_rfl) (Nat.le_of_ble_eq_true rfl) (fun x=>by kernel_rfl)
noncomputable def trace_Latency.spec:XSpec Tryd.prog:=XSpec.t 68 [.d .l_Outc,.d .ID] [.i64,.i64] trace_Latency (by kernel_rfl) trace_Latency.fn
noncomputable def packhorsekit_SameInts:((List Int) × (List Int))→Option Bool :=
 fun (a_1,b_2) =>
 br ((a_1.length:Int) != (b_2.length:Int))
  (some false)
  ((iter (σ:=Int) (ρ:=(Bool) ⊕ (Unit)) (fun i_3 =>
   br (decide (i_3 < (a_1.length:Int)))
    ((idx a_1 i_3).bind fun x_4 =>
    (idx b_2 i_3).bind fun x_5 =>
    br (x_4 != x_5)
     (some (.done (.inl false)))
     ((addI .i64 i_3 (1:Int)).bind fun x_6 =>
     some (.next x_6)))
    (some (.done (.inr ())))) (0:Int)).bind fun x_8 =>
  Sum.elim
   (fun x_7 =>
   some x_7)
   (fun _ =>
   some true) x_8)
def packhorsekit_SameInts.ann:Ann:=(.two .no (.two .no (.two (.two .no (.loop [4,5,11,12,13,14,15,16,17,18,19,20,21,22,23,24,25] [] [.slot 5 .i64 none] [(.ret,[.slot 4 .bool none]),(.exit 0,[])] .no)) .no)))
set_option maxRecDepth 100000 in
theorem packhorsekit_SameInts.fn:FnT Tryd.prog 69 [.d .l_i64,.d .l_i64] [.bool] packhorsekit_SameInts :=
 FnT.of (X:=ctx 0 []) Tryd.mixed packhorsekit_SameInts.ann Tryd.func69 rfl (by kernel_rfl) (Nat.le_of_ble_eq_true rfl) (fun x=>by kernel_rfl)
noncomputable def packhorsekit_SameInts.spec:XSpec Tryd.prog:=XSpec.t 69 [.d .l_i64,.d .l_i64] [.bool] packhorsekit_SameInts (by kernel_rfl) packhorsekit_SameInts.fn
noncomputable def packhorselaw39_same:((List Outc) × (List Outc))→Option Bool :=
 fun (a_1,b_2) =>
 br ((a_1.length:Int) != (b_2.length:Int))
  (some false)
  ((iter (σ:=Int) (ρ:=(Bool) ⊕ (Unit)) (fun i_3 =>
   br (decide (i_3 < (a_1.length:Int)))
    ((idx a_1 i_3).bind fun x_4 =>
    (idx b_2 i_3).bind fun x_5 =>
    br (!((x_4.Tick == x_5.Tick) && ((x_4.Node == x_5.Node) && ((x_4.Kind == x_5.Kind) && ((x_4.ID.Node == x_5.ID.Node) && ((x_4.ID.Seq == x_5.ID.Seq) && ((x_4.ID.Off == x_5.ID.Off) && (x_4.Other == x_5.Other))))))))
     (some (.done (.inl false)))
     ((addI .i64 i_3 (1:Int)).bind fun x_6 =>
     some (.next x_6)))
    (some (.done (.inr ())))) (0:Int)).bind fun x_8 =>
  Sum.elim
   (fun x_7 =>
   some x_7)
   (fun _ =>
   some true) x_8)
def packhorselaw39_same.ann:Ann:=(.two .no (.two .no (.two (.two .no (.loop [4,5,11,12,13,14,15,16,17,18,19,20,21,22,23,24,25] [] [.slot 5 .i64 none] [(.ret,[.slot 4 .bool none]),(.exit 0,[])] .no)) .no)))
set_option maxRecDepth 100000 in
theorem packhorselaw39_same.fn:FnT Tryd.prog 23 [.d .l_Outc,.d .l_Outc] [.bool] packhorselaw39_same :=
 FnT.of (X:=ctx 0 []) Tryd.mixed packhorselaw39_same.ann Tryd.func23 rfl (by kernel_rfl) (Nat.le_of_ble_eq_true rfl) (fun x=>by kernel_rfl)
noncomputable def packhorselaw39_same.spec:XSpec Tryd.prog:=XSpec.t 23 [.d .l_Outc,.d .l_Outc] [.bool] packhorselaw39_same (by kernel_rfl) packhorselaw39_same.fn
noncomputable def packhorselaw39_awake:Unit→Option Bool :=
 fun _ =>
 (trace_Parse ([53,32,110,49,32,97,99,99,101,112,116,101,100,32,105,100,61,49,46,55,46,48,10,56,32,110,50,32,116,111,111,107,32,105,100,61,49,46,55,46,48,32,97,116,61,49,10,56,32,110,49,32,104,97,110,100,101,100,32,105,100,61,49,46,55,46,48,32,97,116,61,50,10,57,32,110,50,32,100,101,108,105,118,101,114,101,100,32,105,100,61,49,46,55,46,48,10]:List UInt8)).bind fun (x_1,x_2) =>
 (packhorselaw39_shown ()).bind fun x_3 =>
 (trace_Text x_3).bind fun (x_4,x_5) =>
 (packhorselaw39_shown ()).bind fun x_6 =>
 (trace_Latency (x_6,(⟨(1:Int),(7:Int),(0:Int)⟩:ID))).bind fun (x_7,x_8) =>
 br ((x_2.Err == (0:Int)) && (x_2.At == (0:Int)))
  ((packhorselaw39_shown ()).bind fun x_9 =>
  (packhorselaw39_same (x_1,x_9)).bind fun x_10 =>
  br x_10
   (br (x_5 == (0:Int))
    (br (x_4 == ([53,32,110,49,32,97,99,99,101,112,116,101,100,32,105,100,61,49,46,55,46,48,10,56,32,110,50,32,116,111,111,107,32,105,100,61,49,46,55,46,48,32,97,116,61,49,10,56,32,110,49,32,104,97,110,100,101,100,32,105,100,61,49,46,55,46,48,32,97,116,61,50,10,57,32,110,50,32,100,101,108,105,118,101,114,101,100,32,105,100,61,49,46,55,46,48,10]:List UInt8))
     (br (x_8 == (0:Int))
      (some (x_7 == (4:Int)))
      (some false))
     (some false))
    (some false))
   (some false))
  (some false)
def packhorselaw39_awake.ann:Ann:=.no
set_option maxRecDepth 100000 in
theorem packhorselaw39_awake.fn:FnT Tryd.prog 70 [] [.bool] packhorselaw39_awake :=
 FnT.of (X:=ctxO 0 [trace_Parse.spec,packhorselaw39_shown.spec,trace_Text.spec,trace_Latency.spec,packhorselaw39_same.spec] [] [packhorselaw39_shown.ow]) Tryd.mixed packhorselaw39_awake.ann Tryd.func70 rfl (by kernel_rfl) (Nat.le_of_ble_eq_true rfl) (fun x=>by kernel_rfl)
noncomputable def packhorselaw39_awake.spec:XSpec Tryd.prog:=XSpec.t 70 [] [.bool] packhorselaw39_awake (by kernel_rfl) packhorselaw39_awake.fn
noncomputable def packhorselaw39_fails:List UInt8→Option Bool :=
 fun s_1 =>
 (trace_Parse s_1).bind fun (x_2,x_3) =>
 br ((x_2.length:Int) == (0:Int))
  (some ((x_3.Err == (3:Int)) && (x_3.At == (0:Int))))
  (some false)
def packhorselaw39_fails.ann:Ann:=.no
set_option maxRecDepth 100000 in
theorem packhorselaw39_fails.fn:FnT Tryd.prog 71 [.d .str] [.bool] packhorselaw39_fails :=
 FnT.of (X:=ctx 0 [trace_Parse.spec]) Tryd.mixed packhorselaw39_fails.ann Tryd.func71 rfl (by kernel_rfl) (Nat.le_of_ble_eq_true rfl) (fun x=>by kernel_rfl)
noncomputable def packhorselaw39_fails.spec:XSpec Tryd.prog:=XSpec.t 71 [.d .str] [.bool] packhorselaw39_fails (by kernel_rfl) packhorselaw39_fails.fn
noncomputable def packhorselaw39_TraceKnown:Unit→Option Bool :=
 fun _ =>
 bk2 ((packhorselaw39_shown ()).bind fun x_1 =>
 (trace_Of (x_1,(⟨(1:Int),(7:Int),(0:Int)⟩:ID))).bind fun (x_2,x_3) =>
 bk1 ((packhorselaw39_shown ()).bind fun x_4 =>
 (trace_At (x_4,(2:Int))).bind fun (x_5,x_6) =>
 (packhorselaw39_shown ()).bind fun x_7 =>
 (trace_Count x_7).bind fun (x_8,x_9) =>
 (packhorselaw39_shown ()).bind fun x_10 =>
 (idx x_10 (2:Int)).bind fun x_11 =>
 (idx x_10 (1:Int)).bind fun x_12 =>
 br (inB (1:Int) x_10.length)
  ((idx x_10 (1:Int)).bind fun x_13 =>
  br (inB (2:Int) (setI x_10 (1:Int) x_11).length)
   ((idx (setI x_10 (1:Int) x_11) (2:Int)).bind fun x_14 =>
   (packhorselaw39_shown ()).bind fun x_15 =>
   (trace_Same (x_15,setI (setI x_10 (1:Int) x_11) (2:Int) x_12)).bind fun (x_16,x_17) =>
   (packhorselaw39_shown ()).bind fun x_18 =>
   (idx x_18 (1:Int)).bind fun x_19 =>
   (idx x_18 (0:Int)).bind fun x_20 =>
   br (inB (0:Int) x_18.length)
    ((idx x_18 (0:Int)).bind fun x_21 =>
    br (inB (1:Int) (setI x_18 (0:Int) x_19).length)
     ((idx (setI x_18 (0:Int) x_19) (1:Int)).bind fun x_22 =>
     (packhorselaw39_shown ()).bind fun x_23 =>
     (trace_Same (x_23,setI (setI x_18 (0:Int) x_19) (1:Int) x_20)).bind fun (x_24,x_25) =>
     (packhorselaw39_shown ()).bind fun x_26 =>
     (trace_Latency (x_26,(⟨(1:Int),(8:Int),(0:Int)⟩:ID))).bind fun (x_27,x_28) =>
     (packhorselaw39_shown ()).bind fun x_29 =>
     (trace_Latency (x_29,(⟨(0:Int),(1:Int),(0:Int)⟩:ID))).bind fun (x_30,x_31) =>
     (packhorsekit_SameInts (x_8,([(1:Int),(0:Int),(0:Int),(0:Int),(0:Int),(1:Int),(1:Int),(1:Int),(0:Int),(0:Int),(0:Int),(0:Int),(0:Int),(0:Int),(0:Int)]:List Int))).bind fun x_32 =>
     br (x_3 == (0:Int))
      (br ((x_2.length:Int) == (4:Int))
       (br (x_6 == (0:Int))
        (br ((x_5.length:Int) == (2:Int))
         ((idx x_5 (0:Int)).bind fun x_33 =>
         (packhorselaw39_shown ()).bind fun x_34 =>
         (idx x_34 (1:Int)).bind fun x_35 =>
         br ((x_33.Tick == x_35.Tick) && ((x_33.Node == x_35.Node) && ((x_33.Kind == x_35.Kind) && ((x_33.ID.Node == x_35.ID.Node) && ((x_33.ID.Seq == x_35.ID.Seq) && ((x_33.ID.Off == x_35.ID.Off) && (x_33.Other == x_35.Other)))))))
          ((idx x_5 (1:Int)).bind fun x_36 =>
          (packhorselaw39_shown ()).bind fun x_37 =>
          (idx x_37 (3:Int)).bind fun x_38 =>
          (packhorselaw39_awake ()).bind fun x_39 =>
          br x_39
           (br ((x_36.Tick == x_38.Tick) && ((x_36.Node == x_38.Node) && ((x_36.Kind == x_38.Kind) && ((x_36.ID.Node == x_38.ID.Node) && ((x_36.ID.Seq == x_38.ID.Seq) && ((x_36.ID.Off == x_38.ID.Off) && (x_36.Other == x_38.Other)))))))
            (br (x_9 == (0:Int))
             (br x_32
              (br (x_17 == (0:Int))
               (br x_16
                (br (x_25 == (19:Int))
                 (br (x_28 == (8:Int))
                  (br (x_31 == (2:Int))
                   ((packhorselaw39_fails ([53,32,110,49,32,99,114,97,115,104,101,100,32,105,100,61,49,46,55,46,48,10]:List UInt8)).bind fun x_40 =>
                   br x_40
                    ((packhorselaw39_fails ([53,32,110,49,32,116,111,111,107,32,105,100,61,49,46,55,46,48,10]:List UInt8)).bind fun x_41 =>
                    br x_41
                     ((packhorselaw39_fails ([53,32,110,48,32,99,114,97,115,104,101,100,10]:List UInt8)).bind fun x_42 =>
                     br x_42
                      ((packhorselaw39_fails ([53,32,110,49,32,102,108,111,119,110,10]:List UInt8)).bind fun x_43 =>
                      some x_43)
                      (some false))
                     (some false))
                    (some false))
                   (some false))
                  (some false))
                 (some false))
                (some false))
               (some false))
              (some false))
             (some false))
            (some false))
           (some false))
          ((packhorselaw39_awake ()).bind fun x_44 =>
          br x_44
           (some false)
           (some false)))
         ((packhorselaw39_awake ()).bind fun x_45 =>
         br x_45
          (some false)
          (some false)))
        ((packhorselaw39_awake ()).bind fun x_46 =>
        br x_46
         (some false)
         (some false)))
       ((packhorselaw39_awake ()).bind fun x_47 =>
       br x_47
        (some false)
        (some false)))
      ((packhorselaw39_awake ()).bind fun x_48 =>
      br x_48
       (some false)
       (some false)))
     (none))
    (none))
   (none))
  (none)))
def packhorselaw39_TraceKnown.ann:Ann:=(.two .no (.two .no (.two .full (.two .no (.two .no (.old (.two .no (.two .sch (.two .no (.two .no (.two .sch .no)))))))))))
set_option maxRecDepth 100000 in
theorem packhorselaw39_TraceKnown.fn:FnT Tryd.prog 19 [] [.bool] packhorselaw39_TraceKnown :=
 FnT.of (X:=ctxO 27670327216796860416 [packhorselaw39_shown.spec,trace_Of.spec,trace_At.spec,trace_Count.spec,trace_Same.spec,trace_Latency.spec,packhorsekit_SameInts.spec,packhorselaw39_awake.spec,packhorselaw39_fails.spec] [] [packhorselaw39_shown.ow]) Tryd.mixed packhorselaw39_TraceKnown.ann Tryd.func19 rfl (by kernel_rfl) (Nat.le_of_ble_eq_true rfl) (fun x=>by kernel_rfl)
noncomputable def packhorselaw39_TraceKnown.spec:XSpec Tryd.prog:=XSpec.t 19 [] [.bool] packhorselaw39_TraceKnown (by kernel_rfl) packhorselaw39_TraceKnown.fn
noncomputable def packhorsekit_Mod:(Int × Int)→Option Int :=
 fun (a_1,n_2) =>
 br (decide (n_2 < (1:Int)))
  (some (0:Int))
  ((remI a_1 n_2).bind fun x_3 =>
  br (decide (x_3 < (0:Int)))
   ((addI .i64 x_3 n_2).bind fun x_4 =>
   some x_4)
   (some x_3))
def packhorsekit_Mod.ann:Ann:=.no
set_option maxRecDepth 100000 in
theorem packhorsekit_Mod.fn:FnT Tryd.prog 25 [.d .i64,.d .i64] [.i64] packhorsekit_Mod :=
 FnT.of (X:=ctx 0 []) Tryd.mixed packhorsekit_Mod.ann Tryd.func25 rfl (by kernel_rfl) (Nat.le_of_ble_eq_true rfl) (fun x=>by kernel_rfl)
noncomputable def packhorsekit_Mod.spec:XSpec Tryd.prog:=XSpec.t 25 [.d .i64,.d .i64] [.i64] packhorsekit_Mod (by kernel_rfl) packhorsekit_Mod.fn
noncomputable def packhorseref39_UsesID:Int→Option Bool :=
 fun kind_1 =>
 br (decide ((1:Int) ≤ kind_1))
  (br (decide (kind_1 ≤ (10:Int)))
   (some (kind_1 != (5:Int)))
   (some false))
  (some false)
def packhorseref39_UsesID.ann:Ann:=.no
set_option maxRecDepth 100000 in
theorem packhorseref39_UsesID.fn:FnT Tryd.prog 72 [.d .i64] [.bool] packhorseref39_UsesID :=
 FnT.of (X:=ctx 0 []) Tryd.mixed packhorseref39_UsesID.ann Tryd.func72 rfl (by kernel_rfl) (Nat.le_of_ble_eq_true rfl) (fun x=>by kernel_rfl)
noncomputable def packhorseref39_UsesID.spec:XSpec Tryd.prog:=XSpec.t 72 [.d .i64] [.bool] packhorseref39_UsesID (by kernel_rfl) packhorseref39_UsesID.fn
noncomputable def packhorselaw39_Made:List Int→Option (List Outc) :=
 fun nums_1 =>
 (iter (σ:=(List Outc) × Int × Int) (ρ:=List Outc) (fun (l_2,tick_3,i_4) =>
  br (decide (i_4 < (nums_1.length:Int)))
   (br (decide (i_4 < (30:Int)))
    ((idx nums_1 i_4).bind fun x_5 =>
    (packhorsekit_Mod (x_5,(1048576:Int))).bind fun x_6 =>
    (remI x_6 (3:Int)).bind fun x_7 =>
    (addI .i64 tick_3 x_7).bind fun x_8 =>
    (quoI .i64 x_6 (3:Int)).bind fun x_9 =>
    (remI x_9 (4:Int)).bind fun x_10 =>
    (addI .i64 (1:Int) x_10).bind fun x_11 =>
    (quoI .i64 x_6 (12:Int)).bind fun x_12 =>
    (remI x_12 (15:Int)).bind fun x_13 =>
    (addI .i64 (1:Int) x_13).bind fun x_14 =>
    (packhorseref39_UsesID x_14).bind fun x_15 =>
    br x_15
     ((quoI .i64 x_6 (180:Int)).bind fun x_16 =>
     (remI x_16 (2:Int)).bind fun x_17 =>
     (addI .i64 (1:Int) x_17).bind fun x_18 =>
     (quoI .i64 x_6 (360:Int)).bind fun x_19 =>
     (remI x_19 (3:Int)).bind fun x_20 =>
     br (x_14 == (6:Int))
      ((remI x_11 (4:Int)).bind fun x_21 =>
      (addI .i64 (1:Int) x_21).bind fun x_22 =>
      (app 56 l_2 ([(⟨x_8,x_11,x_14,(⟨x_18,Go.IntKind.wrap .u64 x_20,(0:Int)⟩:ID),x_22⟩:Outc)]:List Outc)).bind fun x_23 =>
      (addI .i64 i_4 (1:Int)).bind fun x_24 =>
      some (.next (x_23,x_8,x_24)))
      (br (x_14 == (7:Int))
             ((remI x_11 (4:Int)).bind fun x_25 =>
             (addI .i64 (1:Int) x_25).bind fun x_26 =>
             (app 56 l_2 ([(⟨x_8,x_11,x_14,(⟨x_18,Go.IntKind.wrap .u64 x_20,(0:Int)⟩:ID),x_26⟩:Outc)]:List Outc)).bind fun x_27 =>
             (addI .i64 i_4 (1:Int)).bind fun x_28 =>
             some (.next (x_27,x_8,x_28)))
             (br (x_14 == (10:Int))
              ((remI x_11 (4:Int)).bind fun x_29 =>
              (addI .i64 (1:Int) x_29).bind fun x_30 =>
              (app 56 l_2 ([(⟨x_8,x_11,x_14,(⟨x_18,Go.IntKind.wrap .u64 x_20,(0:Int)⟩:ID),x_30⟩:Outc)]:List Outc)).bind fun x_31 =>
              (addI .i64 i_4 (1:Int)).bind fun x_32 =>
              some (.next (x_31,x_8,x_32)))
              (br (x_14 == (11:Int))
               ((remI x_11 (4:Int)).bind fun x_33 =>
               (addI .i64 (1:Int) x_33).bind fun x_34 =>
               (app 56 l_2 ([(⟨x_8,x_11,x_14,(⟨x_18,Go.IntKind.wrap .u64 x_20,(0:Int)⟩:ID),x_34⟩:Outc)]:List Outc)).bind fun x_35 =>
               (addI .i64 i_4 (1:Int)).bind fun x_36 =>
               some (.next (x_35,x_8,x_36)))
               (br (x_14 == (13:Int))
                ((remI x_11 (4:Int)).bind fun x_37 =>
                (addI .i64 (1:Int) x_37).bind fun x_38 =>
                (app 56 l_2 ([(⟨x_8,x_11,x_14,(⟨x_18,Go.IntKind.wrap .u64 x_20,(0:Int)⟩:ID),x_38⟩:Outc)]:List Outc)).bind fun x_39 =>
                (addI .i64 i_4 (1:Int)).bind fun x_40 =>
                some (.next (x_39,x_8,x_40)))
                (br (x_14 == (12:Int))
                 ((quoI .i64 x_6 (180:Int)).bind fun x_41 =>
                 (remI x_41 (2:Int)).bind fun x_42 =>
                 (remI x_11 (4:Int)).bind fun x_43 =>
                 (addI .i64 (1:Int) x_43).bind fun x_44 =>
                 (mulI .i64 x_42 x_44).bind fun x_45 =>
                 (app 56 l_2 ([(⟨x_8,x_11,x_14,(⟨x_18,Go.IntKind.wrap .u64 x_20,(0:Int)⟩:ID),x_45⟩:Outc)]:List Outc)).bind fun x_46 =>
                 (addI .i64 i_4 (1:Int)).bind fun x_47 =>
                 some (.next (x_46,x_8,x_47)))
                 ((app 56 l_2 ([(⟨x_8,x_11,x_14,(⟨x_18,Go.IntKind.wrap .u64 x_20,(0:Int)⟩:ID),(0:Int)⟩:Outc)]:List Outc)).bind fun x_48 =>
                 (addI .i64 i_4 (1:Int)).bind fun x_49 =>
                 some (.next (x_48,x_8,x_49)))))))))
     (br (x_14 == (6:Int))
      ((remI x_11 (4:Int)).bind fun x_50 =>
      (addI .i64 (1:Int) x_50).bind fun x_51 =>
      (app 56 l_2 ([(⟨x_8,x_11,x_14,(⟨(0:Int),(0:Int),(0:Int)⟩:ID),x_51⟩:Outc)]:List Outc)).bind fun x_52 =>
      (addI .i64 i_4 (1:Int)).bind fun x_53 =>
      some (.next (x_52,x_8,x_53)))
      (br (x_14 == (7:Int))
             ((remI x_11 (4:Int)).bind fun x_54 =>
             (addI .i64 (1:Int) x_54).bind fun x_55 =>
             (app 56 l_2 ([(⟨x_8,x_11,x_14,(⟨(0:Int),(0:Int),(0:Int)⟩:ID),x_55⟩:Outc)]:List Outc)).bind fun x_56 =>
             (addI .i64 i_4 (1:Int)).bind fun x_57 =>
             some (.next (x_56,x_8,x_57)))
             (br (x_14 == (10:Int))
              ((remI x_11 (4:Int)).bind fun x_58 =>
              (addI .i64 (1:Int) x_58).bind fun x_59 =>
              (app 56 l_2 ([(⟨x_8,x_11,x_14,(⟨(0:Int),(0:Int),(0:Int)⟩:ID),x_59⟩:Outc)]:List Outc)).bind fun x_60 =>
              (addI .i64 i_4 (1:Int)).bind fun x_61 =>
              some (.next (x_60,x_8,x_61)))
              (br (x_14 == (11:Int))
               ((remI x_11 (4:Int)).bind fun x_62 =>
               (addI .i64 (1:Int) x_62).bind fun x_63 =>
               (app 56 l_2 ([(⟨x_8,x_11,x_14,(⟨(0:Int),(0:Int),(0:Int)⟩:ID),x_63⟩:Outc)]:List Outc)).bind fun x_64 =>
               (addI .i64 i_4 (1:Int)).bind fun x_65 =>
               some (.next (x_64,x_8,x_65)))
               (br (x_14 == (13:Int))
                ((remI x_11 (4:Int)).bind fun x_66 =>
                (addI .i64 (1:Int) x_66).bind fun x_67 =>
                (app 56 l_2 ([(⟨x_8,x_11,x_14,(⟨(0:Int),(0:Int),(0:Int)⟩:ID),x_67⟩:Outc)]:List Outc)).bind fun x_68 =>
                (addI .i64 i_4 (1:Int)).bind fun x_69 =>
                some (.next (x_68,x_8,x_69)))
                (br (x_14 == (12:Int))
                 ((quoI .i64 x_6 (180:Int)).bind fun x_70 =>
                 (remI x_70 (2:Int)).bind fun x_71 =>
                 (remI x_11 (4:Int)).bind fun x_72 =>
                 (addI .i64 (1:Int) x_72).bind fun x_73 =>
                 (mulI .i64 x_71 x_73).bind fun x_74 =>
                 (app 56 l_2 ([(⟨x_8,x_11,x_14,(⟨(0:Int),(0:Int),(0:Int)⟩:ID),x_74⟩:Outc)]:List Outc)).bind fun x_75 =>
                 (addI .i64 i_4 (1:Int)).bind fun x_76 =>
                 some (.next (x_75,x_8,x_76)))
                 ((app 56 l_2 ([(⟨x_8,x_11,x_14,(⟨(0:Int),(0:Int),(0:Int)⟩:ID),(0:Int)⟩:Outc)]:List Outc)).bind fun x_77 =>
                 (addI .i64 i_4 (1:Int)).bind fun x_78 =>
                 some (.next (x_77,x_8,x_78))))))))))
    (some (.done l_2)))
   (some (.done l_2))) (([]:List Outc),(0:Int),(0:Int))).bind fun l_79 =>
 some l_79
def packhorselaw39_Made.ann:Ann:=(.two .no (.two .no (.two .no (.two (.two .no (.loop [3,4,5,6,7,8,9,10,11,12,13,14,15,16,17,18,19,20,21,22,23,24,25,26,27,28,29,30,31,32,33,34,35,36,37,38,39,40,41,42,43,44,45,46,47,48,49,50,51,52,53,54,55,56,57,58,59,60,61,62,63,64,65,66,67,68,69,70,71,72,73,74,75,76,77] [] [.slot 3 .l_Outc (some (3,53)),.slot 4 .i64 none,.slot 5 .i64 none] [(.exit 0,[.slot 3 .l_Outc (some (3,53))])] .no)) .no))))
set_option maxRecDepth 100000 in
theorem packhorselaw39_Made.fn:FnT Tryd.prog 20 [.d .l_i64] [.l_Outc] packhorselaw39_Made :=
 FnT.of (X:=ctx 0 [packhorsekit_Mod.spec,packhorseref39_UsesID.spec]) Tryd.mixed packhorselaw39_Made.ann Tryd.func20 rfl (by kernel_rfl) (Nat.le_of_ble_eq_true rfl) (fun x=>by kernel_rfl)
noncomputable def packhorselaw39_Made.spec:XSpec Tryd.prog:=XSpec.t 20 [.d .l_i64] [.l_Outc] packhorselaw39_Made (by kernel_rfl) packhorselaw39_Made.fn
set_option maxRecDepth 100000 in
theorem packhorselaw39_Made.fo:FnTO Tryd.prog 20 [.d .l_i64] .Outc 53 packhorselaw39_Made :=
 FnTO.of (X:=ctx 0 [packhorsekit_Mod.spec,packhorseref39_UsesID.spec]) Tryd.mixed packhorselaw39_Made.ann Tryd.func20 rfl (by kernel_rfl) (Nat.le_of_ble_eq_true rfl) (fun x=>by kernel_rfl)
noncomputable def packhorselaw39_Made.ow:XOwn Tryd.prog:=XOwn.t 20 [.d .l_i64] .Outc 53 packhorselaw39_Made (by kernel_rfl) packhorselaw39_Made.fo
noncomputable def packhorselaw39_TraceRound:((List Int) × (List UInt8))→Option Bool :=
 fun (nums_1,s_2) =>
 (packhorselaw39_TraceKnown ()).bind fun x_3 =>
 (packhorselaw39_Made nums_1).bind fun x_4 =>
 (trace_Text x_4).bind fun (x_5,x_6) =>
 (trace_Parse x_5).bind fun (x_7,x_8) =>
 br (x_6 != (0:Int))
  (some false)
  (br (x_8.Err != (0:Int))
   (some false)
   ((packhorselaw39_same (x_7,x_4)).bind fun x_9 =>
   br (!x_9)
    (some false)
    (br (decide ((600:Int) < (s_2.length:Int)))
     (some x_3)
     ((trace_Parse s_2).bind fun (x_10,x_11) =>
     br (x_11.Err != (0:Int))
      (br x_3
       (some ((x_10.length:Int) == (0:Int)))
       (some false))
      ((trace_Text x_10).bind fun (x_12,x_13) =>
      (trace_Parse x_12).bind fun (x_14,x_15) =>
      br x_3
       (br (x_13 == (0:Int))
        (br (x_15.Err == (0:Int))
         ((packhorselaw39_same (x_10,x_14)).bind fun x_16 =>
         some x_16)
         (some false))
        (some false))
       (some false))))))
def packhorselaw39_TraceRound.ann:Ann:=.no
set_option maxRecDepth 100000 in
theorem packhorselaw39_TraceRound.fn:FnT Tryd.prog 6 [.d .l_i64,.d .str] [.bool] packhorselaw39_TraceRound :=
 FnT.of (X:=ctxO 0 [packhorselaw39_TraceKnown.spec,packhorselaw39_Made.spec,trace_Text.spec,trace_Parse.spec,packhorselaw39_same.spec] [] [packhorselaw39_Made.ow]) Tryd.mixed packhorselaw39_TraceRound.ann Tryd.func6 rfl (by kernel_rfl) (Nat.le_of_ble_eq_true rfl) (fun x=>by kernel_rfl)
noncomputable def packhorselaw39_TraceRound.spec:XSpec Tryd.prog:=XSpec.t 6 [.d .l_i64,.d .str] [.bool] packhorselaw39_TraceRound (by kernel_rfl) packhorselaw39_TraceRound.fn
end Go.Proofs.YtjcbpfhlgebgdaaDoor
