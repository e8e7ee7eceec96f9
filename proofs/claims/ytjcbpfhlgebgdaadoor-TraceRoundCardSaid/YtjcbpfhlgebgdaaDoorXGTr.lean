import Derived.Test.YtjcbpfhlgebgdaaDoorXWd
import Derived.Test.YtjcbpfhlgebgdaaDoorXRw
import Derived.Test.YtjcbpfhlgebgdaaDoorXKp
import Derived.Test.YtjcbpfhlgebgdaaDoorX9
import Derived.Test.YtjcbpfhlgebgdaaDoorChecked
import Derived.KernelRfl
set_option linter.unusedSimpArgs false
set_option linter.unusedVariables false
namespace Go.Proofs.YtjcbpfhlgebgdaaDoor
open Go.X Go.Eng
noncomputable def bt1 {γ:Type} (A:Option γ):Option γ:=both A (both A A)
noncomputable def bt2 {γ:Type} (A:Option γ):Option γ:=both (both A A) A
noncomputable def trace_row:Outc→Option (List Word) :=
 fun o_1 =>
 br (inB o_1.Kind 16)
  ((tblA .Face 0 (0 + (o_1.Kind).toNat * 2) 2).bind fun x_2 =>
  br ((bitI .and .i64 x_2.uses (1:Int)) != (0:Int))
   ((app 16 ([(IV.int 184 o_1.Tick),(IV.int 185 o_1.Node),(IV.int 186 o_1.Kind)]:List IV) ([(IV.id 188 o_1.ID)]:List IV)).bind fun x_3 =>
   br (o_1.Other != (0:Int))
    ((app 16 x_3 ([(IV.int 189 o_1.Other)]:List IV)).bind fun x_4 =>
    (iter (σ:=(List Word) × Int) (ρ:=List Word) (fun (l_5,x_6) =>
     br (decide (x_6 < (x_4.length:Int)))
      ((idx x_4 x_6).bind fun x_7 =>
      (trace_word x_7).bind fun x_8 =>
      (app 40 l_5 ([x_8]:List Word)).bind fun x_9 =>
      (addI .i64 x_6 (1:Int)).bind fun x_10 =>
      some (.next (x_9,x_10)))
      (some (.done l_5))) (([]:List Word),(0:Int))).bind fun l_11 =>
    some l_11)
    ((iter (σ:=(List Word) × Int) (ρ:=List Word) (fun (l_12,x_13) =>
     br (decide (x_13 < (x_3.length:Int)))
      ((idx x_3 x_13).bind fun x_14 =>
      (trace_word x_14).bind fun x_15 =>
      (app 40 l_12 ([x_15]:List Word)).bind fun x_16 =>
      (addI .i64 x_13 (1:Int)).bind fun x_17 =>
      some (.next (x_16,x_17)))
      (some (.done l_12))) (([]:List Word),(0:Int))).bind fun l_18 =>
    some l_18))
   (br (o_1.Other != (0:Int))
    ((app 16 ([(IV.int 184 o_1.Tick),(IV.int 185 o_1.Node),(IV.int 186 o_1.Kind)]:List IV) ([(IV.int 189 o_1.Other)]:List IV)).bind fun x_19 =>
    (iter (σ:=(List Word) × Int) (ρ:=List Word) (fun (l_20,x_21) =>
     br (decide (x_21 < (x_19.length:Int)))
      ((idx x_19 x_21).bind fun x_22 =>
      (trace_word x_22).bind fun x_23 =>
      (app 40 l_20 ([x_23]:List Word)).bind fun x_24 =>
      (addI .i64 x_21 (1:Int)).bind fun x_25 =>
      some (.next (x_24,x_25)))
      (some (.done l_20))) (([]:List Word),(0:Int))).bind fun l_26 =>
    some l_26)
    ((iter (σ:=(List Word) × Int) (ρ:=List Word) (fun (l_27,x_28) =>
     br (decide (x_28 < (([(IV.int 184 o_1.Tick),(IV.int 185 o_1.Node),(IV.int 186 o_1.Kind)]:List IV).length:Int)))
      ((idx ([(IV.int 184 o_1.Tick),(IV.int 185 o_1.Node),(IV.int 186 o_1.Kind)]:List IV) x_28).bind fun x_29 =>
      (trace_word x_29).bind fun x_30 =>
      (app 40 l_27 ([x_30]:List Word)).bind fun x_31 =>
      (addI .i64 x_28 (1:Int)).bind fun x_32 =>
      some (.next (x_31,x_32)))
      (some (.done l_27))) (([]:List Word),(0:Int))).bind fun l_33 =>
    some l_33)))
  (none)
def trace_row.ann:Ann:=(.two .no (.two .no (.two .no (.two .no (.two .no (.two .no (.two (.two .no (.loop [5,7,43,44,45,46,47,48,49,50,51,52] [] [.slot 5 .l_Word (some (5,101)),.slot 43 .i64 none] [(.exit 0,[.slot 5 .l_Word (some (5,101))])] .no)) .no)))))))
set_option maxRecDepth 100000 in
theorem trace_row.fn:FnT Tryd.prog 74 [.d .Outc] [.l_Word] trace_row :=
 FnT.of (X:=ctx 0 [trace_word.spec]) Tryd.mixed trace_row.ann Tryd.func74 rfl (by kernel_rfl) (Nat.le_of_ble_eq_true rfl) (fun x=>by kernel_rfl)
noncomputable def trace_row.spec:XSpec Tryd.prog:=XSpec.t 74 [.d .Outc] [.l_Word] trace_row (by kernel_rfl) trace_row.fn
set_option maxRecDepth 100000 in
theorem trace_row.fo:FnTO Tryd.prog 74 [.d .Outc] .Word 101 trace_row :=
 FnTO.of (X:=ctx 0 [trace_word.spec]) Tryd.mixed trace_row.ann Tryd.func74 rfl (by kernel_rfl) (Nat.le_of_ble_eq_true rfl) (fun x=>by kernel_rfl)
noncomputable def trace_row.ow:XOwn Tryd.prog:=XOwn.t 74 [.d .Outc] .Word 101 trace_row (by kernel_rfl) trace_row.fo
noncomputable def trace_small:List UInt8→Option Int :=
 fun s_1 =>
 (words_Number s_1).bind fun (x_2,x_3) =>
 br (!x_3)
  (some (-1:Int))
  (some (Go.IntKind.wrap .i64 x_2))
def trace_small.ann:Ann:=.no
set_option maxRecDepth 100000 in
theorem trace_small.fn:FnT Tryd.prog 133 [.d .str] [.i64] trace_small :=
 FnT.of (X:=ctx 0 [words_Number.spec]) Tryd.mixed trace_small.ann Tryd.func133 rfl (by kernel_rfl) (Nat.le_of_ble_eq_true rfl) (fun x=>by kernel_rfl)
noncomputable def trace_small.spec:XSpec Tryd.prog:=XSpec.t 133 [.d .str] [.i64] trace_small (by kernel_rfl) trace_small.fn
noncomputable def internal_stringslite_HasPrefix:((List UInt8) × (List UInt8))→Option Bool :=
 fun (s_1,prefix_2) =>
 br (decide ((prefix_2.length:Int) ≤ (s_1.length:Int)))
  ((slc s_1 (0:Int) (prefix_2.length:Int)).bind fun x_3 =>
  some (x_3 == prefix_2))
  (some false)
def internal_stringslite_HasPrefix.ann:Ann:=.no
set_option maxRecDepth 100000 in
theorem internal_stringslite_HasPrefix.fn:FnT Tryd.prog 175 [.d .str,.d .str] [.bool] internal_stringslite_HasPrefix :=
 FnT.of (X:=ctx 0 []) Tryd.mixed internal_stringslite_HasPrefix.ann Tryd.func175 rfl (by kernel_rfl) (Nat.le_of_ble_eq_true rfl) (fun x=>by kernel_rfl)
noncomputable def internal_stringslite_HasPrefix.spec:XSpec Tryd.prog:=XSpec.t 175 [.d .str,.d .str] [.bool] internal_stringslite_HasPrefix (by kernel_rfl) internal_stringslite_HasPrefix.fn
noncomputable def internal_stringslite_TrimPrefix:((List UInt8) × (List UInt8))→Option (List UInt8) :=
 fun (s_1,prefix_2) =>
 (internal_stringslite_HasPrefix (s_1,prefix_2)).bind fun x_3 =>
 br x_3
  ((slc s_1 (prefix_2.length:Int) (s_1.length:Int)).bind fun x_4 =>
  some x_4)
  (some s_1)
def internal_stringslite_TrimPrefix.ann:Ann:=.no
set_option maxRecDepth 100000 in
theorem internal_stringslite_TrimPrefix.fn:FnT Tryd.prog 167 [.d .str,.d .str] [.str] internal_stringslite_TrimPrefix :=
 FnT.of (X:=ctx 0 [internal_stringslite_HasPrefix.spec]) Tryd.mixed internal_stringslite_TrimPrefix.ann Tryd.func167 rfl (by kernel_rfl) (Nat.le_of_ble_eq_true rfl) (fun x=>by kernel_rfl)
noncomputable def internal_stringslite_TrimPrefix.spec:XSpec Tryd.prog:=XSpec.t 167 [.d .str,.d .str] [.str] internal_stringslite_TrimPrefix (by kernel_rfl) internal_stringslite_TrimPrefix.fn
noncomputable def strings_TrimPrefix:((List UInt8) × (List UInt8))→Option (List UInt8) :=
 fun (s_1,prefix_2) =>
 (internal_stringslite_TrimPrefix (s_1,prefix_2)).bind fun x_3 =>
 some x_3
def strings_TrimPrefix.ann:Ann:=.no
set_option maxRecDepth 100000 in
theorem strings_TrimPrefix.fn:FnT Tryd.prog 134 [.d .str,.d .str] [.str] strings_TrimPrefix :=
 FnT.of (X:=ctx 0 [internal_stringslite_TrimPrefix.spec]) Tryd.mixed strings_TrimPrefix.ann Tryd.func134 rfl (by kernel_rfl) (Nat.le_of_ble_eq_true rfl) (fun x=>by kernel_rfl)
noncomputable def strings_TrimPrefix.spec:XSpec Tryd.prog:=XSpec.t 134 [.d .str,.d .str] [.str] strings_TrimPrefix (by kernel_rfl) strings_TrimPrefix.fn
noncomputable def trace_outcome_1:Face→Word→Option ((Bool) × (Word)) :=
 fun f_1 x_2 =>
 br (!(f_1.word == ([]:List UInt8)))
  (some (f_1.word == x_2.Text,x_2))
  (some (false,x_2))
def trace_outcome_1.ann:Ann:=.no
set_option maxRecDepth 100000 in
theorem trace_outcome_1.fn:FnB Tryd.prog 136 [.d .Face,.l 0 0] [(.Word,101)] [.bool] trace_outcome_1 :=
 FnB.of (X:=ctx 0 []) Tryd.mixed trace_outcome_1.ann Tryd.func136 rfl (by kernel_rfl) (Nat.le_of_ble_eq_true rfl) (fun x y=>by kernel_rfl)
noncomputable def trace_outcome_1.spec:XSpec Tryd.prog:=XSpec.b 136 [.d .Face,.l 0 0] [(.Word,101)] [.bool] trace_outcome_1 (by kernel_rfl) trace_outcome_1.fn
noncomputable def slices_IndexFunc_f136:List Face→Word→Option ((Int) × (Word)) :=
 fun s_1 x_2 =>
 (iter (σ:=Int × Word) (ρ:=(Int × Word) ⊕ (Word)) (fun (x_3,x_4) =>
  br (decide (x_3 < (s_1.length:Int)))
   ((idx s_1 x_3).bind fun x_5 =>
   (trace_outcome_1 x_5 x_4).bind fun (x_6,x_7) =>
   br x_6
    (some (.done (.inl (x_3,x_7))))
    ((addI .i64 x_3 (1:Int)).bind fun x_8 =>
    some (.next (x_8,x_7))))
   (some (.done (.inr x_4)))) ((0:Int),x_2)).bind fun x_12 =>
 Sum.elim
  (fun (x_9,x_10) =>
  some (x_9,x_10))
  (fun x_11 =>
  some ((-1:Int),x_11)) x_12
def slices_IndexFunc_f136.ann:Ann:=(.two .no (.two (.two .no (.loop [4,5,8,9,10,11,12,13,14,15,16,17,18] [0] [.slot 8 .i64 none,.box 0 .Word] [(.ret,[.slot 4 .i64 none,.box 0 .Word]),(.exit 0,[.box 0 .Word])] .no)) .no))
set_option maxRecDepth 100000 in
theorem slices_IndexFunc_f136.fn:FnB Tryd.prog 135 [.d .l_Face,.f 136 [0]] [(.Word,101)] [.i64] slices_IndexFunc_f136 :=
 FnB.of (X:=ctx 0 [trace_outcome_1.spec]) Tryd.mixed slices_IndexFunc_f136.ann Tryd.func135 rfl (by kernel_rfl) (Nat.le_of_ble_eq_true rfl) (fun x y=>by kernel_rfl)
noncomputable def slices_IndexFunc_f136.spec:XSpec Tryd.prog:=XSpec.b 135 [.d .l_Face,.f 136 [0]] [(.Word,101)] [.i64] slices_IndexFunc_f136 (by kernel_rfl) slices_IndexFunc_f136.fn
noncomputable def trace_outcome:List Word→Option Outc :=
 fun l_1 =>
 (iter (σ:=Int × Outc) (ρ:=Outc) (fun (x_2,x_3) =>
  br (decide (x_2 < (l_1.length:Int)))
   ((idx l_1 x_2).bind fun x_4 =>
   br (x_2 == (0:Int))
    ((trace_small x_4.Text).bind fun x_5 =>
    (addI .i64 x_2 (1:Int)).bind fun x_6 =>
    some (.next (x_6,(⟨x_5,x_3.Node,x_3.Kind,x_3.ID,x_3.Other⟩:Outc))))
    (br (x_2 == (1:Int))
     ((strings_TrimPrefix (x_4.Text,([110]:List UInt8))).bind fun x_7 =>
     (trace_small x_7).bind fun x_8 =>
     (addI .i64 x_2 (1:Int)).bind fun x_9 =>
     some (.next (x_9,(⟨x_3.Tick,x_8,x_3.Kind,x_3.ID,x_3.Other⟩:Outc))))
     (br (x_2 == (2:Int))
      ((tblL .Face 0 2 16 (0)).bind fun x_10 =>
      (slices_IndexFunc_f136 x_10 x_4).bind fun (x_11,x_12) =>
      (addI .i64 x_2 (1:Int)).bind fun x_13 =>
      some (.next (x_13,(⟨x_3.Tick,x_3.Node,x_11,x_3.ID,x_3.Other⟩:Outc))))
      (br (x_4.Key == ([105,100]:List UInt8))
             ((bundle_ParseKey x_4.Text).bind fun (x_14,x_15) =>
             (addI .i64 x_2 (1:Int)).bind fun x_16 =>
             some (.next (x_16,(⟨x_3.Tick,x_3.Node,x_3.Kind,x_14,x_3.Other⟩:Outc))))
             (br (x_4.Key == ([97,116]:List UInt8))
              ((trace_small x_4.Text).bind fun x_17 =>
              (addI .i64 x_2 (1:Int)).bind fun x_18 =>
              some (.next (x_18,(⟨x_3.Tick,x_3.Node,x_3.Kind,x_3.ID,x_17⟩:Outc))))
              ((addI .i64 x_2 (1:Int)).bind fun x_19 =>
              some (.next (x_19,x_3))))))))
   (some (.done x_3))) ((0:Int),(⟨(0:Int),(0:Int),(0:Int),(⟨(0:Int),(0:Int),(0:Int)⟩:ID),(0:Int)⟩:Outc))).bind fun x_20 =>
 some x_20
def trace_outcome.ann:Ann:=(.two .no (.two .no (.two (.two .no (.loop [4,5,8,9,10,11,12,13,14,15,16,17,18,19,20,21,22,23,24,25,26,27,28,29,30,31,32,33,34,35,36,37,38,39,40,41,42,43,44,45,46,47,48,49,50,51,52,53,54] [1] [.slot 8 .i64 none,.box 1 .Outc] [(.exit 0,[.box 1 .Outc])] .no)) .no)))
set_option maxRecDepth 100000 in
theorem trace_outcome.fn:FnT Tryd.prog 79 [.d .l_Word] [.Outc] trace_outcome :=
 FnT.of (X:=ctx 0 [trace_small.spec,strings_TrimPrefix.spec,slices_IndexFunc_f136.spec,bundle_ParseKey.spec]) Tryd.mixed trace_outcome.ann Tryd.func79 rfl (by kernel_rfl) (Nat.le_of_ble_eq_true rfl) (fun x=>by kernel_rfl)
noncomputable def trace_outcome.spec:XSpec Tryd.prog:=XSpec.t 79 [.d .l_Word] [.Outc] trace_outcome (by kernel_rfl) trace_outcome.fn
noncomputable def trace_one:Outc→Option Int :=
 fun o_1 =>
 br (decide (o_1.Kind < (1:Int)))
  (some (7:Int))
  (br (decide ((15:Int) < o_1.Kind))
   (some (7:Int))
   (br (inB o_1.Kind 16)
    ((tbl1 .i64 0 (0 + (o_1.Kind).toNat * 2 + 1)).bind fun x_2 =>
    br ((bitI .and .i64 x_2 (1:Int)) != (0:Int))
     ((bundle_CheckID o_1.ID).bind fun x_3 =>
     br ((bitI .and .i64 x_2 (2:Int)) != (0:Int))
      (br (decide ((1:Int) ≤ o_1.Other))
       (br (decide (o_1.Other ≤ (16:Int)))
        (br (o_1.Other != o_1.Node)
         (br (decide (o_1.Tick < (0:Int)))
          (some (2:Int))
          (br (decide ((1099511627776:Int) < o_1.Tick))
           (some (2:Int))
           (br (decide (o_1.Node < (1:Int)))
            (some (2:Int))
            (br (decide ((16:Int) < o_1.Node))
             (some (2:Int))
             (br (!(x_3 == (0:Int)))
              (some (2:Int))
              (some (0:Int)))))))
         (br ((bitI .and .i64 x_2 (4:Int)) != (0:Int))
          (br (decide (o_1.Tick < (0:Int)))
           (some (2:Int))
           (br (decide ((1099511627776:Int) < o_1.Tick))
            (some (2:Int))
            (br (decide (o_1.Node < (1:Int)))
             (some (2:Int))
             (br (decide ((16:Int) < o_1.Node))
              (some (2:Int))
              (br (!(x_3 == (0:Int)))
               (some (2:Int))
               (br (!(o_1.Other == (0:Int)))
                (some (2:Int))
                (some (0:Int))))))))
          (br (decide (o_1.Tick < (0:Int)))
           (some (2:Int))
           (br (decide ((1099511627776:Int) < o_1.Tick))
            (some (2:Int))
            (br (decide (o_1.Node < (1:Int)))
             (some (2:Int))
             (br (decide ((16:Int) < o_1.Node))
              (some (2:Int))
              (br (!(x_3 == (0:Int)))
               (some (2:Int))
               (some (2:Int)))))))))
        (br ((bitI .and .i64 x_2 (4:Int)) != (0:Int))
         (br (decide (o_1.Tick < (0:Int)))
          (some (2:Int))
          (br (decide ((1099511627776:Int) < o_1.Tick))
           (some (2:Int))
           (br (decide (o_1.Node < (1:Int)))
            (some (2:Int))
            (br (decide ((16:Int) < o_1.Node))
             (some (2:Int))
             (br (!(x_3 == (0:Int)))
              (some (2:Int))
              (br (!(o_1.Other == (0:Int)))
               (some (2:Int))
               (some (0:Int))))))))
         (br (decide (o_1.Tick < (0:Int)))
          (some (2:Int))
          (br (decide ((1099511627776:Int) < o_1.Tick))
           (some (2:Int))
           (br (decide (o_1.Node < (1:Int)))
            (some (2:Int))
            (br (decide ((16:Int) < o_1.Node))
             (some (2:Int))
             (br (!(x_3 == (0:Int)))
              (some (2:Int))
              (some (2:Int)))))))))
       (br ((bitI .and .i64 x_2 (4:Int)) != (0:Int))
        (br (decide (o_1.Tick < (0:Int)))
         (some (2:Int))
         (br (decide ((1099511627776:Int) < o_1.Tick))
          (some (2:Int))
          (br (decide (o_1.Node < (1:Int)))
           (some (2:Int))
           (br (decide ((16:Int) < o_1.Node))
            (some (2:Int))
            (br (!(x_3 == (0:Int)))
             (some (2:Int))
             (br (!(o_1.Other == (0:Int)))
              (some (2:Int))
              (some (0:Int))))))))
        (br (decide (o_1.Tick < (0:Int)))
         (some (2:Int))
         (br (decide ((1099511627776:Int) < o_1.Tick))
          (some (2:Int))
          (br (decide (o_1.Node < (1:Int)))
           (some (2:Int))
           (br (decide ((16:Int) < o_1.Node))
            (some (2:Int))
            (br (!(x_3 == (0:Int)))
             (some (2:Int))
             (some (2:Int)))))))))
      (br (decide (o_1.Tick < (0:Int)))
       (some (2:Int))
       (br (decide ((1099511627776:Int) < o_1.Tick))
        (some (2:Int))
        (br (decide (o_1.Node < (1:Int)))
         (some (2:Int))
         (br (decide ((16:Int) < o_1.Node))
          (some (2:Int))
          (br (!(x_3 == (0:Int)))
           (some (2:Int))
           (br (!(o_1.Other == (0:Int)))
            (some (2:Int))
            (some (0:Int)))))))))
     (br ((bitI .and .i64 x_2 (2:Int)) != (0:Int))
      (br (decide ((1:Int) ≤ o_1.Other))
       (br (decide (o_1.Other ≤ (16:Int)))
        (br (o_1.Other != o_1.Node)
         (br (decide (o_1.Tick < (0:Int)))
          (some (2:Int))
          (br (decide ((1099511627776:Int) < o_1.Tick))
           (some (2:Int))
           (br (decide (o_1.Node < (1:Int)))
            (some (2:Int))
            (br (decide ((16:Int) < o_1.Node))
             (some (2:Int))
             (br (!((o_1.ID.Node == (0:Int)) && ((o_1.ID.Seq == (0:Int)) && (o_1.ID.Off == (0:Int)))))
              (some (2:Int))
              (some (0:Int)))))))
         (br ((bitI .and .i64 x_2 (4:Int)) != (0:Int))
          (br (decide (o_1.Tick < (0:Int)))
           (some (2:Int))
           (br (decide ((1099511627776:Int) < o_1.Tick))
            (some (2:Int))
            (br (decide (o_1.Node < (1:Int)))
             (some (2:Int))
             (br (decide ((16:Int) < o_1.Node))
              (some (2:Int))
              (br (!((o_1.ID.Node == (0:Int)) && ((o_1.ID.Seq == (0:Int)) && (o_1.ID.Off == (0:Int)))))
               (some (2:Int))
               (br (!(o_1.Other == (0:Int)))
                (some (2:Int))
                (some (0:Int))))))))
          (br (decide (o_1.Tick < (0:Int)))
           (some (2:Int))
           (br (decide ((1099511627776:Int) < o_1.Tick))
            (some (2:Int))
            (br (decide (o_1.Node < (1:Int)))
             (some (2:Int))
             (br (decide ((16:Int) < o_1.Node))
              (some (2:Int))
              (br (!((o_1.ID.Node == (0:Int)) && ((o_1.ID.Seq == (0:Int)) && (o_1.ID.Off == (0:Int)))))
               (some (2:Int))
               (some (2:Int)))))))))
        (br ((bitI .and .i64 x_2 (4:Int)) != (0:Int))
         (br (decide (o_1.Tick < (0:Int)))
          (some (2:Int))
          (br (decide ((1099511627776:Int) < o_1.Tick))
           (some (2:Int))
           (br (decide (o_1.Node < (1:Int)))
            (some (2:Int))
            (br (decide ((16:Int) < o_1.Node))
             (some (2:Int))
             (br (!((o_1.ID.Node == (0:Int)) && ((o_1.ID.Seq == (0:Int)) && (o_1.ID.Off == (0:Int)))))
              (some (2:Int))
              (br (!(o_1.Other == (0:Int)))
               (some (2:Int))
               (some (0:Int))))))))
         (br (decide (o_1.Tick < (0:Int)))
          (some (2:Int))
          (br (decide ((1099511627776:Int) < o_1.Tick))
           (some (2:Int))
           (br (decide (o_1.Node < (1:Int)))
            (some (2:Int))
            (br (decide ((16:Int) < o_1.Node))
             (some (2:Int))
             (br (!((o_1.ID.Node == (0:Int)) && ((o_1.ID.Seq == (0:Int)) && (o_1.ID.Off == (0:Int)))))
              (some (2:Int))
              (some (2:Int)))))))))
       (br ((bitI .and .i64 x_2 (4:Int)) != (0:Int))
        (br (decide (o_1.Tick < (0:Int)))
         (some (2:Int))
         (br (decide ((1099511627776:Int) < o_1.Tick))
          (some (2:Int))
          (br (decide (o_1.Node < (1:Int)))
           (some (2:Int))
           (br (decide ((16:Int) < o_1.Node))
            (some (2:Int))
            (br (!((o_1.ID.Node == (0:Int)) && ((o_1.ID.Seq == (0:Int)) && (o_1.ID.Off == (0:Int)))))
             (some (2:Int))
             (br (!(o_1.Other == (0:Int)))
              (some (2:Int))
              (some (0:Int))))))))
        (br (decide (o_1.Tick < (0:Int)))
         (some (2:Int))
         (br (decide ((1099511627776:Int) < o_1.Tick))
          (some (2:Int))
          (br (decide (o_1.Node < (1:Int)))
           (some (2:Int))
           (br (decide ((16:Int) < o_1.Node))
            (some (2:Int))
            (br (!((o_1.ID.Node == (0:Int)) && ((o_1.ID.Seq == (0:Int)) && (o_1.ID.Off == (0:Int)))))
             (some (2:Int))
             (some (2:Int)))))))))
      (br (decide (o_1.Tick < (0:Int)))
       (some (2:Int))
       (br (decide ((1099511627776:Int) < o_1.Tick))
        (some (2:Int))
        (br (decide (o_1.Node < (1:Int)))
         (some (2:Int))
         (br (decide ((16:Int) < o_1.Node))
          (some (2:Int))
          (br (!((o_1.ID.Node == (0:Int)) && ((o_1.ID.Seq == (0:Int)) && (o_1.ID.Off == (0:Int)))))
           (some (2:Int))
           (br (!(o_1.Other == (0:Int)))
            (some (2:Int))
            (some (0:Int))))))))))
    (none)))
def trace_one.ann:Ann:=.no
set_option maxRecDepth 100000 in
theorem trace_one.fn:FnT Tryd.prog 80 [.d .Outc] [.i64] trace_one :=
 FnT.of (X:=ctx 0 [bundle_CheckID.spec]) Tryd.mixed trace_one.ann Tryd.func80 rfl (by kernel_rfl) (Nat.le_of_ble_eq_true rfl) (fun x=>by kernel_rfl)
noncomputable def trace_one.spec:XSpec Tryd.prog:=XSpec.t 80 [.d .Outc] [.i64] trace_one (by kernel_rfl) trace_one.fn
noncomputable def trace_Check:List Outc→Option (Int × Int) :=
 fun l_1 =>
 br (decide ((5000:Int) < (l_1.length:Int)))
  (some ((5:Int),(0:Int)))
  ((iter (σ:=Int) (ρ:=(Int × Int) ⊕ (Unit)) (fun x_2 =>
   br (decide (x_2 < (l_1.length:Int)))
    ((idx l_1 x_2).bind fun x_3 =>
    (trace_one x_3).bind fun x_4 =>
    br (x_4 != (0:Int))
     (some (.done (.inl (x_4,x_2))))
     (br (decide ((0:Int) < x_2))
      ((subI .i64 x_2 (1:Int)).bind fun x_5 =>
      (idx l_1 x_5).bind fun x_6 =>
      br (decide (x_3.Tick < x_6.Tick))
       (some (.done (.inl ((19:Int),x_2))))
       ((addI .i64 x_2 (1:Int)).bind fun x_7 =>
       some (.next x_7)))
      ((addI .i64 x_2 (1:Int)).bind fun x_8 =>
      some (.next x_8))))
    (some (.done (.inr ())))) (0:Int)).bind fun x_11 =>
  Sum.elim
   (fun (x_9,x_10) =>
   some (x_9,x_10))
   (fun _ =>
   some ((0:Int),(0:Int))) x_11)
def trace_Check.ann:Ann:=(.two .no (.two .no (.two (.two .no (.loop [2,3,4,5,6,12,13,14,15,16,17,18,19,20,21,22,23,24,25,26,27,28,29,30,31,32,33,34,35,36,37] [] [.slot 12 .i64 none] [(.ret,[.slot 2 .i64 none,.slot 3 .i64 none]),(.exit 0,[])] .no)) .no)))
set_option maxRecDepth 100000 in
theorem trace_Check.fn:FnT Tryd.prog 130 [.d .l_Outc] [.i64,.i64] trace_Check :=
 FnT.of (X:=ctx 0 [trace_one.spec]) Tryd.mixed trace_Check.ann Tryd.func130 rfl (by kernel_rfl) (Nat.le_of_ble_eq_true rfl) (fun x=>by kernel_rfl)
noncomputable def trace_Check.spec:XSpec Tryd.prog:=XSpec.t 130 [.d .l_Outc] [.i64,.i64] trace_Check (by kernel_rfl) trace_Check.fn
noncomputable def trace_valid:List Outc→Option Int :=
 fun l_1 =>
 (trace_Check l_1).bind fun (x_2,x_3) =>
 some x_2
def trace_valid.ann:Ann:=.no
set_option maxRecDepth 100000 in
theorem trace_valid.fn:FnT Tryd.prog 73 [.d .l_Outc] [.i64] trace_valid :=
 FnT.of (X:=ctx 0 [trace_Check.spec]) Tryd.mixed trace_valid.ann Tryd.func73 rfl (by kernel_rfl) (Nat.le_of_ble_eq_true rfl) (fun x=>by kernel_rfl)
noncomputable def trace_valid.spec:XSpec Tryd.prog:=XSpec.t 73 [.d .l_Outc] [.i64] trace_valid (by kernel_rfl) trace_valid.fn
noncomputable def trace_Parse_1:(Word × Word)→Option Bool :=
 fun (a_1,b_2) =>
 br (a_1.Key == b_2.Key)
  (some (a_1.Text == b_2.Text))
  (some false)
def trace_Parse_1.ann:Ann:=.no
set_option maxRecDepth 100000 in
theorem trace_Parse_1.fn:FnT Tryd.prog 82 [.d .Word,.d .Word] [.bool] trace_Parse_1 :=
 FnT.of (X:=ctx 0 []) Tryd.mixed trace_Parse_1.ann Tryd.func82 rfl (by kernel_rfl) (Nat.le_of_ble_eq_true rfl) (fun x=>by kernel_rfl)
noncomputable def trace_Parse_1.spec:XSpec Tryd.prog:=XSpec.t 82 [.d .Word,.d .Word] [.bool] trace_Parse_1 (by kernel_rfl) trace_Parse_1.fn
noncomputable def slices_EqualFunc_f82:((List Word) × (List Word))→Option Bool :=
 fun (s1_1,s2_2) =>
 br ((s1_1.length:Int) != (s2_2.length:Int))
  (some false)
  ((iter (σ:=Int) (ρ:=(Bool) ⊕ (Unit)) (fun x_3 =>
   br (decide (x_3 < (s1_1.length:Int)))
    ((idx s1_1 x_3).bind fun x_4 =>
    (idx s2_2 x_3).bind fun x_5 =>
    (trace_Parse_1 (x_4,x_5)).bind fun x_6 =>
    br (!x_6)
     (some (.done (.inl false)))
     ((addI .i64 x_3 (1:Int)).bind fun x_7 =>
     some (.next x_7)))
    (some (.done (.inr ())))) (0:Int)).bind fun x_9 =>
  Sum.elim
   (fun x_8 =>
   some x_8)
   (fun _ =>
   some true) x_9)
def slices_EqualFunc_f82.ann:Ann:=(.two .no (.two .no (.two (.two .no (.loop [6,7,8,9,17,18,19,20,21,22,23,24,25,26,27,28,29,30,31] [] [.slot 17 .i64 none] [(.ret,[.slot 6 .bool none]),(.exit 0,[])] .no)) .no)))
set_option maxRecDepth 100000 in
theorem slices_EqualFunc_f82.fn:FnT Tryd.prog 81 [.d .l_Word,.d .l_Word,.f 82 []] [.bool] slices_EqualFunc_f82 :=
 FnT.of (X:=ctx 0 [trace_Parse_1.spec]) Tryd.mixed slices_EqualFunc_f82.ann Tryd.func81 rfl (by kernel_rfl) (Nat.le_of_ble_eq_true rfl) (fun x=>by kernel_rfl)
noncomputable def slices_EqualFunc_f82.spec:XSpec Tryd.prog:=XSpec.t 81 [.d .l_Word,.d .l_Word,.f 82 []] [.bool] slices_EqualFunc_f82 (by kernel_rfl) slices_EqualFunc_f82.fn
noncomputable def trace_Parse:List UInt8→Option ((List Outc) × Fault) :=
 fun text_1 =>
 (words_Rows text_1).bind fun (x_2,x_3) =>
 br (x_3.Err != (0:Int))
  (some (([]:List Outc),x_3))
  ((iter (σ:=(List Outc) × Int × Fault) (ρ:=((List Outc) × Fault) ⊕ ((List Outc) × Fault)) (fun (out_4,x_5,x_6) =>
   br (decide (x_5 < (x_2.length:Int)))
    ((idx x_2 x_5).bind fun x_7 =>
    (idx x_7.Words (0:Int)).bind fun x_8 =>
    br (decide ((5000:Int) ≤ x_5))
     (some (.done (.inl (([]:List Outc),(⟨(5:Int),x_8.At⟩:Fault)))))
     ((trace_outcome x_7.Words).bind fun x_9 =>
     (trace_one x_9).bind fun x_10 =>
     both
(br (x_10 != (0:Int))
      (bt1 (some (.done (.inl (([]:List Outc),(⟨(3:Int),x_8.At⟩:Fault))))))
      (bt1 ((trace_row x_9).bind fun x_11 =>
      (slices_EqualFunc_f82 (x_7.Words,x_11)).bind fun x_12 =>
      br (!x_12)
       (some (.done (.inl (([]:List Outc),(⟨(3:Int),x_8.At⟩:Fault)))))
       (br (decide ((0:Int) < x_5))
        ((subI .i64 x_5 (1:Int)).bind fun x_13 =>
        (idx out_4 x_13).bind fun x_14 =>
        br (decide (x_9.Tick < x_14.Tick))
         (some (.done (.inl (([]:List Outc),(⟨(19:Int),x_8.At⟩:Fault)))))
         ((app 56 out_4 ([x_9]:List Outc)).bind fun x_15 =>
         (addI .i64 x_5 (1:Int)).bind fun x_16 =>
         some (.next (x_15,x_16,x_6))))
        ((app 56 out_4 ([x_9]:List Outc)).bind fun x_17 =>
        (addI .i64 x_5 (1:Int)).bind fun x_18 =>
        some (.next (x_17,x_18,x_6)))))))
(br (x_10 != (0:Int))
      (bt2 (some (.done (.inl (([]:List Outc),(⟨(3:Int),x_8.At⟩:Fault))))))
      (bt2 ((trace_row x_9).bind fun x_35 =>
      (slices_EqualFunc_f82 (x_7.Words,x_35)).bind fun x_36 =>
      br (!x_36)
       (some (.done (.inl (([]:List Outc),(⟨(3:Int),x_8.At⟩:Fault)))))
       (br (decide ((0:Int) < x_5))
        ((subI .i64 x_5 (1:Int)).bind fun x_37 =>
        (idx out_4 x_37).bind fun x_38 =>
        br (decide (x_9.Tick < x_38.Tick))
         (some (.done (.inl (([]:List Outc),(⟨(19:Int),x_8.At⟩:Fault)))))
         ((app 56 out_4 ([x_9]:List Outc)).bind fun x_39 =>
         (addI .i64 x_5 (1:Int)).bind fun x_40 =>
         some (.next (x_39,x_40,x_6))))
        ((app 56 out_4 ([x_9]:List Outc)).bind fun x_41 =>
        (addI .i64 x_5 (1:Int)).bind fun x_42 =>
        some (.next (x_41,x_42,x_6)))))))))
    (some (.done (.inr (out_4,x_6))))) (([]:List Outc),(0:Int),(⟨(0:Int),(0:Int)⟩:Fault))).bind fun x_63 =>
  Sum.elim
   (fun (x_59,x_60) =>
   some (x_59,x_60))
   (fun (out_61,x_62) =>
   some (out_61,(⟨(0:Int),(0:Int)⟩:Fault))) x_63)
def trace_Parse.ann:Ann:=(.two .no (.two .no (.two .no (.two .no (.two (.two .no (.loop [2,6,7,8,9,10,22,23,24,25,26,27,28,29,30,31,32,33,34,35,36,37,38,39,40,41,42,43,44,45,46,47,48,49,50,51,52,53,54,55,56,57,58,59,60,61,62,63,64,65,66,67,68,69,70,71] [0] [.slot 6 .l_Outc (some (6,53)),.slot 22 .i64 none,.box 0 .Fault] [(.ret,[.slot 2 .l_Outc (some (2,53)),.box 0 .Fault]),(.exit 0,[.slot 6 .l_Outc (some (6,53)),.box 0 .Fault])] (.two .no (.two .no (.two (.two .no (.two .no (.two .no (.two .no (.two (.two .full .no) .no))))) .no))))) .no)))))
set_option maxRecDepth 100000 in
theorem trace_Parse.fn:FnT Tryd.prog 22 [.d .str] [.l_Outc,.Fault] trace_Parse :=
 FnT.of (X:=ctxO 0 [words_Rows.spec,trace_outcome.spec,trace_one.spec,trace_row.spec,slices_EqualFunc_f82.spec] [] [trace_row.ow]) Tryd.mixed trace_Parse.ann Tryd.func22 rfl (by kernel_rfl) (Nat.le_of_ble_eq_true rfl) (fun x=>by kernel_rfl)
noncomputable def trace_Parse.spec:XSpec Tryd.prog:=XSpec.t 22 [.d .str] [.l_Outc,.Fault] trace_Parse (by kernel_rfl) trace_Parse.fn
end Go.Proofs.YtjcbpfhlgebgdaaDoor
