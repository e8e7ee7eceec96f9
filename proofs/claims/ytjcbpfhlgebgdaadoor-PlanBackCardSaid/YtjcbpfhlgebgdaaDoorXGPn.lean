import Derived.Test.YtjcbpfhlgebgdaaDoorXGRf
import Derived.Test.YtjcbpfhlgebgdaaDoorXGWo
import Derived.Test.YtjcbpfhlgebgdaaDoorX9
import Derived.Test.YtjcbpfhlgebgdaaDoorChecked
import Derived.KernelRfl
set_option linter.unusedSimpArgs false
/- What the interpreter makes of functions of the program, printed by xexec.py. -/
namespace Go.Proofs.YtjcbpfhlgebgdaaDoor
open Go.X Go.Eng
set_option linter.unusedVariables false
-- STUCK packhorse/plan.contact index of agg < packhorse/plan.contact
/-- packhorse/words.Number -/
noncomputable def words_Number : List UInt8 → Option (Int × Bool) :=
  fun s_1 =>
  br (s_1 == ([] : List UInt8))
    (some ((0 : Int), false))
    ((idxS s_1 (0 : Int)).bind fun x_2 =>
    br (x_2 == (48 : Int))
      (br (decide ((1 : Int) < (s_1.length : Int)))
        (some ((0 : Int), false))
        ((iter (σ := Int × Int) (ρ := (Int × Bool) ⊕ (Int)) (fun (n_3, x_4) =>
          br (decide (x_4 < ((bytesI s_1).length : Int)))
            ((idx (bytesI s_1) x_4).bind fun x_5 =>
            br (decide (x_5 < (48 : Int)))
              (some (.done (.inl ((0 : Int), false))))
              (br (decide ((57 : Int) < x_5))
                (some (.done (.inl ((0 : Int), false))))
                ((mulI .u64 (10 : Int) n_3).bind fun x_6 =>
                (subI .u8 x_5 (48 : Int)).bind fun x_7 =>
                (addI .u64 x_6 (Go.IntKind.wrap .u64 x_7)).bind fun x_8 =>
                br (decide ((1125899906842624 : Int) < x_8))
                  (some (.done (.inl ((0 : Int), false))))
                  ((addI .i64 x_4 (1 : Int)).bind fun x_9 =>
                  some (.next (x_8, x_9))))))
            (some (.done (.inr n_3)))) ((0 : Int), (0 : Int))).bind fun x_13 =>
        Sum.elim
          (fun (x_10, x_11) =>
          some (x_10, x_11))
          (fun n_12 =>
          some (n_12, true)) x_13))
      ((iter (σ := Int × Int) (ρ := (Int × Bool) ⊕ (Int)) (fun (n_14, x_15) =>
        br (decide (x_15 < ((bytesI s_1).length : Int)))
          ((idx (bytesI s_1) x_15).bind fun x_16 =>
          br (decide (x_16 < (48 : Int)))
            (some (.done (.inl ((0 : Int), false))))
            (br (decide ((57 : Int) < x_16))
              (some (.done (.inl ((0 : Int), false))))
              ((mulI .u64 (10 : Int) n_14).bind fun x_17 =>
              (subI .u8 x_16 (48 : Int)).bind fun x_18 =>
              (addI .u64 x_17 (Go.IntKind.wrap .u64 x_18)).bind fun x_19 =>
              br (decide ((1125899906842624 : Int) < x_19))
                (some (.done (.inl ((0 : Int), false))))
                ((addI .i64 x_15 (1 : Int)).bind fun x_20 =>
                some (.next (x_19, x_20))))))
          (some (.done (.inr n_14)))) ((0 : Int), (0 : Int))).bind fun x_24 =>
      Sum.elim
        (fun (x_21, x_22) =>
        some (x_21, x_22))
        (fun n_23 =>
        some (n_23, true)) x_24))
def words_Number.ann : Ann := (.two .no (.two .no (.two .no (.two (.two .no (.loop [2, 3, 4, 6, 22, 23, 24, 25, 26, 27, 28, 29, 30, 31, 32, 33, 34, 35, 36, 37, 38, 39, 40] [] [.slot 4 .u64 none, .slot 22 .i64 none] [(.ret, [.slot 2 .u64 none, .slot 3 .bool none]), (.exit 0, [.slot 4 .u64 none])] .no)) .no))))
set_option maxRecDepth 100000 in
theorem words_Number.fn : FnT Tryd.prog 122 [.d .str] [.u64, .bool] words_Number :=
  FnT.of (X := ctx 0 []) Tryd.mixed words_Number.ann Tryd.func122 rfl (by kernel_rfl) (Nat.le_of_ble_eq_true rfl) (fun x => by kernel_rfl)
noncomputable def words_Number.spec : XSpec Tryd.prog := XSpec.t 122 [.d .str] [.u64, .bool] words_Number (by kernel_rfl) words_Number.fn

/-- packhorse/packhorseref03.Number -/
noncomputable def packhorseref03_Number : List UInt8 → Option (Int × Bool) :=
  fun s_1 =>
  br (s_1 == ([] : List UInt8))
    (some ((0 : Int), false))
    ((idxS s_1 (0 : Int)).bind fun x_2 =>
    br (x_2 == (48 : Int))
      (br (decide ((1 : Int) < (s_1.length : Int)))
        (some ((0 : Int), false))
        ((iter (σ := Int × Int) (ρ := (Int × Bool) ⊕ (Int)) (fun (n_3, i_4) =>
          br (decide (i_4 < (s_1.length : Int)))
            ((idxS s_1 i_4).bind fun x_5 =>
            br (decide (x_5 < (48 : Int)))
              (some (.done (.inl ((0 : Int), false))))
              ((idxS s_1 i_4).bind fun x_6 =>
              br (decide ((57 : Int) < x_6))
                (some (.done (.inl ((0 : Int), false))))
                ((mulI .u64 (10 : Int) n_3).bind fun x_7 =>
                (idxS s_1 i_4).bind fun x_8 =>
                (subI .u8 x_8 (48 : Int)).bind fun x_9 =>
                (addI .u64 x_7 (Go.IntKind.wrap .u64 x_9)).bind fun x_10 =>
                br (decide ((1125899906842624 : Int) < x_10))
                  (some (.done (.inl ((0 : Int), false))))
                  ((addI .i64 i_4 (1 : Int)).bind fun x_11 =>
                  some (.next (x_10, x_11))))))
            (some (.done (.inr n_3)))) ((0 : Int), (0 : Int))).bind fun x_15 =>
        Sum.elim
          (fun (x_12, x_13) =>
          some (x_12, x_13))
          (fun n_14 =>
          some (n_14, true)) x_15))
      ((iter (σ := Int × Int) (ρ := (Int × Bool) ⊕ (Int)) (fun (n_16, i_17) =>
        br (decide (i_17 < (s_1.length : Int)))
          ((idxS s_1 i_17).bind fun x_18 =>
          br (decide (x_18 < (48 : Int)))
            (some (.done (.inl ((0 : Int), false))))
            ((idxS s_1 i_17).bind fun x_19 =>
            br (decide ((57 : Int) < x_19))
              (some (.done (.inl ((0 : Int), false))))
              ((mulI .u64 (10 : Int) n_16).bind fun x_20 =>
              (idxS s_1 i_17).bind fun x_21 =>
              (subI .u8 x_21 (48 : Int)).bind fun x_22 =>
              (addI .u64 x_20 (Go.IntKind.wrap .u64 x_22)).bind fun x_23 =>
              br (decide ((1125899906842624 : Int) < x_23))
                (some (.done (.inl ((0 : Int), false))))
                ((addI .i64 i_17 (1 : Int)).bind fun x_24 =>
                some (.next (x_23, x_24))))))
          (some (.done (.inr n_16)))) ((0 : Int), (0 : Int))).bind fun x_28 =>
      Sum.elim
        (fun (x_25, x_26) =>
        some (x_25, x_26))
        (fun n_27 =>
        some (n_27, true)) x_28))
def packhorseref03_Number.ann : Ann := (.two .no (.two .no (.two .no (.two (.two .no (.loop [2, 3, 4, 5, 18, 19, 20, 21, 22, 23, 24, 25, 26, 27, 28, 29, 30, 31, 32, 33, 34, 35, 36, 37, 38, 39, 40, 41, 42, 43] [] [.slot 4 .u64 none, .slot 5 .i64 none] [(.ret, [.slot 2 .u64 none, .slot 3 .bool none]), (.exit 0, [.slot 4 .u64 none])] .no)) .no))))
set_option maxRecDepth 100000 in
theorem packhorseref03_Number.fn : FnT Tryd.prog 124 [.d .str] [.u64, .bool] packhorseref03_Number :=
  FnT.of (X := ctx 0 []) Tryd.mixed packhorseref03_Number.ann Tryd.func124 rfl (by kernel_rfl) (Nat.le_of_ble_eq_true rfl) (fun x => by kernel_rfl)
noncomputable def packhorseref03_Number.spec : XSpec Tryd.prog := XSpec.t 124 [.d .str] [.u64, .bool] packhorseref03_Number (by kernel_rfl) packhorseref03_Number.fn

/-- packhorse/plan.nodes -/
noncomputable def plan_nodes : List Int → Option Bool :=
  fun l_1 =>
  (iter (σ := Int) (ρ := (Bool) ⊕ (Unit)) (fun x_2 =>
    br (decide (x_2 < (l_1.length : Int)))
      ((idx l_1 x_2).bind fun x_3 =>
      br (decide (x_3 < (1 : Int)))
        (some (.done (.inl false)))
        (br (decide ((16 : Int) < x_3))
          (some (.done (.inl false)))
          ((addI .i64 x_2 (1 : Int)).bind fun x_4 =>
          some (.next x_4))))
      (some (.done (.inr ())))) (0 : Int)).bind fun x_6 =>
  Sum.elim
    (fun x_5 =>
    some x_5)
    (fun _ =>
    some true) x_6
def plan_nodes.ann : Ann := (.two .no (.two (.two .no (.loop [2, 4, 7, 8, 9, 10, 11, 12, 13, 14, 15, 16, 17] [] [.slot 7 .i64 none] [(.ret, [.slot 2 .bool none]), (.exit 0, [])] .no)) .no))
set_option maxRecDepth 100000 in
theorem plan_nodes.fn : FnT Tryd.prog 155 [.d .l_i64] [.bool] plan_nodes :=
  FnT.of (X := ctx 0 []) Tryd.mixed plan_nodes.ann Tryd.func155 rfl (by kernel_rfl) (Nat.le_of_ble_eq_true rfl) (fun x => by kernel_rfl)
noncomputable def plan_nodes.spec : XSpec Tryd.prog := XSpec.t 155 [.d .l_i64] [.bool] plan_nodes (by kernel_rfl) plan_nodes.fn

/-- packhorse/plan.One -/
noncomputable def plan_One : Contact → Option Int :=
  fun c_1 =>
  (plan_nodes ([c_1.From, c_1.To] : List Int)).bind fun x_2 =>
  br (!x_2)
    (some (2 : Int))
    (br (c_1.From == c_1.To)
      (some (2 : Int))
      (br (decide (c_1.Start < (0 : Int)))
        (some (2 : Int))
        (br (decide (c_1.End ≤ c_1.Start))
          (some (2 : Int))
          (br (decide ((1099511627776 : Int) < c_1.End))
            (some (2 : Int))
            (br (decide (c_1.Rate < (1 : Int)))
              (some (2 : Int))
              (br (decide ((1048576 : Int) < c_1.Rate))
                (some (2 : Int))
                (br (decide (c_1.Delay < (0 : Int)))
                  (some (2 : Int))
                  (br (decide ((1048576 : Int) < c_1.Delay))
                    (some (2 : Int))
                    (some (0 : Int))))))))))
def plan_One.ann : Ann := .no
set_option maxRecDepth 100000 in
theorem plan_One.fn : FnT Tryd.prog 111 [.d .Contact] [.i64] plan_One :=
  FnT.of (X := ctx 0 [plan_nodes.spec]) Tryd.mixed plan_One.ann Tryd.func111 rfl (by kernel_rfl) (Nat.le_of_ble_eq_true rfl) (fun x => by kernel_rfl)
noncomputable def plan_One.spec : XSpec Tryd.prog := XSpec.t 111 [.d .Contact] [.i64] plan_One (by kernel_rfl) plan_One.fn

/-- packhorse/packhorseref22.One -/
noncomputable def packhorseref22_One : Contact → Option Int :=
  fun c_1 =>
  br (decide (c_1.From < (1 : Int)))
    (some (2 : Int))
    (br (decide ((16 : Int) < c_1.From))
      (some (2 : Int))
      (br (decide (c_1.To < (1 : Int)))
        (some (2 : Int))
        (br (decide ((16 : Int) < c_1.To))
          (some (2 : Int))
          (br (c_1.From == c_1.To)
            (some (2 : Int))
            (br (decide (c_1.Start < (0 : Int)))
              (some (2 : Int))
              (br (decide (c_1.End ≤ c_1.Start))
                (some (2 : Int))
                (br (decide ((1099511627776 : Int) < c_1.End))
                  (some (2 : Int))
                  (br (decide (c_1.Rate < (1 : Int)))
                    (some (2 : Int))
                    (br (decide ((1048576 : Int) < c_1.Rate))
                      (some (2 : Int))
                      (br (decide (c_1.Delay < (0 : Int)))
                        (some (2 : Int))
                        (br (decide ((1048576 : Int) < c_1.Delay))
                          (some (2 : Int))
                          (some (0 : Int)))))))))))))
def packhorseref22_One.ann : Ann := .no
set_option maxRecDepth 100000 in
theorem packhorseref22_One.fn : FnT Tryd.prog 116 [.d .Contact] [.i64] packhorseref22_One :=
  FnT.of (X := ctx 0 []) Tryd.mixed packhorseref22_One.ann Tryd.func116 rfl (by kernel_rfl) (Nat.le_of_ble_eq_true rfl) (fun x => by kernel_rfl)
noncomputable def packhorseref22_One.spec : XSpec Tryd.prog := XSpec.t 116 [.d .Contact] [.i64] packhorseref22_One (by kernel_rfl) packhorseref22_One.fn

/-- packhorse/plan.contact$1 -/
noncomputable def plan_contact_1 : Word → Option Bool :=
  fun w_1 =>
  some (!(w_1.Key == ([] : List UInt8)))
def plan_contact_1.ann : Ann := .no
set_option maxRecDepth 100000 in
theorem plan_contact_1.fn : FnT Tryd.prog 121 [.d .Word] [.bool] plan_contact_1 :=
  FnT.of (X := ctx 0 []) Tryd.mixed plan_contact_1.ann Tryd.func121 rfl (by kernel_rfl) (Nat.le_of_ble_eq_true rfl) (fun x => by kernel_rfl)
noncomputable def plan_contact_1.spec : XSpec Tryd.prog := XSpec.t 121 [.d .Word] [.bool] plan_contact_1 (by kernel_rfl) plan_contact_1.fn

/-- slices.IndexFunc[[]packhorse/api.Word,packhorse/api.Word] -/
noncomputable def slices_IndexFunc_f121 : List Word → Option Int :=
  fun s_1 =>
  (iter (σ := Int) (ρ := (Int) ⊕ (Unit)) (fun x_2 =>
    br (decide (x_2 < (s_1.length : Int)))
      ((idx s_1 x_2).bind fun x_3 =>
      (plan_contact_1 x_3).bind fun x_4 =>
      br x_4
        (some (.done (.inl x_2)))
        ((addI .i64 x_2 (1 : Int)).bind fun x_5 =>
        some (.next x_5)))
      (some (.done (.inr ())))) (0 : Int)).bind fun x_7 =>
  Sum.elim
    (fun x_6 =>
    some x_6)
    (fun _ =>
    some (-1 : Int)) x_7
def slices_IndexFunc_f121.ann : Ann := (.two .no (.two (.two .no (.loop [4, 5, 8, 9, 10, 11, 12, 13, 14, 15, 16, 17, 18] [] [.slot 8 .i64 none] [(.ret, [.slot 4 .i64 none]), (.exit 0, [])] .no)) .no))
set_option maxRecDepth 100000 in
theorem slices_IndexFunc_f121.fn : FnT Tryd.prog 163 [.d .l_Word, .f 121 []] [.i64] slices_IndexFunc_f121 :=
  FnT.of (X := ctx 0 [plan_contact_1.spec]) Tryd.mixed slices_IndexFunc_f121.ann Tryd.func163 rfl (by kernel_rfl) (Nat.le_of_ble_eq_true rfl) (fun x => by kernel_rfl)
noncomputable def slices_IndexFunc_f121.spec : XSpec Tryd.prog := XSpec.t 163 [.d .l_Word, .f 121 []] [.i64] slices_IndexFunc_f121 (by kernel_rfl) slices_IndexFunc_f121.fn

/-- slices.ContainsFunc[[]packhorse/api.Word,packhorse/api.Word] -/
noncomputable def slices_ContainsFunc_f121 : List Word → Option Bool :=
  fun s_1 =>
  (slices_IndexFunc_f121 s_1).bind fun x_2 =>
  some (decide ((0 : Int) ≤ x_2))
def slices_ContainsFunc_f121.ann : Ann := .no
set_option maxRecDepth 100000 in
theorem slices_ContainsFunc_f121.fn : FnT Tryd.prog 120 [.d .l_Word, .f 121 []] [.bool] slices_ContainsFunc_f121 :=
  FnT.of (X := ctx 0 [slices_IndexFunc_f121.spec]) Tryd.mixed slices_ContainsFunc_f121.ann Tryd.func120 rfl (by kernel_rfl) (Nat.le_of_ble_eq_true rfl) (fun x => by kernel_rfl)
noncomputable def slices_ContainsFunc_f121.spec : XSpec Tryd.prog := XSpec.t 120 [.d .l_Word, .f 121 []] [.bool] slices_ContainsFunc_f121 (by kernel_rfl) slices_ContainsFunc_f121.fn

end Go.Proofs.YtjcbpfhlgebgdaaDoor
