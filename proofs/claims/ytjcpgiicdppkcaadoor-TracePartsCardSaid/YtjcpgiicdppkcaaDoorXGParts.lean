import Derived.Test.YtjcpgiicdppkcaaDoorXK
import Derived.Test.YtjcpgiicdppkcaaDoorX9
import Derived.Test.YtjcpgiicdppkcaaDoorChecked
import Derived.KernelRfl
set_option linter.unusedSimpArgs false
set_option linter.unusedVariables false
namespace Go.Proofs.YtjcpgiicdppkcaaDoor
open Go.X Go.Eng
def codes : List (Option C) := [none, none, some .i64, some .i64, some .bool, some .u8, some .u8, none, none, some .str, some .str, some .str, some .u64, none, none, none, none, none, none, none, none, some .i32, some .l_Outc, none, none, some .i64, none, none, none, none, some .u64, some .ID, some .ID, none, none, none, none, some .l_i64, none, none, some .Outc, some .Outc, none, none, none, none, none, none, none, some .Fault, some .Fault, none, none, none, none, none, none, none, none, none, none, none, none, none, none, none, none, some .l_u8, none, none, some .l_Word, none, some .Word, some .Word, none, none, none, none, none, none, none, some .l_Row, none, none, some .Row, some .Row, none, none, none, none, none, some .W3, some .W3, some .l_W3, some .Face, some .Face, none, some .i64, some .i64, some .i64, none, some .ID, some .i64, none, none, none, none, none, none, none, none, none, none, none, none, some .l_Face, none, none, none, none, none, none, none, none, none, none, none, none, none, none, none, none, none, some .W3, none, none, none, none, none, none, none, none, none, none, none, none, none, none, none, none, none, some .u64, none, none, none, none, none, none, none, none, none, some .u32, none, none, none, none, none, none, none, none, none, none, none, none, some .u8, some .u8, none, some .i32, some .i32, none, none]
noncomputable def ctx (wr : Nat) (l : List (XSpec Tryd.prog)) : XCtx Tryd.prog := { code := fun t => (codes[t]?).getD none, wr := wr, key := fun _ => false, keyed := fun _ h => Bool.noConfusion h, known := l }
noncomputable def packhorsekit_Mod : (Int × Int) → Option Int :=
  fun (a_1, n_2) =>
  br (decide (n_2 < (1 : Int)))
    (some (0 : Int))
    ((remI a_1 n_2).bind fun x_3 =>
    br (decide (x_3 < (0 : Int)))
      ((addI .i64 x_3 n_2).bind fun x_4 =>
      some x_4)
      (some x_3))
def packhorsekit_Mod.ann : Ann := .no
set_option maxRecDepth 100000 in
theorem packhorsekit_Mod.fn : FnT Tryd.prog 25 [.d .i64, .d .i64] [.i64] packhorsekit_Mod :=
  FnT.of (X := ctx 0 []) Tryd.mixed packhorsekit_Mod.ann Tryd.func25 rfl (by kernel_rfl) (Nat.le_of_ble_eq_true rfl) (fun x => by kernel_rfl)
noncomputable def packhorsekit_Mod.spec : XSpec Tryd.prog := XSpec.t 25 [.d .i64, .d .i64] [.i64] packhorsekit_Mod (by kernel_rfl) packhorsekit_Mod.fn
noncomputable def packhorseref39_UsesID : Int → Option Bool :=
  fun kind_1 =>
  br (decide ((1 : Int) ≤ kind_1))
    (br (decide (kind_1 ≤ (10 : Int)))
      (some (kind_1 != (5 : Int)))
      (some false))
    (some false)
def packhorseref39_UsesID.ann : Ann := .no
set_option maxRecDepth 100000 in
theorem packhorseref39_UsesID.fn : FnT Tryd.prog 34 [.d .i64] [.bool] packhorseref39_UsesID :=
  FnT.of (X := ctx 0 []) Tryd.mixed packhorseref39_UsesID.ann Tryd.func34 rfl (by kernel_rfl) (Nat.le_of_ble_eq_true rfl) (fun x => by kernel_rfl)
noncomputable def packhorseref39_UsesID.spec : XSpec Tryd.prog := XSpec.t 34 [.d .i64] [.bool] packhorseref39_UsesID (by kernel_rfl) packhorseref39_UsesID.fn
noncomputable def packhorselaw39_Made : List Int → Option (List Outc) :=
  fun nums_1 =>
  (iter (σ := (List Outc) × Int × Int) (ρ := List Outc) (fun (l_2, tick_3, i_4) =>
    br (decide (i_4 < (nums_1.length : Int)))
      (br (decide (i_4 < (30 : Int)))
        ((idx nums_1 i_4).bind fun x_5 =>
        (packhorsekit_Mod (x_5, (1048576 : Int))).bind fun x_6 =>
        (remI x_6 (3 : Int)).bind fun x_7 =>
        (addI .i64 tick_3 x_7).bind fun x_8 =>
        (quoI .i64 x_6 (3 : Int)).bind fun x_9 =>
        (remI x_9 (4 : Int)).bind fun x_10 =>
        (addI .i64 (1 : Int) x_10).bind fun x_11 =>
        (quoI .i64 x_6 (12 : Int)).bind fun x_12 =>
        (remI x_12 (15 : Int)).bind fun x_13 =>
        (addI .i64 (1 : Int) x_13).bind fun x_14 =>
        (packhorseref39_UsesID x_14).bind fun x_15 =>
        br x_15
          ((quoI .i64 x_6 (180 : Int)).bind fun x_16 =>
          (remI x_16 (2 : Int)).bind fun x_17 =>
          (addI .i64 (1 : Int) x_17).bind fun x_18 =>
          (quoI .i64 x_6 (360 : Int)).bind fun x_19 =>
          (remI x_19 (3 : Int)).bind fun x_20 =>
          br (x_14 == (6 : Int))
            ((remI x_11 (4 : Int)).bind fun x_21 =>
            (addI .i64 (1 : Int) x_21).bind fun x_22 =>
            (app 56 l_2 ([(⟨x_8, x_11, x_14, (⟨x_18, Go.IntKind.wrap .u64 x_20, (0 : Int)⟩ : ID), x_22⟩ : Outc)] : List Outc)).bind fun x_23 =>
            (addI .i64 i_4 (1 : Int)).bind fun x_24 =>
            some (.next (x_23, x_8, x_24)))
            (br (x_14 == (7 : Int))
              ((remI x_11 (4 : Int)).bind fun x_25 =>
              (addI .i64 (1 : Int) x_25).bind fun x_26 =>
              (app 56 l_2 ([(⟨x_8, x_11, x_14, (⟨x_18, Go.IntKind.wrap .u64 x_20, (0 : Int)⟩ : ID), x_26⟩ : Outc)] : List Outc)).bind fun x_27 =>
              (addI .i64 i_4 (1 : Int)).bind fun x_28 =>
              some (.next (x_27, x_8, x_28)))
              (br (x_14 == (10 : Int))
                ((remI x_11 (4 : Int)).bind fun x_29 =>
                (addI .i64 (1 : Int) x_29).bind fun x_30 =>
                (app 56 l_2 ([(⟨x_8, x_11, x_14, (⟨x_18, Go.IntKind.wrap .u64 x_20, (0 : Int)⟩ : ID), x_30⟩ : Outc)] : List Outc)).bind fun x_31 =>
                (addI .i64 i_4 (1 : Int)).bind fun x_32 =>
                some (.next (x_31, x_8, x_32)))
                (br (x_14 == (11 : Int))
                  ((remI x_11 (4 : Int)).bind fun x_33 =>
                  (addI .i64 (1 : Int) x_33).bind fun x_34 =>
                  (app 56 l_2 ([(⟨x_8, x_11, x_14, (⟨x_18, Go.IntKind.wrap .u64 x_20, (0 : Int)⟩ : ID), x_34⟩ : Outc)] : List Outc)).bind fun x_35 =>
                  (addI .i64 i_4 (1 : Int)).bind fun x_36 =>
                  some (.next (x_35, x_8, x_36)))
                  (br (x_14 == (13 : Int))
                    ((remI x_11 (4 : Int)).bind fun x_37 =>
                    (addI .i64 (1 : Int) x_37).bind fun x_38 =>
                    (app 56 l_2 ([(⟨x_8, x_11, x_14, (⟨x_18, Go.IntKind.wrap .u64 x_20, (0 : Int)⟩ : ID), x_38⟩ : Outc)] : List Outc)).bind fun x_39 =>
                    (addI .i64 i_4 (1 : Int)).bind fun x_40 =>
                    some (.next (x_39, x_8, x_40)))
                    (br (x_14 == (12 : Int))
                      ((quoI .i64 x_6 (180 : Int)).bind fun x_41 =>
                      (remI x_41 (2 : Int)).bind fun x_42 =>
                      (remI x_11 (4 : Int)).bind fun x_43 =>
                      (addI .i64 (1 : Int) x_43).bind fun x_44 =>
                      (mulI .i64 x_42 x_44).bind fun x_45 =>
                      (app 56 l_2 ([(⟨x_8, x_11, x_14, (⟨x_18, Go.IntKind.wrap .u64 x_20, (0 : Int)⟩ : ID), x_45⟩ : Outc)] : List Outc)).bind fun x_46 =>
                      (addI .i64 i_4 (1 : Int)).bind fun x_47 =>
                      some (.next (x_46, x_8, x_47)))
                      ((app 56 l_2 ([(⟨x_8, x_11, x_14, (⟨x_18, Go.IntKind.wrap .u64 x_20, (0 : Int)⟩ : ID), (0 : Int)⟩ : Outc)] : List Outc)).bind fun x_48 =>
                      (addI .i64 i_4 (1 : Int)).bind fun x_49 =>
                      some (.next (x_48, x_8, x_49)))))))))
          (br (x_14 == (6 : Int))
            ((remI x_11 (4 : Int)).bind fun x_50 =>
            (addI .i64 (1 : Int) x_50).bind fun x_51 =>
            (app 56 l_2 ([(⟨x_8, x_11, x_14, (⟨(0 : Int), (0 : Int), (0 : Int)⟩ : ID), x_51⟩ : Outc)] : List Outc)).bind fun x_52 =>
            (addI .i64 i_4 (1 : Int)).bind fun x_53 =>
            some (.next (x_52, x_8, x_53)))
            (br (x_14 == (7 : Int))
              ((remI x_11 (4 : Int)).bind fun x_54 =>
              (addI .i64 (1 : Int) x_54).bind fun x_55 =>
              (app 56 l_2 ([(⟨x_8, x_11, x_14, (⟨(0 : Int), (0 : Int), (0 : Int)⟩ : ID), x_55⟩ : Outc)] : List Outc)).bind fun x_56 =>
              (addI .i64 i_4 (1 : Int)).bind fun x_57 =>
              some (.next (x_56, x_8, x_57)))
              (br (x_14 == (10 : Int))
                ((remI x_11 (4 : Int)).bind fun x_58 =>
                (addI .i64 (1 : Int) x_58).bind fun x_59 =>
                (app 56 l_2 ([(⟨x_8, x_11, x_14, (⟨(0 : Int), (0 : Int), (0 : Int)⟩ : ID), x_59⟩ : Outc)] : List Outc)).bind fun x_60 =>
                (addI .i64 i_4 (1 : Int)).bind fun x_61 =>
                some (.next (x_60, x_8, x_61)))
                (br (x_14 == (11 : Int))
                  ((remI x_11 (4 : Int)).bind fun x_62 =>
                  (addI .i64 (1 : Int) x_62).bind fun x_63 =>
                  (app 56 l_2 ([(⟨x_8, x_11, x_14, (⟨(0 : Int), (0 : Int), (0 : Int)⟩ : ID), x_63⟩ : Outc)] : List Outc)).bind fun x_64 =>
                  (addI .i64 i_4 (1 : Int)).bind fun x_65 =>
                  some (.next (x_64, x_8, x_65)))
                  (br (x_14 == (13 : Int))
                    ((remI x_11 (4 : Int)).bind fun x_66 =>
                    (addI .i64 (1 : Int) x_66).bind fun x_67 =>
                    (app 56 l_2 ([(⟨x_8, x_11, x_14, (⟨(0 : Int), (0 : Int), (0 : Int)⟩ : ID), x_67⟩ : Outc)] : List Outc)).bind fun x_68 =>
                    (addI .i64 i_4 (1 : Int)).bind fun x_69 =>
                    some (.next (x_68, x_8, x_69)))
                    (br (x_14 == (12 : Int))
                      ((quoI .i64 x_6 (180 : Int)).bind fun x_70 =>
                      (remI x_70 (2 : Int)).bind fun x_71 =>
                      (remI x_11 (4 : Int)).bind fun x_72 =>
                      (addI .i64 (1 : Int) x_72).bind fun x_73 =>
                      (mulI .i64 x_71 x_73).bind fun x_74 =>
                      (app 56 l_2 ([(⟨x_8, x_11, x_14, (⟨(0 : Int), (0 : Int), (0 : Int)⟩ : ID), x_74⟩ : Outc)] : List Outc)).bind fun x_75 =>
                      (addI .i64 i_4 (1 : Int)).bind fun x_76 =>
                      some (.next (x_75, x_8, x_76)))
                      ((app 56 l_2 ([(⟨x_8, x_11, x_14, (⟨(0 : Int), (0 : Int), (0 : Int)⟩ : ID), (0 : Int)⟩ : Outc)] : List Outc)).bind fun x_77 =>
                      (addI .i64 i_4 (1 : Int)).bind fun x_78 =>
                      some (.next (x_77, x_8, x_78))))))))))
        (some (.done l_2)))
      (some (.done l_2))) (([] : List Outc), (0 : Int), (0 : Int))).bind fun l_79 =>
  some l_79
def packhorselaw39_Made.ann : Ann := (.two .no (.two .no (.two .no (.two (.two .no (.loop [3, 4, 5, 6, 7, 8, 9, 10, 11, 12, 13, 14, 15, 16, 17, 18, 19, 20, 21, 22, 23, 24, 25, 26, 27, 28, 29, 30, 31, 32, 33, 34, 35, 36, 37, 38, 39, 40, 41, 42, 43, 44, 45, 46, 47, 48, 49, 50, 51, 52, 53, 54, 55, 56, 57, 58, 59, 60, 61, 62, 63, 64, 65, 66, 67, 68, 69, 70, 71, 72, 73, 74, 75, 76, 77] [] [.slot 3 .l_Outc (some (3, 41)), .slot 4 .i64 none, .slot 5 .i64 none] [(.exit 0, [.slot 3 .l_Outc (some (3, 41))])] .no)) .no))))
set_option maxRecDepth 100000 in
theorem packhorselaw39_Made.fn : FnT Tryd.prog 21 [.d .l_i64] [.l_Outc] packhorselaw39_Made :=
  FnT.of (X := ctx 0 [packhorsekit_Mod.spec, packhorseref39_UsesID.spec]) Tryd.mixed packhorselaw39_Made.ann Tryd.func21 rfl (by kernel_rfl) (Nat.le_of_ble_eq_true rfl) (fun x => by kernel_rfl)
noncomputable def packhorselaw39_Made.spec : XSpec Tryd.prog := XSpec.t 21 [.d .l_i64] [.l_Outc] packhorselaw39_Made (by kernel_rfl) packhorselaw39_Made.fn
noncomputable def bundle_within : List W3 → Option Bool :=
  fun l_1 =>
  (iter (σ := Int) (ρ := (Bool) ⊕ (Unit)) (fun x_2 =>
    br (decide (x_2 < (l_1.length : Int)))
      ((idx l_1 x_2).bind fun x_3 =>
      br (decide (x_3.a < x_3.b))
        (some (.done (.inl false)))
        (br (decide (x_3.c < x_3.a))
          (some (.done (.inl false)))
          ((addI .i64 x_2 (1 : Int)).bind fun x_4 =>
          some (.next x_4))))
      (some (.done (.inr ())))) (0 : Int)).bind fun x_6 =>
  Sum.elim
    (fun x_5 =>
    some x_5)
    (fun _ =>
    some true) x_6
def bundle_within.ann : Ann := (.two .no (.two (.two .no (.loop [2, 4, 7, 8, 9, 10, 11, 12, 13, 14, 15, 16, 17, 18, 19, 20, 21, 22, 23] [] [.slot 7 .i64 none] [(.ret, [.slot 2 .bool none]), (.exit 0, [])] .no)) .no))
set_option maxRecDepth 100000 in
theorem bundle_within.fn : FnT Tryd.prog 47 [.d .l_W3] [.bool] bundle_within :=
  FnT.of (X := ctx 0 []) Tryd.mixed bundle_within.ann Tryd.func47 rfl (by kernel_rfl) (Nat.le_of_ble_eq_true rfl) (fun x => by kernel_rfl)
noncomputable def bundle_within.spec : XSpec Tryd.prog := XSpec.t 47 [.d .l_W3] [.bool] bundle_within (by kernel_rfl) bundle_within.fn
noncomputable def bundle_CheckID : ID → Option Int :=
  fun id_1 =>
  (bundle_within ([(⟨id_1.Node, (1 : Int), (16 : Int)⟩ : W3), (⟨id_1.Off, (0 : Int), (19999 : Int)⟩ : W3)] : List W3)).bind fun x_2 =>
  br (!x_2)
    (some (2 : Int))
    (br (decide ((1099511627776 : Int) < id_1.Seq))
      (some (2 : Int))
      (some (0 : Int)))
def bundle_CheckID.ann : Ann := .no
set_option maxRecDepth 100000 in
theorem bundle_CheckID.fn : FnT Tryd.prog 29 [.d .ID] [.i64] bundle_CheckID :=
  FnT.of (X := ctx 0 [bundle_within.spec]) Tryd.mixed bundle_CheckID.ann Tryd.func29 rfl (by kernel_rfl) (Nat.le_of_ble_eq_true rfl) (fun x => by kernel_rfl)
noncomputable def bundle_CheckID.spec : XSpec Tryd.prog := XSpec.t 29 [.d .ID] [.i64] bundle_CheckID (by kernel_rfl) bundle_CheckID.fn
noncomputable def trace_one : Outc → Option Int :=
  fun o_1 =>
  br (decide (o_1.Kind < (1 : Int)))
    (some (7 : Int))
    (br (decide ((15 : Int) < o_1.Kind))
      (some (7 : Int))
      (br (inB o_1.Kind 16)
        ((tbl1 .i64 0 (0 + (o_1.Kind).toNat * 2 + 1)).bind fun x_2 =>
        br ((bitI .and .i64 x_2 (1 : Int)) != (0 : Int))
          ((bundle_CheckID o_1.ID).bind fun x_3 =>
          br ((bitI .and .i64 x_2 (2 : Int)) != (0 : Int))
            (br (decide ((1 : Int) ≤ o_1.Other))
              (br (decide (o_1.Other ≤ (16 : Int)))
                (br (o_1.Other != o_1.Node)
                  (br (decide (o_1.Tick < (0 : Int)))
                    (some (2 : Int))
                    (br (decide ((1099511627776 : Int) < o_1.Tick))
                      (some (2 : Int))
                      (br (decide (o_1.Node < (1 : Int)))
                        (some (2 : Int))
                        (br (decide ((16 : Int) < o_1.Node))
                          (some (2 : Int))
                          (br (!(x_3 == (0 : Int)))
                            (some (2 : Int))
                            (some (0 : Int)))))))
                  (br ((bitI .and .i64 x_2 (4 : Int)) != (0 : Int))
                    (br (decide (o_1.Tick < (0 : Int)))
                      (some (2 : Int))
                      (br (decide ((1099511627776 : Int) < o_1.Tick))
                        (some (2 : Int))
                        (br (decide (o_1.Node < (1 : Int)))
                          (some (2 : Int))
                          (br (decide ((16 : Int) < o_1.Node))
                            (some (2 : Int))
                            (br (!(x_3 == (0 : Int)))
                              (some (2 : Int))
                              (br (!(o_1.Other == (0 : Int)))
                                (some (2 : Int))
                                (some (0 : Int))))))))
                    (br (decide (o_1.Tick < (0 : Int)))
                      (some (2 : Int))
                      (br (decide ((1099511627776 : Int) < o_1.Tick))
                        (some (2 : Int))
                        (br (decide (o_1.Node < (1 : Int)))
                          (some (2 : Int))
                          (br (decide ((16 : Int) < o_1.Node))
                            (some (2 : Int))
                            (br (!(x_3 == (0 : Int)))
                              (some (2 : Int))
                              (some (2 : Int)))))))))
                (br ((bitI .and .i64 x_2 (4 : Int)) != (0 : Int))
                  (br (decide (o_1.Tick < (0 : Int)))
                    (some (2 : Int))
                    (br (decide ((1099511627776 : Int) < o_1.Tick))
                      (some (2 : Int))
                      (br (decide (o_1.Node < (1 : Int)))
                        (some (2 : Int))
                        (br (decide ((16 : Int) < o_1.Node))
                          (some (2 : Int))
                          (br (!(x_3 == (0 : Int)))
                            (some (2 : Int))
                            (br (!(o_1.Other == (0 : Int)))
                              (some (2 : Int))
                              (some (0 : Int))))))))
                  (br (decide (o_1.Tick < (0 : Int)))
                    (some (2 : Int))
                    (br (decide ((1099511627776 : Int) < o_1.Tick))
                      (some (2 : Int))
                      (br (decide (o_1.Node < (1 : Int)))
                        (some (2 : Int))
                        (br (decide ((16 : Int) < o_1.Node))
                          (some (2 : Int))
                          (br (!(x_3 == (0 : Int)))
                            (some (2 : Int))
                            (some (2 : Int)))))))))
              (br ((bitI .and .i64 x_2 (4 : Int)) != (0 : Int))
                (br (decide (o_1.Tick < (0 : Int)))
                  (some (2 : Int))
                  (br (decide ((1099511627776 : Int) < o_1.Tick))
                    (some (2 : Int))
                    (br (decide (o_1.Node < (1 : Int)))
                      (some (2 : Int))
                      (br (decide ((16 : Int) < o_1.Node))
                        (some (2 : Int))
                        (br (!(x_3 == (0 : Int)))
                          (some (2 : Int))
                          (br (!(o_1.Other == (0 : Int)))
                            (some (2 : Int))
                            (some (0 : Int))))))))
                (br (decide (o_1.Tick < (0 : Int)))
                  (some (2 : Int))
                  (br (decide ((1099511627776 : Int) < o_1.Tick))
                    (some (2 : Int))
                    (br (decide (o_1.Node < (1 : Int)))
                      (some (2 : Int))
                      (br (decide ((16 : Int) < o_1.Node))
                        (some (2 : Int))
                        (br (!(x_3 == (0 : Int)))
                          (some (2 : Int))
                          (some (2 : Int)))))))))
            (br (decide (o_1.Tick < (0 : Int)))
              (some (2 : Int))
              (br (decide ((1099511627776 : Int) < o_1.Tick))
                (some (2 : Int))
                (br (decide (o_1.Node < (1 : Int)))
                  (some (2 : Int))
                  (br (decide ((16 : Int) < o_1.Node))
                    (some (2 : Int))
                    (br (!(x_3 == (0 : Int)))
                      (some (2 : Int))
                      (br (!(o_1.Other == (0 : Int)))
                        (some (2 : Int))
                        (some (0 : Int)))))))))
          (br ((bitI .and .i64 x_2 (2 : Int)) != (0 : Int))
            (br (decide ((1 : Int) ≤ o_1.Other))
              (br (decide (o_1.Other ≤ (16 : Int)))
                (br (o_1.Other != o_1.Node)
                  (br (decide (o_1.Tick < (0 : Int)))
                    (some (2 : Int))
                    (br (decide ((1099511627776 : Int) < o_1.Tick))
                      (some (2 : Int))
                      (br (decide (o_1.Node < (1 : Int)))
                        (some (2 : Int))
                        (br (decide ((16 : Int) < o_1.Node))
                          (some (2 : Int))
                          (br (!((o_1.ID.Node == (0 : Int)) && ((o_1.ID.Seq == (0 : Int)) && (o_1.ID.Off == (0 : Int)))))
                            (some (2 : Int))
                            (some (0 : Int)))))))
                  (br ((bitI .and .i64 x_2 (4 : Int)) != (0 : Int))
                    (br (decide (o_1.Tick < (0 : Int)))
                      (some (2 : Int))
                      (br (decide ((1099511627776 : Int) < o_1.Tick))
                        (some (2 : Int))
                        (br (decide (o_1.Node < (1 : Int)))
                          (some (2 : Int))
                          (br (decide ((16 : Int) < o_1.Node))
                            (some (2 : Int))
                            (br (!((o_1.ID.Node == (0 : Int)) && ((o_1.ID.Seq == (0 : Int)) && (o_1.ID.Off == (0 : Int)))))
                              (some (2 : Int))
                              (br (!(o_1.Other == (0 : Int)))
                                (some (2 : Int))
                                (some (0 : Int))))))))
                    (br (decide (o_1.Tick < (0 : Int)))
                      (some (2 : Int))
                      (br (decide ((1099511627776 : Int) < o_1.Tick))
                        (some (2 : Int))
                        (br (decide (o_1.Node < (1 : Int)))
                          (some (2 : Int))
                          (br (decide ((16 : Int) < o_1.Node))
                            (some (2 : Int))
                            (br (!((o_1.ID.Node == (0 : Int)) && ((o_1.ID.Seq == (0 : Int)) && (o_1.ID.Off == (0 : Int)))))
                              (some (2 : Int))
                              (some (2 : Int)))))))))
                (br ((bitI .and .i64 x_2 (4 : Int)) != (0 : Int))
                  (br (decide (o_1.Tick < (0 : Int)))
                    (some (2 : Int))
                    (br (decide ((1099511627776 : Int) < o_1.Tick))
                      (some (2 : Int))
                      (br (decide (o_1.Node < (1 : Int)))
                        (some (2 : Int))
                        (br (decide ((16 : Int) < o_1.Node))
                          (some (2 : Int))
                          (br (!((o_1.ID.Node == (0 : Int)) && ((o_1.ID.Seq == (0 : Int)) && (o_1.ID.Off == (0 : Int)))))
                            (some (2 : Int))
                            (br (!(o_1.Other == (0 : Int)))
                              (some (2 : Int))
                              (some (0 : Int))))))))
                  (br (decide (o_1.Tick < (0 : Int)))
                    (some (2 : Int))
                    (br (decide ((1099511627776 : Int) < o_1.Tick))
                      (some (2 : Int))
                      (br (decide (o_1.Node < (1 : Int)))
                        (some (2 : Int))
                        (br (decide ((16 : Int) < o_1.Node))
                          (some (2 : Int))
                          (br (!((o_1.ID.Node == (0 : Int)) && ((o_1.ID.Seq == (0 : Int)) && (o_1.ID.Off == (0 : Int)))))
                            (some (2 : Int))
                            (some (2 : Int)))))))))
              (br ((bitI .and .i64 x_2 (4 : Int)) != (0 : Int))
                (br (decide (o_1.Tick < (0 : Int)))
                  (some (2 : Int))
                  (br (decide ((1099511627776 : Int) < o_1.Tick))
                    (some (2 : Int))
                    (br (decide (o_1.Node < (1 : Int)))
                      (some (2 : Int))
                      (br (decide ((16 : Int) < o_1.Node))
                        (some (2 : Int))
                        (br (!((o_1.ID.Node == (0 : Int)) && ((o_1.ID.Seq == (0 : Int)) && (o_1.ID.Off == (0 : Int)))))
                          (some (2 : Int))
                          (br (!(o_1.Other == (0 : Int)))
                            (some (2 : Int))
                            (some (0 : Int))))))))
                (br (decide (o_1.Tick < (0 : Int)))
                  (some (2 : Int))
                  (br (decide ((1099511627776 : Int) < o_1.Tick))
                    (some (2 : Int))
                    (br (decide (o_1.Node < (1 : Int)))
                      (some (2 : Int))
                      (br (decide ((16 : Int) < o_1.Node))
                        (some (2 : Int))
                        (br (!((o_1.ID.Node == (0 : Int)) && ((o_1.ID.Seq == (0 : Int)) && (o_1.ID.Off == (0 : Int)))))
                          (some (2 : Int))
                          (some (2 : Int)))))))))
            (br (decide (o_1.Tick < (0 : Int)))
              (some (2 : Int))
              (br (decide ((1099511627776 : Int) < o_1.Tick))
                (some (2 : Int))
                (br (decide (o_1.Node < (1 : Int)))
                  (some (2 : Int))
                  (br (decide ((16 : Int) < o_1.Node))
                    (some (2 : Int))
                    (br (!((o_1.ID.Node == (0 : Int)) && ((o_1.ID.Seq == (0 : Int)) && (o_1.ID.Off == (0 : Int)))))
                      (some (2 : Int))
                      (br (!(o_1.Other == (0 : Int)))
                        (some (2 : Int))
                        (some (0 : Int))))))))))
        (none)))
def trace_one.ann : Ann := .no
set_option maxRecDepth 100000 in
theorem trace_one.fn : FnT Tryd.prog 42 [.d .Outc] [.i64] trace_one :=
  FnT.of (X := ctx 0 [bundle_CheckID.spec]) Tryd.mixed trace_one.ann Tryd.func42 rfl (by kernel_rfl) (Nat.le_of_ble_eq_true rfl) (fun x => by kernel_rfl)
noncomputable def trace_one.spec : XSpec Tryd.prog := XSpec.t 42 [.d .Outc] [.i64] trace_one (by kernel_rfl) trace_one.fn
noncomputable def trace_Check : List Outc → Option (Int × Int) :=
  fun l_1 =>
  br (decide ((5000 : Int) < (l_1.length : Int)))
    (some ((5 : Int), (0 : Int)))
    ((iter (σ := Int) (ρ := (Int × Int) ⊕ (Unit)) (fun x_2 =>
      br (decide (x_2 < (l_1.length : Int)))
        ((idx l_1 x_2).bind fun x_3 =>
        (trace_one x_3).bind fun x_4 =>
        br (x_4 != (0 : Int))
          (some (.done (.inl (x_4, x_2))))
          (br (decide ((0 : Int) < x_2))
            ((subI .i64 x_2 (1 : Int)).bind fun x_5 =>
            (idx l_1 x_5).bind fun x_6 =>
            br (decide (x_3.Tick < x_6.Tick))
              (some (.done (.inl ((19 : Int), x_2))))
              ((addI .i64 x_2 (1 : Int)).bind fun x_7 =>
              some (.next x_7)))
            ((addI .i64 x_2 (1 : Int)).bind fun x_8 =>
            some (.next x_8))))
        (some (.done (.inr ())))) (0 : Int)).bind fun x_11 =>
    Sum.elim
      (fun (x_9, x_10) =>
      some (x_9, x_10))
      (fun _ =>
      some ((0 : Int), (0 : Int))) x_11)
def trace_Check.ann : Ann := (.two .no (.two .no (.two (.two .no (.loop [2, 3, 4, 5, 6, 12, 13, 14, 15, 16, 17, 18, 19, 20, 21, 22, 23, 24, 25, 26, 27, 28, 29, 30, 31, 32, 33, 34, 35, 36, 37] [] [.slot 12 .i64 none] [(.ret, [.slot 2 .i64 none, .slot 3 .i64 none]), (.exit 0, [])] .no)) .no)))
set_option maxRecDepth 100000 in
theorem trace_Check.fn : FnT Tryd.prog 45 [.d .l_Outc] [.i64, .i64] trace_Check :=
  FnT.of (X := ctx 0 [trace_one.spec]) Tryd.mixed trace_Check.ann Tryd.func45 rfl (by kernel_rfl) (Nat.le_of_ble_eq_true rfl) (fun x => by kernel_rfl)
noncomputable def trace_Check.spec : XSpec Tryd.prog := XSpec.t 45 [.d .l_Outc] [.i64, .i64] trace_Check (by kernel_rfl) trace_Check.fn
noncomputable def trace_valid : List Outc → Option Int :=
  fun l_1 =>
  (trace_Check l_1).bind fun (x_2, x_3) =>
  some x_2
def trace_valid.ann : Ann := .no
set_option maxRecDepth 100000 in
theorem trace_valid.fn : FnT Tryd.prog 26 [.d .l_Outc] [.i64] trace_valid :=
  FnT.of (X := ctx 0 [trace_Check.spec]) Tryd.mixed trace_valid.ann Tryd.func26 rfl (by kernel_rfl) (Nat.le_of_ble_eq_true rfl) (fun x => by kernel_rfl)
noncomputable def trace_valid.spec : XSpec Tryd.prog := XSpec.t 26 [.d .l_Outc] [.i64] trace_valid (by kernel_rfl) trace_valid.fn
noncomputable def trace_Count : List Outc → Option ((List Int) × Int) :=
  fun l_1 =>
  (trace_valid l_1).bind fun x_2 =>
  br (x_2 != (0 : Int))
    (some (([] : List Int), x_2))
    ((mkL (0 : Int) 8 (15 : Int) (15 : Int)).bind fun x_3 =>
    (iter (σ := (List Int) × Int) (ρ := List Int) (fun (out_4, x_5) =>
      br (decide (x_5 < (l_1.length : Int)))
        ((idx l_1 x_5).bind fun x_6 =>
        (subI .i64 x_6.Kind (1 : Int)).bind fun x_7 =>
        (idx out_4 x_7).bind fun x_8 =>
        (addI .i64 x_8 (1 : Int)).bind fun x_9 =>
        br (inB x_7 out_4.length)
          ((idx out_4 x_7).bind fun x_10 =>
          (addI .i64 x_5 (1 : Int)).bind fun x_11 =>
          some (.next (setI out_4 x_7 x_9, x_11)))
          (none))
        (some (.done out_4))) (x_3, (0 : Int))).bind fun out_12 =>
    some (out_12, (0 : Int)))
def trace_Count.ann : Ann := (.two .no (.two .no (.two .no (.two (.two .no (.loop [5, 7, 13, 16, 17, 18, 19, 20, 21, 22, 23, 24, 25, 26, 27, 28] [] [.slot 5 .l_i64 (some (13, 3)), .slot 16 .i64 none] [(.exit 0, [.slot 5 .l_i64 (some (13, 3))])] .no)) .no))))
set_option maxRecDepth 100000 in
theorem trace_Count.fn : FnT Tryd.prog 17 [.d .l_Outc] [.l_i64, .i64] trace_Count :=
  FnT.of (X := ctx 134217728 [trace_valid.spec]) Tryd.mixed trace_Count.ann Tryd.func17 rfl (by kernel_rfl) (Nat.le_of_ble_eq_true rfl) (fun x => by kernel_rfl)
noncomputable def trace_Count.spec : XSpec Tryd.prog := XSpec.t 17 [.d .l_Outc] [.l_i64, .i64] trace_Count (by kernel_rfl) trace_Count.fn
noncomputable def trace_At_1 : Outc → Int → Option ((Bool) × (Int)) :=
  fun o_1 x_2 =>
  some (o_1.Node == x_2, x_2)
def trace_At_1.ann : Ann := .no
set_option maxRecDepth 100000 in
theorem trace_At_1.fn : FnB Tryd.prog 32 [.d .Outc, .l 0 0] [(.i64, 3)] [.bool] trace_At_1 :=
  FnB.of (X := ctx 0 []) Tryd.mixed trace_At_1.ann Tryd.func32 rfl (by kernel_rfl) (Nat.le_of_ble_eq_true rfl) (fun x y => by kernel_rfl)
noncomputable def trace_At_1.spec : XSpec Tryd.prog := XSpec.b 32 [.d .Outc, .l 0 0] [(.i64, 3)] [.bool] trace_At_1 (by kernel_rfl) trace_At_1.fn
noncomputable def trace_filter_f32 : List Outc → Int → Option ((List Outc) × (Int)) :=
  fun l_1 x_2 =>
  (iter (σ := (List Outc) × Int × Int) (ρ := (List Outc) × Int) (fun (out_3, x_4, x_5) =>
    br (decide (x_4 < (l_1.length : Int)))
      ((idx l_1 x_4).bind fun x_6 =>
      (trace_At_1 x_6 x_5).bind fun (x_7, x_8) =>
      br x_7
        ((app 56 out_3 ([x_6] : List Outc)).bind fun x_9 =>
        (addI .i64 x_4 (1 : Int)).bind fun x_10 =>
        some (.next (x_9, x_10, x_8)))
        ((addI .i64 x_4 (1 : Int)).bind fun x_11 =>
        some (.next (out_3, x_11, x_8))))
      (some (.done (out_3, x_5)))) (([] : List Outc), (0 : Int), x_2)).bind fun (out_12, x_13) =>
  some (out_12, x_13)
def trace_filter_f32.ann : Ann := (.two .no (.two .no (.two (.two .no (.loop [5, 7, 10, 11, 12, 13, 14, 15, 16, 17, 18, 19, 20, 21] [0] [.slot 5 .l_Outc (some (5, 41)), .slot 10 .i64 none, .box 0 .i64] [(.exit 0, [.slot 5 .l_Outc (some (5, 41)), .box 0 .i64])] .no)) .no)))
set_option maxRecDepth 100000 in
theorem trace_filter_f32.fn : FnB Tryd.prog 30 [.d .l_Outc, .f 32 [0]] [(.i64, 3)] [.l_Outc] trace_filter_f32 :=
  FnB.of (X := ctx 0 [trace_At_1.spec]) Tryd.mixed trace_filter_f32.ann Tryd.func30 rfl (by kernel_rfl) (Nat.le_of_ble_eq_true rfl) (fun x y => by kernel_rfl)
noncomputable def trace_filter_f32.spec : XSpec Tryd.prog := XSpec.b 30 [.d .l_Outc, .f 32 [0]] [(.i64, 3)] [.l_Outc] trace_filter_f32 (by kernel_rfl) trace_filter_f32.fn
noncomputable def trace_At : ((List Outc) × Int) → Option ((List Outc) × Int) :=
  fun (l_1, node_2) =>
  (trace_valid l_1).bind fun x_3 =>
  br (x_3 != (0 : Int))
    (some (([] : List Outc), x_3))
    (br (decide (node_2 < (1 : Int)))
      (some (([] : List Outc), (2 : Int)))
      (br (decide ((16 : Int) < node_2))
        (some (([] : List Outc), (2 : Int)))
        ((trace_filter_f32 l_1 node_2).bind fun (x_4, x_5) =>
        some (x_4, (0 : Int)))))
def trace_At.ann : Ann := .no
set_option maxRecDepth 100000 in
theorem trace_At.fn : FnT Tryd.prog 16 [.d .l_Outc, .d .i64] [.l_Outc, .i64] trace_At :=
  FnT.of (X := ctx 0 [trace_valid.spec, trace_filter_f32.spec]) Tryd.mixed trace_At.ann Tryd.func16 rfl (by kernel_rfl) (Nat.le_of_ble_eq_true rfl) (fun x => by kernel_rfl)
noncomputable def trace_At.spec : XSpec Tryd.prog := XSpec.t 16 [.d .l_Outc, .d .i64] [.l_Outc, .i64] trace_At (by kernel_rfl) trace_At.fn
noncomputable def packhorselaw39_TraceParts : List Int → Option Bool :=
  fun nums_1 =>
  (packhorselaw39_TraceKnown ()).bind fun x_2 =>
  (packhorselaw39_Made nums_1).bind fun x_3 =>
  (trace_Count x_3).bind fun (x_4, x_5) =>
  br (x_5 != (0 : Int))
    (some false)
    (br ((x_4.length : Int) != (15 : Int))
      (some false)
      ((iter (σ := Int × Int) (ρ := Int) (fun (sum_6, i_7) =>
        br (decide (i_7 < (x_4.length : Int)))
          ((idx x_4 i_7).bind fun x_8 =>
          (addI .i64 sum_6 x_8).bind fun x_9 =>
          (addI .i64 i_7 (1 : Int)).bind fun x_10 =>
          some (.next (x_9, x_10)))
          (some (.done sum_6))) ((0 : Int), (0 : Int))).bind fun sum_11 =>
      (iter (σ := Int × Int) (ρ := (Bool) ⊕ (Int)) (fun (parts_12, node_13) =>
        br (decide (node_13 ≤ (16 : Int)))
          ((trace_At (x_3, node_13)).bind fun (x_14, x_15) =>
          br (x_15 != (0 : Int))
            (some (.done (.inl false)))
            ((addI .i64 parts_12 (x_14.length : Int)).bind fun x_16 =>
            (iter (σ := Int × Int) (ρ := (Bool) ⊕ (Unit)) (fun (k_17, i_18) =>
              br (decide (i_18 < (x_14.length : Int)))
                ((iter (σ := Int) (ρ := Int) (fun k_19 =>
                  br (decide (k_19 < (x_3.length : Int)))
                    ((idx x_3 k_19).bind fun x_20 =>
                    (idx x_14 i_18).bind fun x_21 =>
                    br (!((x_20.Tick == x_21.Tick) && ((x_20.Node == x_21.Node) && ((x_20.Kind == x_21.Kind) && ((x_20.ID.Node == x_21.ID.Node) && ((x_20.ID.Seq == x_21.ID.Seq) && ((x_20.ID.Off == x_21.ID.Off) && (x_20.Other == x_21.Other))))))))
                      ((addI .i64 k_19 (1 : Int)).bind fun x_22 =>
                      some (.next x_22))
                      (some (.done k_19)))
                    (some (.done k_19))) k_17).bind fun k_23 =>
                br (k_23 == (x_3.length : Int))
                  (some (.done (.inl false)))
                  ((idx x_14 i_18).bind fun x_24 =>
                  br (x_24.Node != node_13)
                    (some (.done (.inl false)))
                    ((addI .i64 k_23 (1 : Int)).bind fun x_25 =>
                    (addI .i64 i_18 (1 : Int)).bind fun x_26 =>
                    some (.next (x_25, x_26)))))
                (some (.done (.inr ())))) ((0 : Int), (0 : Int))).bind fun x_29 =>
            Sum.elim
              (fun x_27 =>
              some (.done (.inl x_27)))
              (fun _ =>
              (addI .i64 node_13 (1 : Int)).bind fun x_28 =>
              some (.next (x_16, x_28))) x_29))
          (some (.done (.inr parts_12)))) ((0 : Int), (1 : Int))).bind fun x_32 =>
      Sum.elim
        (fun x_30 =>
        some x_30)
        (fun parts_31 =>
        br x_2
          (br (sum_11 == (x_3.length : Int))
            (some (parts_31 == (x_3.length : Int)))
            (some false))
          (some false)) x_32))
def packhorselaw39_TraceParts.ann : Ann := (.two .no (.two .no (.two .no (.two .no (.two .no (.two .no (.two (.two .no (.loop [7, 9, 30, 31, 32, 33, 34, 35, 36, 37, 38, 39, 40, 41] [] [.slot 7 .i64 none, .slot 9 .i64 none] [(.exit 0, [.slot 7 .i64 none])] .no)) (.two (.two .no (.loop [2, 8, 10, 11, 12, 13, 14, 42, 43, 44, 45, 46, 47, 48, 49, 50, 51, 52, 53, 54, 55, 56, 57, 58, 59, 60, 61, 62, 63, 64, 65, 66, 67, 68, 69, 70, 71, 72, 73, 74, 75, 76, 77, 78, 79, 80, 81, 82, 83, 84, 85, 86, 87, 88, 89, 90, 91, 92, 93, 94, 95] [] [.slot 8 .i64 none, .slot 10 .i64 none] [(.ret, [.slot 2 .bool none]), (.exit 2, [.slot 8 .i64 none])] (.two .no (.two (.two .no (.two .no (.two .no (.two .no (.two .no (.loop [2, 13, 14, 58, 59, 60, 61, 62, 63, 64, 65, 66, 67, 68, 69, 70, 71, 72, 73, 74, 75, 76, 77, 78, 79, 80, 81, 82, 83, 84, 85, 86, 87, 88, 89, 90, 91, 92, 93, 94, 95] [] [.slot 13 .i64 none, .slot 14 .i64 none] [(.ret, [.slot 2 .bool none]), (.exit 4, [])] (.two .no (.two (.two (.loop [13, 64, 65, 66, 67, 68, 69, 70, 71, 72, 73, 74, 75, 76, 77, 78, 79, 80] [] [.slot 13 .i64 none] [(.exit 6, [.slot 13 .i64 none])] .no) .no) .no)))))))) .no)))) .no))))))))
set_option maxRecDepth 100000 in
theorem packhorselaw39_TraceParts.fn : FnT Tryd.prog 6 [.d .l_i64] [.bool] packhorselaw39_TraceParts :=
  FnT.of (X := ctx 0 [packhorselaw39_TraceKnown.spec, packhorselaw39_Made.spec, trace_Count.spec, trace_At.spec]) Tryd.mixed packhorselaw39_TraceParts.ann Tryd.func6 rfl (by kernel_rfl) (Nat.le_of_ble_eq_true rfl) (fun x => by kernel_rfl)
noncomputable def packhorselaw39_TraceParts.spec : XSpec Tryd.prog := XSpec.t 6 [.d .l_i64] [.bool] packhorselaw39_TraceParts (by kernel_rfl) packhorselaw39_TraceParts.fn
end Go.Proofs.YtjcpgiicdppkcaaDoor
