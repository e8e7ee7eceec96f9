import Derived.Test.YtlodiacgkcnkmaaDoorXGCan
import Derived.Test.YtlodiacgkcnkmaaDoorXKA
import Derived.Test.YtlodiacgkcnkmaaDoorX9
import Derived.Test.YtlodiacgkcnkmaaDoorChecked
import Derived.KernelRfl
set_option linter.unusedSimpArgs false
set_option linter.unusedVariables false
namespace Go.Proofs.YtlodiacgkcnkmaaDoor
open Go.X Go.Eng
noncomputable def packhorselaw05_EidFewest : List Int → Option Bool :=
  fun nums_1 =>
  (packhorselaw05_made nums_1).bind fun x_2 =>
  (eid_Canon x_2).bind fun (x_3, x_4) =>
  br (x_4 != (0 : Int))
    (br (x_4 == (5 : Int))
      ((packhorselaw05_awake ()).bind fun x_5 =>
      some x_5)
      (some false))
    ((iter (σ := Int) (ρ := (Bool) ⊕ (Unit)) (fun i_6 =>
      (addI .i64 i_6 (1 : Int)).bind fun x_7 =>
      br (decide (x_7 < (x_3.length : Int)))
        ((idx x_3 i_6).bind fun x_8 =>
        (addI .i64 i_6 (1 : Int)).bind fun x_9 =>
        (idx x_3 x_9).bind fun x_10 =>
        br (decide (x_10.Service < x_8.Service))
          (some (.done (.inl false)))
          (br (x_8.Service == x_10.Service)
            ((subI .i64 x_10.Low (1 : Int)).bind fun x_11 =>
            br (decide (x_11 ≤ x_8.High))
              (some (.done (.inl false)))
              ((addI .i64 i_6 (1 : Int)).bind fun x_12 =>
              some (.next x_12)))
            ((addI .i64 i_6 (1 : Int)).bind fun x_13 =>
            some (.next x_13))))
        (some (.done (.inr ())))) (0 : Int)).bind fun x_16 =>
    Sum.elim
      (fun x_14 =>
      some x_14)
      (fun _ =>
      (packhorselaw05_awake ()).bind fun x_15 =>
      some x_15) x_16)
def packhorselaw05_EidFewest.ann : Ann := (.two .no (.two .no (.two .no (.two (.two .no (.loop [2, 5, 6, 7, 21, 22, 23, 24, 25, 26, 27, 28, 29, 30, 31, 32, 33, 34, 35, 36, 37, 38, 39, 40, 41, 42, 43, 44, 45, 46, 47, 48, 49, 50, 51, 52, 53, 54, 55, 56] [] [.slot 5 .i64 none] [(.ret, [.slot 2 .bool none]), (.exit 0, [])] .no)) .no))))
set_option maxRecDepth 100000 in
theorem packhorselaw05_EidFewest.fn : FnT Tryd.prog 3 [.d .l_i64] [.bool] packhorselaw05_EidFewest :=
  FnT.of (X := ctx 0 [packhorselaw05_made.spec, eid_Canon.spec, packhorselaw05_awake.spec]) Tryd.mixed packhorselaw05_EidFewest.ann Tryd.func3 rfl (by kernel_rfl) (Nat.le_of_ble_eq_true rfl) (fun x => by kernel_rfl)
noncomputable def packhorselaw05_EidFewest.spec : XSpec Tryd.prog := XSpec.t 3 [.d .l_i64] [.bool] packhorselaw05_EidFewest (by kernel_rfl) packhorselaw05_EidFewest.fn
noncomputable def packhorselaw05_EidCanon : List Int → Option Bool :=
  fun nums_1 =>
  (packhorselaw05_made nums_1).bind fun x_2 =>
  (eid_Canon x_2).bind fun (x_3, x_4) =>
  br (x_4 == (5 : Int))
    (br (decide ((0 : Int) < (x_2.length : Int)))
      ((packhorselaw05_awake ()).bind fun x_5 =>
      some x_5)
      (some false))
    ((subI .i64 (x_2.length : Int) (1 : Int)).bind fun x_6 =>
    (iter (σ := (List EID) × Int) (ρ := List EID) (fun (back_7, i_8) =>
      br (decide ((0 : Int) ≤ i_8))
        ((idx x_2 i_8).bind fun x_9 =>
        (app 24 back_7 ([x_9] : List EID)).bind fun x_10 =>
        (remI i_8 (3 : Int)).bind fun x_11 =>
        br (x_11 == (0 : Int))
          ((idx x_2 i_8).bind fun x_12 =>
          (app 24 x_10 ([x_12] : List EID)).bind fun x_13 =>
          (subI .i64 i_8 (1 : Int)).bind fun x_14 =>
          some (.next (x_13, x_14)))
          ((subI .i64 i_8 (1 : Int)).bind fun x_15 =>
          some (.next (x_10, x_15))))
        (some (.done back_7))) (([] : List EID), x_6)).bind fun back_16 =>
    (eid_Canon x_3).bind fun (x_17, x_18) =>
    (eid_Canon back_16).bind fun (x_19, x_20) =>
    br (x_4 == (0 : Int))
      (br (x_18 == (0 : Int))
        (br (x_20 == (0 : Int))
          ((packhorselaw05_same (x_3, x_17)).bind fun x_21 =>
          br x_21
            ((packhorselaw05_same (x_3, x_19)).bind fun x_22 =>
            br x_22
              ((packhorselaw05_alike (x_2, x_3)).bind fun x_23 =>
              br x_23
                ((packhorselaw05_alike (x_2, back_16)).bind fun x_24 =>
                br x_24
                  ((packhorselaw05_awake ()).bind fun x_25 =>
                  some x_25)
                  (some false))
                (some false))
              (some false))
            (some false))
          (some false))
        (some false))
      (some false))
def packhorselaw05_EidCanon.ann : Ann := (.two .no (.two .no (.two .no (.two .no (.two .no (.two (.two .no (.loop [6, 7, 30, 31, 32, 33, 34, 35, 36, 37, 38, 39, 40, 41, 42, 43, 44, 45, 46, 47, 48, 49, 50] [] [.slot 6 .l_EID (some (6, 30)), .slot 7 .i64 none] [(.exit 0, [.slot 6 .l_EID (some (6, 30))])] .no)) .no))))))
set_option maxRecDepth 100000 in
theorem packhorselaw05_EidCanon.fn : FnT Tryd.prog 4 [.d .l_i64] [.bool] packhorselaw05_EidCanon :=
  FnT.of (X := ctx 0 [packhorselaw05_made.spec, eid_Canon.spec, packhorselaw05_awake.spec, packhorselaw05_same.spec, packhorselaw05_alike.spec]) Tryd.mixed packhorselaw05_EidCanon.ann Tryd.func4 rfl (by kernel_rfl) (Nat.le_of_ble_eq_true rfl) (fun x => by kernel_rfl)
noncomputable def packhorselaw05_EidCanon.spec : XSpec Tryd.prog := XSpec.t 4 [.d .l_i64] [.bool] packhorselaw05_EidCanon (by kernel_rfl) packhorselaw05_EidCanon.fn
end Go.Proofs.YtlodiacgkcnkmaaDoor
