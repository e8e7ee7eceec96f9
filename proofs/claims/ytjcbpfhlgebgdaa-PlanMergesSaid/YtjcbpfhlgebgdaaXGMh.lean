import Derived.Test.YtjcbpfhlgebgdaaXJn
import Derived.Test.YtjcbpfhlgebgdaaX9
import Derived.Test.YtjcbpfhlgebgdaaChecked
import Derived.KernelRfl
set_option linter.unusedSimpArgs false
set_option linter.unusedVariables false
namespace Go.Proofs.Ytjcbpfhlgebgdaa
open Go.X Go.Eng
noncomputable def packhorseref22_Merge : ((List Contact) × (List Contact)) → Option ((List Contact) × Int) :=
  fun (a_1, b_2) =>
  (packhorseref22_Check a_1).bind fun (x_3, x_4) =>
  br (x_3 == (0 : Int))
    ((packhorseref22_Check b_2).bind fun (x_5, x_6) =>
    br (x_5 != (0 : Int))
      (some (([] : List Contact), x_5))
      ((app 48 ([] : List Contact) a_1).bind fun x_7 =>
      (app 48 x_7 b_2).bind fun x_8 =>
      (iter (σ := List Contact) (ρ := List Contact) (fun all_9 =>
        (packhorseref22_joined all_9).bind fun (x_10, x_11) =>
        br (!x_11)
          (some (.done all_9))
          (some (.next x_10))) x_8).bind fun all_12 =>
      (iter (σ := Int) (ρ := ((List Contact) × Int) ⊕ (Unit)) (fun i_13 =>
        br (decide (i_13 < (all_12.length : Int)))
          ((iter (σ := Int) (ρ := ((List Contact) × Int) ⊕ (Unit)) (fun k_14 =>
            br (decide (k_14 < i_13))
              ((idx all_12 k_14).bind fun x_15 =>
              (idx all_12 i_13).bind fun x_16 =>
              (packhorseref22_pair (x_15, x_16)).bind fun x_17 =>
              br x_17
                ((idx all_12 k_14).bind fun x_18 =>
                (idx all_12 i_13).bind fun x_19 =>
                br (decide (x_18.Start < x_19.End))
                  ((idx all_12 i_13).bind fun x_20 =>
                  (idx all_12 k_14).bind fun x_21 =>
                  br (decide (x_20.Start < x_21.End))
                    (some (.done (.inl (([] : List Contact), (12 : Int)))))
                    ((addI .i64 k_14 (1 : Int)).bind fun x_22 =>
                    some (.next x_22)))
                  ((addI .i64 k_14 (1 : Int)).bind fun x_23 =>
                  some (.next x_23)))
                ((addI .i64 k_14 (1 : Int)).bind fun x_24 =>
                some (.next x_24)))
              (some (.done (.inr ())))) (0 : Int)).bind fun x_28 =>
          Sum.elim
            (fun (x_25, x_26) =>
            some (.done (.inl (x_25, x_26))))
            (fun _ =>
            (addI .i64 i_13 (1 : Int)).bind fun x_27 =>
            some (.next x_27)) x_28)
          (some (.done (.inr ())))) (0 : Int)).bind fun x_33 =>
      Sum.elim
        (fun (x_29, x_30) =>
        some (x_29, x_30))
        (fun _ =>
        (packhorseref22_Sort all_12).bind fun (x_31, x_32) =>
        some (x_31, x_32)) x_33))
    (br (x_3 != (0 : Int))
      (some (([] : List Contact), x_3))
      ((app 48 ([] : List Contact) a_1).bind fun x_34 =>
      (app 48 x_34 b_2).bind fun x_35 =>
      (iter (σ := List Contact) (ρ := List Contact) (fun all_36 =>
        (packhorseref22_joined all_36).bind fun (x_37, x_38) =>
        br (!x_38)
          (some (.done all_36))
          (some (.next x_37))) x_35).bind fun all_39 =>
      (iter (σ := Int) (ρ := ((List Contact) × Int) ⊕ (Unit)) (fun i_40 =>
        br (decide (i_40 < (all_39.length : Int)))
          ((iter (σ := Int) (ρ := ((List Contact) × Int) ⊕ (Unit)) (fun k_41 =>
            br (decide (k_41 < i_40))
              ((idx all_39 k_41).bind fun x_42 =>
              (idx all_39 i_40).bind fun x_43 =>
              (packhorseref22_pair (x_42, x_43)).bind fun x_44 =>
              br x_44
                ((idx all_39 k_41).bind fun x_45 =>
                (idx all_39 i_40).bind fun x_46 =>
                br (decide (x_45.Start < x_46.End))
                  ((idx all_39 i_40).bind fun x_47 =>
                  (idx all_39 k_41).bind fun x_48 =>
                  br (decide (x_47.Start < x_48.End))
                    (some (.done (.inl (([] : List Contact), (12 : Int)))))
                    ((addI .i64 k_41 (1 : Int)).bind fun x_49 =>
                    some (.next x_49)))
                  ((addI .i64 k_41 (1 : Int)).bind fun x_50 =>
                  some (.next x_50)))
                ((addI .i64 k_41 (1 : Int)).bind fun x_51 =>
                some (.next x_51)))
              (some (.done (.inr ())))) (0 : Int)).bind fun x_55 =>
          Sum.elim
            (fun (x_52, x_53) =>
            some (.done (.inl (x_52, x_53))))
            (fun _ =>
            (addI .i64 i_40 (1 : Int)).bind fun x_54 =>
            some (.next x_54)) x_55)
          (some (.done (.inr ())))) (0 : Int)).bind fun x_60 =>
      Sum.elim
        (fun (x_56, x_57) =>
        some (x_56, x_57))
        (fun _ =>
        (packhorseref22_Sort all_39).bind fun (x_58, x_59) =>
        some (x_58, x_59)) x_60))
def packhorseref22_Merge.ann : Ann := (.two .no (.two .no (.two .no (.two .no (.two .no (.two (.loop [8, 9, 10, 33, 34, 35, 36, 37, 38, 39, 40] [] [.slot 8 .l_Contact none] [(.exit 0, [.slot 8 .l_Contact none])] .no) (.two (.two .no (.loop [4, 5, 11, 12, 41, 42, 43, 44, 45, 46, 47, 48, 49, 50, 51, 52, 53, 54, 55, 56, 57, 58, 59, 60, 61, 62, 63, 64, 65, 66, 67, 68, 69, 70, 71, 72, 73, 74, 75, 76, 77, 78, 79, 80, 81, 82, 83, 84, 85, 86] [] [.slot 11 .i64 none] [(.ret, [.slot 4 .l_Contact (some (4, 35)), .slot 5 .i64 none]), (.exit 2, [])] (.two .no (.two (.two .no (.loop [4, 5, 12, 47, 48, 49, 50, 51, 52, 53, 54, 55, 56, 57, 58, 59, 60, 61, 62, 63, 64, 65, 66, 67, 68, 69, 70, 71, 72, 73, 74, 75, 76, 77, 78, 79, 80, 81, 82, 83, 84, 85, 86] [] [.slot 12 .i64 none] [(.ret, [.slot 4 .l_Contact (some (4, 35)), .slot 5 .i64 none]), (.exit 4, [])] .no)) .no)))) .no)))))))
set_option maxRecDepth 100000 in
theorem packhorseref22_Merge.fn : FnT Try.prog 9 [.d .l_Contact, .d .l_Contact] [.l_Contact, .i64] packhorseref22_Merge :=
  FnT.of (X := ctx 0 [packhorseref22_Check.spec, packhorseref22_joined.spec, packhorseref22_pair.spec, packhorseref22_Sort.spec]) Try.mixed packhorseref22_Merge.ann Try.func9 rfl (by kernel_rfl) (Nat.le_of_ble_eq_true rfl) (fun x => by kernel_rfl)
noncomputable def packhorseref22_Merge.spec : XSpec Try.prog := XSpec.t 9 [.d .l_Contact, .d .l_Contact] [.l_Contact, .i64] packhorseref22_Merge (by kernel_rfl) packhorseref22_Merge.fn
noncomputable def packhorselaw22_PlanMerges : ((List Contact) × (List Contact)) → Option Bool :=
  fun (a_1, b_2) =>
  br (decide ((30 : Int) < (a_1.length : Int)))
    (br (decide ((a_1.length : Int) ≤ (100 : Int)))
      ((packhorselaw22_awake ()).bind fun x_3 =>
      some x_3)
      (br (decide ((200 : Int) < (a_1.length : Int)))
        ((packhorselaw22_awake ()).bind fun x_4 =>
        some x_4)
        (br (decide ((200 : Int) < (b_2.length : Int)))
          ((packhorselaw22_awake ()).bind fun x_5 =>
          some x_5)
          (br (decide ((30 : Int) < (b_2.length : Int)))
            (br (decide ((b_2.length : Int) ≤ (100 : Int)))
              ((packhorselaw22_awake ()).bind fun x_6 =>
              some x_6)
              ((addI .i64 (a_1.length : Int) (b_2.length : Int)).bind fun x_7 =>
              br (decide ((230 : Int) < x_7))
                ((packhorselaw22_awake ()).bind fun x_8 =>
                some x_8)
                ((packhorsekit_OwnPlan a_1).bind fun x_9 =>
                (packhorsekit_OwnPlan b_2).bind fun x_10 =>
                (plan_Merge (x_9, x_10)).bind fun (x_11, x_12) =>
                (packhorseref22_Merge (a_1, b_2)).bind fun (x_13, x_14) =>
                (packhorsekit_SamePlan (x_11, x_13)).bind fun x_15 =>
                br x_15
                  (br (x_12 == x_14)
                    ((packhorselaw22_awake ()).bind fun x_16 =>
                    some x_16)
                    (some false))
                  (some false))))
            ((addI .i64 (a_1.length : Int) (b_2.length : Int)).bind fun x_17 =>
            br (decide ((230 : Int) < x_17))
              ((packhorselaw22_awake ()).bind fun x_18 =>
              some x_18)
              ((packhorsekit_OwnPlan a_1).bind fun x_19 =>
              (packhorsekit_OwnPlan b_2).bind fun x_20 =>
              (plan_Merge (x_19, x_20)).bind fun (x_21, x_22) =>
              (packhorseref22_Merge (a_1, b_2)).bind fun (x_23, x_24) =>
              (packhorsekit_SamePlan (x_21, x_23)).bind fun x_25 =>
              br x_25
                (br (x_22 == x_24)
                  ((packhorselaw22_awake ()).bind fun x_26 =>
                  some x_26)
                  (some false))
                (some false)))))))
    (br (decide ((200 : Int) < (a_1.length : Int)))
      ((packhorselaw22_awake ()).bind fun x_27 =>
      some x_27)
      (br (decide ((200 : Int) < (b_2.length : Int)))
        ((packhorselaw22_awake ()).bind fun x_28 =>
        some x_28)
        (br (decide ((30 : Int) < (b_2.length : Int)))
          (br (decide ((b_2.length : Int) ≤ (100 : Int)))
            ((packhorselaw22_awake ()).bind fun x_29 =>
            some x_29)
            ((addI .i64 (a_1.length : Int) (b_2.length : Int)).bind fun x_30 =>
            br (decide ((230 : Int) < x_30))
              ((packhorselaw22_awake ()).bind fun x_31 =>
              some x_31)
              ((packhorsekit_OwnPlan a_1).bind fun x_32 =>
              (packhorsekit_OwnPlan b_2).bind fun x_33 =>
              (plan_Merge (x_32, x_33)).bind fun (x_34, x_35) =>
              (packhorseref22_Merge (a_1, b_2)).bind fun (x_36, x_37) =>
              (packhorsekit_SamePlan (x_34, x_36)).bind fun x_38 =>
              br x_38
                (br (x_35 == x_37)
                  ((packhorselaw22_awake ()).bind fun x_39 =>
                  some x_39)
                  (some false))
                (some false))))
          ((addI .i64 (a_1.length : Int) (b_2.length : Int)).bind fun x_40 =>
          br (decide ((230 : Int) < x_40))
            ((packhorselaw22_awake ()).bind fun x_41 =>
            some x_41)
            ((packhorsekit_OwnPlan a_1).bind fun x_42 =>
            (packhorsekit_OwnPlan b_2).bind fun x_43 =>
            (plan_Merge (x_42, x_43)).bind fun (x_44, x_45) =>
            (packhorseref22_Merge (a_1, b_2)).bind fun (x_46, x_47) =>
            (packhorsekit_SamePlan (x_44, x_46)).bind fun x_48 =>
            br x_48
              (br (x_45 == x_47)
                ((packhorselaw22_awake ()).bind fun x_49 =>
                some x_49)
                (some false))
              (some false))))))
def packhorselaw22_PlanMerges.ann : Ann := .no
set_option maxRecDepth 100000 in
theorem packhorselaw22_PlanMerges.fn : FnT Try.prog 3 [.d .l_Contact, .d .l_Contact] [.bool] packhorselaw22_PlanMerges :=
  FnT.of (X := ctx 0 [packhorselaw22_awake.spec, packhorsekit_OwnPlan.spec, plan_Merge.spec, packhorseref22_Merge.spec, packhorsekit_SamePlan.spec]) Try.mixed packhorselaw22_PlanMerges.ann Try.func3 rfl (by kernel_rfl) (Nat.le_of_ble_eq_true rfl) (fun x => by kernel_rfl)
noncomputable def packhorselaw22_PlanMerges.spec : XSpec Try.prog := XSpec.t 3 [.d .l_Contact, .d .l_Contact] [.bool] packhorselaw22_PlanMerges (by kernel_rfl) packhorselaw22_PlanMerges.fn
end Go.Proofs.Ytjcbpfhlgebgdaa
