import Derived.Test.YtgihkmmcddhajaaPX
import Derived.Test.YtgihkmmcddhajaaX9
import Derived.Test.YtgihkmmcddhajaaChecked
import Derived.KernelRfl
/- What the interpreter makes of functions of the program, printed by xexec.py. -/
namespace Go.Proofs.Ytgihkmmcddhajaa
open Go.X Go.Eng
set_option linter.unusedVariables false
/-- packhorse/packhorseref22.One -/
noncomputable def packhorseref22_One : Contact → Option Int :=
  fun c_1 =>
  br (decide (c_1.From < (1 : Int)))
    (some (2 : Int))
    (br (decide ((16 : Int) < c_1.From))
      (some (2 : Int))
      (br (decide (c_1.To < (1 : Int)))
        (some (2 : Int))
        (br (decide ((16 : Int) < c_1.To))
          (some (2 : Int))
          (br (c_1.From == c_1.To)
            (some (2 : Int))
            (br (decide (c_1.Start < (0 : Int)))
              (some (2 : Int))
              (br (decide (c_1.End ≤ c_1.Start))
                (some (2 : Int))
                (br (decide ((1099511627776 : Int) < c_1.End))
                  (some (2 : Int))
                  (br (decide (c_1.Rate < (1 : Int)))
                    (some (2 : Int))
                    (br (decide ((1048576 : Int) < c_1.Rate))
                      (some (2 : Int))
                      (br (decide (c_1.Delay < (0 : Int)))
                        (some (2 : Int))
                        (br (decide ((1048576 : Int) < c_1.Delay))
                          (some (2 : Int))
                          (some (0 : Int)))))))))))))
def packhorseref22_One.ann : Ann := .no
set_option maxRecDepth 100000 in
theorem packhorseref22_One.fn : FnT Try.prog 21 [.d .Contact] [.i64] packhorseref22_One :=
  FnT.of (X := ctx 0 []) Try.mixed packhorseref22_One.ann Try.func21 rfl (by kernel_rfl) (Nat.le_of_ble_eq_true rfl) (fun x => by kernel_rfl)
noncomputable def packhorseref22_One.spec : XSpec Try.prog := XSpec.t 21 [.d .Contact] [.i64] packhorseref22_One (by kernel_rfl) packhorseref22_One.fn

/-- packhorse/packhorseref22.before -/
noncomputable def packhorseref22_before : (Contact × Contact) → Option Bool :=
  fun (a_1, b_2) =>
  br (a_1.Start != b_2.Start)
    (some (decide (a_1.Start < b_2.Start)))
    (br (a_1.From != b_2.From)
      (some (decide (a_1.From < b_2.From)))
      (some (decide (a_1.To < b_2.To))))
def packhorseref22_before.ann : Ann := .no
set_option maxRecDepth 100000 in
theorem packhorseref22_before.fn : FnT Try.prog 40 [.d .Contact, .d .Contact] [.bool] packhorseref22_before :=
  FnT.of (X := ctx 0 []) Try.mixed packhorseref22_before.ann Try.func40 rfl (by kernel_rfl) (Nat.le_of_ble_eq_true rfl) (fun x => by kernel_rfl)
noncomputable def packhorseref22_before.spec : XSpec Try.prog := XSpec.t 40 [.d .Contact, .d .Contact] [.bool] packhorseref22_before (by kernel_rfl) packhorseref22_before.fn

/-- packhorse/packhorseref22.pair -/
noncomputable def packhorseref22_pair : (Contact × Contact) → Option Bool :=
  fun (a_1, b_2) =>
  br (a_1.From == b_2.From)
    (some (a_1.To == b_2.To))
    (some false)
def packhorseref22_pair.ann : Ann := .no
set_option maxRecDepth 100000 in
theorem packhorseref22_pair.fn : FnT Try.prog 41 [.d .Contact, .d .Contact] [.bool] packhorseref22_pair :=
  FnT.of (X := ctx 0 []) Try.mixed packhorseref22_pair.ann Try.func41 rfl (by kernel_rfl) (Nat.le_of_ble_eq_true rfl) (fun x => by kernel_rfl)
noncomputable def packhorseref22_pair.spec : XSpec Try.prog := XSpec.t 41 [.d .Contact, .d .Contact] [.bool] packhorseref22_pair (by kernel_rfl) packhorseref22_pair.fn

/-- packhorse/packhorseref22.Check -/
noncomputable def packhorseref22_Check : List Contact → Option (Int × Int) :=
  fun l_1 =>
  br (decide ((200 : Int) < (l_1.length : Int)))
    (some ((5 : Int), (0 : Int)))
    ((iter (σ := Int) (ρ := (Int × Int) ⊕ (Unit)) (fun i_2 =>
      br (decide (i_2 < (l_1.length : Int)))
        ((idx l_1 i_2).bind fun x_3 =>
        (packhorseref22_One x_3).bind fun x_4 =>
        br (x_4 != (0 : Int))
          (some (.done (.inl ((2 : Int), i_2))))
          (br (decide ((0 : Int) < i_2))
            ((subI .i64 i_2 (1 : Int)).bind fun x_5 =>
            (idx l_1 x_5).bind fun x_6 =>
            (idx l_1 i_2).bind fun x_7 =>
            (packhorseref22_before (x_6, x_7)).bind fun x_8 =>
            br (!x_8)
              (some (.done (.inl ((19 : Int), i_2))))
              ((iter (σ := Int) (ρ := (Int × Int) ⊕ (Unit)) (fun k_9 =>
                br (decide (k_9 < i_2))
                  ((idx l_1 k_9).bind fun x_10 =>
                  (idx l_1 i_2).bind fun x_11 =>
                  (packhorseref22_pair (x_10, x_11)).bind fun x_12 =>
                  br x_12
                    ((idx l_1 k_9).bind fun x_13 =>
                    (idx l_1 i_2).bind fun x_14 =>
                    br (decide (x_14.Start < x_13.End))
                      (some (.done (.inl ((12 : Int), i_2))))
                      ((addI .i64 k_9 (1 : Int)).bind fun x_15 =>
                      some (.next x_15)))
                    ((addI .i64 k_9 (1 : Int)).bind fun x_16 =>
                    some (.next x_16)))
                  (some (.done (.inr ())))) (0 : Int)).bind fun x_20 =>
              Sum.elim
                (fun (x_17, x_18) =>
                some (.done (.inl (x_17, x_18))))
                (fun _ =>
                (addI .i64 i_2 (1 : Int)).bind fun x_19 =>
                some (.next x_19)) x_20))
            ((iter (σ := Int) (ρ := (Int × Int) ⊕ (Unit)) (fun k_21 =>
              br (decide (k_21 < i_2))
                ((idx l_1 k_21).bind fun x_22 =>
                (idx l_1 i_2).bind fun x_23 =>
                (packhorseref22_pair (x_22, x_23)).bind fun x_24 =>
                br x_24
                  ((idx l_1 k_21).bind fun x_25 =>
                  (idx l_1 i_2).bind fun x_26 =>
                  br (decide (x_26.Start < x_25.End))
                    (some (.done (.inl ((12 : Int), i_2))))
                    ((addI .i64 k_21 (1 : Int)).bind fun x_27 =>
                    some (.next x_27)))
                  ((addI .i64 k_21 (1 : Int)).bind fun x_28 =>
                  some (.next x_28)))
                (some (.done (.inr ())))) (0 : Int)).bind fun x_32 =>
            Sum.elim
              (fun (x_29, x_30) =>
              some (.done (.inl (x_29, x_30))))
              (fun _ =>
              (addI .i64 i_2 (1 : Int)).bind fun x_31 =>
              some (.next x_31)) x_32)))
        (some (.done (.inr ())))) (0 : Int)).bind fun x_35 =>
    Sum.elim
      (fun (x_33, x_34) =>
      some (x_33, x_34))
      (fun _ =>
      some ((0 : Int), (0 : Int))) x_35)
def packhorseref22_Check.ann : Ann := (.two .no (.two .no (.two (.two .no (.loop [2, 3, 4, 5, 9, 10, 11, 12, 13, 14, 15, 16, 17, 18, 19, 20, 21, 22, 23, 24, 25, 26, 27, 28, 29, 30, 31, 32, 33, 34, 35, 36, 37, 38, 39, 40, 41, 42, 43, 44, 45, 46, 47, 48, 49, 50, 51, 52, 53, 54, 55, 56, 57, 58, 59, 60, 61, 62, 63, 64, 65] [] [.slot 4 .i64 none] [(.ret, [.slot 2 .i64 none, .slot 3 .i64 none]), (.exit 0, [])] (.two .no (.two (.two .no (.two .no (.two .no (.loop [2, 3, 5, 38, 39, 40, 41, 42, 43, 44, 45, 46, 47, 48, 49, 50, 51, 52, 53, 54, 55, 56, 57, 58, 59, 60, 61, 62, 63, 64, 65] [] [.slot 5 .i64 none] [(.ret, [.slot 2 .i64 none, .slot 3 .i64 none]), (.exit 2, [])] .no)))) .no)))) .no)))
set_option maxRecDepth 100000 in
theorem packhorseref22_Check.fn : FnT Try.prog 16 [.d .l_Contact] [.i64, .i64] packhorseref22_Check :=
  FnT.of (X := ctx 0 [packhorseref22_One.spec, packhorseref22_before.spec, packhorseref22_pair.spec]) Try.mixed packhorseref22_Check.ann Try.func16 rfl (by kernel_rfl) (Nat.le_of_ble_eq_true rfl) (fun x => by kernel_rfl)
noncomputable def packhorseref22_Check.spec : XSpec Try.prog := XSpec.t 16 [.d .l_Contact] [.i64, .i64] packhorseref22_Check (by kernel_rfl) packhorseref22_Check.fn

/-- slices.Clone[[]packhorse/api.Contact,packhorse/api.Contact] -/
noncomputable def slices_Clone : List Contact → Option (List Contact) :=
  fun s_1 =>
  nilq s_1
    (some ([] : List Contact))
    ((app 48 ([] : List Contact) s_1).bind fun x_2 =>
    some x_2)
def slices_Clone.ann : Ann := .no
set_option maxRecDepth 100000 in
theorem slices_Clone.fn : FnT Try.prog 42 [.d .l_Contact] [.l_Contact] slices_Clone :=
  FnT.of (X := ctx 0 []) Try.mixed slices_Clone.ann Try.func42 rfl (by kernel_rfl) (Nat.le_of_ble_eq_true rfl) (fun x => by kernel_rfl)
noncomputable def slices_Clone.spec : XSpec Try.prog := XSpec.t 42 [.d .l_Contact] [.l_Contact] slices_Clone (by kernel_rfl) slices_Clone.fn
set_option maxRecDepth 100000 in
theorem slices_Clone.fo : FnTO Try.prog 42 [.d .l_Contact] .Contact 40 slices_Clone :=
  FnTO.of (X := ctx 0 []) Try.mixed slices_Clone.ann Try.func42 rfl (by kernel_rfl) (Nat.le_of_ble_eq_true rfl) (fun x => by kernel_rfl)
noncomputable def slices_Clone.ow : XOwn Try.prog := XOwn.t 42 [.d .l_Contact] .Contact 40 slices_Clone (by kernel_rfl) slices_Clone.fo

/-- packhorse/plan.Sort -/
noncomputable def plan_Sort : List Contact → Option ((List Contact) × Int) :=
  fun l_1 =>
  br (decide ((200 : Int) < (l_1.length : Int)))
    (some (([] : List Contact), (5 : Int)))
    ((iter (σ := Int) (ρ := ((List Contact) × Int) ⊕ (Unit)) (fun x_2 =>
      br (decide (x_2 < (l_1.length : Int)))
        ((idx l_1 x_2).bind fun x_3 =>
        (plan_One x_3).bind fun x_4 =>
        br (x_4 != (0 : Int))
          (some (.done (.inl (([] : List Contact), x_4))))
          ((addI .i64 x_2 (1 : Int)).bind fun x_5 =>
          some (.next x_5)))
        (some (.done (.inr ())))) (0 : Int)).bind fun x_12 =>
    Sum.elim
      (fun (x_6, x_7) =>
      some (x_6, x_7))
      (fun _ =>
      (slices_Clone l_1).bind fun x_8 =>
      (srtG plan_compare.srt x_8).bind fun x_9 =>
      (plan_Check x_9).bind fun (x_10, x_11) =>
      br (x_10 != (0 : Int))
        (some (([] : List Contact), (12 : Int)))
        (some (x_9, (0 : Int)))) x_12)
def plan_Sort.ann : Ann := (.two .no (.two .no (.two (.two .no (.loop [2, 3, 5, 6, 15, 16, 17, 18, 19, 20, 21, 22, 23, 24] [] [.slot 15 .i64 none] [(.ret, [.slot 2 .l_Contact (some (2, 40)), .slot 3 .i64 none]), (.exit 0, [])] .no)) .no)))
set_option maxRecDepth 100000 in
theorem plan_Sort.fn : FnT Try.prog 17 [.d .l_Contact] [.l_Contact, .i64] plan_Sort :=
  FnT.of (X := ctxO 0 [plan_One.spec, slices_Clone.spec, plan_Check.spec] [plan_compare.sort] [slices_Clone.ow]) Try.mixed plan_Sort.ann Try.func17 rfl (by kernel_rfl) (Nat.le_of_ble_eq_true rfl) (fun x => by kernel_rfl)
noncomputable def plan_Sort.spec : XSpec Try.prog := XSpec.t 17 [.d .l_Contact] [.l_Contact, .i64] plan_Sort (by kernel_rfl) plan_Sort.fn

/-- packhorse/packhorseref22.insert -/
noncomputable def packhorseref22_insert : ((List Contact) × Contact) → Option (List Contact) :=
  fun (l_1, c_2) =>
  (iter (σ := Int) (ρ := Int) (fun at_3 =>
    br (decide ((0 : Int) < at_3))
      ((subI .i64 at_3 (1 : Int)).bind fun x_4 =>
      (idx l_1 x_4).bind fun x_5 =>
      (packhorseref22_before (c_2, x_5)).bind fun x_6 =>
      br x_6
        ((subI .i64 at_3 (1 : Int)).bind fun x_7 =>
        some (.next x_7))
        (some (.done at_3)))
      (some (.done at_3))) (l_1.length : Int)).bind fun at_8 =>
  (slc l_1 (0 : Int) at_8).bind fun x_9 =>
  (app 48 ([] : List Contact) x_9).bind fun x_10 =>
  (app 48 x_10 ([c_2] : List Contact)).bind fun x_11 =>
  (slc l_1 at_8 (l_1.length : Int)).bind fun x_12 =>
  (app 48 x_11 x_12).bind fun x_13 =>
  some x_13
def packhorseref22_insert.ann : Ann := (.two .no (.two .no (.two (.loop [5, 8, 9, 10, 11, 12, 13, 14, 15, 16, 17, 18, 19, 20] [] [.slot 5 .i64 none] [(.exit 0, [.slot 5 .i64 none])] .no) .no)))
set_option maxRecDepth 100000 in
theorem packhorseref22_insert.fn : FnT Try.prog 43 [.d .l_Contact, .d .Contact] [.l_Contact] packhorseref22_insert :=
  FnT.of (X := ctx 0 [packhorseref22_before.spec]) Try.mixed packhorseref22_insert.ann Try.func43 rfl (by kernel_rfl) (Nat.le_of_ble_eq_true rfl) (fun x => by kernel_rfl)
noncomputable def packhorseref22_insert.spec : XSpec Try.prog := XSpec.t 43 [.d .l_Contact, .d .Contact] [.l_Contact] packhorseref22_insert (by kernel_rfl) packhorseref22_insert.fn

/-- packhorse/packhorseref22.Sort -/
noncomputable def packhorseref22_Sort : List Contact → Option ((List Contact) × Int) :=
  fun l_1 =>
  br (decide ((200 : Int) < (l_1.length : Int)))
    (some (([] : List Contact), (5 : Int)))
    ((iter (σ := (List Contact) × Int) (ρ := ((List Contact) × Int) ⊕ (List Contact)) (fun (out_2, i_3) =>
      br (decide (i_3 < (l_1.length : Int)))
        ((idx l_1 i_3).bind fun x_4 =>
        (packhorseref22_One x_4).bind fun x_5 =>
        br (x_5 != (0 : Int))
          (some (.done (.inl (([] : List Contact), (2 : Int)))))
          ((idx l_1 i_3).bind fun x_6 =>
          (packhorseref22_insert (out_2, x_6)).bind fun x_7 =>
          (addI .i64 i_3 (1 : Int)).bind fun x_8 =>
          some (.next (x_7, x_8))))
        (some (.done (.inr out_2)))) (([] : List Contact), (0 : Int))).bind fun x_28 =>
    Sum.elim
      (fun (x_9, x_10) =>
      some (x_9, x_10))
      (fun out_11 =>
      (iter (σ := Int) (ρ := ((List Contact) × Int) ⊕ (Unit)) (fun i_12 =>
        br (decide (i_12 < (out_11.length : Int)))
          ((iter (σ := Int) (ρ := ((List Contact) × Int) ⊕ (Unit)) (fun k_13 =>
            br (decide (k_13 < i_12))
              ((idx out_11 k_13).bind fun x_14 =>
              (idx out_11 i_12).bind fun x_15 =>
              (packhorseref22_pair (x_14, x_15)).bind fun x_16 =>
              br x_16
                ((idx out_11 k_13).bind fun x_17 =>
                (idx out_11 i_12).bind fun x_18 =>
                br (decide (x_18.Start < x_17.End))
                  (some (.done (.inl (([] : List Contact), (12 : Int)))))
                  ((addI .i64 k_13 (1 : Int)).bind fun x_19 =>
                  some (.next x_19)))
                ((addI .i64 k_13 (1 : Int)).bind fun x_20 =>
                some (.next x_20)))
              (some (.done (.inr ())))) (0 : Int)).bind fun x_24 =>
          Sum.elim
            (fun (x_21, x_22) =>
            some (.done (.inl (x_21, x_22))))
            (fun _ =>
            (addI .i64 i_12 (1 : Int)).bind fun x_23 =>
            some (.next x_23)) x_24)
          (some (.done (.inr ())))) (0 : Int)).bind fun x_27 =>
      Sum.elim
        (fun (x_25, x_26) =>
        some (x_25, x_26))
        (fun _ =>
        some (out_11, (0 : Int))) x_27) x_28)
def packhorseref22_Sort.ann : Ann := (.two .no (.two .no (.two .no (.two (.two .no (.loop [2, 3, 4, 5, 11, 12, 13, 14, 15, 16, 17, 18, 19, 20, 21, 22, 23, 24, 25, 26, 27, 28] [] [.slot 4 .l_Contact none, .slot 5 .i64 none] [(.ret, [.slot 2 .l_Contact (some (2, 40)), .slot 3 .i64 none]), (.exit 0, [.slot 4 .l_Contact none])] .no)) (.two (.two .no (.loop [2, 3, 6, 7, 29, 30, 31, 32, 33, 34, 35, 36, 37, 38, 39, 40, 41, 42, 43, 44, 45, 46, 47, 48, 49, 50, 51, 52, 53, 54, 55, 56, 57, 58, 59, 60, 61] [] [.slot 6 .i64 none] [(.ret, [.slot 2 .l_Contact (some (2, 40)), .slot 3 .i64 none]), (.exit 2, [])] (.two .no (.two (.two .no (.loop [2, 3, 7, 35, 36, 37, 38, 39, 40, 41, 42, 43, 44, 45, 46, 47, 48, 49, 50, 51, 52, 53, 54, 55, 56, 57, 58, 59, 60, 61] [] [.slot 7 .i64 none] [(.ret, [.slot 2 .l_Contact (some (2, 40)), .slot 3 .i64 none]), (.exit 4, [])] .no)) .no)))) .no)))))
set_option maxRecDepth 100000 in
theorem packhorseref22_Sort.fn : FnT Try.prog 18 [.d .l_Contact] [.l_Contact, .i64] packhorseref22_Sort :=
  FnT.of (X := ctx 0 [packhorseref22_One.spec, packhorseref22_insert.spec, packhorseref22_pair.spec]) Try.mixed packhorseref22_Sort.ann Try.func18 rfl (by kernel_rfl) (Nat.le_of_ble_eq_true rfl) (fun x => by kernel_rfl)
noncomputable def packhorseref22_Sort.spec : XSpec Try.prog := XSpec.t 18 [.d .l_Contact] [.l_Contact, .i64] packhorseref22_Sort (by kernel_rfl) packhorseref22_Sort.fn

/-- packhorse/packhorsekit.SamePlan -/
noncomputable def packhorsekit_SamePlan : ((List Contact) × (List Contact)) → Option Bool :=
  fun (a_1, b_2) =>
  br ((a_1.length : Int) != (b_2.length : Int))
    (some false)
    ((iter (σ := Int) (ρ := (Bool) ⊕ (Unit)) (fun i_3 =>
      br (decide (i_3 < (a_1.length : Int)))
        ((idx a_1 i_3).bind fun x_4 =>
        (idx b_2 i_3).bind fun x_5 =>
        br (!((x_4.From == x_5.From) && ((x_4.To == x_5.To) && ((x_4.Start == x_5.Start) && ((x_4.End == x_5.End) && ((x_4.Rate == x_5.Rate) && (x_4.Delay == x_5.Delay)))))))
          (some (.done (.inl false)))
          ((addI .i64 i_3 (1 : Int)).bind fun x_6 =>
          some (.next x_6)))
        (some (.done (.inr ())))) (0 : Int)).bind fun x_8 =>
    Sum.elim
      (fun x_7 =>
      some x_7)
      (fun _ =>
      some true) x_8)
def packhorsekit_SamePlan.ann : Ann := (.two .no (.two .no (.two (.two .no (.loop [4, 5, 11, 12, 13, 14, 15, 16, 17, 18, 19, 20, 21, 22, 23, 24, 25] [] [.slot 5 .i64 none] [(.ret, [.slot 4 .bool none]), (.exit 0, [])] .no)) .no)))
set_option maxRecDepth 100000 in
theorem packhorsekit_SamePlan.fn : FnT Try.prog 19 [.d .l_Contact, .d .l_Contact] [.bool] packhorsekit_SamePlan :=
  FnT.of (X := ctx 0 []) Try.mixed packhorsekit_SamePlan.ann Try.func19 rfl (by kernel_rfl) (Nat.le_of_ble_eq_true rfl) (fun x => by kernel_rfl)
noncomputable def packhorsekit_SamePlan.spec : XSpec Try.prog := XSpec.t 19 [.d .l_Contact, .d .l_Contact] [.bool] packhorsekit_SamePlan (by kernel_rfl) packhorsekit_SamePlan.fn

/-- packhorse/packhorselaw22.PlanChecks -/
noncomputable def packhorselaw22_PlanChecks : List Contact → Option Bool :=
  fun l_1 =>
  br (decide ((60 : Int) < (l_1.length : Int)))
    (br (decide ((l_1.length : Int) ≤ (200 : Int)))
      ((packhorselaw22_awake ()).bind fun x_2 =>
      some x_2)
      (br (decide ((210 : Int) < (l_1.length : Int)))
        ((packhorselaw22_awake ()).bind fun x_3 =>
        some x_3)
        ((packhorsekit_OwnPlan l_1).bind fun x_4 =>
        (plan_Check x_4).bind fun (x_5, x_6) =>
        (packhorseref22_Check l_1).bind fun (x_7, x_8) =>
        (plan_Sort x_4).bind fun (x_9, x_10) =>
        (packhorseref22_Sort l_1).bind fun (x_11, x_12) =>
        br (x_5 != x_7)
          (some false)
          (br (x_6 != x_8)
            (some false)
            (br (x_10 != x_12)
              (some false)
              ((packhorsekit_SamePlan (x_9, x_11)).bind fun x_13 =>
              br (!x_13)
                (some false)
                ((packhorsekit_SamePlan (x_4, l_1)).bind fun x_14 =>
                br (!x_14)
                  (some false)
                  ((iter (σ := Int) (ρ := (Bool) ⊕ (Unit)) (fun i_15 =>
                    br (decide (i_15 < (l_1.length : Int)))
                      ((idx x_4 i_15).bind fun x_16 =>
                      (plan_One x_16).bind fun x_17 =>
                      (idx l_1 i_15).bind fun x_18 =>
                      (packhorseref22_One x_18).bind fun x_19 =>
                      br (x_17 != x_19)
                        (some (.done (.inl false)))
                        ((addI .i64 i_15 (1 : Int)).bind fun x_20 =>
                        some (.next x_20)))
                      (some (.done (.inr ())))) (0 : Int)).bind fun x_23 =>
                  Sum.elim
                    (fun x_21 =>
                    some x_21)
                    (fun _ =>
                    (packhorselaw22_awake ()).bind fun x_22 =>
                    some x_22) x_23))))))))
    (br (decide ((210 : Int) < (l_1.length : Int)))
      ((packhorselaw22_awake ()).bind fun x_24 =>
      some x_24)
      ((packhorsekit_OwnPlan l_1).bind fun x_25 =>
      (plan_Check x_25).bind fun (x_26, x_27) =>
      (packhorseref22_Check l_1).bind fun (x_28, x_29) =>
      (plan_Sort x_25).bind fun (x_30, x_31) =>
      (packhorseref22_Sort l_1).bind fun (x_32, x_33) =>
      br (x_26 != x_28)
        (some false)
        (br (x_27 != x_29)
          (some false)
          (br (x_31 != x_33)
            (some false)
            ((packhorsekit_SamePlan (x_30, x_32)).bind fun x_34 =>
            br (!x_34)
              (some false)
              ((packhorsekit_SamePlan (x_25, l_1)).bind fun x_35 =>
              br (!x_35)
                (some false)
                ((iter (σ := Int) (ρ := (Bool) ⊕ (Unit)) (fun i_36 =>
                  br (decide (i_36 < (l_1.length : Int)))
                    ((idx x_25 i_36).bind fun x_37 =>
                    (plan_One x_37).bind fun x_38 =>
                    (idx l_1 i_36).bind fun x_39 =>
                    (packhorseref22_One x_39).bind fun x_40 =>
                    br (x_38 != x_40)
                      (some (.done (.inl false)))
                      ((addI .i64 i_36 (1 : Int)).bind fun x_41 =>
                      some (.next x_41)))
                    (some (.done (.inr ())))) (0 : Int)).bind fun x_44 =>
                Sum.elim
                  (fun x_42 =>
                  some x_42)
                  (fun _ =>
                  (packhorselaw22_awake ()).bind fun x_43 =>
                  some x_43) x_44)))))))
def packhorselaw22_PlanChecks.ann : Ann := (.two .no (.two .no (.two .no (.two .no (.two .no (.two .no (.two .no (.two .no (.two (.two .no (.loop [2, 12, 74, 75, 76, 77, 78, 79, 80, 81, 82, 83, 84, 85, 86, 87, 88, 89, 90] [] [.slot 12 .i64 none] [(.ret, [.slot 2 .bool none]), (.exit 0, [])] .no)) .no)))))))))
set_option maxRecDepth 100000 in
theorem packhorselaw22_PlanChecks.fn : FnT Try.prog 4 [.d .l_Contact] [.bool] packhorselaw22_PlanChecks :=
  FnT.of (X := ctx 0 [packhorselaw22_awake.spec, packhorsekit_OwnPlan.spec, plan_Check.spec, packhorseref22_Check.spec, plan_Sort.spec, packhorseref22_Sort.spec, packhorsekit_SamePlan.spec, plan_One.spec, packhorseref22_One.spec]) Try.mixed packhorselaw22_PlanChecks.ann Try.func4 rfl (by kernel_rfl) (Nat.le_of_ble_eq_true rfl) (fun x => by kernel_rfl)
noncomputable def packhorselaw22_PlanChecks.spec : XSpec Try.prog := XSpec.t 4 [.d .l_Contact] [.bool] packhorselaw22_PlanChecks (by kernel_rfl) packhorselaw22_PlanChecks.fn

end Go.Proofs.Ytgihkmmcddhajaa
