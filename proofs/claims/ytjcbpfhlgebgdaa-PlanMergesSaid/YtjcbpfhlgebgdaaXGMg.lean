import Derived.Test.YtjcbpfhlgebgdaaXMg
import Derived.Test.YtjcbpfhlgebgdaaX9
import Derived.Test.YtjcbpfhlgebgdaaChecked
import Derived.KernelRfl
set_option linter.unusedSimpArgs false
set_option linter.unusedVariables false
namespace Go.Proofs.Ytjcbpfhlgebgdaa
open Go.X Go.Eng
noncomputable def packhorsekit_lay : ((List Contact) × Contact) → Option (List Contact) :=
  fun (l_1, c_2) =>
  (iter (σ := Int × Int) (ρ := (List Contact) ⊕ (Int)) (fun (at_3, i_4) =>
    br (decide (i_4 < (l_1.length : Int)))
      ((idx l_1 i_4).bind fun x_5 =>
      br (x_5.From == c_2.From)
        (br (x_5.To == c_2.To)
          (br (decide (x_5.Start < c_2.End))
            (br (decide (c_2.Start < x_5.End))
              (some (.done (.inl l_1)))
              (br (decide (x_5.Start < c_2.Start))
                ((addI .i64 i_4 (1 : Int)).bind fun x_6 =>
                (addI .i64 i_4 (1 : Int)).bind fun x_7 =>
                some (.next (x_6, x_7)))
                (br (x_5.Start == c_2.Start)
                  (br (decide (x_5.From < c_2.From))
                    ((addI .i64 i_4 (1 : Int)).bind fun x_8 =>
                    (addI .i64 i_4 (1 : Int)).bind fun x_9 =>
                    some (.next (x_8, x_9)))
                    (br (x_5.From == c_2.From)
                      (br (decide (x_5.To < c_2.To))
                        ((addI .i64 i_4 (1 : Int)).bind fun x_10 =>
                        (addI .i64 i_4 (1 : Int)).bind fun x_11 =>
                        some (.next (x_10, x_11)))
                        ((addI .i64 i_4 (1 : Int)).bind fun x_12 =>
                        some (.next (at_3, x_12))))
                      ((addI .i64 i_4 (1 : Int)).bind fun x_13 =>
                      some (.next (at_3, x_13)))))
                  ((addI .i64 i_4 (1 : Int)).bind fun x_14 =>
                  some (.next (at_3, x_14))))))
            (br (decide (x_5.Start < c_2.Start))
              ((addI .i64 i_4 (1 : Int)).bind fun x_15 =>
              (addI .i64 i_4 (1 : Int)).bind fun x_16 =>
              some (.next (x_15, x_16)))
              (br (x_5.Start == c_2.Start)
                (br (decide (x_5.From < c_2.From))
                  ((addI .i64 i_4 (1 : Int)).bind fun x_17 =>
                  (addI .i64 i_4 (1 : Int)).bind fun x_18 =>
                  some (.next (x_17, x_18)))
                  (br (x_5.From == c_2.From)
                    (br (decide (x_5.To < c_2.To))
                      ((addI .i64 i_4 (1 : Int)).bind fun x_19 =>
                      (addI .i64 i_4 (1 : Int)).bind fun x_20 =>
                      some (.next (x_19, x_20)))
                      ((addI .i64 i_4 (1 : Int)).bind fun x_21 =>
                      some (.next (at_3, x_21))))
                    ((addI .i64 i_4 (1 : Int)).bind fun x_22 =>
                    some (.next (at_3, x_22)))))
                ((addI .i64 i_4 (1 : Int)).bind fun x_23 =>
                some (.next (at_3, x_23))))))
          (br (decide (x_5.Start < c_2.Start))
            ((addI .i64 i_4 (1 : Int)).bind fun x_24 =>
            (addI .i64 i_4 (1 : Int)).bind fun x_25 =>
            some (.next (x_24, x_25)))
            (br (x_5.Start == c_2.Start)
              (br (decide (x_5.From < c_2.From))
                ((addI .i64 i_4 (1 : Int)).bind fun x_26 =>
                (addI .i64 i_4 (1 : Int)).bind fun x_27 =>
                some (.next (x_26, x_27)))
                (br (x_5.From == c_2.From)
                  (br (decide (x_5.To < c_2.To))
                    ((addI .i64 i_4 (1 : Int)).bind fun x_28 =>
                    (addI .i64 i_4 (1 : Int)).bind fun x_29 =>
                    some (.next (x_28, x_29)))
                    ((addI .i64 i_4 (1 : Int)).bind fun x_30 =>
                    some (.next (at_3, x_30))))
                  ((addI .i64 i_4 (1 : Int)).bind fun x_31 =>
                  some (.next (at_3, x_31)))))
              ((addI .i64 i_4 (1 : Int)).bind fun x_32 =>
              some (.next (at_3, x_32))))))
        (br (decide (x_5.Start < c_2.Start))
          ((addI .i64 i_4 (1 : Int)).bind fun x_33 =>
          (addI .i64 i_4 (1 : Int)).bind fun x_34 =>
          some (.next (x_33, x_34)))
          (br (x_5.Start == c_2.Start)
            (br (decide (x_5.From < c_2.From))
              ((addI .i64 i_4 (1 : Int)).bind fun x_35 =>
              (addI .i64 i_4 (1 : Int)).bind fun x_36 =>
              some (.next (x_35, x_36)))
              (br (x_5.From == c_2.From)
                (br (decide (x_5.To < c_2.To))
                  ((addI .i64 i_4 (1 : Int)).bind fun x_37 =>
                  (addI .i64 i_4 (1 : Int)).bind fun x_38 =>
                  some (.next (x_37, x_38)))
                  ((addI .i64 i_4 (1 : Int)).bind fun x_39 =>
                  some (.next (at_3, x_39))))
                ((addI .i64 i_4 (1 : Int)).bind fun x_40 =>
                some (.next (at_3, x_40)))))
            ((addI .i64 i_4 (1 : Int)).bind fun x_41 =>
            some (.next (at_3, x_41))))))
      (some (.done (.inr at_3)))) ((0 : Int), (0 : Int))).bind fun x_49 =>
  Sum.elim
    (fun x_42 =>
    some x_42)
    (fun at_43 =>
    (slc l_1 (0 : Int) at_43).bind fun x_44 =>
    (app 48 ([] : List Contact) x_44).bind fun x_45 =>
    (app 48 x_45 ([c_2] : List Contact)).bind fun x_46 =>
    (slc l_1 at_43 (l_1.length : Int)).bind fun x_47 =>
    (app 48 x_46 x_47).bind fun x_48 =>
    some x_48) x_49
set_option maxRecDepth 100000 in
noncomputable def packhorsekit_Plan : ((List Int) × Int) → Option (List Contact) :=
  fun (nums_1, most_2) =>
  (iter (σ := (List Contact) × Int) (ρ := List Contact) (fun (out_3, i_4) =>
    br (decide (i_4 < (nums_1.length : Int)))
      (br (decide ((out_3.length : Int) < most_2))
        ((idx nums_1 i_4).bind fun x_5 =>
        (remI x_5 (1048576 : Int)).bind fun x_6 =>
        br (decide (x_6 < (0 : Int)))
          ((addI .i64 x_6 (1048576 : Int)).bind fun x_7 =>
          (remI x_7 (5 : Int)).bind fun x_8 =>
          (addI .i64 (1 : Int) x_8).bind fun x_9 =>
          (quoI .i64 x_7 (5 : Int)).bind fun x_10 =>
          (remI x_10 (5 : Int)).bind fun x_11 =>
          (addI .i64 (1 : Int) x_11).bind fun x_12 =>
          (quoI .i64 x_7 (25 : Int)).bind fun x_13 =>
          (remI x_13 (41 : Int)).bind fun x_14 =>
          (quoI .i64 x_7 (1025 : Int)).bind fun x_15 =>
          (remI x_15 (5 : Int)).bind fun x_16 =>
          (idx ([(1 : Int), (10 : Int), (50 : Int), (100 : Int), (1000 : Int)] : List Int) x_16).bind fun x_17 =>
          (quoI .i64 x_7 (5125 : Int)).bind fun x_18 =>
          (remI x_18 (4 : Int)).bind fun x_19 =>
          (addI .i64 x_14 (1 : Int)).bind fun x_20 =>
          (quoI .i64 x_7 (20500 : Int)).bind fun x_21 =>
          (remI x_21 (30 : Int)).bind fun x_22 =>
          (addI .i64 x_20 x_22).bind fun x_23 =>
          br (x_9 == x_12)
            ((remI x_9 (5 : Int)).bind fun x_24 =>
            (addI .i64 (1 : Int) x_24).bind fun x_25 =>
            (packhorsekit_lay (out_3, (⟨x_9, x_25, x_14, x_23, x_17, x_19⟩ : Contact))).bind fun x_26 =>
            (addI .i64 i_4 (1 : Int)).bind fun x_27 =>
            some (.next (x_26, x_27)))
            ((packhorsekit_lay (out_3, (⟨x_9, x_12, x_14, x_23, x_17, x_19⟩ : Contact))).bind fun x_28 =>
            (addI .i64 i_4 (1 : Int)).bind fun x_29 =>
            some (.next (x_28, x_29))))
          ((remI x_6 (5 : Int)).bind fun x_30 =>
          (addI .i64 (1 : Int) x_30).bind fun x_31 =>
          (quoI .i64 x_6 (5 : Int)).bind fun x_32 =>
          (remI x_32 (5 : Int)).bind fun x_33 =>
          (addI .i64 (1 : Int) x_33).bind fun x_34 =>
          (quoI .i64 x_6 (25 : Int)).bind fun x_35 =>
          (remI x_35 (41 : Int)).bind fun x_36 =>
          (quoI .i64 x_6 (1025 : Int)).bind fun x_37 =>
          (remI x_37 (5 : Int)).bind fun x_38 =>
          (idx ([(1 : Int), (10 : Int), (50 : Int), (100 : Int), (1000 : Int)] : List Int) x_38).bind fun x_39 =>
          (quoI .i64 x_6 (5125 : Int)).bind fun x_40 =>
          (remI x_40 (4 : Int)).bind fun x_41 =>
          (addI .i64 x_36 (1 : Int)).bind fun x_42 =>
          (quoI .i64 x_6 (20500 : Int)).bind fun x_43 =>
          (remI x_43 (30 : Int)).bind fun x_44 =>
          (addI .i64 x_42 x_44).bind fun x_45 =>
          br (x_31 == x_34)
            ((remI x_31 (5 : Int)).bind fun x_46 =>
            (addI .i64 (1 : Int) x_46).bind fun x_47 =>
            (packhorsekit_lay (out_3, (⟨x_31, x_47, x_36, x_45, x_39, x_41⟩ : Contact))).bind fun x_48 =>
            (addI .i64 i_4 (1 : Int)).bind fun x_49 =>
            some (.next (x_48, x_49)))
            ((packhorsekit_lay (out_3, (⟨x_31, x_34, x_36, x_45, x_39, x_41⟩ : Contact))).bind fun x_50 =>
            (addI .i64 i_4 (1 : Int)).bind fun x_51 =>
            some (.next (x_50, x_51)))))
        (some (.done out_3)))
      (some (.done out_3))) (([] : List Contact), (0 : Int))).bind fun out_52 =>
  some out_52
set_option maxRecDepth 100000 in
set_option maxRecDepth 100000 in
noncomputable def packhorsekit_OwnPlan : List Contact → Option (List Contact) :=
  fun l_1 =>
  (app 48 ([] : List Contact) l_1).bind fun x_2 =>
  some x_2
def packhorsekit_OwnPlan.ann : Ann := .no
set_option maxRecDepth 100000 in
theorem packhorsekit_OwnPlan.fn : FnT Try.prog 8 [.d .l_Contact] [.l_Contact] packhorsekit_OwnPlan :=
  FnT.of (X := ctx 0 []) Try.mixed packhorsekit_OwnPlan.ann Try.func8 rfl (by kernel_rfl) (Nat.le_of_ble_eq_true rfl) (fun x => by kernel_rfl)
noncomputable def packhorsekit_OwnPlan.spec : XSpec Try.prog := XSpec.t 8 [.d .l_Contact] [.l_Contact] packhorsekit_OwnPlan (by kernel_rfl) packhorsekit_OwnPlan.fn
noncomputable def plan_asks : ((List Contact) × Int × (List Int)) → Option Int :=
  fun (l_1, now_2, some_3) =>
  (plan_Check l_1).bind fun (x_4, x_5) =>
  br (x_4 != (0 : Int))
    (some x_4)
    ((plan_nodes some_3).bind fun x_6 =>
    br (!x_6)
      (some (2 : Int))
      (br (decide (now_2 < (0 : Int)))
        (some (2 : Int))
        (br (decide ((1099511627776 : Int) < now_2))
          (some (2 : Int))
          (some (0 : Int)))))
def plan_asks.ann : Ann := .no
set_option maxRecDepth 100000 in
theorem plan_asks.fn : FnT Try.prog 30 [.d .l_Contact, .d .i64, .d .l_i64] [.i64] plan_asks :=
  FnT.of (X := ctx 0 [plan_Check.spec, plan_nodes.spec]) Try.mixed plan_asks.ann Try.func30 rfl (by kernel_rfl) (Nat.le_of_ble_eq_true rfl) (fun x => by kernel_rfl)
noncomputable def plan_asks.spec : XSpec Try.prog := XSpec.t 30 [.d .l_Contact, .d .i64, .d .l_i64] [.i64] plan_asks (by kernel_rfl) plan_asks.fn
noncomputable def plan_Next_1 : Contact → (Int × Int × Int) → Option ((Bool) × (Int × Int × Int)) :=
  fun c_1 (x_2, x_3, x_4) =>
  (plan_of c_1).bind fun x_5 =>
  br ((x_5.a == x_2) && (x_5.b == x_3))
    (some (decide (x_4 < c_1.End), (x_2, x_3, x_4)))
    (some (false, (x_2, x_3, x_4)))
def plan_Next_1.ann : Ann := .no
set_option maxRecDepth 100000 in
theorem plan_Next_1.fn : FnB Try.prog 32 [.d .Contact, .l 0 0, .l 1 0, .l 2 0] [(.i64, 3), (.i64, 3), (.i64, 3)] [.bool] plan_Next_1 :=
  FnB.of (X := ctx 0 [plan_of.spec]) Try.mixed plan_Next_1.ann Try.func32 rfl (by kernel_rfl) (Nat.le_of_ble_eq_true rfl) (fun x y => by kernel_rfl)
noncomputable def plan_Next_1.spec : XSpec Try.prog := XSpec.b 32 [.d .Contact, .l 0 0, .l 1 0, .l 2 0] [(.i64, 3), (.i64, 3), (.i64, 3)] [.bool] plan_Next_1 (by kernel_rfl) plan_Next_1.fn
noncomputable def slices_IndexFunc_f32 : List Contact → (Int × Int × Int) → Option ((Int) × (Int × Int × Int)) :=
  fun s_1 (x_2, x_3, x_4) =>
  (iter (σ := Int × Int × Int × Int) (ρ := (Int × Int × Int × Int) ⊕ (Int × Int × Int)) (fun (x_5, x_6, x_7, x_8) =>
    br (decide (x_5 < (s_1.length : Int)))
      ((idx s_1 x_5).bind fun x_9 =>
      (plan_Next_1 x_9 (x_6, x_7, x_8)).bind fun (x_10, (x_11, x_12, x_13)) =>
      br x_10
        (some (.done (.inl (x_5, x_11, x_12, x_13))))
        ((addI .i64 x_5 (1 : Int)).bind fun x_14 =>
        some (.next (x_14, x_11, x_12, x_13))))
      (some (.done (.inr (x_6, x_7, x_8))))) ((0 : Int), x_2, x_3, x_4)).bind fun x_22 =>
  Sum.elim
    (fun (x_15, x_16, x_17, x_18) =>
    some (x_15, (x_16, x_17, x_18)))
    (fun (x_19, x_20, x_21) =>
    some ((-1 : Int), (x_19, x_20, x_21))) x_22
def slices_IndexFunc_f32.ann : Ann := (.two .no (.two (.two .no (.loop [4, 5, 8, 9, 10, 11, 12, 13, 14, 15, 16, 17, 18] [0, 1, 2] [.slot 8 .i64 none, .box 0 .i64, .box 1 .i64, .box 2 .i64] [(.ret, [.slot 4 .i64 none, .box 0 .i64, .box 1 .i64, .box 2 .i64]), (.exit 0, [.box 0 .i64, .box 1 .i64, .box 2 .i64])] .no)) .no))
set_option maxRecDepth 100000 in
theorem slices_IndexFunc_f32.fn : FnB Try.prog 31 [.d .l_Contact, .f 32 [0, 1, 2]] [(.i64, 3), (.i64, 3), (.i64, 3)] [.i64] slices_IndexFunc_f32 :=
  FnB.of (X := ctx 0 [plan_Next_1.spec]) Try.mixed slices_IndexFunc_f32.ann Try.func31 rfl (by kernel_rfl) (Nat.le_of_ble_eq_true rfl) (fun x y => by kernel_rfl)
noncomputable def slices_IndexFunc_f32.spec : XSpec Try.prog := XSpec.b 31 [.d .l_Contact, .f 32 [0, 1, 2]] [(.i64, 3), (.i64, 3), (.i64, 3)] [.i64] slices_IndexFunc_f32 (by kernel_rfl) slices_IndexFunc_f32.fn
noncomputable def plan_Next : ((List Contact) × Int × Int × Int) → Option (Contact × Bool × Int) :=
  fun (l_1, from_2, to_3, now_4) =>
  (plan_asks (l_1, now_4, ([from_2, to_3] : List Int))).bind fun x_5 =>
  br (x_5 != (0 : Int))
    (some ((⟨(0 : Int), (0 : Int), (0 : Int), (0 : Int), (0 : Int), (0 : Int)⟩ : Contact), false, x_5))
    ((slices_IndexFunc_f32 l_1 (from_2, to_3, now_4)).bind fun (x_6, (x_7, x_8, x_9)) =>
    br (decide (x_6 < (0 : Int)))
      (some ((⟨(0 : Int), (0 : Int), (0 : Int), (0 : Int), (0 : Int), (0 : Int)⟩ : Contact), false, (0 : Int)))
      ((idx l_1 x_6).bind fun x_10 =>
      some (x_10, true, (0 : Int))))
def plan_Next.ann : Ann := .no
set_option maxRecDepth 100000 in
theorem plan_Next.fn : FnT Try.prog 14 [.d .l_Contact, .d .i64, .d .i64, .d .i64] [.Contact, .bool, .i64] plan_Next :=
  FnT.of (X := ctx 0 [plan_asks.spec, slices_IndexFunc_f32.spec]) Try.mixed plan_Next.ann Try.func14 rfl (by kernel_rfl) (Nat.le_of_ble_eq_true rfl) (fun x => by kernel_rfl)
noncomputable def plan_Next.spec : XSpec Try.prog := XSpec.t 14 [.d .l_Contact, .d .i64, .d .i64, .d .i64] [.Contact, .bool, .i64] plan_Next (by kernel_rfl) plan_Next.fn
noncomputable def plan_Active : ((List Contact) × Int × Int × Int) → Option (Contact × Bool × Int) :=
  fun (l_1, from_2, to_3, now_4) =>
  (plan_Next (l_1, from_2, to_3, now_4)).bind fun (x_5, x_6, x_7) =>
  br (!x_6)
    (some ((⟨(0 : Int), (0 : Int), (0 : Int), (0 : Int), (0 : Int), (0 : Int)⟩ : Contact), false, x_7))
    (br (decide (now_4 < x_5.Start))
      (some ((⟨(0 : Int), (0 : Int), (0 : Int), (0 : Int), (0 : Int), (0 : Int)⟩ : Contact), false, x_7))
      (some (x_5, true, (0 : Int))))
def plan_Active.ann : Ann := .no
set_option maxRecDepth 100000 in
theorem plan_Active.fn : FnT Try.prog 18 [.d .l_Contact, .d .i64, .d .i64, .d .i64] [.Contact, .bool, .i64] plan_Active :=
  FnT.of (X := ctx 0 [plan_Next.spec]) Try.mixed plan_Active.ann Try.func18 rfl (by kernel_rfl) (Nat.le_of_ble_eq_true rfl) (fun x => by kernel_rfl)
noncomputable def plan_Active.spec : XSpec Try.prog := XSpec.t 18 [.d .l_Contact, .d .i64, .d .i64, .d .i64] [.Contact, .bool, .i64] plan_Active (by kernel_rfl) plan_Active.fn
set_option maxRecDepth 100000 in
noncomputable def packhorselaw22_c : (Int × Int × Int × Int × Int) → Option Contact :=
  fun (from_1, to_2, start_3, end_4, rate_5) =>
  some (⟨from_1, to_2, start_3, end_4, rate_5, (0 : Int)⟩ : Contact)
def packhorselaw22_c.ann : Ann := .no
set_option maxRecDepth 100000 in
theorem packhorselaw22_c.fn : FnT Try.prog 17 [.d .i64, .d .i64, .d .i64, .d .i64, .d .i64] [.Contact] packhorselaw22_c :=
  FnT.of (X := ctx 0 []) Try.mixed packhorselaw22_c.ann Try.func17 rfl (by kernel_rfl) (Nat.le_of_ble_eq_true rfl) (fun x => by kernel_rfl)
noncomputable def packhorselaw22_c.spec : XSpec Try.prog := XSpec.t 17 [.d .i64, .d .i64, .d .i64, .d .i64, .d .i64] [.Contact] packhorselaw22_c (by kernel_rfl) packhorselaw22_c.fn
noncomputable def packhorselaw22_example : Unit → Option (List Contact) :=
  fun _ =>
  (packhorselaw22_c ((1 : Int), (2 : Int), (0 : Int), (10 : Int), (5 : Int))).bind fun x_1 =>
  (packhorselaw22_c ((2 : Int), (1 : Int), (0 : Int), (10 : Int), (5 : Int))).bind fun x_2 =>
  (packhorselaw22_c ((1 : Int), (2 : Int), (10 : Int), (20 : Int), (5 : Int))).bind fun x_3 =>
  some ([x_1, x_2, x_3] : List Contact)
def packhorselaw22_example.ann : Ann := .no
set_option maxRecDepth 100000 in
theorem packhorselaw22_example.fn : FnT Try.prog 19 [] [.l_Contact] packhorselaw22_example :=
  FnT.of (X := ctx 0 [packhorselaw22_c.spec]) Try.mixed packhorselaw22_example.ann Try.func19 rfl (by kernel_rfl) (Nat.le_of_ble_eq_true rfl) (fun x => by kernel_rfl)
noncomputable def packhorselaw22_example.spec : XSpec Try.prog := XSpec.t 19 [] [.l_Contact] packhorselaw22_example (by kernel_rfl) packhorselaw22_example.fn
noncomputable def packhorselaw22_awake : Unit → Option Bool :=
  fun _ =>
  (packhorselaw22_c ((1 : Int), (2 : Int), (0 : Int), (10 : Int), (5 : Int))).bind fun x_1 =>
  (packhorselaw22_c ((1 : Int), (2 : Int), (9 : Int), (20 : Int), (5 : Int))).bind fun x_2 =>
  (plan_Check ([x_1, x_2] : List Contact)).bind fun (x_3, x_4) =>
  (packhorselaw22_example ()).bind fun x_5 =>
  (plan_Active (x_5, (1 : Int), (2 : Int), (10 : Int))).bind fun (x_6, x_7, x_8) =>
  br (x_3 == (12 : Int))
    (br (x_4 == (1 : Int))
      (br (x_8 == (0 : Int))
        (br x_7
          ((packhorselaw22_example ()).bind fun x_9 =>
          (idx x_9 (2 : Int)).bind fun x_10 =>
          some ((x_6.From == x_10.From) && ((x_6.To == x_10.To) && ((x_6.Start == x_10.Start) && ((x_6.End == x_10.End) && ((x_6.Rate == x_10.Rate) && (x_6.Delay == x_10.Delay)))))))
          (some false))
        (some false))
      (some false))
    (some false)
def packhorselaw22_awake.ann : Ann := .no
set_option maxRecDepth 100000 in
theorem packhorselaw22_awake.fn : FnT Try.prog 6 [] [.bool] packhorselaw22_awake :=
  FnT.of (X := ctx 0 [packhorselaw22_c.spec, plan_Check.spec, packhorselaw22_example.spec, plan_Active.spec]) Try.mixed packhorselaw22_awake.ann Try.func6 rfl (by kernel_rfl) (Nat.le_of_ble_eq_true rfl) (fun x => by kernel_rfl)
noncomputable def packhorselaw22_awake.spec : XSpec Try.prog := XSpec.t 6 [] [.bool] packhorselaw22_awake (by kernel_rfl) packhorselaw22_awake.fn
set_option maxRecDepth 100000 in
set_option maxRecDepth 100000 in
set_option maxRecDepth 100000 in
set_option maxRecDepth 100000 in
noncomputable def packhorsekit_SamePlan : ((List Contact) × (List Contact)) → Option Bool :=
  fun (a_1, b_2) =>
  br ((a_1.length : Int) != (b_2.length : Int))
    (some false)
    ((iter (σ := Int) (ρ := (Bool) ⊕ (Unit)) (fun i_3 =>
      br (decide (i_3 < (a_1.length : Int)))
        ((idx a_1 i_3).bind fun x_4 =>
        (idx b_2 i_3).bind fun x_5 =>
        br (!((x_4.From == x_5.From) && ((x_4.To == x_5.To) && ((x_4.Start == x_5.Start) && ((x_4.End == x_5.End) && ((x_4.Rate == x_5.Rate) && (x_4.Delay == x_5.Delay)))))))
          (some (.done (.inl false)))
          ((addI .i64 i_3 (1 : Int)).bind fun x_6 =>
          some (.next x_6)))
        (some (.done (.inr ())))) (0 : Int)).bind fun x_8 =>
    Sum.elim
      (fun x_7 =>
      some x_7)
      (fun _ =>
      some true) x_8)
def packhorsekit_SamePlan.ann : Ann := (.two .no (.two .no (.two (.two .no (.loop [4, 5, 11, 12, 13, 14, 15, 16, 17, 18, 19, 20, 21, 22, 23, 24, 25] [] [.slot 5 .i64 none] [(.ret, [.slot 4 .bool none]), (.exit 0, [])] .no)) .no)))
set_option maxRecDepth 100000 in
theorem packhorsekit_SamePlan.fn : FnT Try.prog 10 [.d .l_Contact, .d .l_Contact] [.bool] packhorsekit_SamePlan :=
  FnT.of (X := ctx 0 []) Try.mixed packhorsekit_SamePlan.ann Try.func10 rfl (by kernel_rfl) (Nat.le_of_ble_eq_true rfl) (fun x => by kernel_rfl)
noncomputable def packhorsekit_SamePlan.spec : XSpec Try.prog := XSpec.t 10 [.d .l_Contact, .d .l_Contact] [.bool] packhorsekit_SamePlan (by kernel_rfl) packhorsekit_SamePlan.fn
set_option maxRecDepth 100000 in
noncomputable def packhorseref22_One : Contact → Option Int :=
  fun c_1 =>
  br (decide (c_1.From < (1 : Int)))
    (some (2 : Int))
    (br (decide ((16 : Int) < c_1.From))
      (some (2 : Int))
      (br (decide (c_1.To < (1 : Int)))
        (some (2 : Int))
        (br (decide ((16 : Int) < c_1.To))
          (some (2 : Int))
          (br (c_1.From == c_1.To)
            (some (2 : Int))
            (br (decide (c_1.Start < (0 : Int)))
              (some (2 : Int))
              (br (decide (c_1.End ≤ c_1.Start))
                (some (2 : Int))
                (br (decide ((1099511627776 : Int) < c_1.End))
                  (some (2 : Int))
                  (br (decide (c_1.Rate < (1 : Int)))
                    (some (2 : Int))
                    (br (decide ((1048576 : Int) < c_1.Rate))
                      (some (2 : Int))
                      (br (decide (c_1.Delay < (0 : Int)))
                        (some (2 : Int))
                        (br (decide ((1048576 : Int) < c_1.Delay))
                          (some (2 : Int))
                          (some (0 : Int)))))))))))))
def packhorseref22_One.ann : Ann := .no
set_option maxRecDepth 100000 in
theorem packhorseref22_One.fn : FnT Try.prog 40 [.d .Contact] [.i64] packhorseref22_One :=
  FnT.of (X := ctx 0 []) Try.mixed packhorseref22_One.ann Try.func40 rfl (by kernel_rfl) (Nat.le_of_ble_eq_true rfl) (fun x => by kernel_rfl)
noncomputable def packhorseref22_One.spec : XSpec Try.prog := XSpec.t 40 [.d .Contact] [.i64] packhorseref22_One (by kernel_rfl) packhorseref22_One.fn
noncomputable def packhorseref22_before : (Contact × Contact) → Option Bool :=
  fun (a_1, b_2) =>
  br (a_1.Start != b_2.Start)
    (some (decide (a_1.Start < b_2.Start)))
    (br (a_1.From != b_2.From)
      (some (decide (a_1.From < b_2.From)))
      (some (decide (a_1.To < b_2.To))))
def packhorseref22_before.ann : Ann := .no
set_option maxRecDepth 100000 in
theorem packhorseref22_before.fn : FnT Try.prog 41 [.d .Contact, .d .Contact] [.bool] packhorseref22_before :=
  FnT.of (X := ctx 0 []) Try.mixed packhorseref22_before.ann Try.func41 rfl (by kernel_rfl) (Nat.le_of_ble_eq_true rfl) (fun x => by kernel_rfl)
noncomputable def packhorseref22_before.spec : XSpec Try.prog := XSpec.t 41 [.d .Contact, .d .Contact] [.bool] packhorseref22_before (by kernel_rfl) packhorseref22_before.fn
noncomputable def packhorseref22_pair : (Contact × Contact) → Option Bool :=
  fun (a_1, b_2) =>
  br (a_1.From == b_2.From)
    (some (a_1.To == b_2.To))
    (some false)
def packhorseref22_pair.ann : Ann := .no
set_option maxRecDepth 100000 in
theorem packhorseref22_pair.fn : FnT Try.prog 27 [.d .Contact, .d .Contact] [.bool] packhorseref22_pair :=
  FnT.of (X := ctx 0 []) Try.mixed packhorseref22_pair.ann Try.func27 rfl (by kernel_rfl) (Nat.le_of_ble_eq_true rfl) (fun x => by kernel_rfl)
noncomputable def packhorseref22_pair.spec : XSpec Try.prog := XSpec.t 27 [.d .Contact, .d .Contact] [.bool] packhorseref22_pair (by kernel_rfl) packhorseref22_pair.fn
noncomputable def packhorseref22_Check : List Contact → Option (Int × Int) :=
  fun l_1 =>
  br (decide ((200 : Int) < (l_1.length : Int)))
    (some ((5 : Int), (0 : Int)))
    ((iter (σ := Int) (ρ := (Int × Int) ⊕ (Unit)) (fun i_2 =>
      br (decide (i_2 < (l_1.length : Int)))
        ((idx l_1 i_2).bind fun x_3 =>
        (packhorseref22_One x_3).bind fun x_4 =>
        br (x_4 != (0 : Int))
          (some (.done (.inl ((2 : Int), i_2))))
          (br (decide ((0 : Int) < i_2))
            ((subI .i64 i_2 (1 : Int)).bind fun x_5 =>
            (idx l_1 x_5).bind fun x_6 =>
            (idx l_1 i_2).bind fun x_7 =>
            (packhorseref22_before (x_6, x_7)).bind fun x_8 =>
            br (!x_8)
              (some (.done (.inl ((19 : Int), i_2))))
              ((iter (σ := Int) (ρ := (Int × Int) ⊕ (Unit)) (fun k_9 =>
                br (decide (k_9 < i_2))
                  ((idx l_1 k_9).bind fun x_10 =>
                  (idx l_1 i_2).bind fun x_11 =>
                  (packhorseref22_pair (x_10, x_11)).bind fun x_12 =>
                  br x_12
                    ((idx l_1 k_9).bind fun x_13 =>
                    (idx l_1 i_2).bind fun x_14 =>
                    br (decide (x_14.Start < x_13.End))
                      (some (.done (.inl ((12 : Int), i_2))))
                      ((addI .i64 k_9 (1 : Int)).bind fun x_15 =>
                      some (.next x_15)))
                    ((addI .i64 k_9 (1 : Int)).bind fun x_16 =>
                    some (.next x_16)))
                  (some (.done (.inr ())))) (0 : Int)).bind fun x_20 =>
              Sum.elim
                (fun (x_17, x_18) =>
                some (.done (.inl (x_17, x_18))))
                (fun _ =>
                (addI .i64 i_2 (1 : Int)).bind fun x_19 =>
                some (.next x_19)) x_20))
            ((iter (σ := Int) (ρ := (Int × Int) ⊕ (Unit)) (fun k_21 =>
              br (decide (k_21 < i_2))
                ((idx l_1 k_21).bind fun x_22 =>
                (idx l_1 i_2).bind fun x_23 =>
                (packhorseref22_pair (x_22, x_23)).bind fun x_24 =>
                br x_24
                  ((idx l_1 k_21).bind fun x_25 =>
                  (idx l_1 i_2).bind fun x_26 =>
                  br (decide (x_26.Start < x_25.End))
                    (some (.done (.inl ((12 : Int), i_2))))
                    ((addI .i64 k_21 (1 : Int)).bind fun x_27 =>
                    some (.next x_27)))
                  ((addI .i64 k_21 (1 : Int)).bind fun x_28 =>
                  some (.next x_28)))
                (some (.done (.inr ())))) (0 : Int)).bind fun x_32 =>
            Sum.elim
              (fun (x_29, x_30) =>
              some (.done (.inl (x_29, x_30))))
              (fun _ =>
              (addI .i64 i_2 (1 : Int)).bind fun x_31 =>
              some (.next x_31)) x_32)))
        (some (.done (.inr ())))) (0 : Int)).bind fun x_35 =>
    Sum.elim
      (fun (x_33, x_34) =>
      some (x_33, x_34))
      (fun _ =>
      some ((0 : Int), (0 : Int))) x_35)
def packhorseref22_Check.ann : Ann := (.two .no (.two .no (.two (.two .no (.loop [2, 3, 4, 5, 9, 10, 11, 12, 13, 14, 15, 16, 17, 18, 19, 20, 21, 22, 23, 24, 25, 26, 27, 28, 29, 30, 31, 32, 33, 34, 35, 36, 37, 38, 39, 40, 41, 42, 43, 44, 45, 46, 47, 48, 49, 50, 51, 52, 53, 54, 55, 56, 57, 58, 59, 60, 61, 62, 63, 64, 65] [] [.slot 4 .i64 none] [(.ret, [.slot 2 .i64 none, .slot 3 .i64 none]), (.exit 0, [])] (.two .no (.two (.two .no (.two .no (.two .no (.loop [2, 3, 5, 38, 39, 40, 41, 42, 43, 44, 45, 46, 47, 48, 49, 50, 51, 52, 53, 54, 55, 56, 57, 58, 59, 60, 61, 62, 63, 64, 65] [] [.slot 5 .i64 none] [(.ret, [.slot 2 .i64 none, .slot 3 .i64 none]), (.exit 2, [])] .no)))) .no)))) .no)))
set_option maxRecDepth 100000 in
theorem packhorseref22_Check.fn : FnT Try.prog 25 [.d .l_Contact] [.i64, .i64] packhorseref22_Check :=
  FnT.of (X := ctx 0 [packhorseref22_One.spec, packhorseref22_before.spec, packhorseref22_pair.spec]) Try.mixed packhorseref22_Check.ann Try.func25 rfl (by kernel_rfl) (Nat.le_of_ble_eq_true rfl) (fun x => by kernel_rfl)
noncomputable def packhorseref22_Check.spec : XSpec Try.prog := XSpec.t 25 [.d .l_Contact] [.i64, .i64] packhorseref22_Check (by kernel_rfl) packhorseref22_Check.fn
noncomputable def packhorseref22_insert : ((List Contact) × Contact) → Option (List Contact) :=
  fun (l_1, c_2) =>
  (iter (σ := Int) (ρ := Int) (fun at_3 =>
    br (decide ((0 : Int) < at_3))
      ((subI .i64 at_3 (1 : Int)).bind fun x_4 =>
      (idx l_1 x_4).bind fun x_5 =>
      (packhorseref22_before (c_2, x_5)).bind fun x_6 =>
      br x_6
        ((subI .i64 at_3 (1 : Int)).bind fun x_7 =>
        some (.next x_7))
        (some (.done at_3)))
      (some (.done at_3))) (l_1.length : Int)).bind fun at_8 =>
  (slc l_1 (0 : Int) at_8).bind fun x_9 =>
  (app 48 ([] : List Contact) x_9).bind fun x_10 =>
  (app 48 x_10 ([c_2] : List Contact)).bind fun x_11 =>
  (slc l_1 at_8 (l_1.length : Int)).bind fun x_12 =>
  (app 48 x_11 x_12).bind fun x_13 =>
  some x_13
def packhorseref22_insert.ann : Ann := (.two .no (.two .no (.two (.loop [5, 8, 9, 10, 11, 12, 13, 14, 15, 16, 17, 18, 19, 20] [] [.slot 5 .i64 none] [(.exit 0, [.slot 5 .i64 none])] .no) .no)))
set_option maxRecDepth 100000 in
theorem packhorseref22_insert.fn : FnT Try.prog 42 [.d .l_Contact, .d .Contact] [.l_Contact] packhorseref22_insert :=
  FnT.of (X := ctx 0 [packhorseref22_before.spec]) Try.mixed packhorseref22_insert.ann Try.func42 rfl (by kernel_rfl) (Nat.le_of_ble_eq_true rfl) (fun x => by kernel_rfl)
noncomputable def packhorseref22_insert.spec : XSpec Try.prog := XSpec.t 42 [.d .l_Contact, .d .Contact] [.l_Contact] packhorseref22_insert (by kernel_rfl) packhorseref22_insert.fn
noncomputable def packhorseref22_Sort : List Contact → Option ((List Contact) × Int) :=
  fun l_1 =>
  br (decide ((200 : Int) < (l_1.length : Int)))
    (some (([] : List Contact), (5 : Int)))
    ((iter (σ := (List Contact) × Int) (ρ := ((List Contact) × Int) ⊕ (List Contact)) (fun (out_2, i_3) =>
      br (decide (i_3 < (l_1.length : Int)))
        ((idx l_1 i_3).bind fun x_4 =>
        (packhorseref22_One x_4).bind fun x_5 =>
        br (x_5 != (0 : Int))
          (some (.done (.inl (([] : List Contact), (2 : Int)))))
          ((idx l_1 i_3).bind fun x_6 =>
          (packhorseref22_insert (out_2, x_6)).bind fun x_7 =>
          (addI .i64 i_3 (1 : Int)).bind fun x_8 =>
          some (.next (x_7, x_8))))
        (some (.done (.inr out_2)))) (([] : List Contact), (0 : Int))).bind fun x_28 =>
    Sum.elim
      (fun (x_9, x_10) =>
      some (x_9, x_10))
      (fun out_11 =>
      (iter (σ := Int) (ρ := ((List Contact) × Int) ⊕ (Unit)) (fun i_12 =>
        br (decide (i_12 < (out_11.length : Int)))
          ((iter (σ := Int) (ρ := ((List Contact) × Int) ⊕ (Unit)) (fun k_13 =>
            br (decide (k_13 < i_12))
              ((idx out_11 k_13).bind fun x_14 =>
              (idx out_11 i_12).bind fun x_15 =>
              (packhorseref22_pair (x_14, x_15)).bind fun x_16 =>
              br x_16
                ((idx out_11 k_13).bind fun x_17 =>
                (idx out_11 i_12).bind fun x_18 =>
                br (decide (x_18.Start < x_17.End))
                  (some (.done (.inl (([] : List Contact), (12 : Int)))))
                  ((addI .i64 k_13 (1 : Int)).bind fun x_19 =>
                  some (.next x_19)))
                ((addI .i64 k_13 (1 : Int)).bind fun x_20 =>
                some (.next x_20)))
              (some (.done (.inr ())))) (0 : Int)).bind fun x_24 =>
          Sum.elim
            (fun (x_21, x_22) =>
            some (.done (.inl (x_21, x_22))))
            (fun _ =>
            (addI .i64 i_12 (1 : Int)).bind fun x_23 =>
            some (.next x_23)) x_24)
          (some (.done (.inr ())))) (0 : Int)).bind fun x_27 =>
      Sum.elim
        (fun (x_25, x_26) =>
        some (x_25, x_26))
        (fun _ =>
        some (out_11, (0 : Int))) x_27) x_28)
def packhorseref22_Sort.ann : Ann := (.two .no (.two .no (.two .no (.two (.two .no (.loop [2, 3, 4, 5, 11, 12, 13, 14, 15, 16, 17, 18, 19, 20, 21, 22, 23, 24, 25, 26, 27, 28] [] [.slot 4 .l_Contact none, .slot 5 .i64 none] [(.ret, [.slot 2 .l_Contact (some (2, 35)), .slot 3 .i64 none]), (.exit 0, [.slot 4 .l_Contact none])] .no)) (.two (.two .no (.loop [2, 3, 6, 7, 29, 30, 31, 32, 33, 34, 35, 36, 37, 38, 39, 40, 41, 42, 43, 44, 45, 46, 47, 48, 49, 50, 51, 52, 53, 54, 55, 56, 57, 58, 59, 60, 61] [] [.slot 6 .i64 none] [(.ret, [.slot 2 .l_Contact (some (2, 35)), .slot 3 .i64 none]), (.exit 2, [])] (.two .no (.two (.two .no (.loop [2, 3, 7, 35, 36, 37, 38, 39, 40, 41, 42, 43, 44, 45, 46, 47, 48, 49, 50, 51, 52, 53, 54, 55, 56, 57, 58, 59, 60, 61] [] [.slot 7 .i64 none] [(.ret, [.slot 2 .l_Contact (some (2, 35)), .slot 3 .i64 none]), (.exit 4, [])] .no)) .no)))) .no)))))
set_option maxRecDepth 100000 in
theorem packhorseref22_Sort.fn : FnT Try.prog 28 [.d .l_Contact] [.l_Contact, .i64] packhorseref22_Sort :=
  FnT.of (X := ctx 0 [packhorseref22_One.spec, packhorseref22_insert.spec, packhorseref22_pair.spec]) Try.mixed packhorseref22_Sort.ann Try.func28 rfl (by kernel_rfl) (Nat.le_of_ble_eq_true rfl) (fun x => by kernel_rfl)
noncomputable def packhorseref22_Sort.spec : XSpec Try.prog := XSpec.t 28 [.d .l_Contact] [.l_Contact, .i64] packhorseref22_Sort (by kernel_rfl) packhorseref22_Sort.fn
noncomputable def packhorselaw22_active : ((List Contact) × Int × Int × Int) → Option (Bool × Int × Int) :=
  fun (l_1, from_2, to_3, now_4) =>
  (plan_Active (l_1, from_2, to_3, now_4)).bind fun (x_5, x_6, x_7) =>
  some (x_6, x_5.Rate, x_7)
end Go.Proofs.Ytjcbpfhlgebgdaa
