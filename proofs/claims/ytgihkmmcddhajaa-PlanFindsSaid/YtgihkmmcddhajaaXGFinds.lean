import Derived.Test.YtgihkmmcddhajaaPI
import Derived.Test.YtgihkmmcddhajaaX9
import Derived.Test.YtgihkmmcddhajaaChecked
import Derived.KernelRfl
/- What the interpreter makes of functions of the program, printed by xexec.py. -/
namespace Go.Proofs.Ytgihkmmcddhajaa
open Go.X Go.Eng
set_option linter.unusedVariables false
/-- packhorse/packhorsekit.At -/
noncomputable def packhorsekit_At : ((List Int) × Int) → Option Int :=
  fun (l_1, i_2) =>
  br (decide (i_2 < (0 : Int)))
    (some (0 : Int))
    (br (decide ((l_1.length : Int) ≤ i_2))
      (some (0 : Int))
      ((idx l_1 i_2).bind fun x_3 =>
      some x_3))
def packhorsekit_At.ann : Ann := .no
set_option maxRecDepth 100000 in
theorem packhorsekit_At.fn : FnT Try.prog 25 [.d .l_i64, .d .i64] [.i64] packhorsekit_At :=
  FnT.of (X := ctx 0 []) Try.mixed packhorsekit_At.ann Try.func25 rfl (by kernel_rfl) (Nat.le_of_ble_eq_true rfl) (fun x => by kernel_rfl)
noncomputable def packhorsekit_At.spec : XSpec Try.prog := XSpec.t 25 [.d .l_i64, .d .i64] [.i64] packhorsekit_At (by kernel_rfl) packhorsekit_At.fn

/-- packhorse/packhorseref22.asks -/
noncomputable def packhorseref22_asks : ((List Contact) × Int × Int × Int) → Option Int :=
  fun (l_1, a_2, b_3, now_4) =>
  (packhorseref22_Check l_1).bind fun (x_5, x_6) =>
  br (x_5 != (0 : Int))
    (some x_5)
    (br (decide (a_2 < (1 : Int)))
      (some (2 : Int))
      (br (decide ((16 : Int) < a_2))
        (some (2 : Int))
        (br (decide (b_3 < (1 : Int)))
          (some (2 : Int))
          (br (decide ((16 : Int) < b_3))
            (some (2 : Int))
            (br (decide (now_4 < (0 : Int)))
              (some (2 : Int))
              (br (decide ((1099511627776 : Int) < now_4))
                (some (2 : Int))
                (some (0 : Int))))))))
def packhorseref22_asks.ann : Ann := .no
set_option maxRecDepth 100000 in
theorem packhorseref22_asks.fn : FnT Try.prog 50 [.d .l_Contact, .d .i64, .d .i64, .d .i64] [.i64] packhorseref22_asks :=
  FnT.of (X := ctx 0 [packhorseref22_Check.spec]) Try.mixed packhorseref22_asks.ann Try.func50 rfl (by kernel_rfl) (Nat.le_of_ble_eq_true rfl) (fun x => by kernel_rfl)
noncomputable def packhorseref22_asks.spec : XSpec Try.prog := XSpec.t 50 [.d .l_Contact, .d .i64, .d .i64, .d .i64] [.i64] packhorseref22_asks (by kernel_rfl) packhorseref22_asks.fn

/-- packhorse/packhorseref22.Next -/
noncomputable def packhorseref22_Next : ((List Contact) × Int × Int × Int) → Option (Contact × Bool × Int) :=
  fun (l_1, from_2, to_3, now_4) =>
  (packhorseref22_asks (l_1, from_2, to_3, now_4)).bind fun x_5 =>
  br (x_5 != (0 : Int))
    (some ((⟨(0 : Int), (0 : Int), (0 : Int), (0 : Int), (0 : Int), (0 : Int)⟩ : Contact), false, x_5))
    ((iter (σ := Int × Contact) (ρ := (Bool × Int × Contact) ⊕ (Contact)) (fun (i_6, x_7) =>
      br (decide (i_6 < (l_1.length : Int)))
        ((idx l_1 i_6).bind fun x_8 =>
        br (x_8.From == from_2)
          ((idx l_1 i_6).bind fun x_9 =>
          br (x_9.To == to_3)
            ((idx l_1 i_6).bind fun x_10 =>
            br (decide (now_4 < x_10.End))
              ((idx l_1 i_6).bind fun x_11 =>
              some (.done (.inl (true, (0 : Int), x_11))))
              ((addI .i64 i_6 (1 : Int)).bind fun x_12 =>
              some (.next (x_12, x_7))))
            ((addI .i64 i_6 (1 : Int)).bind fun x_13 =>
            some (.next (x_13, x_7))))
          ((addI .i64 i_6 (1 : Int)).bind fun x_14 =>
          some (.next (x_14, x_7))))
        (some (.done (.inr x_7)))) ((0 : Int), (⟨(0 : Int), (0 : Int), (0 : Int), (0 : Int), (0 : Int), (0 : Int)⟩ : Contact))).bind fun x_19 =>
    Sum.elim
      (fun (x_15, x_16, x_17) =>
      some (x_17, x_15, x_16))
      (fun x_18 =>
      some ((⟨(0 : Int), (0 : Int), (0 : Int), (0 : Int), (0 : Int), (0 : Int)⟩ : Contact), false, (0 : Int))) x_19)
def packhorseref22_Next.ann : Ann := (.two .no (.two .no (.two .no (.two (.two .no (.loop [9, 10, 12, 22, 23, 24, 25, 26, 27, 28, 29, 30, 31, 32, 33, 34, 35, 36, 37, 38, 39, 40, 41, 42, 43, 44, 45, 46, 47, 48, 49, 50, 51, 52, 53, 54, 55, 56] [0] [.slot 12 .i64 none, .box 0 .Contact] [(.ret, [.slot 9 .bool none, .slot 10 .i64 none, .box 0 .Contact]), (.exit 0, [.box 0 .Contact])] .no)) .no))))
set_option maxRecDepth 100000 in
theorem packhorseref22_Next.fn : FnT Try.prog 28 [.d .l_Contact, .d .i64, .d .i64, .d .i64] [.Contact, .bool, .i64] packhorseref22_Next :=
  FnT.of (X := ctx 0 [packhorseref22_asks.spec]) Try.mixed packhorseref22_Next.ann Try.func28 rfl (by kernel_rfl) (Nat.le_of_ble_eq_true rfl) (fun x => by kernel_rfl)
noncomputable def packhorseref22_Next.spec : XSpec Try.prog := XSpec.t 28 [.d .l_Contact, .d .i64, .d .i64, .d .i64] [.Contact, .bool, .i64] packhorseref22_Next (by kernel_rfl) packhorseref22_Next.fn

/-- packhorse/packhorseref22.Active -/
noncomputable def packhorseref22_Active : ((List Contact) × Int × Int × Int) → Option (Contact × Bool × Int) :=
  fun (l_1, from_2, to_3, now_4) =>
  (packhorseref22_Next (l_1, from_2, to_3, now_4)).bind fun (x_5, x_6, x_7) =>
  br (!x_6)
    (some ((⟨(0 : Int), (0 : Int), (0 : Int), (0 : Int), (0 : Int), (0 : Int)⟩ : Contact), false, x_7))
    (br (decide (now_4 < x_5.Start))
      (some ((⟨(0 : Int), (0 : Int), (0 : Int), (0 : Int), (0 : Int), (0 : Int)⟩ : Contact), false, x_7))
      (some (x_5, true, (0 : Int))))
def packhorseref22_Active.ann : Ann := .no
set_option maxRecDepth 100000 in
theorem packhorseref22_Active.fn : FnT Try.prog 27 [.d .l_Contact, .d .i64, .d .i64, .d .i64] [.Contact, .bool, .i64] packhorseref22_Active :=
  FnT.of (X := ctx 0 [packhorseref22_Next.spec]) Try.mixed packhorseref22_Active.ann Try.func27 rfl (by kernel_rfl) (Nat.le_of_ble_eq_true rfl) (fun x => by kernel_rfl)
noncomputable def packhorseref22_Active.spec : XSpec Try.prog := XSpec.t 27 [.d .l_Contact, .d .i64, .d .i64, .d .i64] [.Contact, .bool, .i64] packhorseref22_Active (by kernel_rfl) packhorseref22_Active.fn

/-- packhorse/plan.Neighbours -/
noncomputable def plan_Neighbours : ((List Contact) × Int × Int) → Option ((List Int) × Int) :=
  fun (l_1, node_2, now_3) =>
  (plan_asks (l_1, now_3, ([node_2] : List Int))).bind fun x_4 =>
  br (x_4 != (0 : Int))
    (some (([] : List Int), x_4))
    ((iter (σ := (List Int) × Int) (ρ := List Int) (fun (out_5, x_6) =>
      br (decide (x_6 < (l_1.length : Int)))
        ((idx l_1 x_6).bind fun x_7 =>
        br (x_7.From == node_2)
          (br (decide (x_7.Start ≤ now_3))
            (br (decide (now_3 < x_7.End))
              ((app 8 out_5 ([x_7.To] : List Int)).bind fun x_8 =>
              (addI .i64 x_6 (1 : Int)).bind fun x_9 =>
              some (.next (x_8, x_9)))
              ((addI .i64 x_6 (1 : Int)).bind fun x_10 =>
              some (.next (out_5, x_10))))
            ((addI .i64 x_6 (1 : Int)).bind fun x_11 =>
            some (.next (out_5, x_11))))
          ((addI .i64 x_6 (1 : Int)).bind fun x_12 =>
          some (.next (out_5, x_12))))
        (some (.done out_5))) (([] : List Int), (0 : Int))).bind fun out_13 =>
    (srtG slices_Sort_int_int.srt out_13).bind fun x_14 =>
    some (x_14, (0 : Int)))
def plan_Neighbours.ann : Ann := (.two .no (.two .no (.two .no (.two (.two .no (.loop [9, 11, 22, 23, 24, 25, 26, 27, 28, 29, 30, 31, 32, 33, 34, 35, 36, 37, 38, 39, 40, 41, 42, 43, 44, 45, 46, 47] [] [.slot 9 .l_i64 (some (9, 3)), .slot 22 .i64 none] [(.exit 0, [.slot 9 .l_i64 (some (9, 3))])] .no)) .no))))
set_option maxRecDepth 100000 in
theorem plan_Neighbours.fn : FnT Try.prog 29 [.d .l_Contact, .d .i64, .d .i64] [.l_i64, .i64] plan_Neighbours :=
  FnT.of (X := ctxS 0 [plan_asks.spec] [slices_Sort_int_int.sort]) Try.mixed plan_Neighbours.ann Try.func29 rfl (by kernel_rfl) (Nat.le_of_ble_eq_true rfl) (fun x => by kernel_rfl)
noncomputable def plan_Neighbours.spec : XSpec Try.prog := XSpec.t 29 [.d .l_Contact, .d .i64, .d .i64] [.l_i64, .i64] plan_Neighbours (by kernel_rfl) plan_Neighbours.fn

/-- packhorse/packhorseref22.Neighbours -/
noncomputable def packhorseref22_Neighbours : ((List Contact) × Int × Int) → Option ((List Int) × Int) :=
  fun (l_1, node_2, now_3) =>
  (packhorseref22_asks (l_1, node_2, node_2, now_3)).bind fun x_4 =>
  br (x_4 != (0 : Int))
    (some (([] : List Int), x_4))
    ((iter (σ := (List Int) × Int) (ρ := List Int) (fun (out_5, n_6) =>
      br (decide (n_6 ≤ (16 : Int)))
        ((packhorseref22_Active (l_1, node_2, n_6, now_3)).bind fun (x_7, x_8, x_9) =>
        br x_8
          ((app 8 out_5 ([n_6] : List Int)).bind fun x_10 =>
          (addI .i64 n_6 (1 : Int)).bind fun x_11 =>
          some (.next (x_10, x_11)))
          ((addI .i64 n_6 (1 : Int)).bind fun x_12 =>
          some (.next (out_5, x_12))))
        (some (.done out_5))) (([] : List Int), (1 : Int))).bind fun out_13 =>
    some (out_13, (0 : Int)))
def packhorseref22_Neighbours.ann : Ann := (.two .no (.two .no (.two .no (.two .no (.two (.two .no (.loop [9, 10, 11, 12, 13, 22, 23, 24, 25, 26, 27, 28, 29, 30, 31, 32, 33, 34, 35, 36, 37, 38, 39] [] [.slot 9 .l_i64 (some (9, 3)), .slot 10 .i64 none] [(.exit 0, [.slot 9 .l_i64 (some (9, 3))])] .no)) .no)))))
set_option maxRecDepth 100000 in
theorem packhorseref22_Neighbours.fn : FnT Try.prog 30 [.d .l_Contact, .d .i64, .d .i64] [.l_i64, .i64] packhorseref22_Neighbours :=
  FnT.of (X := ctx 0 [packhorseref22_asks.spec, packhorseref22_Active.spec]) Try.mixed packhorseref22_Neighbours.ann Try.func30 rfl (by kernel_rfl) (Nat.le_of_ble_eq_true rfl) (fun x => by kernel_rfl)
noncomputable def packhorseref22_Neighbours.spec : XSpec Try.prog := XSpec.t 30 [.d .l_Contact, .d .i64, .d .i64] [.l_i64, .i64] packhorseref22_Neighbours (by kernel_rfl) packhorseref22_Neighbours.fn

/-- packhorse/packhorseref22.Cut -/
noncomputable def packhorseref22_Cut : ((List Contact) × Int) → Option ((List Contact) × Int) :=
  fun (l_1, now_2) =>
  (packhorseref22_asks (l_1, (1 : Int), (1 : Int), now_2)).bind fun x_3 =>
  br (x_3 != (0 : Int))
    (some (([] : List Contact), x_3))
    ((iter (σ := (List Contact) × Int) (ρ := List Contact) (fun (out_4, i_5) =>
      br (decide (i_5 < (l_1.length : Int)))
        ((idx l_1 i_5).bind fun x_6 =>
        br (decide (now_2 < x_6.End))
          ((packhorseref22_insert (out_4, (⟨x_6.From, x_6.To, max x_6.Start now_2, x_6.End, x_6.Rate, x_6.Delay⟩ : Contact))).bind fun x_7 =>
          (addI .i64 i_5 (1 : Int)).bind fun x_8 =>
          some (.next (x_7, x_8)))
          ((addI .i64 i_5 (1 : Int)).bind fun x_9 =>
          some (.next (out_4, x_9))))
        (some (.done out_4))) (([] : List Contact), (0 : Int))).bind fun out_10 =>
    some (out_10, (0 : Int)))
def packhorseref22_Cut.ann : Ann := (.two .no (.two .no (.two .no (.two .no (.two (.two .no (.loop [7, 8, 9, 16, 17, 18, 19, 20, 21, 22, 23, 24, 25, 26, 27, 28, 29, 30, 31, 32, 33, 34, 35, 36, 37] [] [.slot 7 .l_Contact none, .slot 8 .i64 none] [(.exit 0, [.slot 7 .l_Contact none])] .no)) .no)))))
set_option maxRecDepth 100000 in
theorem packhorseref22_Cut.fn : FnT Try.prog 31 [.d .l_Contact, .d .i64] [.l_Contact, .i64] packhorseref22_Cut :=
  FnT.of (X := ctx 0 [packhorseref22_asks.spec, packhorseref22_insert.spec]) Try.mixed packhorseref22_Cut.ann Try.func31 rfl (by kernel_rfl) (Nat.le_of_ble_eq_true rfl) (fun x => by kernel_rfl)
noncomputable def packhorseref22_Cut.spec : XSpec Try.prog := XSpec.t 31 [.d .l_Contact, .d .i64] [.l_Contact, .i64] packhorseref22_Cut (by kernel_rfl) packhorseref22_Cut.fn

/-- packhorse/packhorsekit.SameInts -/
noncomputable def packhorsekit_SameInts : ((List Int) × (List Int)) → Option Bool :=
  fun (a_1, b_2) =>
  br ((a_1.length : Int) != (b_2.length : Int))
    (some false)
    ((iter (σ := Int) (ρ := (Bool) ⊕ (Unit)) (fun i_3 =>
      br (decide (i_3 < (a_1.length : Int)))
        ((idx a_1 i_3).bind fun x_4 =>
        (idx b_2 i_3).bind fun x_5 =>
        br (x_4 != x_5)
          (some (.done (.inl false)))
          ((addI .i64 i_3 (1 : Int)).bind fun x_6 =>
          some (.next x_6)))
        (some (.done (.inr ())))) (0 : Int)).bind fun x_8 =>
    Sum.elim
      (fun x_7 =>
      some x_7)
      (fun _ =>
      some true) x_8)
def packhorsekit_SameInts.ann : Ann := (.two .no (.two .no (.two (.two .no (.loop [4, 5, 11, 12, 13, 14, 15, 16, 17, 18, 19, 20, 21, 22, 23, 24, 25] [] [.slot 5 .i64 none] [(.ret, [.slot 4 .bool none]), (.exit 0, [])] .no)) .no)))
set_option maxRecDepth 100000 in
theorem packhorsekit_SameInts.fn : FnT Try.prog 32 [.d .l_i64, .d .l_i64] [.bool] packhorsekit_SameInts :=
  FnT.of (X := ctx 0 []) Try.mixed packhorsekit_SameInts.ann Try.func32 rfl (by kernel_rfl) (Nat.le_of_ble_eq_true rfl) (fun x => by kernel_rfl)
noncomputable def packhorsekit_SameInts.spec : XSpec Try.prog := XSpec.t 32 [.d .l_i64, .d .l_i64] [.bool] packhorsekit_SameInts (by kernel_rfl) packhorsekit_SameInts.fn

/-- packhorse/packhorselaw22.PlanFinds -/
noncomputable def packhorselaw22_PlanFinds : ((List Contact) × (List Int)) → Option Bool :=
  fun (l_1, q_2) =>
  br (decide ((60 : Int) < (l_1.length : Int)))
    ((packhorselaw22_awake ()).bind fun x_3 =>
    some x_3)
    ((packhorsekit_At (q_2, (0 : Int))).bind fun x_4 =>
    (packhorsekit_At (q_2, (1 : Int))).bind fun x_5 =>
    (packhorsekit_At (q_2, (2 : Int))).bind fun x_6 =>
    (packhorsekit_OwnPlan l_1).bind fun x_7 =>
    (plan_Active (x_7, x_4, x_5, x_6)).bind fun (x_8, x_9, x_10) =>
    (packhorseref22_Active (l_1, x_4, x_5, x_6)).bind fun (x_11, x_12, x_13) =>
    br (!((x_8.From == x_11.From) && ((x_8.To == x_11.To) && ((x_8.Start == x_11.Start) && ((x_8.End == x_11.End) && ((x_8.Rate == x_11.Rate) && (x_8.Delay == x_11.Delay)))))))
      (some false)
      (br (!(x_9 == x_12))
        (some false)
        (br (x_10 != x_13)
          (some false)
          ((plan_Next (x_7, x_4, x_5, x_6)).bind fun (x_14, x_15, x_16) =>
          (packhorseref22_Next (l_1, x_4, x_5, x_6)).bind fun (x_17, x_18, x_19) =>
          br (!((x_14.From == x_17.From) && ((x_14.To == x_17.To) && ((x_14.Start == x_17.Start) && ((x_14.End == x_17.End) && ((x_14.Rate == x_17.Rate) && (x_14.Delay == x_17.Delay)))))))
            (some false)
            (br (!(x_15 == x_18))
              (some false)
              (br (x_16 != x_19)
                (some false)
                ((plan_Neighbours (x_7, x_4, x_6)).bind fun (x_20, x_21) =>
                (packhorseref22_Neighbours (l_1, x_4, x_6)).bind fun (x_22, x_23) =>
                (plan_Cut (x_7, x_6)).bind fun (x_24, x_25) =>
                (packhorseref22_Cut (l_1, x_6)).bind fun (x_26, x_27) =>
                (packhorsekit_SameInts (x_20, x_22)).bind fun x_28 =>
                br x_28
                  (br (x_21 == x_23)
                    ((packhorsekit_SamePlan (x_24, x_26)).bind fun x_29 =>
                    br x_29
                      (br (x_25 == x_27)
                        ((packhorsekit_SamePlan (x_7, l_1)).bind fun x_30 =>
                        br x_30
                          ((packhorselaw22_awake ()).bind fun x_31 =>
                          some x_31)
                          (some false))
                        (some false))
                      (some false))
                    (some false))
                  (some false))))))))
def packhorselaw22_PlanFinds.ann : Ann := .no
set_option maxRecDepth 100000 in
theorem packhorselaw22_PlanFinds.fn : FnT Try.prog 8 [.d .l_Contact, .d .l_i64] [.bool] packhorselaw22_PlanFinds :=
  FnT.of (X := ctx 0 [packhorselaw22_awake.spec, packhorsekit_At.spec, packhorsekit_OwnPlan.spec, plan_Active.spec, packhorseref22_Active.spec, plan_Next.spec, packhorseref22_Next.spec, plan_Neighbours.spec, packhorseref22_Neighbours.spec, plan_Cut.spec, packhorseref22_Cut.spec, packhorsekit_SameInts.spec, packhorsekit_SamePlan.spec]) Try.mixed packhorselaw22_PlanFinds.ann Try.func8 rfl (by kernel_rfl) (Nat.le_of_ble_eq_true rfl) (fun x => by kernel_rfl)
noncomputable def packhorselaw22_PlanFinds.spec : XSpec Try.prog := XSpec.t 8 [.d .l_Contact, .d .l_i64] [.bool] packhorselaw22_PlanFinds (by kernel_rfl) packhorselaw22_PlanFinds.fn

end Go.Proofs.Ytgihkmmcddhajaa
