import Derived.Test.YtecpknddocikaaaGreatDoorPSo
import Derived.Test.YtecpknddocikaaaGreatDoorX9
import Derived.Test.YtecpknddocikaaaGreatDoorChecked
import Derived.KernelRfl
set_option linter.unusedSimpArgs false
set_option linter.unusedVariables false
namespace Go.Proofs.YtecpknddocikaaaGreatDoor
open Go.X Go.Eng
def keyB (t : TypeId) : Bool := false
theorem keyB_ok (t : TypeId) (h : keyB t = true) : Go.Eng.KeyT Tryz.prog t := Bool.noConfusion h
def codes : List (Option C) := [none, none, some .i64, some .i64, some .bool, some .u8, some .u8, none, none, some .str, some .str, some .str, some .u64, none, none, none, none, none, none, none, none, some .i32, some .l_EID, none, none, some .i64, none, none, none, none, some .l_i64, none, none, none, none, none, none, none, none, some .EID, some .EID, none, none, none, some .a17_bool, some .a17_bool, none, some .l_str, none, none, none, none, none, some .l_bool, none, none, some .Fault, some .Fault, none, none, none, none, none, none, none, some .l_u8, none, none, none, none, none, none, none, none, none, none, some .u64, none, none, none, some .Cursor, some .Cursor, none, none, none, none, none, none, some .i64, none, none, none, none, none, none, none, none, some .u32, none, some .u64, none, none, none, none, none, none, none, none, none, none, none, some .u64, none, none, none, none, none, none, none, none, none, none, none, none, none, none, none, none, none, none, none, none, none, none, none, none, none, none, none, none, none, none, none, none, none, none, none, none, none, none, none, none, none, none, none, none, none, some .u8, some .u8, none, some .i32, some .i32, none, none]
noncomputable def ctx (wr : Nat) (l : List (XSpec Tryz.prog)) : XCtx Tryz.prog := { code := fun t => (codes[t]?).getD none, wr := wr, key := keyB, keyed := keyB_ok, known := l }
noncomputable def ctxS (wr : Nat) (l : List (XSpec Tryz.prog)) (s : List (XSort Tryz.prog)) : XCtx Tryz.prog := { code := fun t => (codes[t]?).getD none, wr := wr, key := keyB, keyed := keyB_ok, known := l, sorts := s }
noncomputable def ctxO (wr : Nat) (l : List (XSpec Tryz.prog)) (s : List (XSort Tryz.prog)) (w : List (XOwn Tryz.prog)) : XCtx Tryz.prog := { code := fun t => (codes[t]?).getD none, wr := wr, key := keyB, keyed := keyB_ok, known := l, sorts := s, owned := w }
noncomputable def ctxM (wr : Nat) (l : List (XSpec Tryz.prog)) (s : List (XSort Tryz.prog)) (w : List (XOwn Tryz.prog)) (u : List (XMut Tryz.prog)) : XCtx Tryz.prog := { code := fun t => (codes[t]?).getD none, wr := wr, key := keyB, keyed := keyB_ok, known := l, sorts := s, owned := w, muts := u }
noncomputable def eid_Check : EID → Option Int :=
 fun e_1 =>
 br (decide (e_1.Low < (1 : Int)))
  (some (2 : Int))
  (br (decide (e_1.High < e_1.Low))
   (some (2 : Int))
   (br (decide ((16 : Int) < e_1.High))
    (some (2 : Int))
    (br (decide (e_1.Service < (-1 : Int)))
     (some (2 : Int))
     (br (decide ((999 : Int) < e_1.Service))
      (some (2 : Int))
      (some (0 : Int))))))
def eid_Check.ann : Ann := .no
set_option maxRecDepth 100000 in
theorem eid_Check.fn : FnT Tryz.prog 33 [.d .EID] [.i64] eid_Check :=
 FnT.of (X := ctx 0 []) Tryz.mixed eid_Check.ann Tryz.func33 rfl (by kernel_rfl) (Nat.le_of_ble_eq_true rfl) (fun x => by kernel_rfl)
noncomputable def eid_Check.spec : XSpec Tryz.prog := XSpec.t 33 [.d .EID] [.i64] eid_Check (by kernel_rfl) eid_Check.fn
noncomputable def eid_pattern : List EID → Option Int :=
 fun l_1 =>
 br (decide ((20 : Int) < (l_1.length : Int)))
  (some (5 : Int))
  ((iter (σ := Int) (ρ := (Int) ⊕ (Unit)) (fun x_2 =>
   br (decide (x_2 < (l_1.length : Int)))
    ((idx l_1 x_2).bind fun x_3 =>
    (eid_Check x_3).bind fun x_4 =>
    br (x_4 != (0 : Int))
     (some (.done (.inl x_4)))
     ((addI .i64 x_2 (1 : Int)).bind fun x_5 =>
     some (.next x_5)))
    (some (.done (.inr ())))) (0 : Int)).bind fun x_7 =>
  Sum.elim
   (fun x_6 =>
   some x_6)
   (fun _ =>
   some (0 : Int)) x_7)
def eid_pattern.ann : Ann := (.two .no (.two .no (.two (.two .no (.loop [2, 4, 5, 11, 12, 13, 14, 15, 16, 17, 18, 19, 20] [] [.slot 11 .i64 none] [(.ret, [.slot 2 .i64 none]), (.exit 0, [])] .no)) .no)))
set_option maxRecDepth 100000 in
theorem eid_pattern.fn : FnT Tryz.prog 19 [.d .l_EID] [.i64] eid_pattern :=
 FnT.of (X := ctx 0 [eid_Check.spec]) Tryz.mixed eid_pattern.ann Tryz.func19 rfl (by kernel_rfl) (Nat.le_of_ble_eq_true rfl) (fun x => by kernel_rfl)
noncomputable def eid_pattern.spec : XSpec Tryz.prog := XSpec.t 19 [.d .l_EID] [.i64] eid_pattern (by kernel_rfl) eid_pattern.fn
noncomputable def eid_matched : ((List EID) × Int) → Option (List Bool) :=
 fun (l_1, service_2) =>
 (iter (σ := Int × (List Bool)) (ρ := List Bool) (fun (x_3, x_4) =>
  br (decide (x_3 < (l_1.length : Int)))
   ((idx l_1 x_3).bind fun x_5 =>
   br (x_5.Service == service_2)
    ((iter (σ := Int × (List Bool)) (ρ := List Bool) (fun (n_6, x_7) =>
     br (decide (n_6 ≤ x_5.High))
      (br (inB n_6 17)
       ((putA (lit_a17_bool x_7) n_6 true).bind fun x_8 =>
       (addI .i64 n_6 (1 : Int)).bind fun x_9 =>
       some (.next (x_9, (lit_a17_bool x_8))))
       (none))
      (some (.done (lit_a17_bool x_7)))) (x_5.Low, (lit_a17_bool x_4))).bind fun x_10 =>
    (addI .i64 x_3 (1 : Int)).bind fun x_11 =>
    some (.next (x_11, (lit_a17_bool x_10))))
    (br (x_5.Service == (-1 : Int))
     ((iter (σ := Int × (List Bool)) (ρ := List Bool) (fun (n_12, x_13) =>
      br (decide (n_12 ≤ x_5.High))
       (br (inB n_12 17)
        ((putA (lit_a17_bool x_13) n_12 true).bind fun x_14 =>
        (addI .i64 n_12 (1 : Int)).bind fun x_15 =>
        some (.next (x_15, (lit_a17_bool x_14))))
        (none))
       (some (.done (lit_a17_bool x_13)))) (x_5.Low, (lit_a17_bool x_4))).bind fun x_16 =>
     (addI .i64 x_3 (1 : Int)).bind fun x_17 =>
     some (.next (x_17, (lit_a17_bool x_16))))
     ((addI .i64 x_3 (1 : Int)).bind fun x_18 =>
     some (.next (x_18, (lit_a17_bool x_4))))))
   (some (.done (lit_a17_bool x_4)))) ((0 : Int), ([false, false, false, false, false, false, false, false, false, false, false, false, false, false, false, false, false] : List Bool))).bind fun x_19 =>
 some (lit_a17_bool x_19)
def eid_matched.ann : Ann := (.two .no (.two .no (.two (.two .no (.loop [7, 8, 11, 12, 13, 14, 15, 16, 17, 18, 19, 20, 21, 22, 23, 24, 25, 26, 27, 28, 29, 30, 31, 32, 33, 34] [1] [.slot 11 .i64 none, .box 1 .a17_bool] [(.exit 0, [.box 1 .a17_bool])] (.two .no (.two .no (.two (.two .no (.two .no (.two (.two .no (.loop [8, 26, 27, 28, 29, 30, 31, 32, 33] [1] [.slot 8 .i64 none, .box 1 .a17_bool] [(.exit 2, [.box 1 .a17_bool])] .no)) .no))) .no))))) .no)))
set_option maxRecDepth 100000 in
theorem eid_matched.fn : FnT Tryz.prog 20 [.d .l_EID, .d .i64] [.a17_bool] eid_matched :=
 FnT.of (X := ctx 0 []) Tryz.mixed eid_matched.ann Tryz.func20 rfl (by kernel_rfl) (Nat.le_of_ble_eq_true rfl) (fun x => by kernel_rfl)
noncomputable def eid_matched.spec : XSpec Tryz.prog := XSpec.t 20 [.d .l_EID, .d .i64] [.a17_bool] eid_matched (by kernel_rfl) eid_matched.fn
noncomputable def eid_nodes_ranges : ((List Bool) × Int) → Option (List EID) :=
 fun (set_1, service_2) =>
 br (((set_1.getD 0 false) == false) && (((set_1.getD 1 false) == false) && (((set_1.getD 2 false) == false) && (((set_1.getD 3 false) == false) && (((set_1.getD 4 false) == false) && (((set_1.getD 5 false) == false) && (((set_1.getD 6 false) == false) && (((set_1.getD 7 false) == false) && (((set_1.getD 8 false) == false) && (((set_1.getD 9 false) == false) && (((set_1.getD 10 false) == false) && (((set_1.getD 11 false) == false) && (((set_1.getD 12 false) == false) && (((set_1.getD 13 false) == false) && (((set_1.getD 14 false) == false) && (((set_1.getD 15 false) == false) && ((set_1.getD 16 false) == false)))))))))))))))))
  (some ([] : List EID))
  ((iter (σ := (List EID) × Int) (ρ := List EID) (fun (out_3, x_4) =>
   br (decide (x_4 < (17 : Int)))
    (br (inB x_4 17)
     ((idx (lit_a17_bool set_1) x_4).bind fun x_5 =>
     br x_5
      ((subI .i64 x_4 (1 : Int)).bind fun x_6 =>
      br (inB x_6 17)
       ((idx (lit_a17_bool set_1) x_6).bind fun x_7 =>
       br x_7
        ((subI .i64 (out_3.length : Int) (1 : Int)).bind fun x_8 =>
        br (inB x_8 out_3.length)
         ((idx out_3 x_8).bind fun x_9 =>
         (addI .i64 x_4 (1 : Int)).bind fun x_10 =>
         some (.next (setI out_3 x_8 (⟨x_9.Low, x_4, x_9.Service⟩ : EID), x_10)))
         (none))
        (br x_5
         ((app 24 out_3 ([(⟨x_4, x_4, service_2⟩ : EID)] : List EID)).bind fun x_11 =>
         (addI .i64 x_4 (1 : Int)).bind fun x_12 =>
         some (.next (x_11, x_12)))
         ((addI .i64 x_4 (1 : Int)).bind fun x_13 =>
         some (.next (out_3, x_13)))))
       (none))
      (br x_5
       ((app 24 out_3 ([(⟨x_4, x_4, service_2⟩ : EID)] : List EID)).bind fun x_14 =>
       (addI .i64 x_4 (1 : Int)).bind fun x_15 =>
       some (.next (x_14, x_15)))
       ((addI .i64 x_4 (1 : Int)).bind fun x_16 =>
       some (.next (out_3, x_16)))))
     (none))
    (some (.done out_3))) (([] : List EID), (0 : Int))).bind fun out_17 =>
  some out_17)
def eid_nodes_ranges.ann : Ann := (.two .no (.two .no (.two .no (.two (.two .no (.loop [4, 5, 6, 7, 12, 13, 14, 15, 16, 17, 18, 19, 20, 21, 22, 23, 24, 25, 26, 27, 28, 29, 30, 31, 32, 33, 34, 35, 36, 37, 38, 39, 40] [] [.slot 5 .l_EID (some (5, 40)), .slot 12 .i64 none] [(.exit 0, [.slot 5 .l_EID (some (5, 40))])] .no)) .no))))
set_option maxRecDepth 100000 in
theorem eid_nodes_ranges.fn : FnT Tryz.prog 28 [.d .a17_bool, .d .i64] [.l_EID] eid_nodes_ranges :=
 FnT.of (X := ctx 536870912 []) Tryz.mixed eid_nodes_ranges.ann Tryz.func28 rfl (by kernel_rfl) (Nat.le_of_ble_eq_true rfl) (fun x => by kernel_rfl)
noncomputable def eid_nodes_ranges.spec : XSpec Tryz.prog := XSpec.t 28 [.d .a17_bool, .d .i64] [.l_EID] eid_nodes_ranges (by kernel_rfl) eid_nodes_ranges.fn
noncomputable def eid_Canon : List EID → Option ((List EID) × Int) :=
 fun l_1 =>
 (eid_pattern l_1).bind fun x_2 =>
 br (x_2 != (0 : Int))
  (some (([] : List EID), x_2))
  ((iter (σ := (List Int) × Int) (ρ := List Int) (fun (services_3, x_4) =>
   br (decide (x_4 < (l_1.length : Int)))
    ((idx l_1 x_4).bind fun x_5 =>
    (app 8 services_3 ([x_5.Service] : List Int)).bind fun x_6 =>
    (addI .i64 x_4 (1 : Int)).bind fun x_7 =>
    some (.next (x_6, x_7)))
    (some (.done services_3))) (([] : List Int), (0 : Int))).bind fun services_8 =>
  (srtG slices_Sort_int_int.srt services_8).bind fun x_9 =>
  (eid_matched (l_1, (-1 : Int))).bind fun x_10 =>
  (compactX x_9).bind fun x_11 =>
  (iter (σ := (List EID) × Int) (ρ := List EID) (fun (out_12, x_13) =>
   br (decide (x_13 < (x_11.length : Int)))
    ((idx x_11 x_13).bind fun x_14 =>
    (eid_matched (l_1, x_14)).bind fun x_15 =>
    (iter (σ := (List EID) × Int × (List Bool)) (ρ := (List EID) × (List Bool)) (fun (out_16, x_17, x_18) =>
     br (decide (x_17 < (17 : Int)))
      (br (inB x_17 17)
       ((idx (lit_a17_bool x_18) x_17).bind fun x_19 =>
       br x_19
        (br (x_14 == (-1 : Int))
         (br (inB x_17 17)
          ((putA (lit_a17_bool x_18) x_17 true).bind fun x_20 =>
          (addI .i64 x_17 (1 : Int)).bind fun x_21 =>
          some (.next (out_16, x_21, (lit_a17_bool x_20))))
          (none))
         (br (inB x_17 17)
          ((idx (lit_a17_bool x_10) x_17).bind fun x_22 =>
          br (inB x_17 17)
           ((putA (lit_a17_bool x_18) x_17 (!x_22)).bind fun x_23 =>
           (addI .i64 x_17 (1 : Int)).bind fun x_24 =>
           some (.next (out_16, x_24, (lit_a17_bool x_23))))
           (none))
          (none)))
        (br (inB x_17 17)
         ((putA (lit_a17_bool x_18) x_17 false).bind fun x_25 =>
         (addI .i64 x_17 (1 : Int)).bind fun x_26 =>
         some (.next (out_16, x_26, (lit_a17_bool x_25))))
         (none)))
       (none))
      (some (.done (out_16, (lit_a17_bool x_18))))) (out_12, (0 : Int), (lit_a17_bool x_15))).bind fun (out_27, x_28) =>
    (eid_nodes_ranges ((lit_a17_bool x_28), x_14)).bind fun x_29 =>
    (app 24 out_27 x_29).bind fun x_30 =>
    (addI .i64 x_13 (1 : Int)).bind fun x_31 =>
    some (.next (x_30, x_31)))
    (some (.done out_12))) (([] : List EID), (0 : Int))).bind fun out_32 =>
  br (decide ((20 : Int) < (out_32.length : Int)))
   (some (([] : List EID), (5 : Int)))
   (some (out_32, (0 : Int))))
def eid_Canon.ann : Ann := (.two .no (.two .no (.two .no (.two (.two .no (.loop [5, 7, 21, 22, 23, 24, 25, 26, 27, 28, 29, 30] [] [.slot 5 .l_i64 (some (5, 3)), .slot 21 .i64 none] [(.exit 0, [.slot 5 .l_i64 (some (5, 3))])] .no)) (.two .no (.two .no (.two .no (.two (.two .no (.loop [9, 11, 12, 13, 38, 39, 40, 41, 42, 43, 44, 45, 46, 47, 48, 49, 50, 51, 52, 53, 54, 55, 56, 57, 58, 59, 60, 61, 62, 63, 64, 65, 66, 67, 68, 69] [] [.slot 9 .l_EID (some (9, 40)), .slot 38 .i64 none] [(.exit 2, [.slot 9 .l_EID (some (9, 40))])] (.two .no (.two .no (.two (.two .no (.two .no (.two (.two .no (.loop [9, 13, 45, 46, 47, 48, 49, 50, 51, 52, 53, 54, 55, 56, 57, 58, 59, 60, 61, 62, 63] [1] [.slot 9 .l_EID (some (9, 40)), .slot 45 .i64 none, .box 1 .a17_bool] [(.exit 4, [.slot 9 .l_EID (some (9, 40)), .box 1 .a17_bool])] .no)) .no))) .no))))) .no))))))))
set_option maxRecDepth 100000 in
theorem eid_Canon.fn : FnT Tryz.prog 12 [.d .l_EID] [.l_EID, .i64] eid_Canon :=
 FnT.of (X := ctxM 0 [eid_pattern.spec, eid_matched.spec, eid_nodes_ranges.spec] [slices_Sort_int_int.sort] [] [compact.mu]) Tryz.mixed eid_Canon.ann Tryz.func12 rfl (by kernel_rfl) (Nat.le_of_ble_eq_true rfl) (fun x => by kernel_rfl)
noncomputable def eid_Canon.spec : XSpec Tryz.prog := XSpec.t 12 [.d .l_EID] [.l_EID, .i64] eid_Canon (by kernel_rfl) eid_Canon.fn
noncomputable def packhorselaw05_same : ((List EID) × (List EID)) → Option Bool :=
 fun (a_1, b_2) =>
 br ((a_1.length : Int) != (b_2.length : Int))
  (some false)
  ((iter (σ := Int) (ρ := (Bool) ⊕ (Unit)) (fun i_3 =>
   br (decide (i_3 < (a_1.length : Int)))
    ((idx a_1 i_3).bind fun x_4 =>
    (idx b_2 i_3).bind fun x_5 =>
    br (!((x_4.Low == x_5.Low) && ((x_4.High == x_5.High) && (x_4.Service == x_5.Service))))
     (some (.done (.inl false)))
     ((addI .i64 i_3 (1 : Int)).bind fun x_6 =>
     some (.next x_6)))
    (some (.done (.inr ())))) (0 : Int)).bind fun x_8 =>
  Sum.elim
   (fun x_7 =>
   some x_7)
   (fun _ =>
   some true) x_8)
def packhorselaw05_same.ann : Ann := (.two .no (.two .no (.two (.two .no (.loop [4, 5, 11, 12, 13, 14, 15, 16, 17, 18, 19, 20, 21, 22, 23, 24, 25] [] [.slot 5 .i64 none] [(.ret, [.slot 4 .bool none]), (.exit 0, [])] .no)) .no)))
set_option maxRecDepth 100000 in
theorem packhorselaw05_same.fn : FnT Tryz.prog 14 [.d .l_EID, .d .l_EID] [.bool] packhorselaw05_same :=
 FnT.of (X := ctx 0 []) Tryz.mixed packhorselaw05_same.ann Tryz.func14 rfl (by kernel_rfl) (Nat.le_of_ble_eq_true rfl) (fun x => by kernel_rfl)
noncomputable def packhorselaw05_same.spec : XSpec Tryz.prog := XSpec.t 14 [.d .l_EID, .d .l_EID] [.bool] packhorselaw05_same (by kernel_rfl) packhorselaw05_same.fn
noncomputable def eid_Nodes : ((List EID) × Int) → Option ((List Int) × Int) :=
 fun (l_1, service_2) =>
 (eid_pattern l_1).bind fun x_3 =>
 br (x_3 == (0 : Int))
  (br (decide (service_2 < (0 : Int)))
   (br ((2 : Int) != (0 : Int))
    (some (([] : List Int), (2 : Int)))
    ((eid_matched (l_1, service_2)).bind fun x_4 =>
    (iter (σ := (List Int) × Int) (ρ := List Int) (fun (out_5, x_6) =>
     br (decide (x_6 < (17 : Int)))
      (br (inB x_6 17)
       ((idx (lit_a17_bool x_4) x_6).bind fun x_7 =>
       br x_7
        ((app 8 out_5 ([x_6] : List Int)).bind fun x_8 =>
        (addI .i64 x_6 (1 : Int)).bind fun x_9 =>
        some (.next (x_8, x_9)))
        ((addI .i64 x_6 (1 : Int)).bind fun x_10 =>
        some (.next (out_5, x_10))))
       (none))
      (some (.done out_5))) (([] : List Int), (0 : Int))).bind fun out_11 =>
    some (out_11, (0 : Int))))
   (br (decide ((999 : Int) < service_2))
    (br ((2 : Int) != (0 : Int))
     (some (([] : List Int), (2 : Int)))
     ((eid_matched (l_1, service_2)).bind fun x_12 =>
     (iter (σ := (List Int) × Int) (ρ := List Int) (fun (out_13, x_14) =>
      br (decide (x_14 < (17 : Int)))
       (br (inB x_14 17)
        ((idx (lit_a17_bool x_12) x_14).bind fun x_15 =>
        br x_15
         ((app 8 out_13 ([x_14] : List Int)).bind fun x_16 =>
         (addI .i64 x_14 (1 : Int)).bind fun x_17 =>
         some (.next (x_16, x_17)))
         ((addI .i64 x_14 (1 : Int)).bind fun x_18 =>
         some (.next (out_13, x_18))))
        (none))
       (some (.done out_13))) (([] : List Int), (0 : Int))).bind fun out_19 =>
     some (out_19, (0 : Int))))
    (br (x_3 != (0 : Int))
     (some (([] : List Int), x_3))
     ((eid_matched (l_1, service_2)).bind fun x_20 =>
     (iter (σ := (List Int) × Int) (ρ := List Int) (fun (out_21, x_22) =>
      br (decide (x_22 < (17 : Int)))
       (br (inB x_22 17)
        ((idx (lit_a17_bool x_20) x_22).bind fun x_23 =>
        br x_23
         ((app 8 out_21 ([x_22] : List Int)).bind fun x_24 =>
         (addI .i64 x_22 (1 : Int)).bind fun x_25 =>
         some (.next (x_24, x_25)))
         ((addI .i64 x_22 (1 : Int)).bind fun x_26 =>
         some (.next (out_21, x_26))))
        (none))
       (some (.done out_21))) (([] : List Int), (0 : Int))).bind fun out_27 =>
     some (out_27, (0 : Int))))))
  (br (x_3 != (0 : Int))
   (some (([] : List Int), x_3))
   ((eid_matched (l_1, service_2)).bind fun x_28 =>
   (iter (σ := (List Int) × Int) (ρ := List Int) (fun (out_29, x_30) =>
    br (decide (x_30 < (17 : Int)))
     (br (inB x_30 17)
      ((idx (lit_a17_bool x_28) x_30).bind fun x_31 =>
      br x_31
       ((app 8 out_29 ([x_30] : List Int)).bind fun x_32 =>
       (addI .i64 x_30 (1 : Int)).bind fun x_33 =>
       some (.next (x_32, x_33)))
       ((addI .i64 x_30 (1 : Int)).bind fun x_34 =>
       some (.next (out_29, x_34))))
      (none))
     (some (.done out_29))) (([] : List Int), (0 : Int))).bind fun out_35 =>
   some (out_35, (0 : Int))))
def eid_Nodes.ann : Ann := (.two .no (.two .no (.two .no (.two .no (.two .no (.two (.two .no (.loop [7, 8, 9, 28, 29, 30, 31, 32, 33, 34, 35, 36, 37] [] [.slot 7 .l_i64 (some (7, 3)), .slot 28 .i64 none] [(.exit 0, [.slot 7 .l_i64 (some (7, 3))])] .no)) .no))))))
set_option maxRecDepth 100000 in
theorem eid_Nodes.fn : FnT Tryz.prog 10 [.d .l_EID, .d .i64] [.l_i64, .i64] eid_Nodes :=
 FnT.of (X := ctx 0 [eid_pattern.spec, eid_matched.spec]) Tryz.mixed eid_Nodes.ann Tryz.func10 rfl (by kernel_rfl) (Nat.le_of_ble_eq_true rfl) (fun x => by kernel_rfl)
noncomputable def eid_Nodes.spec : XSpec Tryz.prog := XSpec.t 10 [.d .l_EID, .d .i64] [.l_i64, .i64] eid_Nodes (by kernel_rfl) eid_Nodes.fn
noncomputable def eid_Match : ((List EID) × Int × Int) → Option (Bool × Int) :=
 fun (l_1, node_2, service_3) =>
 (eid_pattern l_1).bind fun x_4 =>
 br (x_4 == (0 : Int))
  (br (decide (node_2 < (1 : Int)))
   (br ((2 : Int) != (0 : Int))
    (some (false, (2 : Int)))
    ((eid_matched (l_1, service_3)).bind fun x_5 =>
    br (inB node_2 17)
     ((idx (lit_a17_bool x_5) node_2).bind fun x_6 =>
     some (x_6, (0 : Int)))
     (none)))
   (br (decide ((16 : Int) < node_2))
    (br ((2 : Int) != (0 : Int))
     (some (false, (2 : Int)))
     ((eid_matched (l_1, service_3)).bind fun x_7 =>
     br (inB node_2 17)
      ((idx (lit_a17_bool x_7) node_2).bind fun x_8 =>
      some (x_8, (0 : Int)))
      (none)))
    (br (decide (service_3 < (0 : Int)))
     (br ((2 : Int) != (0 : Int))
      (some (false, (2 : Int)))
      ((eid_matched (l_1, service_3)).bind fun x_9 =>
      br (inB node_2 17)
       ((idx (lit_a17_bool x_9) node_2).bind fun x_10 =>
       some (x_10, (0 : Int)))
       (none)))
     (br (decide ((999 : Int) < service_3))
      (br ((2 : Int) != (0 : Int))
       (some (false, (2 : Int)))
       ((eid_matched (l_1, service_3)).bind fun x_11 =>
       br (inB node_2 17)
        ((idx (lit_a17_bool x_11) node_2).bind fun x_12 =>
        some (x_12, (0 : Int)))
        (none)))
      (br (x_4 != (0 : Int))
       (some (false, x_4))
       ((eid_matched (l_1, service_3)).bind fun x_13 =>
       br (inB node_2 17)
        ((idx (lit_a17_bool x_13) node_2).bind fun x_14 =>
        some (x_14, (0 : Int)))
        (none)))))))
  (br (x_4 != (0 : Int))
   (some (false, x_4))
   ((eid_matched (l_1, service_3)).bind fun x_15 =>
   br (inB node_2 17)
    ((idx (lit_a17_bool x_15) node_2).bind fun x_16 =>
    some (x_16, (0 : Int)))
    (none)))
def eid_Match.ann : Ann := .no
set_option maxRecDepth 100000 in
theorem eid_Match.fn : FnT Tryz.prog 6 [.d .l_EID, .d .i64, .d .i64] [.bool, .i64] eid_Match :=
 FnT.of (X := ctx 0 [eid_pattern.spec, eid_matched.spec]) Tryz.mixed eid_Match.ann Tryz.func6 rfl (by kernel_rfl) (Nat.le_of_ble_eq_true rfl) (fun x => by kernel_rfl)
noncomputable def eid_Match.spec : XSpec Tryz.prog := XSpec.t 6 [.d .l_EID, .d .i64, .d .i64] [.bool, .i64] eid_Match (by kernel_rfl) eid_Match.fn
end Go.Proofs.YtecpknddocikaaaGreatDoor
