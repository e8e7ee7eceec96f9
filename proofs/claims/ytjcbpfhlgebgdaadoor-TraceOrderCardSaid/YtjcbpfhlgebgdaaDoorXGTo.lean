import Derived.Test.YtjcbpfhlgebgdaaDoorXKA
import Derived.Test.YtjcbpfhlgebgdaaDoorX9
import Derived.Test.YtjcbpfhlgebgdaaDoorChecked
import Derived.KernelRfl
set_option linter.unusedSimpArgs false
set_option linter.unusedVariables false
namespace Go.Proofs.YtjcbpfhlgebgdaaDoor
open Go.X Go.Eng
theorem keyed53 : Go.Eng.KeyT Tryd.prog 53 := Go.Eng.KeyT.struct (n := 24) (Go.deep_law_laid (by kernel_rfl) (m := 4) (by omega) (of_decide_eq_true (by kernel_rfl)) (by kernel_rfl) (by kernel_rfl)) Tryd.underlying53 (by kernel_rfl) (show Go.Eng.keyT Tryd.prog 53 = some (true, [.int .i64, .int .i64, .int .i64, .int .i64, .int .u64, .int .i64, .int .i64]) by kernel_rfl) (by kernel_rfl) (by kernel_rfl) (by kernel_rfl)
theorem keyed164 : Go.Eng.KeyT Tryd.prog 164 := Go.Eng.KeyT.pair (e := 3) (q := .i64) ⟨by kernel_rfl, by kernel_rfl, by kernel_rfl, by kernel_rfl⟩ (by kernel_rfl) ⟨303, by kernel_rfl⟩ (Go.deep_law_laid (by kernel_rfl) (m := 2) (by omega) (of_decide_eq_true (by kernel_rfl)) (by kernel_rfl) (by kernel_rfl)) (by kernel_rfl)
def keyB (t : TypeId) : Bool := Nat.beq t 53 || Nat.beq t 164
theorem keyB_ok (t : TypeId) (h : keyB t = true) : Go.Eng.KeyT Tryd.prog t := by
 simp only [keyB, Bool.or_eq_true] at h
 rcases h with h | h
 ·have := Nat.eq_of_beq_eq_true h; subst this; exact keyed53
 ·have := Nat.eq_of_beq_eq_true h; subst this; exact keyed164
def codes : List (Option C) := [none, none, some .i64, some .i64, some .bool, some .u8, some .u8, none, none, some .str, some .str, some .str, some .u64, none, none, none, none, none, none, none, none, some .i32, some .l_Contact, none, some .i64, none, none, none, none, some .Fault, some .Fault, none, none, none, none, some .l_i64, none, none, some .l_Outc, none, none, none, none, none, none, none, none, none, none, some .u64, some .ID, some .ID, some .Outc, some .Outc, none, some .l_Mark, none, none, none, none, none, none, none, none, none, none, none, none, some .EID, some .EID, none, none, none, none, some .l_EID, none, none, none, none, none, none, none, some .Contact, some .Contact, none, none, none, none, some .l_u8, some .a6_i64, none, none, some .l_Row, none, none, some .l_Word, some .Row, some .Row, none, none, some .Word, some .Word, none, none, none, none, none, none, none, none, none, none, none, none, none, none, none, none, none, none, none, none, none, none, none, none, none, none, none, some .Mark, some .Mark, none, none, none, none, none, none, none, none, none, none, none, none, none, none, none, some .Cursor, some .Cursor, none, none, none, none, none, none, none, none, none, none, some .l_str, none, none, none, none, some .Pair, some .Pair, none, none, none, none, none, none, none, none, none, none, none, some .a7_i64, none, none, none, none, some .Face, some .Face, none, some .i64, some .i64, some .i64, none, some .ID, some .i64, none, none, none, none, none, none, none, some .l_Face, none, none, none, none, none, none, none, none, none, none, none, none, some .a17_bool, some .a17_bool, none, none, none, none, none, none, none, none, none, none, none, none, none, none, none, none, none, none, none, none, none, some .W3, some .W3, some .l_W3, none, none, none, some .W3, none, none, some .u64, none, none, none, none, none, none, none, none, none, none, none, none, none, none, none, none, none, none, none, none, none, none, none, none, none, none, none, none, some .u32, none, none, none, none, none, none, none, none, none, none, none, none, none, none, none, none, none, none, none, none, none, none, none, none, some .u8, some .u8, none, some .i32, some .i32, none, none, none]
noncomputable def ctx (wr : Nat) (l : List (XSpec Tryd.prog)) : XCtx Tryd.prog := { code := fun t => (codes[t]?).getD none, wr := wr, key := keyB, keyed := keyB_ok, known := l }
noncomputable def ctxS (wr : Nat) (l : List (XSpec Tryd.prog)) (s : List (XSort Tryd.prog)) : XCtx Tryd.prog := { code := fun t => (codes[t]?).getD none, wr := wr, key := keyB, keyed := keyB_ok, known := l, sorts := s }
noncomputable def ctxO (wr : Nat) (l : List (XSpec Tryd.prog)) (s : List (XSort Tryd.prog)) (w : List (XOwn Tryd.prog)) : XCtx Tryd.prog := { code := fun t => (codes[t]?).getD none, wr := wr, key := keyB, keyed := keyB_ok, known := l, sorts := s, owned := w }
noncomputable def ctxM (wr : Nat) (l : List (XSpec Tryd.prog)) (s : List (XSort Tryd.prog)) (w : List (XOwn Tryd.prog)) (u : List (XMut Tryd.prog)) : XCtx Tryd.prog := { code := fun t => (codes[t]?).getD none, wr := wr, key := keyB, keyed := keyB_ok, known := l, sorts := s, owned := w, muts := u }
noncomputable def packhorsekit_Mod : (Int × Int) → Option Int :=
 fun (a_1, n_2) =>
 br (decide (n_2 < (1 : Int)))
  (some (0 : Int))
  ((remI a_1 n_2).bind fun x_3 =>
  br (decide (x_3 < (0 : Int)))
   ((addI .i64 x_3 n_2).bind fun x_4 =>
   some x_4)
   (some x_3))
def packhorsekit_Mod.ann : Ann := .no
set_option maxRecDepth 100000 in
theorem packhorsekit_Mod.fn : FnT Tryd.prog 25 [.d .i64, .d .i64] [.i64] packhorsekit_Mod :=
 FnT.of (X := ctx 0 []) Tryd.mixed packhorsekit_Mod.ann Tryd.func25 rfl (by kernel_rfl) (Nat.le_of_ble_eq_true rfl) (fun x => by kernel_rfl)
noncomputable def packhorsekit_Mod.spec : XSpec Tryd.prog := XSpec.t 25 [.d .i64, .d .i64] [.i64] packhorsekit_Mod (by kernel_rfl) packhorsekit_Mod.fn
noncomputable def packhorseref39_UsesID : Int → Option Bool :=
 fun kind_1 =>
 br (decide ((1 : Int) ≤ kind_1))
  (br (decide (kind_1 ≤ (10 : Int)))
   (some (kind_1 != (5 : Int)))
   (some false))
  (some false)
def packhorseref39_UsesID.ann : Ann := .no
set_option maxRecDepth 100000 in
theorem packhorseref39_UsesID.fn : FnT Tryd.prog 72 [.d .i64] [.bool] packhorseref39_UsesID :=
 FnT.of (X := ctx 0 []) Tryd.mixed packhorseref39_UsesID.ann Tryd.func72 rfl (by kernel_rfl) (Nat.le_of_ble_eq_true rfl) (fun x => by kernel_rfl)
noncomputable def packhorseref39_UsesID.spec : XSpec Tryd.prog := XSpec.t 72 [.d .i64] [.bool] packhorseref39_UsesID (by kernel_rfl) packhorseref39_UsesID.fn
noncomputable def packhorselaw39_Made : List Int → Option (List Outc) :=
 fun nums_1 =>
 (iter (σ := (List Outc) × Int × Int) (ρ := List Outc) (fun (l_2, tick_3, i_4) =>
  br (decide (i_4 < (nums_1.length : Int)))
   (br (decide (i_4 < (30 : Int)))
    ((idx nums_1 i_4).bind fun x_5 =>
    (packhorsekit_Mod (x_5, (1048576 : Int))).bind fun x_6 =>
    (remI x_6 (3 : Int)).bind fun x_7 =>
    (addI .i64 tick_3 x_7).bind fun x_8 =>
    (quoI .i64 x_6 (3 : Int)).bind fun x_9 =>
    (remI x_9 (4 : Int)).bind fun x_10 =>
    (addI .i64 (1 : Int) x_10).bind fun x_11 =>
    (quoI .i64 x_6 (12 : Int)).bind fun x_12 =>
    (remI x_12 (15 : Int)).bind fun x_13 =>
    (addI .i64 (1 : Int) x_13).bind fun x_14 =>
    (packhorseref39_UsesID x_14).bind fun x_15 =>
    br x_15
     ((quoI .i64 x_6 (180 : Int)).bind fun x_16 =>
     (remI x_16 (2 : Int)).bind fun x_17 =>
     (addI .i64 (1 : Int) x_17).bind fun x_18 =>
     (quoI .i64 x_6 (360 : Int)).bind fun x_19 =>
     (remI x_19 (3 : Int)).bind fun x_20 =>
     br (x_14 == (6 : Int))
      ((remI x_11 (4 : Int)).bind fun x_21 =>
      (addI .i64 (1 : Int) x_21).bind fun x_22 =>
      (app 56 l_2 ([(⟨x_8, x_11, x_14, (⟨x_18, Go.IntKind.wrap .u64 x_20, (0 : Int)⟩ : ID), x_22⟩ : Outc)] : List Outc)).bind fun x_23 =>
      (addI .i64 i_4 (1 : Int)).bind fun x_24 =>
      some (.next (x_23, x_8, x_24)))
      (br (x_14 == (7 : Int))
       ((remI x_11 (4 : Int)).bind fun x_25 =>
       (addI .i64 (1 : Int) x_25).bind fun x_26 =>
       (app 56 l_2 ([(⟨x_8, x_11, x_14, (⟨x_18, Go.IntKind.wrap .u64 x_20, (0 : Int)⟩ : ID), x_26⟩ : Outc)] : List Outc)).bind fun x_27 =>
       (addI .i64 i_4 (1 : Int)).bind fun x_28 =>
       some (.next (x_27, x_8, x_28)))
       (br (x_14 == (10 : Int))
        ((remI x_11 (4 : Int)).bind fun x_29 =>
        (addI .i64 (1 : Int) x_29).bind fun x_30 =>
        (app 56 l_2 ([(⟨x_8, x_11, x_14, (⟨x_18, Go.IntKind.wrap .u64 x_20, (0 : Int)⟩ : ID), x_30⟩ : Outc)] : List Outc)).bind fun x_31 =>
        (addI .i64 i_4 (1 : Int)).bind fun x_32 =>
        some (.next (x_31, x_8, x_32)))
        (br (x_14 == (11 : Int))
         ((remI x_11 (4 : Int)).bind fun x_33 =>
         (addI .i64 (1 : Int) x_33).bind fun x_34 =>
         (app 56 l_2 ([(⟨x_8, x_11, x_14, (⟨x_18, Go.IntKind.wrap .u64 x_20, (0 : Int)⟩ : ID), x_34⟩ : Outc)] : List Outc)).bind fun x_35 =>
         (addI .i64 i_4 (1 : Int)).bind fun x_36 =>
         some (.next (x_35, x_8, x_36)))
         (br (x_14 == (13 : Int))
          ((remI x_11 (4 : Int)).bind fun x_37 =>
          (addI .i64 (1 : Int) x_37).bind fun x_38 =>
          (app 56 l_2 ([(⟨x_8, x_11, x_14, (⟨x_18, Go.IntKind.wrap .u64 x_20, (0 : Int)⟩ : ID), x_38⟩ : Outc)] : List Outc)).bind fun x_39 =>
          (addI .i64 i_4 (1 : Int)).bind fun x_40 =>
          some (.next (x_39, x_8, x_40)))
          (br (x_14 == (12 : Int))
           ((quoI .i64 x_6 (180 : Int)).bind fun x_41 =>
           (remI x_41 (2 : Int)).bind fun x_42 =>
           (remI x_11 (4 : Int)).bind fun x_43 =>
           (addI .i64 (1 : Int) x_43).bind fun x_44 =>
           (mulI .i64 x_42 x_44).bind fun x_45 =>
           (app 56 l_2 ([(⟨x_8, x_11, x_14, (⟨x_18, Go.IntKind.wrap .u64 x_20, (0 : Int)⟩ : ID), x_45⟩ : Outc)] : List Outc)).bind fun x_46 =>
           (addI .i64 i_4 (1 : Int)).bind fun x_47 =>
           some (.next (x_46, x_8, x_47)))
           ((app 56 l_2 ([(⟨x_8, x_11, x_14, (⟨x_18, Go.IntKind.wrap .u64 x_20, (0 : Int)⟩ : ID), (0 : Int)⟩ : Outc)] : List Outc)).bind fun x_48 =>
           (addI .i64 i_4 (1 : Int)).bind fun x_49 =>
           some (.next (x_48, x_8, x_49)))))))))
     (br (x_14 == (6 : Int))
      ((remI x_11 (4 : Int)).bind fun x_50 =>
      (addI .i64 (1 : Int) x_50).bind fun x_51 =>
      (app 56 l_2 ([(⟨x_8, x_11, x_14, (⟨(0 : Int), (0 : Int), (0 : Int)⟩ : ID), x_51⟩ : Outc)] : List Outc)).bind fun x_52 =>
      (addI .i64 i_4 (1 : Int)).bind fun x_53 =>
      some (.next (x_52, x_8, x_53)))
      (br (x_14 == (7 : Int))
       ((remI x_11 (4 : Int)).bind fun x_54 =>
       (addI .i64 (1 : Int) x_54).bind fun x_55 =>
       (app 56 l_2 ([(⟨x_8, x_11, x_14, (⟨(0 : Int), (0 : Int), (0 : Int)⟩ : ID), x_55⟩ : Outc)] : List Outc)).bind fun x_56 =>
       (addI .i64 i_4 (1 : Int)).bind fun x_57 =>
       some (.next (x_56, x_8, x_57)))
       (br (x_14 == (10 : Int))
        ((remI x_11 (4 : Int)).bind fun x_58 =>
        (addI .i64 (1 : Int) x_58).bind fun x_59 =>
        (app 56 l_2 ([(⟨x_8, x_11, x_14, (⟨(0 : Int), (0 : Int), (0 : Int)⟩ : ID), x_59⟩ : Outc)] : List Outc)).bind fun x_60 =>
        (addI .i64 i_4 (1 : Int)).bind fun x_61 =>
        some (.next (x_60, x_8, x_61)))
        (br (x_14 == (11 : Int))
         ((remI x_11 (4 : Int)).bind fun x_62 =>
         (addI .i64 (1 : Int) x_62).bind fun x_63 =>
         (app 56 l_2 ([(⟨x_8, x_11, x_14, (⟨(0 : Int), (0 : Int), (0 : Int)⟩ : ID), x_63⟩ : Outc)] : List Outc)).bind fun x_64 =>
         (addI .i64 i_4 (1 : Int)).bind fun x_65 =>
         some (.next (x_64, x_8, x_65)))
         (br (x_14 == (13 : Int))
          ((remI x_11 (4 : Int)).bind fun x_66 =>
          (addI .i64 (1 : Int) x_66).bind fun x_67 =>
          (app 56 l_2 ([(⟨x_8, x_11, x_14, (⟨(0 : Int), (0 : Int), (0 : Int)⟩ : ID), x_67⟩ : Outc)] : List Outc)).bind fun x_68 =>
          (addI .i64 i_4 (1 : Int)).bind fun x_69 =>
          some (.next (x_68, x_8, x_69)))
          (br (x_14 == (12 : Int))
           ((quoI .i64 x_6 (180 : Int)).bind fun x_70 =>
           (remI x_70 (2 : Int)).bind fun x_71 =>
           (remI x_11 (4 : Int)).bind fun x_72 =>
           (addI .i64 (1 : Int) x_72).bind fun x_73 =>
           (mulI .i64 x_71 x_73).bind fun x_74 =>
           (app 56 l_2 ([(⟨x_8, x_11, x_14, (⟨(0 : Int), (0 : Int), (0 : Int)⟩ : ID), x_74⟩ : Outc)] : List Outc)).bind fun x_75 =>
           (addI .i64 i_4 (1 : Int)).bind fun x_76 =>
           some (.next (x_75, x_8, x_76)))
           ((app 56 l_2 ([(⟨x_8, x_11, x_14, (⟨(0 : Int), (0 : Int), (0 : Int)⟩ : ID), (0 : Int)⟩ : Outc)] : List Outc)).bind fun x_77 =>
           (addI .i64 i_4 (1 : Int)).bind fun x_78 =>
           some (.next (x_77, x_8, x_78))))))))))
    (some (.done l_2)))
   (some (.done l_2))) (([] : List Outc), (0 : Int), (0 : Int))).bind fun l_79 =>
 some l_79
def packhorselaw39_Made.ann : Ann := (.two .no (.two .no (.two .no (.two (.two .no (.loop [3, 4, 5, 6, 7, 8, 9, 10, 11, 12, 13, 14, 15, 16, 17, 18, 19, 20, 21, 22, 23, 24, 25, 26, 27, 28, 29, 30, 31, 32, 33, 34, 35, 36, 37, 38, 39, 40, 41, 42, 43, 44, 45, 46, 47, 48, 49, 50, 51, 52, 53, 54, 55, 56, 57, 58, 59, 60, 61, 62, 63, 64, 65, 66, 67, 68, 69, 70, 71, 72, 73, 74, 75, 76, 77] [] [.slot 3 .l_Outc (some (3, 53)), .slot 4 .i64 none, .slot 5 .i64 none] [(.exit 0, [.slot 3 .l_Outc (some (3, 53))])] .no)) .no))))
set_option maxRecDepth 100000 in
theorem packhorselaw39_Made.fn : FnT Tryd.prog 20 [.d .l_i64] [.l_Outc] packhorselaw39_Made :=
 FnT.of (X := ctx 0 [packhorsekit_Mod.spec, packhorseref39_UsesID.spec]) Tryd.mixed packhorselaw39_Made.ann Tryd.func20 rfl (by kernel_rfl) (Nat.le_of_ble_eq_true rfl) (fun x => by kernel_rfl)
noncomputable def packhorselaw39_Made.spec : XSpec Tryd.prog := XSpec.t 20 [.d .l_i64] [.l_Outc] packhorselaw39_Made (by kernel_rfl) packhorselaw39_Made.fn
set_option maxRecDepth 100000 in
theorem packhorselaw39_Made.fo : FnTO Tryd.prog 20 [.d .l_i64] .Outc 53 packhorselaw39_Made :=
 FnTO.of (X := ctx 0 [packhorsekit_Mod.spec, packhorseref39_UsesID.spec]) Tryd.mixed packhorselaw39_Made.ann Tryd.func20 rfl (by kernel_rfl) (Nat.le_of_ble_eq_true rfl) (fun x => by kernel_rfl)
noncomputable def packhorselaw39_Made.ow : XOwn Tryd.prog := XOwn.t 20 [.d .l_i64] .Outc 53 packhorselaw39_Made (by kernel_rfl) packhorselaw39_Made.fo
noncomputable def bundle_within : List W3 → Option Bool :=
 fun l_1 =>
 (iter (σ := Int) (ρ := (Bool) ⊕ (Unit)) (fun x_2 =>
  br (decide (x_2 < (l_1.length : Int)))
   ((idx l_1 x_2).bind fun x_3 =>
   br (decide (x_3.a < x_3.b))
    (some (.done (.inl false)))
    (br (decide (x_3.c < x_3.a))
     (some (.done (.inl false)))
     ((addI .i64 x_2 (1 : Int)).bind fun x_4 =>
     some (.next x_4))))
   (some (.done (.inr ())))) (0 : Int)).bind fun x_6 =>
 Sum.elim
  (fun x_5 =>
  some x_5)
  (fun _ =>
  some true) x_6
def bundle_within.ann : Ann := (.two .no (.two (.two .no (.loop [2, 4, 7, 8, 9, 10, 11, 12, 13, 14, 15, 16, 17, 18, 19, 20, 21, 22, 23] [] [.slot 7 .i64 none] [(.ret, [.slot 2 .bool none]), (.exit 0, [])] .no)) .no))
set_option maxRecDepth 100000 in
theorem bundle_within.fn : FnT Tryd.prog 165 [.d .l_W3] [.bool] bundle_within :=
 FnT.of (X := ctx 0 []) Tryd.mixed bundle_within.ann Tryd.func165 rfl (by kernel_rfl) (Nat.le_of_ble_eq_true rfl) (fun x => by kernel_rfl)
noncomputable def bundle_within.spec : XSpec Tryd.prog := XSpec.t 165 [.d .l_W3] [.bool] bundle_within (by kernel_rfl) bundle_within.fn
noncomputable def bundle_CheckID : ID → Option Int :=
 fun id_1 =>
 (bundle_within ([(⟨id_1.Node, (1 : Int), (16 : Int)⟩ : W3), (⟨id_1.Off, (0 : Int), (19999 : Int)⟩ : W3)] : List W3)).bind fun x_2 =>
 br (!x_2)
  (some (2 : Int))
  (br (decide ((1099511627776 : Int) < id_1.Seq))
   (some (2 : Int))
   (some (0 : Int)))
def bundle_CheckID.ann : Ann := .no
set_option maxRecDepth 100000 in
theorem bundle_CheckID.fn : FnT Tryd.prog 125 [.d .ID] [.i64] bundle_CheckID :=
 FnT.of (X := ctx 0 [bundle_within.spec]) Tryd.mixed bundle_CheckID.ann Tryd.func125 rfl (by kernel_rfl) (Nat.le_of_ble_eq_true rfl) (fun x => by kernel_rfl)
noncomputable def bundle_CheckID.spec : XSpec Tryd.prog := XSpec.t 125 [.d .ID] [.i64] bundle_CheckID (by kernel_rfl) bundle_CheckID.fn
noncomputable def trace_one : Outc → Option Int :=
 fun o_1 =>
 br (decide (o_1.Kind < (1 : Int)))
  (some (7 : Int))
  (br (decide ((15 : Int) < o_1.Kind))
   (some (7 : Int))
   (br (inB o_1.Kind 16)
    ((tbl1 .i64 0 (0 + (o_1.Kind).toNat * 2 + 1)).bind fun x_2 =>
    br ((bitI .and .i64 x_2 (1 : Int)) != (0 : Int))
     ((bundle_CheckID o_1.ID).bind fun x_3 =>
     br ((bitI .and .i64 x_2 (2 : Int)) != (0 : Int))
      (br (decide ((1 : Int) ≤ o_1.Other))
       (br (decide (o_1.Other ≤ (16 : Int)))
        (br (o_1.Other != o_1.Node)
         (br (decide (o_1.Tick < (0 : Int)))
          (some (2 : Int))
          (br (decide ((1099511627776 : Int) < o_1.Tick))
           (some (2 : Int))
           (br (decide (o_1.Node < (1 : Int)))
            (some (2 : Int))
            (br (decide ((16 : Int) < o_1.Node))
             (some (2 : Int))
             (br (!(x_3 == (0 : Int)))
              (some (2 : Int))
              (some (0 : Int)))))))
         (br ((bitI .and .i64 x_2 (4 : Int)) != (0 : Int))
          (br (decide (o_1.Tick < (0 : Int)))
           (some (2 : Int))
           (br (decide ((1099511627776 : Int) < o_1.Tick))
            (some (2 : Int))
            (br (decide (o_1.Node < (1 : Int)))
             (some (2 : Int))
             (br (decide ((16 : Int) < o_1.Node))
              (some (2 : Int))
              (br (!(x_3 == (0 : Int)))
               (some (2 : Int))
               (br (!(o_1.Other == (0 : Int)))
                (some (2 : Int))
                (some (0 : Int))))))))
          (br (decide (o_1.Tick < (0 : Int)))
           (some (2 : Int))
           (br (decide ((1099511627776 : Int) < o_1.Tick))
            (some (2 : Int))
            (br (decide (o_1.Node < (1 : Int)))
             (some (2 : Int))
             (br (decide ((16 : Int) < o_1.Node))
              (some (2 : Int))
              (br (!(x_3 == (0 : Int)))
               (some (2 : Int))
               (some (2 : Int)))))))))
        (br ((bitI .and .i64 x_2 (4 : Int)) != (0 : Int))
         (br (decide (o_1.Tick < (0 : Int)))
          (some (2 : Int))
          (br (decide ((1099511627776 : Int) < o_1.Tick))
           (some (2 : Int))
           (br (decide (o_1.Node < (1 : Int)))
            (some (2 : Int))
            (br (decide ((16 : Int) < o_1.Node))
             (some (2 : Int))
             (br (!(x_3 == (0 : Int)))
              (some (2 : Int))
              (br (!(o_1.Other == (0 : Int)))
               (some (2 : Int))
               (some (0 : Int))))))))
         (br (decide (o_1.Tick < (0 : Int)))
          (some (2 : Int))
          (br (decide ((1099511627776 : Int) < o_1.Tick))
           (some (2 : Int))
           (br (decide (o_1.Node < (1 : Int)))
            (some (2 : Int))
            (br (decide ((16 : Int) < o_1.Node))
             (some (2 : Int))
             (br (!(x_3 == (0 : Int)))
              (some (2 : Int))
              (some (2 : Int)))))))))
       (br ((bitI .and .i64 x_2 (4 : Int)) != (0 : Int))
        (br (decide (o_1.Tick < (0 : Int)))
         (some (2 : Int))
         (br (decide ((1099511627776 : Int) < o_1.Tick))
          (some (2 : Int))
          (br (decide (o_1.Node < (1 : Int)))
           (some (2 : Int))
           (br (decide ((16 : Int) < o_1.Node))
            (some (2 : Int))
            (br (!(x_3 == (0 : Int)))
             (some (2 : Int))
             (br (!(o_1.Other == (0 : Int)))
              (some (2 : Int))
              (some (0 : Int))))))))
        (br (decide (o_1.Tick < (0 : Int)))
         (some (2 : Int))
         (br (decide ((1099511627776 : Int) < o_1.Tick))
          (some (2 : Int))
          (br (decide (o_1.Node < (1 : Int)))
           (some (2 : Int))
           (br (decide ((16 : Int) < o_1.Node))
            (some (2 : Int))
            (br (!(x_3 == (0 : Int)))
             (some (2 : Int))
             (some (2 : Int)))))))))
      (br (decide (o_1.Tick < (0 : Int)))
       (some (2 : Int))
       (br (decide ((1099511627776 : Int) < o_1.Tick))
        (some (2 : Int))
        (br (decide (o_1.Node < (1 : Int)))
         (some (2 : Int))
         (br (decide ((16 : Int) < o_1.Node))
          (some (2 : Int))
          (br (!(x_3 == (0 : Int)))
           (some (2 : Int))
           (br (!(o_1.Other == (0 : Int)))
            (some (2 : Int))
            (some (0 : Int)))))))))
     (br ((bitI .and .i64 x_2 (2 : Int)) != (0 : Int))
      (br (decide ((1 : Int) ≤ o_1.Other))
       (br (decide (o_1.Other ≤ (16 : Int)))
        (br (o_1.Other != o_1.Node)
         (br (decide (o_1.Tick < (0 : Int)))
          (some (2 : Int))
          (br (decide ((1099511627776 : Int) < o_1.Tick))
           (some (2 : Int))
           (br (decide (o_1.Node < (1 : Int)))
            (some (2 : Int))
            (br (decide ((16 : Int) < o_1.Node))
             (some (2 : Int))
             (br (!((o_1.ID.Node == (0 : Int)) && ((o_1.ID.Seq == (0 : Int)) && (o_1.ID.Off == (0 : Int)))))
              (some (2 : Int))
              (some (0 : Int)))))))
         (br ((bitI .and .i64 x_2 (4 : Int)) != (0 : Int))
          (br (decide (o_1.Tick < (0 : Int)))
           (some (2 : Int))
           (br (decide ((1099511627776 : Int) < o_1.Tick))
            (some (2 : Int))
            (br (decide (o_1.Node < (1 : Int)))
             (some (2 : Int))
             (br (decide ((16 : Int) < o_1.Node))
              (some (2 : Int))
              (br (!((o_1.ID.Node == (0 : Int)) && ((o_1.ID.Seq == (0 : Int)) && (o_1.ID.Off == (0 : Int)))))
               (some (2 : Int))
               (br (!(o_1.Other == (0 : Int)))
                (some (2 : Int))
                (some (0 : Int))))))))
          (br (decide (o_1.Tick < (0 : Int)))
           (some (2 : Int))
           (br (decide ((1099511627776 : Int) < o_1.Tick))
            (some (2 : Int))
            (br (decide (o_1.Node < (1 : Int)))
             (some (2 : Int))
             (br (decide ((16 : Int) < o_1.Node))
              (some (2 : Int))
              (br (!((o_1.ID.Node == (0 : Int)) && ((o_1.ID.Seq == (0 : Int)) && (o_1.ID.Off == (0 : Int)))))
               (some (2 : Int))
               (some (2 : Int)))))))))
        (br ((bitI .and .i64 x_2 (4 : Int)) != (0 : Int))
         (br (decide (o_1.Tick < (0 : Int)))
          (some (2 : Int))
          (br (decide ((1099511627776 : Int) < o_1.Tick))
           (some (2 : Int))
           (br (decide (o_1.Node < (1 : Int)))
            (some (2 : Int))
            (br (decide ((16 : Int) < o_1.Node))
             (some (2 : Int))
             (br (!((o_1.ID.Node == (0 : Int)) && ((o_1.ID.Seq == (0 : Int)) && (o_1.ID.Off == (0 : Int)))))
              (some (2 : Int))
              (br (!(o_1.Other == (0 : Int)))
               (some (2 : Int))
               (some (0 : Int))))))))
         (br (decide (o_1.Tick < (0 : Int)))
          (some (2 : Int))
          (br (decide ((1099511627776 : Int) < o_1.Tick))
           (some (2 : Int))
           (br (decide (o_1.Node < (1 : Int)))
            (some (2 : Int))
            (br (decide ((16 : Int) < o_1.Node))
             (some (2 : Int))
             (br (!((o_1.ID.Node == (0 : Int)) && ((o_1.ID.Seq == (0 : Int)) && (o_1.ID.Off == (0 : Int)))))
              (some (2 : Int))
              (some (2 : Int)))))))))
       (br ((bitI .and .i64 x_2 (4 : Int)) != (0 : Int))
        (br (decide (o_1.Tick < (0 : Int)))
         (some (2 : Int))
         (br (decide ((1099511627776 : Int) < o_1.Tick))
          (some (2 : Int))
          (br (decide (o_1.Node < (1 : Int)))
           (some (2 : Int))
           (br (decide ((16 : Int) < o_1.Node))
            (some (2 : Int))
            (br (!((o_1.ID.Node == (0 : Int)) && ((o_1.ID.Seq == (0 : Int)) && (o_1.ID.Off == (0 : Int)))))
             (some (2 : Int))
             (br (!(o_1.Other == (0 : Int)))
              (some (2 : Int))
              (some (0 : Int))))))))
        (br (decide (o_1.Tick < (0 : Int)))
         (some (2 : Int))
         (br (decide ((1099511627776 : Int) < o_1.Tick))
          (some (2 : Int))
          (br (decide (o_1.Node < (1 : Int)))
           (some (2 : Int))
           (br (decide ((16 : Int) < o_1.Node))
            (some (2 : Int))
            (br (!((o_1.ID.Node == (0 : Int)) && ((o_1.ID.Seq == (0 : Int)) && (o_1.ID.Off == (0 : Int)))))
             (some (2 : Int))
             (some (2 : Int)))))))))
      (br (decide (o_1.Tick < (0 : Int)))
       (some (2 : Int))
       (br (decide ((1099511627776 : Int) < o_1.Tick))
        (some (2 : Int))
        (br (decide (o_1.Node < (1 : Int)))
         (some (2 : Int))
         (br (decide ((16 : Int) < o_1.Node))
          (some (2 : Int))
          (br (!((o_1.ID.Node == (0 : Int)) && ((o_1.ID.Seq == (0 : Int)) && (o_1.ID.Off == (0 : Int)))))
           (some (2 : Int))
           (br (!(o_1.Other == (0 : Int)))
            (some (2 : Int))
            (some (0 : Int))))))))))
    (none)))
def trace_one.ann : Ann := .no
set_option maxRecDepth 100000 in
theorem trace_one.fn : FnT Tryd.prog 80 [.d .Outc] [.i64] trace_one :=
 FnT.of (X := ctx 0 [bundle_CheckID.spec]) Tryd.mixed trace_one.ann Tryd.func80 rfl (by kernel_rfl) (Nat.le_of_ble_eq_true rfl) (fun x => by kernel_rfl)
noncomputable def trace_one.spec : XSpec Tryd.prog := XSpec.t 80 [.d .Outc] [.i64] trace_one (by kernel_rfl) trace_one.fn
noncomputable def trace_Check : List Outc → Option (Int × Int) :=
 fun l_1 =>
 br (decide ((5000 : Int) < (l_1.length : Int)))
  (some ((5 : Int), (0 : Int)))
  ((iter (σ := Int) (ρ := (Int × Int) ⊕ (Unit)) (fun x_2 =>
   br (decide (x_2 < (l_1.length : Int)))
    ((idx l_1 x_2).bind fun x_3 =>
    (trace_one x_3).bind fun x_4 =>
    br (x_4 != (0 : Int))
     (some (.done (.inl (x_4, x_2))))
     (br (decide ((0 : Int) < x_2))
      ((subI .i64 x_2 (1 : Int)).bind fun x_5 =>
      (idx l_1 x_5).bind fun x_6 =>
      br (decide (x_3.Tick < x_6.Tick))
       (some (.done (.inl ((19 : Int), x_2))))
       ((addI .i64 x_2 (1 : Int)).bind fun x_7 =>
       some (.next x_7)))
      ((addI .i64 x_2 (1 : Int)).bind fun x_8 =>
      some (.next x_8))))
    (some (.done (.inr ())))) (0 : Int)).bind fun x_11 =>
  Sum.elim
   (fun (x_9, x_10) =>
   some (x_9, x_10))
   (fun _ =>
   some ((0 : Int), (0 : Int))) x_11)
def trace_Check.ann : Ann := (.two .no (.two .no (.two (.two .no (.loop [2, 3, 4, 5, 6, 12, 13, 14, 15, 16, 17, 18, 19, 20, 21, 22, 23, 24, 25, 26, 27, 28, 29, 30, 31, 32, 33, 34, 35, 36, 37] [] [.slot 12 .i64 none] [(.ret, [.slot 2 .i64 none, .slot 3 .i64 none]), (.exit 0, [])] .no)) .no)))
set_option maxRecDepth 100000 in
theorem trace_Check.fn : FnT Tryd.prog 130 [.d .l_Outc] [.i64, .i64] trace_Check :=
 FnT.of (X := ctx 0 [trace_one.spec]) Tryd.mixed trace_Check.ann Tryd.func130 rfl (by kernel_rfl) (Nat.le_of_ble_eq_true rfl) (fun x => by kernel_rfl)
noncomputable def trace_Check.spec : XSpec Tryd.prog := XSpec.t 130 [.d .l_Outc] [.i64, .i64] trace_Check (by kernel_rfl) trace_Check.fn
noncomputable def trace_valid : List Outc → Option Int :=
 fun l_1 =>
 (trace_Check l_1).bind fun (x_2, x_3) =>
 some x_2
def trace_valid.ann : Ann := .no
set_option maxRecDepth 100000 in
theorem trace_valid.fn : FnT Tryd.prog 73 [.d .l_Outc] [.i64] trace_valid :=
 FnT.of (X := ctx 0 [trace_Check.spec]) Tryd.mixed trace_valid.ann Tryd.func73 rfl (by kernel_rfl) (Nat.le_of_ble_eq_true rfl) (fun x => by kernel_rfl)
noncomputable def trace_valid.spec : XSpec Tryd.prog := XSpec.t 73 [.d .l_Outc] [.i64] trace_valid (by kernel_rfl) trace_valid.fn
noncomputable def trace_Same : ((List Outc) × (List Outc)) → Option (Bool × Int) :=
 fun (a_1, b_2) =>
 (trace_valid a_1).bind fun x_3 =>
 br (x_3 != (0 : Int))
  (some (false, x_3))
  ((trace_valid b_2).bind fun x_4 =>
  br (x_4 != (0 : Int))
   (some (false, x_4))
   ((iter (σ := Int × (List (Outc × Int))) (ρ := List (Outc × Int)) (fun (x_5, x_6) =>
    br (decide (x_5 < (a_1.length : Int)))
     ((idx a_1 x_5).bind fun x_7 =>
     (mget (α := Outc) (β := Int) (kinC .Outc) x_6 x_7).bind fun x_8 =>
     (addI .i64 (x_8.getD (0 : Int)) (1 : Int)).bind fun x_9 =>
     (mput (α := Outc) (β := Int) (kinC .Outc) x_6 x_7 x_9).bind fun x_10 =>
     (addI .i64 x_5 (1 : Int)).bind fun x_11 =>
     some (.next (x_11, x_10)))
     (some (.done x_6))) ((0 : Int), ([] : List (Outc × Int)))).bind fun x_12 =>
   (iter (σ := Int × (List (Outc × Int))) (ρ := List (Outc × Int)) (fun (x_13, x_14) =>
    br (decide (x_13 < (b_2.length : Int)))
     ((idx b_2 x_13).bind fun x_15 =>
     (mget (α := Outc) (β := Int) (kinC .Outc) x_14 x_15).bind fun x_16 =>
     (subI .i64 (x_16.getD (0 : Int)) (1 : Int)).bind fun x_17 =>
     (mput (α := Outc) (β := Int) (kinC .Outc) x_14 x_15 x_17).bind fun x_18 =>
     (mget (α := Outc) (β := Int) (kinC .Outc) x_18 x_15).bind fun x_19 =>
     br ((x_19.getD (0 : Int)) == (0 : Int))
      ((mdel (α := Outc) (β := Int) (kinC .Outc) x_18 x_15).bind fun x_20 =>
      (addI .i64 x_13 (1 : Int)).bind fun x_21 =>
      some (.next (x_21, x_20)))
      ((addI .i64 x_13 (1 : Int)).bind fun x_22 =>
      some (.next (x_22, x_18))))
     (some (.done x_14))) ((0 : Int), x_12)).bind fun x_23 =>
   some ((x_23.length : Int) == (0 : Int), (0 : Int))))
def trace_Same.ann : Ann := (.two .no (.two .no (.two .no (.two .no (.two (.two .no (.loop [10, 26, 27, 28, 29, 30, 31, 32, 33, 34, 35, 36] [0] [.slot 26 .i64 none, .mapb 0 .Outc .i64] [(.exit 0, [.mapb 0 .Outc .i64])] .no)) (.two (.two .no (.loop [12, 39, 40, 41, 42, 43, 44, 45, 46, 47, 48, 49, 50, 51, 52, 53, 54, 55] [0] [.slot 39 .i64 none, .mapb 0 .Outc .i64] [(.exit 2, [.mapb 0 .Outc .i64])] .no)) .no))))))
set_option maxRecDepth 100000 in
theorem trace_Same.fn : FnT Tryd.prog 24 [.d .l_Outc, .d .l_Outc] [.bool, .i64] trace_Same :=
 FnT.of (X := ctx 0 [trace_valid.spec]) Tryd.mixed trace_Same.ann Tryd.func24 rfl (by kernel_rfl) (Nat.le_of_ble_eq_true rfl) (fun x => by kernel_rfl)
noncomputable def trace_Same.spec : XSpec Tryd.prog := XSpec.t 24 [.d .l_Outc, .d .l_Outc] [.bool, .i64] trace_Same (by kernel_rfl) trace_Same.fn
noncomputable def packhorselaw39_own : List Outc → Option (List Outc) :=
 fun l_1 =>
 (app 56 ([] : List Outc) l_1).bind fun x_2 =>
 some x_2
def packhorselaw39_own.ann : Ann := .no
set_option maxRecDepth 100000 in
theorem packhorselaw39_own.fn : FnT Tryd.prog 26 [.d .l_Outc] [.l_Outc] packhorselaw39_own :=
 FnT.of (X := ctx 0 []) Tryd.mixed packhorselaw39_own.ann Tryd.func26 rfl (by kernel_rfl) (Nat.le_of_ble_eq_true rfl) (fun x => by kernel_rfl)
noncomputable def packhorselaw39_own.spec : XSpec Tryd.prog := XSpec.t 26 [.d .l_Outc] [.l_Outc] packhorselaw39_own (by kernel_rfl) packhorselaw39_own.fn
set_option maxRecDepth 100000 in
theorem packhorselaw39_own.fo : FnTO Tryd.prog 26 [.d .l_Outc] .Outc 53 packhorselaw39_own :=
 FnTO.of (X := ctx 0 []) Tryd.mixed packhorselaw39_own.ann Tryd.func26 rfl (by kernel_rfl) (Nat.le_of_ble_eq_true rfl) (fun x => by kernel_rfl)
noncomputable def packhorselaw39_own.ow : XOwn Tryd.prog := XOwn.t 26 [.d .l_Outc] .Outc 53 packhorselaw39_own (by kernel_rfl) packhorselaw39_own.fo
noncomputable def packhorselaw39_TraceOrder : ((List Int) × Int) → Option Bool :=
 fun (nums_1, at_2) =>
 (packhorselaw39_TraceKnown ()).bind fun x_3 =>
 (packhorselaw39_Made nums_1).bind fun x_4 =>
 (trace_Same (x_4, x_4)).bind fun (x_5, x_6) =>
 br (x_6 != (0 : Int))
  (some false)
  (br (!x_5)
   (some false)
   (br (decide ((x_4.length : Int) < (2 : Int)))
    (some x_3)
    ((subI .i64 (x_4.length : Int) (1 : Int)).bind fun x_7 =>
    (packhorsekit_Mod (at_2, x_7)).bind fun x_8 =>
    (packhorselaw39_own x_4).bind fun x_9 =>
    (idx x_9 x_8).bind fun x_10 =>
    (addI .i64 x_8 (1 : Int)).bind fun x_11 =>
    (idx x_9 x_11).bind fun x_12 =>
    br (x_10.Tick == x_12.Tick)
     ((addI .i64 x_8 (1 : Int)).bind fun x_13 =>
     (addI .i64 x_8 (1 : Int)).bind fun x_14 =>
     (idx x_9 x_14).bind fun x_15 =>
     (idx x_9 x_8).bind fun x_16 =>
     br (inB x_8 x_9.length)
      ((idx x_9 x_8).bind fun x_17 =>
      br (inB x_13 (setI x_9 x_8 x_15).length)
       ((idx (setI x_9 x_8 x_15) x_13).bind fun x_18 =>
       (trace_Same (x_4, setI (setI x_9 x_8 x_15) x_13 x_16)).bind fun (x_19, x_20) =>
       br (x_20 != (0 : Int))
        (some false)
        (br (!x_19)
         (some false)
         ((idx (setI (setI x_9 x_8 x_15) x_13 x_16) x_8).bind fun x_21 =>
         br (inB x_8 (setI (setI x_9 x_8 x_15) x_13 x_16).length)
          ((idx (setI (setI x_9 x_8 x_15) x_13 x_16) x_8).bind fun x_22 =>
          (trace_Same (x_4, setI (setI (setI x_9 x_8 x_15) x_13 x_16) x_8 (⟨x_21.Tick, (9 : Int), (14 : Int), (⟨(0 : Int), (0 : Int), (0 : Int)⟩ : ID), (0 : Int)⟩ : Outc))).bind fun (x_23, x_24) =>
          br x_3
           (br (x_24 == (0 : Int))
            (some (!x_23))
            (some false))
           (some false))
          (none))))
       (none))
      (none))
     ((idx x_9 x_8).bind fun x_25 =>
     br (inB x_8 x_9.length)
      ((idx x_9 x_8).bind fun x_26 =>
      (trace_Same (x_4, setI x_9 x_8 (⟨x_25.Tick, (9 : Int), (14 : Int), (⟨(0 : Int), (0 : Int), (0 : Int)⟩ : ID), (0 : Int)⟩ : Outc))).bind fun (x_27, x_28) =>
      br x_3
       (br (x_28 == (0 : Int))
        (some (!x_27))
        (some false))
       (some false))
      (none)))))
def packhorselaw39_TraceOrder.ann : Ann := (.two .no (.two .no (.two .no (.two .no (.two .no (.two .no (.two .no (.two .no (.two (.two .no (.two (.two .sch .no) .no)) .no)))))))))
set_option maxRecDepth 100000 in
theorem packhorselaw39_TraceOrder.fn : FnT Tryd.prog 7 [.d .l_i64, .d .i64] [.bool] packhorselaw39_TraceOrder :=
 FnT.of (X := ctxO 19342826948892122077462528 [packhorselaw39_TraceKnown.spec, packhorselaw39_Made.spec, trace_Same.spec, packhorsekit_Mod.spec, packhorselaw39_own.spec] [] [packhorselaw39_Made.ow, packhorselaw39_own.ow]) Tryd.mixed packhorselaw39_TraceOrder.ann Tryd.func7 rfl (by kernel_rfl) (Nat.le_of_ble_eq_true rfl) (fun x => by kernel_rfl)
noncomputable def packhorselaw39_TraceOrder.spec : XSpec Tryd.prog := XSpec.t 7 [.d .l_i64, .d .i64] [.bool] packhorselaw39_TraceOrder (by kernel_rfl) packhorselaw39_TraceOrder.fn
end Go.Proofs.YtjcbpfhlgebgdaaDoor
