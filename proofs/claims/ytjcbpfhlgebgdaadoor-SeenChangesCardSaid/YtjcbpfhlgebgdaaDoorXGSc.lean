import Derived.Test.YtjcbpfhlgebgdaaDoorXT
import Derived.Test.YtjcbpfhlgebgdaaDoorInsC
import Derived.Test.YtjcbpfhlgebgdaaDoorX9
import Derived.Test.YtjcbpfhlgebgdaaDoorChecked
import Derived.KernelRfl
set_option linter.unusedSimpArgs false
set_option linter.unusedVariables false
namespace Go.Proofs.YtjcbpfhlgebgdaaDoor
open Go.X Go.Eng
theorem keyed53 : Go.Eng.KeyT Tryd.prog 53 := Go.Eng.KeyT.struct (n := 24) (Go.deep_law_laid (by kernel_rfl) (m := 4) (by omega) (of_decide_eq_true (by kernel_rfl)) (by kernel_rfl) (by kernel_rfl)) Tryd.underlying53 (by kernel_rfl) (show Go.Eng.keyT Tryd.prog 53 = some (true, [.int .i64, .int .i64, .int .i64, .int .i64, .int .u64, .int .i64, .int .i64]) by kernel_rfl) (by kernel_rfl) (by kernel_rfl) (by kernel_rfl)
theorem keyed164 : Go.Eng.KeyT Tryd.prog 164 := Go.Eng.KeyT.pair (e := 3) (q := .i64) ⟨by kernel_rfl, by kernel_rfl, by kernel_rfl, by kernel_rfl⟩ (by kernel_rfl) ⟨303, by kernel_rfl⟩ (Go.deep_law_laid (by kernel_rfl) (m := 2) (by omega) (of_decide_eq_true (by kernel_rfl)) (by kernel_rfl) (by kernel_rfl)) (by kernel_rfl)
def keyB (t : TypeId) : Bool := Nat.beq t 53 || Nat.beq t 164
theorem keyB_ok (t : TypeId) (h : keyB t = true) : Go.Eng.KeyT Tryd.prog t := by
 simp only [keyB, Bool.or_eq_true] at h
 rcases h with h | h
 ·have := Nat.eq_of_beq_eq_true h; subst this; exact keyed53
 ·have := Nat.eq_of_beq_eq_true h; subst this; exact keyed164
def codes : List (Option C) := [none, none, some .i64, some .i64, some .bool, some .u8, some .u8, none, none, some .str, some .str, some .str, some .u64, none, none, none, none, none, none, none, none, some .i32, some .l_Contact, none, some .i64, none, none, none, none, some .Fault, some .Fault, none, none, none, none, some .l_i64, none, none, some .l_Outc, none, none, none, none, none, none, none, none, none, none, some .u64, some .ID, some .ID, some .Outc, some .Outc, none, some .l_Mrk, none, none, none, none, none, none, none, none, none, none, none, none, some .EID, some .EID, none, none, none, none, some .l_EID, none, none, none, none, none, none, none, some .Contact, some .Contact, none, none, none, none, some .l_u8, some .a6_i64, none, none, some .l_Row, none, none, some .l_Word, some .Row, some .Row, none, none, some .Word, some .Word, none, none, none, none, none, none, none, none, none, none, none, none, none, none, none, none, none, none, none, none, none, none, none, none, none, none, none, some .Mrk, some .Mrk, none, none, none, none, none, none, none, none, none, none, none, none, none, none, none, some .Cursor, some .Cursor, none, none, none, none, none, none, none, none, none, none, some .l_str, none, none, none, none, some .Pair, some .Pair, none, none, none, none, none, none, none, none, none, none, none, some .a7_i64, none, none, none, none, some .Face, some .Face, none, some .i64, some .i64, some .i64, none, some .ID, some .i64, none, none, none, none, none, none, none, some .l_Face, none, none, none, none, none, none, none, none, none, none, none, none, some .a17_bool, some .a17_bool, none, none, none, none, none, none, none, none, none, none, none, none, none, none, none, none, none, none, none, none, none, some .W3, some .W3, some .l_W3, none, none, none, some .W3, none, none, some .u64, none, none, none, none, none, none, none, none, none, none, none, none, none, none, none, none, none, none, none, none, none, none, none, none, none, none, none, none, some .u32, none, none, none, none, none, none, none, none, none, none, none, none, none, none, none, none, none, none, none, none, none, none, none, none, some .u8, some .u8, none, some .i32, some .i32, none, none, none]
noncomputable def ctx (wr : Nat) (l : List (XSpec Tryd.prog)) : XCtx Tryd.prog := { code := fun t => (codes[t]?).getD none, wr := wr, key := keyB, keyed := keyB_ok, known := l }
noncomputable def ctxS (wr : Nat) (l : List (XSpec Tryd.prog)) (s : List (XSort Tryd.prog)) : XCtx Tryd.prog := { code := fun t => (codes[t]?).getD none, wr := wr, key := keyB, keyed := keyB_ok, known := l, sorts := s }
noncomputable def ctxO (wr : Nat) (l : List (XSpec Tryd.prog)) (s : List (XSort Tryd.prog)) (w : List (XOwn Tryd.prog)) : XCtx Tryd.prog := { code := fun t => (codes[t]?).getD none, wr := wr, key := keyB, keyed := keyB_ok, known := l, sorts := s, owned := w }
noncomputable def ctxM (wr : Nat) (l : List (XSpec Tryd.prog)) (s : List (XSort Tryd.prog)) (w : List (XOwn Tryd.prog)) (u : List (XMut Tryd.prog)) : XCtx Tryd.prog := { code := fun t => (codes[t]?).getD none, wr := wr, key := keyB, keyed := keyB_ok, known := l, sorts := s, owned := w, muts := u }
noncomputable def packhorselaw16_mark : (Int × Int) → Option Mrk :=
 fun (seq_1, until_2) =>
 some (⟨(⟨(2 : Int), seq_1, (0 : Int)⟩ : ID), until_2⟩ : Mrk)
def packhorselaw16_mark.ann : Ann := .no
set_option maxRecDepth 100000 in
theorem packhorselaw16_mark.fn : FnT Tryd.prog 83 [.d .u64, .d .i64] [.Mrk] packhorselaw16_mark :=
 FnT.of (X := ctx 0 []) Tryd.mixed packhorselaw16_mark.ann Tryd.func83 rfl (by kernel_rfl) (Nat.le_of_ble_eq_true rfl) (fun x => by kernel_rfl)
noncomputable def packhorselaw16_mark.spec : XSpec Tryd.prog := XSpec.t 83 [.d .u64, .d .i64] [.Mrk] packhorselaw16_mark (by kernel_rfl) packhorselaw16_mark.fn
noncomputable def bundle_within : List W3 → Option Bool :=
 fun l_1 =>
 (iter (σ := Int) (ρ := (Bool) ⊕ (Unit)) (fun x_2 =>
  br (decide (x_2 < (l_1.length : Int)))
   ((idx l_1 x_2).bind fun x_3 =>
   br (decide (x_3.a < x_3.b))
    (some (.done (.inl false)))
    (br (decide (x_3.c < x_3.a))
     (some (.done (.inl false)))
     ((addI .i64 x_2 (1 : Int)).bind fun x_4 =>
     some (.next x_4))))
   (some (.done (.inr ())))) (0 : Int)).bind fun x_6 =>
 Sum.elim
  (fun x_5 =>
  some x_5)
  (fun _ =>
  some true) x_6
def bundle_within.ann : Ann := (.two .no (.two (.two .no (.loop [2, 4, 7, 8, 9, 10, 11, 12, 13, 14, 15, 16, 17, 18, 19, 20, 21, 22, 23] [] [.slot 7 .i64 none] [(.ret, [.slot 2 .bool none]), (.exit 0, [])] .no)) .no))
set_option maxRecDepth 100000 in
theorem bundle_within.fn : FnT Tryd.prog 165 [.d .l_W3] [.bool] bundle_within :=
 FnT.of (X := ctx 0 []) Tryd.mixed bundle_within.ann Tryd.func165 rfl (by kernel_rfl) (Nat.le_of_ble_eq_true rfl) (fun x => by kernel_rfl)
noncomputable def bundle_within.spec : XSpec Tryd.prog := XSpec.t 165 [.d .l_W3] [.bool] bundle_within (by kernel_rfl) bundle_within.fn
noncomputable def bundle_CheckID : ID → Option Int :=
 fun id_1 =>
 (bundle_within ([(⟨id_1.Node, (1 : Int), (16 : Int)⟩ : W3), (⟨id_1.Off, (0 : Int), (19999 : Int)⟩ : W3)] : List W3)).bind fun x_2 =>
 br (!x_2)
  (some (2 : Int))
  (br (decide ((1099511627776 : Int) < id_1.Seq))
   (some (2 : Int))
   (some (0 : Int)))
def bundle_CheckID.ann : Ann := .no
set_option maxRecDepth 100000 in
theorem bundle_CheckID.fn : FnT Tryd.prog 125 [.d .ID] [.i64] bundle_CheckID :=
 FnT.of (X := ctx 0 [bundle_within.spec]) Tryd.mixed bundle_CheckID.ann Tryd.func125 rfl (by kernel_rfl) (Nat.le_of_ble_eq_true rfl) (fun x => by kernel_rfl)
noncomputable def bundle_CheckID.spec : XSpec Tryd.prog := XSpec.t 125 [.d .ID] [.i64] bundle_CheckID (by kernel_rfl) bundle_CheckID.fn
noncomputable def seen_one : Mrk → Option Int :=
 fun m_1 =>
 (bundle_CheckID m_1.ID).bind fun x_2 =>
 br (x_2 != (0 : Int))
  (some (2 : Int))
  (br (decide (m_1.Until < (0 : Int)))
   (some (2 : Int))
   (br (decide ((1099512676352 : Int) < m_1.Until))
    (some (2 : Int))
    (some (0 : Int))))
def seen_one.ann : Ann := .no
set_option maxRecDepth 100000 in
theorem seen_one.fn : FnT Tryd.prog 85 [.d .Mrk] [.i64] seen_one :=
 FnT.of (X := ctx 0 [bundle_CheckID.spec]) Tryd.mixed seen_one.ann Tryd.func85 rfl (by kernel_rfl) (Nat.le_of_ble_eq_true rfl) (fun x => by kernel_rfl)
noncomputable def seen_one.spec : XSpec Tryd.prog := XSpec.t 85 [.d .Mrk] [.i64] seen_one (by kernel_rfl) seen_one.fn
noncomputable def cmp_isNaN : Int → Option Bool :=
 fun x_1 =>
 some (x_1 != x_1)
def cmp_isNaN.ann : Ann := .no
set_option maxRecDepth 100000 in
theorem cmp_isNaN.fn : FnT Tryd.prog 170 [.d .i64] [.bool] cmp_isNaN :=
 FnT.of (X := ctx 0 []) Tryd.mixed cmp_isNaN.ann Tryd.func170 rfl (by kernel_rfl) (Nat.le_of_ble_eq_true rfl) (fun x => by kernel_rfl)
noncomputable def cmp_isNaN.spec : XSpec Tryd.prog := XSpec.t 170 [.d .i64] [.bool] cmp_isNaN (by kernel_rfl) cmp_isNaN.fn
noncomputable def cmp_Compare : (Int × Int) → Option Int :=
 fun (x_1, y_2) =>
 (cmp_isNaN x_1).bind fun x_3 =>
 (cmp_isNaN y_2).bind fun x_4 =>
 br x_3
  (br x_4
   (some (0 : Int))
   (some (-1 : Int)))
  (br x_4
   (some (1 : Int))
   (br (decide (x_1 < y_2))
    (some (-1 : Int))
    (br (decide (y_2 < x_1))
     (some (1 : Int))
     (some (0 : Int)))))
def cmp_Compare.ann : Ann := .no
set_option maxRecDepth 100000 in
theorem cmp_Compare.fn : FnT Tryd.prog 140 [.d .i64, .d .i64] [.i64] cmp_Compare :=
 FnT.of (X := ctx 0 [cmp_isNaN.spec]) Tryd.mixed cmp_Compare.ann Tryd.func140 rfl (by kernel_rfl) (Nat.le_of_ble_eq_true rfl) (fun x => by kernel_rfl)
noncomputable def cmp_Compare.spec : XSpec Tryd.prog := XSpec.t 140 [.d .i64, .d .i64] [.i64] cmp_Compare (by kernel_rfl) cmp_Compare.fn
noncomputable def cmp_isNaN_2 : Int → Option Bool :=
 fun x_1 =>
 some (x_1 != x_1)
def cmp_isNaN_2.ann : Ann := .no
set_option maxRecDepth 100000 in
theorem cmp_isNaN_2.fn : FnT Tryd.prog 171 [.d .u64] [.bool] cmp_isNaN_2 :=
 FnT.of (X := ctx 0 []) Tryd.mixed cmp_isNaN_2.ann Tryd.func171 rfl (by kernel_rfl) (Nat.le_of_ble_eq_true rfl) (fun x => by kernel_rfl)
noncomputable def cmp_isNaN_2.spec : XSpec Tryd.prog := XSpec.t 171 [.d .u64] [.bool] cmp_isNaN_2 (by kernel_rfl) cmp_isNaN_2.fn
noncomputable def cmp_Compare_2 : (Int × Int) → Option Int :=
 fun (x_1, y_2) =>
 (cmp_isNaN_2 x_1).bind fun x_3 =>
 (cmp_isNaN_2 y_2).bind fun x_4 =>
 br x_3
  (br x_4
   (some (0 : Int))
   (some (-1 : Int)))
  (br x_4
   (some (1 : Int))
   (br (decide (x_1 < y_2))
    (some (-1 : Int))
    (br (decide (y_2 < x_1))
     (some (1 : Int))
     (some (0 : Int)))))
def cmp_Compare_2.ann : Ann := .no
set_option maxRecDepth 100000 in
theorem cmp_Compare_2.fn : FnT Tryd.prog 141 [.d .u64, .d .u64] [.i64] cmp_Compare_2 :=
 FnT.of (X := ctx 0 [cmp_isNaN_2.spec]) Tryd.mixed cmp_Compare_2.ann Tryd.func141 rfl (by kernel_rfl) (Nat.le_of_ble_eq_true rfl) (fun x => by kernel_rfl)
noncomputable def cmp_Compare_2.spec : XSpec Tryd.prog := XSpec.t 141 [.d .u64, .d .u64] [.i64] cmp_Compare_2 (by kernel_rfl) cmp_Compare_2.fn
noncomputable def cmp_Or : List Int → Option Int :=
 fun vals_1 =>
 (iter (σ := Int) (ρ := (Int) ⊕ (Unit)) (fun x_2 =>
  br (decide (x_2 < (vals_1.length : Int)))
   ((idx vals_1 x_2).bind fun x_3 =>
   br (x_3 != (0 : Int))
    (some (.done (.inl x_3)))
    ((addI .i64 x_2 (1 : Int)).bind fun x_4 =>
    some (.next x_4)))
   (some (.done (.inr ())))) (0 : Int)).bind fun x_6 =>
 Sum.elim
  (fun x_5 =>
  some x_5)
  (fun _ =>
  some (0 : Int)) x_6
def cmp_Or.ann : Ann := (.two .no (.two .no (.two (.two .no (.loop [2, 5, 8, 9, 10, 11, 12, 13, 14, 15, 16] [] [.slot 8 .i64 none] [(.ret, [.slot 2 .i64 none]), (.exit 0, [])] .no)) .no)))
set_option maxRecDepth 100000 in
theorem cmp_Or.fn : FnT Tryd.prog 139 [.d .l_i64] [.i64] cmp_Or :=
 FnT.of (X := ctx 0 []) Tryd.mixed cmp_Or.ann Tryd.func139 rfl (by kernel_rfl) (Nat.le_of_ble_eq_true rfl) (fun x => by kernel_rfl)
noncomputable def cmp_Or.spec : XSpec Tryd.prog := XSpec.t 139 [.d .l_i64] [.i64] cmp_Or (by kernel_rfl) cmp_Or.fn
noncomputable def bundle_Compare : (ID × ID) → Option Int :=
 fun (a_1, b_2) =>
 (cmp_Compare (a_1.Node, b_2.Node)).bind fun x_3 =>
 (cmp_Compare_2 (a_1.Seq, b_2.Seq)).bind fun x_4 =>
 (cmp_Compare (a_1.Off, b_2.Off)).bind fun x_5 =>
 (cmp_Or ([x_3, x_4, x_5] : List Int)).bind fun x_6 =>
 some x_6
def bundle_Compare.ann : Ann := .no
set_option maxRecDepth 100000 in
theorem bundle_Compare.fn : FnT Tryd.prog 86 [.d .ID, .d .ID] [.i64] bundle_Compare :=
 FnT.of (X := ctx 0 [cmp_Compare.spec, cmp_Compare_2.spec, cmp_Or.spec]) Tryd.mixed bundle_Compare.ann Tryd.func86 rfl (by kernel_rfl) (Nat.le_of_ble_eq_true rfl) (fun x => by kernel_rfl)
noncomputable def bundle_Compare.spec : XSpec Tryd.prog := XSpec.t 86 [.d .ID, .d .ID] [.i64] bundle_Compare (by kernel_rfl) bundle_Compare.fn
noncomputable def seen_Check : List Mrk → Option (Int × Int) :=
 fun l_1 =>
 (iter (σ := Int) (ρ := (Int × Int) ⊕ (Unit)) (fun x_2 =>
  br (decide (x_2 < (l_1.length : Int)))
   ((idx l_1 x_2).bind fun x_3 =>
   (seen_one x_3).bind fun x_4 =>
   br (x_4 != (0 : Int))
    (some (.done (.inl (x_4, x_2))))
    (br (decide ((0 : Int) < x_2))
     ((subI .i64 x_2 (1 : Int)).bind fun x_5 =>
     (idx l_1 x_5).bind fun x_6 =>
     (bundle_Compare (x_6.ID, x_3.ID)).bind fun x_7 =>
     br (decide ((0 : Int) ≤ x_7))
      (some (.done (.inl ((19 : Int), x_2))))
      ((addI .i64 x_2 (1 : Int)).bind fun x_8 =>
      some (.next x_8)))
     ((addI .i64 x_2 (1 : Int)).bind fun x_9 =>
     some (.next x_9))))
   (some (.done (.inr ())))) (0 : Int)).bind fun x_12 =>
 Sum.elim
  (fun (x_10, x_11) =>
  some (x_10, x_11))
  (fun _ =>
  some ((0 : Int), (0 : Int))) x_12
def seen_Check.ann : Ann := (.two .no (.two (.two .no (.loop [2, 3, 4, 5, 6, 9, 10, 11, 12, 13, 14, 15, 16, 17, 18, 19, 20, 21, 22, 23, 24, 25, 26, 27, 28, 29, 30, 31, 32, 33, 34, 35] [] [.slot 9 .i64 none] [(.ret, [.slot 2 .i64 none, .slot 3 .i64 none]), (.exit 0, [])] .no)) .no))
set_option maxRecDepth 100000 in
theorem seen_Check.fn : FnT Tryd.prog 29 [.d .l_Mrk] [.i64, .i64] seen_Check :=
 FnT.of (X := ctx 0 [seen_one.spec, bundle_Compare.spec]) Tryd.mixed seen_Check.ann Tryd.func29 rfl (by kernel_rfl) (Nat.le_of_ble_eq_true rfl) (fun x => by kernel_rfl)
noncomputable def seen_Check.spec : XSpec Tryd.prog := XSpec.t 29 [.d .l_Mrk] [.i64, .i64] seen_Check (by kernel_rfl) seen_Check.fn
noncomputable def seen_order_byID : (Mrk × ID) → Option Int :=
 fun (m_1, id_2) =>
 (bundle_Compare (m_1.ID, id_2)).bind fun x_3 =>
 some x_3
def seen_order_byID.ann : Ann := .no
set_option maxRecDepth 100000 in
theorem seen_order_byID.fn : FnT Tryd.prog 143 [.e, .d .Mrk, .d .ID] [.i64] seen_order_byID :=
 FnT.of (X := ctx 0 [bundle_Compare.spec]) Tryd.mixed seen_order_byID.ann Tryd.func143 rfl (by kernel_rfl) (Nat.le_of_ble_eq_true rfl) (fun x => by kernel_rfl)
noncomputable def seen_order_byID.spec : XSpec Tryd.prog := XSpec.t 143 [.e, .d .Mrk, .d .ID] [.i64] seen_order_byID (by kernel_rfl) seen_order_byID.fn
noncomputable def slices_BinarySearchFunc_f143 : ((List Mrk) × ID) → Option (Int × Bool) :=
 fun (x_1, target_2) =>
 (iter (σ := Int × Int) (ρ := Int) (fun (i_3, j_4) =>
  br (decide (i_3 < j_4))
   ((addI .i64 i_3 j_4).bind fun x_5 =>
   (shrI .u64 (Go.IntKind.wrap .u64 x_5) (1 : Int)).bind fun x_6 =>
   (idx x_1 (Go.IntKind.wrap .i64 x_6)).bind fun x_7 =>
   (seen_order_byID (x_7, target_2)).bind fun x_8 =>
   br (decide (x_8 < (0 : Int)))
    ((addI .i64 (Go.IntKind.wrap .i64 x_6) (1 : Int)).bind fun x_9 =>
    some (.next (x_9, j_4)))
    (some (.next (i_3, Go.IntKind.wrap .i64 x_6))))
   (some (.done i_3))) ((0 : Int), (x_1.length : Int))).bind fun i_10 =>
 br (decide (i_10 < (x_1.length : Int)))
  ((idx x_1 i_10).bind fun x_11 =>
  (seen_order_byID (x_11, target_2)).bind fun x_12 =>
  some (i_10, x_12 == (0 : Int)))
  (some (i_10, false))
def slices_BinarySearchFunc_f143.ann : Ann := (.two .no (.two .no (.two .no (.two (.loop [9, 10, 11, 15, 16, 17, 18, 19, 20, 21, 22, 23, 24, 25, 26, 27, 28, 29, 30, 31, 32, 33, 34] [] [.slot 9 .i64 none, .slot 10 .i64 none] [(.exit 0, [.slot 9 .i64 none])] .no) .no))))
set_option maxRecDepth 100000 in
theorem slices_BinarySearchFunc_f143.fn : FnT Tryd.prog 144 [.d .l_Mrk, .d .ID, .m 143] [.i64, .bool] slices_BinarySearchFunc_f143 :=
 FnT.of (X := ctx 0 [seen_order_byID.spec]) Tryd.mixed slices_BinarySearchFunc_f143.ann Tryd.func144 rfl (by kernel_rfl) (Nat.le_of_ble_eq_true rfl) (fun x => by kernel_rfl)
noncomputable def slices_BinarySearchFunc_f143.spec : XSpec Tryd.prog := XSpec.t 144 [.d .l_Mrk, .d .ID, .m 143] [.i64, .bool] slices_BinarySearchFunc_f143 (by kernel_rfl) slices_BinarySearchFunc_f143.fn
noncomputable def seen_find : ((List Mrk) × ID) → Option (Int × Bool) :=
 fun (l_1, id_2) =>
 (slices_BinarySearchFunc_f143 (l_1, id_2)).bind fun (x_3, x_4) =>
 some (x_3, x_4)
def seen_find.ann : Ann := .no
set_option maxRecDepth 100000 in
theorem seen_find.fn : FnT Tryd.prog 90 [.d .l_Mrk, .d .ID] [.i64, .bool] seen_find :=
 FnT.of (X := ctx 0 [slices_BinarySearchFunc_f143.spec]) Tryd.mixed seen_find.ann Tryd.func90 rfl (by kernel_rfl) (Nat.le_of_ble_eq_true rfl) (fun x => by kernel_rfl)
noncomputable def seen_find.spec : XSpec Tryd.prog := XSpec.t 90 [.d .l_Mrk, .d .ID] [.i64, .bool] seen_find (by kernel_rfl) seen_find.fn
noncomputable def slices_Clone : List Mrk → Option (List Mrk) :=
 fun s_1 =>
 nilq s_1
  (some ([] : List Mrk))
  ((app 32 ([] : List Mrk) s_1).bind fun x_2 =>
  some x_2)
def slices_Clone.ann : Ann := .no
set_option maxRecDepth 100000 in
theorem slices_Clone.fn : FnT Tryd.prog 92 [.d .l_Mrk] [.l_Mrk] slices_Clone :=
 FnT.of (X := ctx 0 []) Tryd.mixed slices_Clone.ann Tryd.func92 rfl (by kernel_rfl) (Nat.le_of_ble_eq_true rfl) (fun x => by kernel_rfl)
noncomputable def slices_Clone.spec : XSpec Tryd.prog := XSpec.t 92 [.d .l_Mrk] [.l_Mrk] slices_Clone (by kernel_rfl) slices_Clone.fn
set_option maxRecDepth 100000 in
theorem slices_Clone.fo : FnTO Tryd.prog 92 [.d .l_Mrk] .Mrk 130 slices_Clone :=
 FnTO.of (X := ctx 0 []) Tryd.mixed slices_Clone.ann Tryd.func92 rfl (by kernel_rfl) (Nat.le_of_ble_eq_true rfl) (fun x => by kernel_rfl)
noncomputable def slices_Clone.ow : XOwn Tryd.prog := XOwn.t 92 [.d .l_Mrk] .Mrk 130 slices_Clone (by kernel_rfl) slices_Clone.fo
noncomputable def seen_Add : ((List Mrk) × ID × Int) → Option ((List Mrk) × Int) :=
 fun (l_1, id_2, until_3) =>
 (seen_Check l_1).bind fun (x_4, x_5) =>
 br (x_4 != (0 : Int))
  (some (([] : List Mrk), x_4))
  ((seen_one (⟨id_2, until_3⟩ : Mrk)).bind fun x_6 =>
  br (x_6 != (0 : Int))
   (some (([] : List Mrk), x_6))
   ((seen_find (l_1, id_2)).bind fun (x_7, x_8) =>
   br x_8
    (some (([] : List Mrk), (9 : Int)))
    (both
     ((slices_Clone l_1).bind fun x_9 =>
    (insertX x_9 x_7 ([(⟨id_2, until_3⟩ : Mrk)] : List Mrk)).bind fun x_10 =>
    some (x_10, (0 : Int)))
     (both
     ((slices_Clone l_1).bind fun x_11 =>
    (insertX x_11 x_7 ([(⟨id_2, until_3⟩ : Mrk)] : List Mrk)).bind fun x_12 =>
    some (x_12, (0 : Int)))
     ((slices_Clone l_1).bind fun x_13 =>
    (insertX x_13 x_7 ([(⟨id_2, until_3⟩ : Mrk)] : List Mrk)).bind fun x_14 =>
    some (x_14, (0 : Int)))))))
def seen_Add.ann : Ann := (.two .no (.two .no (.two .no (.two .no (.two .no (.two .no (.two .full .no)))))))
set_option maxRecDepth 100000 in
theorem seen_Add.fn : FnT Tryd.prog 31 [.d .l_Mrk, .d .ID, .d .i64] [.l_Mrk, .i64] seen_Add :=
 FnT.of (X := ctxM 0 [seen_Check.spec, seen_one.spec, seen_find.spec, slices_Clone.spec] [] [slices_Clone.ow] [insertM.mu]) Tryd.mixed seen_Add.ann Tryd.func31 rfl (by kernel_rfl) (Nat.le_of_ble_eq_true rfl) (fun x => by kernel_rfl)
noncomputable def seen_Add.spec : XSpec Tryd.prog := XSpec.t 31 [.d .l_Mrk, .d .ID, .d .i64] [.l_Mrk, .i64] seen_Add (by kernel_rfl) seen_Add.fn
noncomputable def seen_Has : ((List Mrk) × ID) → Option (Bool × Int) :=
 fun (l_1, id_2) =>
 (seen_Check l_1).bind fun (x_3, x_4) =>
 br (x_3 != (0 : Int))
  (some (false, x_3))
  ((seen_find (l_1, id_2)).bind fun (x_5, x_6) =>
  some (x_6, (0 : Int)))
def seen_Has.ann : Ann := .no
set_option maxRecDepth 100000 in
theorem seen_Has.fn : FnT Tryd.prog 36 [.d .l_Mrk, .d .ID] [.bool, .i64] seen_Has :=
 FnT.of (X := ctx 0 [seen_Check.spec, seen_find.spec]) Tryd.mixed seen_Has.ann Tryd.func36 rfl (by kernel_rfl) (Nat.le_of_ble_eq_true rfl) (fun x => by kernel_rfl)
noncomputable def seen_Has.spec : XSpec Tryd.prog := XSpec.t 36 [.d .l_Mrk, .d .ID] [.bool, .i64] seen_Has (by kernel_rfl) seen_Has.fn
noncomputable def seen_Forget_1 : Mrk → Int → Option ((Bool) × (Int)) :=
 fun m_1 x_2 =>
 some (decide (m_1.Until ≤ x_2), x_2)
def seen_Forget_1.ann : Ann := .no
set_option maxRecDepth 100000 in
theorem seen_Forget_1.fn : FnB Tryd.prog 95 [.d .Mrk, .l 0 0] [(.i64, 3)] [.bool] seen_Forget_1 :=
 FnB.of (X := ctx 0 []) Tryd.mixed seen_Forget_1.ann Tryd.func95 rfl (by kernel_rfl) (Nat.le_of_ble_eq_true rfl) (fun x y => by kernel_rfl)
noncomputable def seen_Forget_1.spec : XSpec Tryd.prog := XSpec.b 95 [.d .Mrk, .l 0 0] [(.i64, 3)] [.bool] seen_Forget_1 (by kernel_rfl) seen_Forget_1.fn
noncomputable def slices_IndexFunc_f95 : List Mrk → Int → Option ((Int) × (Int)) :=
 fun s_1 x_2 =>
 (iter (σ := Int × Int) (ρ := (Int × Int) ⊕ (Int)) (fun (x_3, x_4) =>
  br (decide (x_3 < (s_1.length : Int)))
   ((idx s_1 x_3).bind fun x_5 =>
   (seen_Forget_1 x_5 x_4).bind fun (x_6, x_7) =>
   br x_6
    (some (.done (.inl (x_3, x_7))))
    ((addI .i64 x_3 (1 : Int)).bind fun x_8 =>
    some (.next (x_8, x_7))))
   (some (.done (.inr x_4)))) ((0 : Int), x_2)).bind fun x_12 =>
 Sum.elim
  (fun (x_9, x_10) =>
  some (x_9, x_10))
  (fun x_11 =>
  some ((-1 : Int), x_11)) x_12
def slices_IndexFunc_f95.ann : Ann := (.two .no (.two (.two .no (.loop [4, 5, 8, 9, 10, 11, 12, 13, 14, 15, 16, 17, 18] [0] [.slot 8 .i64 none, .box 0 .i64] [(.ret, [.slot 4 .i64 none, .box 0 .i64]), (.exit 0, [.box 0 .i64])] .no)) .no))
set_option maxRecDepth 100000 in
theorem slices_IndexFunc_f95.fn : FnB Tryd.prog 147 [.d .l_Mrk, .f 95 [0]] [(.i64, 3)] [.i64] slices_IndexFunc_f95 :=
 FnB.of (X := ctx 0 [seen_Forget_1.spec]) Tryd.mixed slices_IndexFunc_f95.ann Tryd.func147 rfl (by kernel_rfl) (Nat.le_of_ble_eq_true rfl) (fun x y => by kernel_rfl)
noncomputable def slices_IndexFunc_f95.spec : XSpec Tryd.prog := XSpec.b 147 [.d .l_Mrk, .f 95 [0]] [(.i64, 3)] [.i64] slices_IndexFunc_f95 (by kernel_rfl) slices_IndexFunc_f95.fn
noncomputable def slices_DeleteFunc_f95 : List Mrk → Int → Option ((List Mrk) × (Int)) :=
 fun s_1 x_2 =>
 (slices_IndexFunc_f95 s_1 x_2).bind fun (x_3, x_4) =>
 br (x_3 == (-1 : Int))
  (some (s_1, x_4))
  ((addI .i64 x_3 (1 : Int)).bind fun x_5 =>
  (iter (σ := (List Mrk) × Int × Int × Int) (ρ := (List Mrk) × Int × Int) (fun (s_6, i_7, j_8, x_9) =>
   br (decide (j_8 < (s_6.length : Int)))
    ((idx s_6 j_8).bind fun x_10 =>
    (seen_Forget_1 x_10 x_9).bind fun (x_11, x_12) =>
    br (!x_11)
     (br (inB i_7 s_6.length)
      ((idx s_6 i_7).bind fun x_13 =>
      (addI .i64 i_7 (1 : Int)).bind fun x_14 =>
      (addI .i64 j_8 (1 : Int)).bind fun x_15 =>
      some (.next (setI s_6 i_7 x_10, x_14, x_15, x_12)))
      (none))
     ((addI .i64 j_8 (1 : Int)).bind fun x_16 =>
     some (.next (s_6, i_7, x_16, x_12))))
    (some (.done (s_6, i_7, x_9)))) (s_1, x_3, x_5, x_4)).bind fun (s_17, i_18, x_19) =>
  (clrI s_17 i_18 (⟨(⟨(0 : Int), (0 : Int), (0 : Int)⟩ : ID), (0 : Int)⟩ : Mrk)).bind fun x_20 =>
  (slc x_20 (0 : Int) i_18).bind fun x_21 =>
  some (x_21, x_19))
def slices_DeleteFunc_f95.ann : Ann := (.two .no (.two .no (.two .no (.two (.two .no (.loop [0, 4, 5, 6, 7, 8, 16, 17, 18, 19, 20, 21, 22, 23, 24, 25, 26, 27, 28, 29, 30, 31, 32, 33, 34, 35] [0] [.slot 0 .l_Mrk (some (0, 130)), .slot 5 .i64 none, .slot 6 .i64 none, .box 0 .i64] [(.exit 0, [.slot 0 .l_Mrk (some (0, 130)), .slot 5 .i64 none, .box 0 .i64])] .no)) (.two .sch .no)))))
set_option maxRecDepth 100000 in
theorem slices_DeleteFunc_f95.mt : FnTM Tryd.prog 94 [.d .l_Mrk, .f 95 [0]] [(.i64, 3)] 0 .Mrk 130 slices_DeleteFunc_f95 :=
 FnTM.of (X := ctx 2207613190144 [slices_IndexFunc_f95.spec, seen_Forget_1.spec]) Tryd.mixed slices_DeleteFunc_f95.ann Tryd.func94 rfl (by kernel_rfl) (Nat.le_of_ble_eq_true rfl) (by decide) (fun x => Nat.le_of_ble_eq_true (by kernel_rfl)) (fun x y => by kernel_rfl)
noncomputable def slices_DeleteFunc_f95.mu : XMut Tryd.prog := XMut.t 94 [.d .l_Mrk, .f 95 [0]] [(.i64, 3)] 0 .Mrk 130 slices_DeleteFunc_f95 (by kernel_rfl) slices_DeleteFunc_f95.mt
noncomputable def seen_Forget : ((List Mrk) × Int) → Option ((List Mrk) × Int × Int) :=
 fun (l_1, now_2) =>
 (seen_Check l_1).bind fun (x_3, x_4) =>
 br (x_3 != (0 : Int))
  (some (([] : List Mrk), (0 : Int), x_3))
  ((slices_Clone l_1).bind fun x_5 =>
  (slices_DeleteFunc_f95 x_5 now_2).bind fun (x_6, x_7) =>
  (subI .i64 (l_1.length : Int) (x_6.length : Int)).bind fun x_8 =>
  some (x_6, x_8, (0 : Int)))
def seen_Forget.ann : Ann := .no
set_option maxRecDepth 100000 in
theorem seen_Forget.fn : FnT Tryd.prog 34 [.d .l_Mrk, .d .i64] [.l_Mrk, .i64, .i64] seen_Forget :=
 FnT.of (X := ctxM 0 [seen_Check.spec, slices_Clone.spec] [] [slices_Clone.ow] [slices_DeleteFunc_f95.mu]) Tryd.mixed seen_Forget.ann Tryd.func34 rfl (by kernel_rfl) (Nat.le_of_ble_eq_true rfl) (fun x => by kernel_rfl)
noncomputable def seen_Forget.spec : XSpec Tryd.prog := XSpec.t 34 [.d .l_Mrk, .d .i64] [.l_Mrk, .i64, .i64] seen_Forget (by kernel_rfl) seen_Forget.fn
noncomputable def packhorsekit_SameMarks : ((List Mrk) × (List Mrk)) → Option Bool :=
 fun (a_1, b_2) =>
 br ((a_1.length : Int) != (b_2.length : Int))
  (some false)
  ((iter (σ := Int) (ρ := (Bool) ⊕ (Unit)) (fun i_3 =>
   br (decide (i_3 < (a_1.length : Int)))
    ((idx a_1 i_3).bind fun x_4 =>
    (idx b_2 i_3).bind fun x_5 =>
    br (!((x_4.ID.Node == x_5.ID.Node) && ((x_4.ID.Seq == x_5.ID.Seq) && ((x_4.ID.Off == x_5.ID.Off) && (x_4.Until == x_5.Until)))))
     (some (.done (.inl false)))
     ((addI .i64 i_3 (1 : Int)).bind fun x_6 =>
     some (.next x_6)))
    (some (.done (.inr ())))) (0 : Int)).bind fun x_8 =>
  Sum.elim
   (fun x_7 =>
   some x_7)
   (fun _ =>
   some true) x_8)
def packhorsekit_SameMarks.ann : Ann := (.two .no (.two .no (.two (.two .no (.loop [4, 5, 11, 12, 13, 14, 15, 16, 17, 18, 19, 20, 21, 22, 23, 24, 25] [] [.slot 5 .i64 none] [(.ret, [.slot 4 .bool none]), (.exit 0, [])] .no)) .no)))
set_option maxRecDepth 100000 in
theorem packhorsekit_SameMarks.fn : FnT Tryd.prog 33 [.d .l_Mrk, .d .l_Mrk] [.bool] packhorsekit_SameMarks :=
 FnT.of (X := ctx 0 []) Tryd.mixed packhorsekit_SameMarks.ann Tryd.func33 rfl (by kernel_rfl) (Nat.le_of_ble_eq_true rfl) (fun x => by kernel_rfl)
noncomputable def packhorsekit_SameMarks.spec : XSpec Tryd.prog := XSpec.t 33 [.d .l_Mrk, .d .l_Mrk] [.bool] packhorsekit_SameMarks (by kernel_rfl) packhorsekit_SameMarks.fn
noncomputable def packhorselaw16_awake : Unit → Option Bool :=
 fun _ =>
 (packhorselaw16_mark ((5 : Int), (90 : Int))).bind fun x_1 =>
 (packhorselaw16_mark ((3 : Int), (50 : Int))).bind fun x_2 =>
 (packhorselaw16_mark ((5 : Int), (90 : Int))).bind fun x_3 =>
 (seen_Add (([x_1] : List Mrk), (⟨(2 : Int), (3 : Int), (0 : Int)⟩ : ID), (50 : Int))).bind fun (x_4, x_5) =>
 (seen_Has (([x_1] : List Mrk), (⟨(2 : Int), (5 : Int), (0 : Int)⟩ : ID))).bind fun (x_6, x_7) =>
 (seen_Forget (([x_2, x_3] : List Mrk), (50 : Int))).bind fun (x_8, x_9, x_10) =>
 (seen_Text ([x_2, x_3] : List Mrk)).bind fun (x_11, x_12) =>
 (seen_Check ([x_2, x_3] : List Mrk)).bind fun (x_13, x_14) =>
 br (x_5 == (0 : Int))
  ((packhorsekit_SameMarks (x_4, ([x_2, x_3] : List Mrk))).bind fun x_15 =>
  br x_15
   (br (x_7 == (0 : Int))
    (br x_6
     (br (x_10 == (0 : Int))
      (br (x_9 == (1 : Int))
       ((packhorsekit_SameMarks (x_8, ([x_1] : List Mrk))).bind fun x_16 =>
       br x_16
        (br (x_12 == (0 : Int))
         (br (x_11 == ([50, 46, 51, 46, 48, 47, 53, 48, 10, 50, 46, 53, 46, 48, 47, 57, 48, 10] : List UInt8))
          (br (x_13 == (0 : Int))
           (some (x_14 == (0 : Int)))
           (some false))
          (some false))
         (some false))
        (some false))
       (some false))
      (some false))
     (some false))
    (some false))
   (some false))
  (some false)
def packhorselaw16_awake.ann : Ann := .no
set_option maxRecDepth 100000 in
theorem packhorselaw16_awake.fn : FnT Tryd.prog 27 [] [.bool] packhorselaw16_awake :=
 FnT.of (X := ctx 0 [packhorselaw16_mark.spec, seen_Add.spec, seen_Has.spec, seen_Forget.spec, seen_Text.spec, seen_Check.spec, packhorsekit_SameMarks.spec]) Tryd.mixed packhorselaw16_awake.ann Tryd.func27 rfl (by kernel_rfl) (Nat.le_of_ble_eq_true rfl) (fun x => by kernel_rfl)
noncomputable def packhorselaw16_awake.spec : XSpec Tryd.prog := XSpec.t 27 [] [.bool] packhorselaw16_awake (by kernel_rfl) packhorselaw16_awake.fn
noncomputable def packhorsekit_OwnMarks : List Mrk → Option (List Mrk) :=
 fun l_1 =>
 (app 32 ([] : List Mrk) l_1).bind fun x_2 =>
 some x_2
def packhorsekit_OwnMarks.ann : Ann := .no
set_option maxRecDepth 100000 in
theorem packhorsekit_OwnMarks.fn : FnT Tryd.prog 28 [.d .l_Mrk] [.l_Mrk] packhorsekit_OwnMarks :=
 FnT.of (X := ctx 0 []) Tryd.mixed packhorsekit_OwnMarks.ann Tryd.func28 rfl (by kernel_rfl) (Nat.le_of_ble_eq_true rfl) (fun x => by kernel_rfl)
noncomputable def packhorsekit_OwnMarks.spec : XSpec Tryd.prog := XSpec.t 28 [.d .l_Mrk] [.l_Mrk] packhorsekit_OwnMarks (by kernel_rfl) packhorsekit_OwnMarks.fn
noncomputable def packhorseref16_known : ID → Option Bool :=
 fun id_1 =>
 br (decide ((1 : Int) ≤ id_1.Node))
  (br (decide (id_1.Node ≤ (16 : Int)))
   (br (decide (id_1.Seq ≤ (1099511627776 : Int)))
    (br (decide ((0 : Int) ≤ id_1.Off))
     (some (decide (id_1.Off < (20000 : Int))))
     (some false))
    (some false))
   (some false))
  (some false)
def packhorseref16_known.ann : Ann := .no
set_option maxRecDepth 100000 in
theorem packhorseref16_known.fn : FnT Tryd.prog 87 [.d .ID] [.bool] packhorseref16_known :=
 FnT.of (X := ctx 0 []) Tryd.mixed packhorseref16_known.ann Tryd.func87 rfl (by kernel_rfl) (Nat.le_of_ble_eq_true rfl) (fun x => by kernel_rfl)
noncomputable def packhorseref16_known.spec : XSpec Tryd.prog := XSpec.t 87 [.d .ID] [.bool] packhorseref16_known (by kernel_rfl) packhorseref16_known.fn
noncomputable def packhorseref16_lasts : Int → Option Bool :=
 fun until_1 =>
 br (decide ((0 : Int) ≤ until_1))
  (some (decide (until_1 ≤ (1099512676352 : Int))))
  (some false)
def packhorseref16_lasts.ann : Ann := .no
set_option maxRecDepth 100000 in
theorem packhorseref16_lasts.fn : FnT Tryd.prog 88 [.d .i64] [.bool] packhorseref16_lasts :=
 FnT.of (X := ctx 0 []) Tryd.mixed packhorseref16_lasts.ann Tryd.func88 rfl (by kernel_rfl) (Nat.le_of_ble_eq_true rfl) (fun x => by kernel_rfl)
noncomputable def packhorseref16_lasts.spec : XSpec Tryd.prog := XSpec.t 88 [.d .i64] [.bool] packhorseref16_lasts (by kernel_rfl) packhorseref16_lasts.fn
noncomputable def packhorseref06_order : (Int × Int) → Option Int :=
 fun (a_1, b_2) =>
 br (decide (a_1 < b_2))
  (some (-1 : Int))
  (br (decide (b_2 < a_1))
   (some (1 : Int))
   (some (0 : Int)))
def packhorseref06_order.ann : Ann := .no
set_option maxRecDepth 100000 in
theorem packhorseref06_order.fn : FnT Tryd.prog 142 [.d .i64, .d .i64] [.i64] packhorseref06_order :=
 FnT.of (X := ctx 0 []) Tryd.mixed packhorseref06_order.ann Tryd.func142 rfl (by kernel_rfl) (Nat.le_of_ble_eq_true rfl) (fun x => by kernel_rfl)
noncomputable def packhorseref06_order.spec : XSpec Tryd.prog := XSpec.t 142 [.d .i64, .d .i64] [.i64] packhorseref06_order (by kernel_rfl) packhorseref06_order.fn
noncomputable def packhorseref06_Compare : (ID × ID) → Option Int :=
 fun (a_1, b_2) =>
 br (a_1.Node != b_2.Node)
  ((packhorseref06_order (a_1.Node, b_2.Node)).bind fun x_3 =>
  some x_3)
  (br (decide (a_1.Seq < b_2.Seq))
   (some (-1 : Int))
   (br (decide (b_2.Seq < a_1.Seq))
    (some (1 : Int))
    ((packhorseref06_order (a_1.Off, b_2.Off)).bind fun x_4 =>
    some x_4)))
def packhorseref06_Compare.ann : Ann := .no
set_option maxRecDepth 100000 in
theorem packhorseref06_Compare.fn : FnT Tryd.prog 89 [.d .ID, .d .ID] [.i64] packhorseref06_Compare :=
 FnT.of (X := ctx 0 [packhorseref06_order.spec]) Tryd.mixed packhorseref06_Compare.ann Tryd.func89 rfl (by kernel_rfl) (Nat.le_of_ble_eq_true rfl) (fun x => by kernel_rfl)
noncomputable def packhorseref06_Compare.spec : XSpec Tryd.prog := XSpec.t 89 [.d .ID, .d .ID] [.i64] packhorseref06_Compare (by kernel_rfl) packhorseref06_Compare.fn
noncomputable def packhorseref16_Check : List Mrk → Option (Int × Int) :=
 fun l_1 =>
 (iter (σ := Int) (ρ := (Int × Int) ⊕ (Unit)) (fun i_2 =>
  br (decide (i_2 < (l_1.length : Int)))
   ((idx l_1 i_2).bind fun x_3 =>
   (packhorseref16_known x_3.ID).bind fun x_4 =>
   br (!x_4)
    (some (.done (.inl ((2 : Int), i_2))))
    ((idx l_1 i_2).bind fun x_5 =>
    (packhorseref16_lasts x_5.Until).bind fun x_6 =>
    br (!x_6)
     (some (.done (.inl ((2 : Int), i_2))))
     (br (decide ((0 : Int) < i_2))
      ((subI .i64 i_2 (1 : Int)).bind fun x_7 =>
      (idx l_1 x_7).bind fun x_8 =>
      (idx l_1 i_2).bind fun x_9 =>
      (packhorseref06_Compare (x_8.ID, x_9.ID)).bind fun x_10 =>
      br (decide ((0 : Int) ≤ x_10))
             (some (.done (.inl ((19 : Int), i_2))))
             ((addI .i64 i_2 (1 : Int)).bind fun x_11 =>
             some (.next x_11)))
      ((addI .i64 i_2 (1 : Int)).bind fun x_12 =>
      some (.next x_12)))))
   (some (.done (.inr ())))) (0 : Int)).bind fun x_15 =>
 Sum.elim
  (fun (x_13, x_14) =>
  some (x_13, x_14))
  (fun _ =>
  some ((0 : Int), (0 : Int))) x_15
def packhorseref16_Check.ann : Ann := (.two .no (.two (.two .no (.loop [2, 3, 4, 5, 6, 7, 8, 9, 10, 11, 12, 13, 14, 15, 16, 17, 18, 19, 20, 21, 22, 23, 24, 25, 26, 27, 28, 29, 30, 31, 32, 33, 34, 35, 36, 37, 38, 39, 40, 41, 42, 43, 44, 45, 46, 47] [] [.slot 4 .i64 none] [(.ret, [.slot 2 .i64 none, .slot 3 .i64 none]), (.exit 0, [])] .no)) .no))
set_option maxRecDepth 100000 in
theorem packhorseref16_Check.fn : FnT Tryd.prog 30 [.d .l_Mrk] [.i64, .i64] packhorseref16_Check :=
 FnT.of (X := ctx 0 [packhorseref16_known.spec, packhorseref16_lasts.spec, packhorseref06_Compare.spec]) Tryd.mixed packhorseref16_Check.ann Tryd.func30 rfl (by kernel_rfl) (Nat.le_of_ble_eq_true rfl) (fun x => by kernel_rfl)
noncomputable def packhorseref16_Check.spec : XSpec Tryd.prog := XSpec.t 30 [.d .l_Mrk] [.i64, .i64] packhorseref16_Check (by kernel_rfl) packhorseref16_Check.fn
noncomputable def packhorseref16_place : ((List Mrk) × ID) → Option (Int × Bool) :=
 fun (l_1, id_2) =>
 (iter (σ := Int) (ρ := Int) (fun at_3 =>
  br (decide (at_3 < (l_1.length : Int)))
   ((idx l_1 at_3).bind fun x_4 =>
   (packhorseref06_Compare (x_4.ID, id_2)).bind fun x_5 =>
   br (decide (x_5 < (0 : Int)))
    ((addI .i64 at_3 (1 : Int)).bind fun x_6 =>
    some (.next x_6))
    (some (.done at_3)))
   (some (.done at_3))) (0 : Int)).bind fun at_7 =>
 br (decide (at_7 < (l_1.length : Int)))
  ((idx l_1 at_7).bind fun x_8 =>
  some (at_7, ((x_8.ID.Node == id_2.Node) && ((x_8.ID.Seq == id_2.Seq) && (x_8.ID.Off == id_2.Off)))))
  (some (at_7, false))
def packhorseref16_place.ann : Ann := (.two .no (.two .no (.two (.loop [6, 7, 8, 9, 10, 11, 12, 13, 14, 15, 16, 17, 18, 19, 20, 21, 22] [] [.slot 6 .i64 none] [(.exit 0, [.slot 6 .i64 none])] .no) .no)))
set_option maxRecDepth 100000 in
theorem packhorseref16_place.fn : FnT Tryd.prog 93 [.d .l_Mrk, .d .ID] [.i64, .bool] packhorseref16_place :=
 FnT.of (X := ctx 0 [packhorseref06_Compare.spec]) Tryd.mixed packhorseref16_place.ann Tryd.func93 rfl (by kernel_rfl) (Nat.le_of_ble_eq_true rfl) (fun x => by kernel_rfl)
noncomputable def packhorseref16_place.spec : XSpec Tryd.prog := XSpec.t 93 [.d .l_Mrk, .d .ID] [.i64, .bool] packhorseref16_place (by kernel_rfl) packhorseref16_place.fn
noncomputable def packhorseref16_Add : ((List Mrk) × ID × Int) → Option ((List Mrk) × Int) :=
 fun (l_1, id_2, until_3) =>
 (packhorseref16_Check l_1).bind fun (x_4, x_5) =>
 br (x_4 != (0 : Int))
  (some (([] : List Mrk), x_4))
  ((packhorseref16_known id_2).bind fun x_6 =>
  br (!x_6)
   (some (([] : List Mrk), (2 : Int)))
   ((packhorseref16_lasts until_3).bind fun x_7 =>
   br (!x_7)
    (some (([] : List Mrk), (2 : Int)))
    ((packhorseref16_place (l_1, id_2)).bind fun (x_8, x_9) =>
    br x_9
     (some (([] : List Mrk), (9 : Int)))
     ((slc l_1 (0 : Int) x_8).bind fun x_10 =>
     (app 32 ([] : List Mrk) x_10).bind fun x_11 =>
     (app 32 x_11 ([(⟨id_2, until_3⟩ : Mrk)] : List Mrk)).bind fun x_12 =>
     (slc l_1 x_8 (l_1.length : Int)).bind fun x_13 =>
     (app 32 x_12 x_13).bind fun x_14 =>
     some (x_14, (0 : Int))))))
def packhorseref16_Add.ann : Ann := .no
set_option maxRecDepth 100000 in
theorem packhorseref16_Add.fn : FnT Tryd.prog 32 [.d .l_Mrk, .d .ID, .d .i64] [.l_Mrk, .i64] packhorseref16_Add :=
 FnT.of (X := ctx 0 [packhorseref16_Check.spec, packhorseref16_known.spec, packhorseref16_lasts.spec, packhorseref16_place.spec]) Tryd.mixed packhorseref16_Add.ann Tryd.func32 rfl (by kernel_rfl) (Nat.le_of_ble_eq_true rfl) (fun x => by kernel_rfl)
noncomputable def packhorseref16_Add.spec : XSpec Tryd.prog := XSpec.t 32 [.d .l_Mrk, .d .ID, .d .i64] [.l_Mrk, .i64] packhorseref16_Add (by kernel_rfl) packhorseref16_Add.fn
noncomputable def packhorseref16_Forget : ((List Mrk) × Int) → Option ((List Mrk) × Int × Int) :=
 fun (l_1, now_2) =>
 (packhorseref16_Check l_1).bind fun (x_3, x_4) =>
 br (x_3 != (0 : Int))
  (some (([] : List Mrk), (0 : Int), x_3))
  ((iter (σ := (List Mrk) × Int) (ρ := List Mrk) (fun (out_5, i_6) =>
   br (decide (i_6 < (l_1.length : Int)))
    ((idx l_1 i_6).bind fun x_7 =>
    br (decide (now_2 < x_7.Until))
     ((idx l_1 i_6).bind fun x_8 =>
     (app 32 out_5 ([x_8] : List Mrk)).bind fun x_9 =>
     (addI .i64 i_6 (1 : Int)).bind fun x_10 =>
     some (.next (x_9, x_10)))
     ((addI .i64 i_6 (1 : Int)).bind fun x_11 =>
     some (.next (out_5, x_11))))
    (some (.done out_5))) (([] : List Mrk), (0 : Int))).bind fun out_12 =>
  (subI .i64 (l_1.length : Int) (out_12.length : Int)).bind fun x_13 =>
  some (out_12, x_13, (0 : Int)))
def packhorseref16_Forget.ann : Ann := (.two .no (.two .no (.two .no (.two .no (.two (.two .no (.loop [9, 10, 19, 20, 21, 22, 23, 24, 25, 26, 27, 28, 29, 30, 31, 32, 33, 34, 35, 36, 37, 38] [] [.slot 9 .l_Mrk (some (9, 130)), .slot 10 .i64 none] [(.exit 0, [.slot 9 .l_Mrk (some (9, 130))])] .no)) .no)))))
set_option maxRecDepth 100000 in
theorem packhorseref16_Forget.fn : FnT Tryd.prog 35 [.d .l_Mrk, .d .i64] [.l_Mrk, .i64, .i64] packhorseref16_Forget :=
 FnT.of (X := ctx 0 [packhorseref16_Check.spec]) Tryd.mixed packhorseref16_Forget.ann Tryd.func35 rfl (by kernel_rfl) (Nat.le_of_ble_eq_true rfl) (fun x => by kernel_rfl)
noncomputable def packhorseref16_Forget.spec : XSpec Tryd.prog := XSpec.t 35 [.d .l_Mrk, .d .i64] [.l_Mrk, .i64, .i64] packhorseref16_Forget (by kernel_rfl) packhorseref16_Forget.fn
noncomputable def packhorseref16_Has : ((List Mrk) × ID) → Option (Bool × Int) :=
 fun (l_1, id_2) =>
 (packhorseref16_Check l_1).bind fun (x_3, x_4) =>
 br (x_3 != (0 : Int))
  (some (false, x_3))
  ((packhorseref16_place (l_1, id_2)).bind fun (x_5, x_6) =>
  some (x_6, (0 : Int)))
def packhorseref16_Has.ann : Ann := .no
set_option maxRecDepth 100000 in
theorem packhorseref16_Has.fn : FnT Tryd.prog 37 [.d .l_Mrk, .d .ID] [.bool, .i64] packhorseref16_Has :=
 FnT.of (X := ctx 0 [packhorseref16_Check.spec, packhorseref16_place.spec]) Tryd.mixed packhorseref16_Has.ann Tryd.func37 rfl (by kernel_rfl) (Nat.le_of_ble_eq_true rfl) (fun x => by kernel_rfl)
noncomputable def packhorseref16_Has.spec : XSpec Tryd.prog := XSpec.t 37 [.d .l_Mrk, .d .ID] [.bool, .i64] packhorseref16_Has (by kernel_rfl) packhorseref16_Has.fn
noncomputable def seen_Next : List Mrk → Option (Int × Int) :=
 fun l_1 =>
 (seen_Check l_1).bind fun (x_2, x_3) =>
 br (x_2 != (0 : Int))
  (some ((0 : Int), x_2))
  (br ((l_1.length : Int) == (0 : Int))
   (some ((0 : Int), (8 : Int)))
   ((idx l_1 (0 : Int)).bind fun x_4 =>
   (iter (σ := Int × Int) (ρ := Int) (fun (least_5, x_6) =>
    br (decide (x_6 < (l_1.length : Int)))
     ((idx l_1 x_6).bind fun x_7 =>
     (addI .i64 x_6 (1 : Int)).bind fun x_8 =>
     some (.next (min least_5 x_7.Until, x_8)))
     (some (.done least_5))) (x_4.Until, (0 : Int))).bind fun least_9 =>
   some (least_9, (0 : Int))))
def seen_Next.ann : Ann := (.two .no (.two .no (.two .no (.two .no (.two (.two .no (.loop [6, 8, 26, 27, 28, 29, 30, 31, 32, 33, 34] [] [.slot 6 .i64 none, .slot 26 .i64 none] [(.exit 0, [.slot 6 .i64 none])] .no)) .no)))))
set_option maxRecDepth 100000 in
theorem seen_Next.fn : FnT Tryd.prog 38 [.d .l_Mrk] [.i64, .i64] seen_Next :=
 FnT.of (X := ctx 0 [seen_Check.spec]) Tryd.mixed seen_Next.ann Tryd.func38 rfl (by kernel_rfl) (Nat.le_of_ble_eq_true rfl) (fun x => by kernel_rfl)
noncomputable def seen_Next.spec : XSpec Tryd.prog := XSpec.t 38 [.d .l_Mrk] [.i64, .i64] seen_Next (by kernel_rfl) seen_Next.fn
noncomputable def packhorseref16_Next : List Mrk → Option (Int × Int) :=
 fun l_1 =>
 (packhorseref16_Check l_1).bind fun (x_2, x_3) =>
 br (x_2 != (0 : Int))
  (some ((0 : Int), x_2))
  (br ((l_1.length : Int) == (0 : Int))
   (some ((0 : Int), (8 : Int)))
   ((idx l_1 (0 : Int)).bind fun x_4 =>
   (iter (σ := Int × Int) (ρ := Int) (fun (least_5, i_6) =>
    br (decide (i_6 < (l_1.length : Int)))
     ((idx l_1 i_6).bind fun x_7 =>
     (addI .i64 i_6 (1 : Int)).bind fun x_8 =>
     some (.next (min least_5 x_7.Until, x_8)))
     (some (.done least_5))) (x_4.Until, (0 : Int))).bind fun least_9 =>
   some (least_9, (0 : Int))))
def packhorseref16_Next.ann : Ann := (.two .no (.two .no (.two .no (.two .no (.two .no (.two (.two .no (.loop [6, 7, 23, 24, 25, 26, 27, 28, 29, 30, 31, 32, 33, 34, 35] [] [.slot 6 .i64 none, .slot 7 .i64 none] [(.exit 0, [.slot 6 .i64 none])] .no)) .no))))))
set_option maxRecDepth 100000 in
theorem packhorseref16_Next.fn : FnT Tryd.prog 39 [.d .l_Mrk] [.i64, .i64] packhorseref16_Next :=
 FnT.of (X := ctx 0 [packhorseref16_Check.spec]) Tryd.mixed packhorseref16_Next.ann Tryd.func39 rfl (by kernel_rfl) (Nat.le_of_ble_eq_true rfl) (fun x => by kernel_rfl)
noncomputable def packhorseref16_Next.spec : XSpec Tryd.prog := XSpec.t 39 [.d .l_Mrk] [.i64, .i64] packhorseref16_Next (by kernel_rfl) packhorseref16_Next.fn
noncomputable def packhorselaw16_SeenChanges : ((List Mrk) × ID × Int × Int) → Option Bool :=
 fun (l_1, id_2, until_3, now_4) =>
 br (decide ((200 : Int) < (l_1.length : Int)))
  ((packhorselaw16_awake ()).bind fun x_5 =>
  some x_5)
  ((packhorsekit_OwnMarks l_1).bind fun x_6 =>
  (seen_Check x_6).bind fun (x_7, x_8) =>
  (packhorseref16_Check l_1).bind fun (x_9, x_10) =>
  br (x_7 != x_9)
   (some false)
   (br (x_8 != x_10)
    (some false)
    ((seen_Add (x_6, id_2, until_3)).bind fun (x_11, x_12) =>
    (packhorseref16_Add (l_1, id_2, until_3)).bind fun (x_13, x_14) =>
    (packhorsekit_SameMarks (x_11, x_13)).bind fun x_15 =>
    br (!x_15)
     (some false)
     (br (x_12 != x_14)
      (some false)
      ((seen_Forget (x_6, now_4)).bind fun (x_16, x_17, x_18) =>
      (packhorseref16_Forget (l_1, now_4)).bind fun (x_19, x_20, x_21) =>
      (packhorsekit_SameMarks (x_16, x_19)).bind fun x_22 =>
      br (!x_22)
       (some false)
       (br (x_17 != x_20)
        (some false)
        (br (x_18 != x_21)
         (some false)
         ((seen_Has (x_6, id_2)).bind fun (x_23, x_24) =>
         (packhorseref16_Has (l_1, id_2)).bind fun (x_25, x_26) =>
         (seen_Next x_6).bind fun (x_27, x_28) =>
         (packhorseref16_Next l_1).bind fun (x_29, x_30) =>
         br (x_23 == x_25)
          (br (x_24 == x_26)
           (br (x_27 == x_29)
            (br (x_28 == x_30)
             ((packhorsekit_SameMarks (x_6, l_1)).bind fun x_31 =>
             br x_31
              ((packhorselaw16_awake ()).bind fun x_32 =>
              some x_32)
              (some false))
             (some false))
            (some false))
           (some false))
          (some false)))))))))
def packhorselaw16_SeenChanges.ann : Ann := .no
set_option maxRecDepth 100000 in
theorem packhorselaw16_SeenChanges.fn : FnT Tryd.prog 8 [.d .l_Mrk, .d .ID, .d .i64, .d .i64] [.bool] packhorselaw16_SeenChanges :=
 FnT.of (X := ctx 0 [packhorselaw16_awake.spec, packhorsekit_OwnMarks.spec, seen_Check.spec, packhorseref16_Check.spec, seen_Add.spec, packhorseref16_Add.spec, packhorsekit_SameMarks.spec, seen_Forget.spec, packhorseref16_Forget.spec, seen_Has.spec, packhorseref16_Has.spec, seen_Next.spec, packhorseref16_Next.spec]) Tryd.mixed packhorselaw16_SeenChanges.ann Tryd.func8 rfl (by kernel_rfl) (Nat.le_of_ble_eq_true rfl) (fun x => by kernel_rfl)
noncomputable def packhorselaw16_SeenChanges.spec : XSpec Tryd.prog := XSpec.t 8 [.d .l_Mrk, .d .ID, .d .i64, .d .i64] [.bool] packhorselaw16_SeenChanges (by kernel_rfl) packhorselaw16_SeenChanges.fn
end Go.Proofs.YtjcbpfhlgebgdaaDoor
