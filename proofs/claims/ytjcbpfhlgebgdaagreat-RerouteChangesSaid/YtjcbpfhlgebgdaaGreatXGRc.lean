import Derived.Test.YtjcbpfhlgebgdaaGreatXKB
import Derived.Test.YtjcbpfhlgebgdaaGreatInsC
import Derived.Test.YtjcbpfhlgebgdaaGreatX9
import Derived.Test.YtjcbpfhlgebgdaaGreatChecked
import Derived.KernelRfl
set_option linter.unusedSimpArgs false
set_option linter.unusedVariables false
namespace Go.Proofs.YtjcbpfhlgebgdaaGreat
open Go.X Go.Eng
theorem keyed94 : Go.Eng.KeyT Tryz.prog 94 := Go.Eng.KeyT.pair (e := 3) (q := .i64) ⟨by kernel_rfl, by kernel_rfl, by kernel_rfl, by kernel_rfl⟩ (by kernel_rfl) ⟨176, by kernel_rfl⟩ (Go.deep_law_laid (by kernel_rfl) (m := 2) (by omega) (of_decide_eq_true (by kernel_rfl)) (by kernel_rfl) (by kernel_rfl)) (by kernel_rfl)
def keyB (t : TypeId) : Bool := Nat.beq t 94
theorem keyB_ok (t : TypeId) (h : keyB t = true) : Go.Eng.KeyT Tryz.prog t := by
 have := Nat.eq_of_beq_eq_true h
 subst this
 exact keyed94
def codes : List (Option C) := [none, none, some .i64, some .i64, some .bool, some .u8, some .u8, none, none, some .str, some .str, some .str, some .u64, none, none, none, none, none, none, none, none, some .i32, some .l_Denial, some .u64, some .ID, some .ID, none, none, some .i64, none, none, none, none, none, none, none, some .l_i64, none, none, none, none, none, none, none, none, none, none, none, none, some .Denial, some .Denial, none, none, some .Key, some .Key, none, none, none, none, none, none, none, none, none, none, some .l_Contact, none, none, none, none, none, none, some .u64, none, none, some .Contact, some .Contact, none, some .l_Route, none, none, none, none, none, some .Route, some .Route, none, none, none, none, none, none, none, some .Pair, some .Pair, none, none, none, none, none, none, none, none, none, none, none, none, none, none, none, none, none, none, none, none, none, none, none, none, none, none, some .i64, none, none, none, none, none, none, some .u32, none, none, none, none, some .Pair, some .Pair, some .l_Pair, some .l_Pair, none, none, none, some .u64, none, none, none, none, none, none, none, none, none, none, none, none, none, none, none, none, none, none, some .Contact, none, none, none, none, none, none, none, none, some .u8, some .u8, none, none, some .i32, some .i32, none, none, none]
noncomputable def ctx (wr : Nat) (l : List (XSpec Tryz.prog)) : XCtx Tryz.prog := { code := fun t => (codes[t]?).getD none, wr := wr, key := keyB, keyed := keyB_ok, known := l }
noncomputable def ctxS (wr : Nat) (l : List (XSpec Tryz.prog)) (s : List (XSort Tryz.prog)) : XCtx Tryz.prog := { code := fun t => (codes[t]?).getD none, wr := wr, key := keyB, keyed := keyB_ok, known := l, sorts := s }
noncomputable def ctxO (wr : Nat) (l : List (XSpec Tryz.prog)) (s : List (XSort Tryz.prog)) (w : List (XOwn Tryz.prog)) : XCtx Tryz.prog := { code := fun t => (codes[t]?).getD none, wr := wr, key := keyB, keyed := keyB_ok, known := l, sorts := s, owned := w }
noncomputable def ctxM (wr : Nat) (l : List (XSpec Tryz.prog)) (s : List (XSort Tryz.prog)) (w : List (XOwn Tryz.prog)) (u : List (XMut Tryz.prog)) : XCtx Tryz.prog := { code := fun t => (codes[t]?).getD none, wr := wr, key := keyB, keyed := keyB_ok, known := l, sorts := s, owned := w, muts := u }
noncomputable def packhorsekit_OwnDenials : List Denial → Option (List Denial) :=
 fun l_1 =>
 (app 40 ([] : List Denial) l_1).bind fun x_2 =>
 some x_2
def packhorsekit_OwnDenials.ann : Ann := .no
set_option maxRecDepth 100000 in
theorem packhorsekit_OwnDenials.fn : FnT Tryz.prog 6 [.d .l_Denial] [.l_Denial] packhorsekit_OwnDenials :=
 FnT.of (X := ctx 0 []) Tryz.mixed packhorsekit_OwnDenials.ann Tryz.func6 rfl (by kernel_rfl) (Nat.le_of_ble_eq_true rfl) (fun x => by kernel_rfl)
noncomputable def packhorsekit_OwnDenials.spec : XSpec Tryz.prog := XSpec.t 6 [.d .l_Denial] [.l_Denial] packhorsekit_OwnDenials (by kernel_rfl) packhorsekit_OwnDenials.fn
noncomputable def reroute_one : Denial → Option Int :=
 fun d_1 =>
 br (decide (d_1.Node < (1 : Int)))
  (some (2 : Int))
  (br (decide ((16 : Int) < d_1.Node))
   (some (2 : Int))
   (br (decide (d_1.Until < (0 : Int)))
    (some (2 : Int))
    (br (decide ((2199023255552 : Int) < d_1.Until))
     (some (2 : Int))
     (some (0 : Int)))))
def reroute_one.ann : Ann := .no
set_option maxRecDepth 100000 in
theorem reroute_one.fn : FnT Tryz.prog 26 [.d .Denial] [.i64] reroute_one :=
 FnT.of (X := ctx 0 []) Tryz.mixed reroute_one.ann Tryz.func26 rfl (by kernel_rfl) (Nat.le_of_ble_eq_true rfl) (fun x => by kernel_rfl)
noncomputable def reroute_one.spec : XSpec Tryz.prog := XSpec.t 26 [.d .Denial] [.i64] reroute_one (by kernel_rfl) reroute_one.fn
noncomputable def cmp_isNaN : Int → Option Bool :=
 fun x_1 =>
 some (x_1 != x_1)
def cmp_isNaN.ann : Ann := .no
set_option maxRecDepth 100000 in
theorem cmp_isNaN.fn : FnT Tryz.prog 56 [.d .i64] [.bool] cmp_isNaN :=
 FnT.of (X := ctx 0 []) Tryz.mixed cmp_isNaN.ann Tryz.func56 rfl (by kernel_rfl) (Nat.le_of_ble_eq_true rfl) (fun x => by kernel_rfl)
noncomputable def cmp_isNaN.spec : XSpec Tryz.prog := XSpec.t 56 [.d .i64] [.bool] cmp_isNaN (by kernel_rfl) cmp_isNaN.fn
noncomputable def cmp_Compare : (Int × Int) → Option Int :=
 fun (x_1, y_2) =>
 (cmp_isNaN x_1).bind fun x_3 =>
 (cmp_isNaN y_2).bind fun x_4 =>
 br x_3
  (br x_4
   (some (0 : Int))
   (some (-1 : Int)))
  (br x_4
   (some (1 : Int))
   (br (decide (x_1 < y_2))
    (some (-1 : Int))
    (br (decide (y_2 < x_1))
     (some (1 : Int))
     (some (0 : Int)))))
def cmp_Compare.ann : Ann := .no
set_option maxRecDepth 100000 in
theorem cmp_Compare.fn : FnT Tryz.prog 43 [.d .i64, .d .i64] [.i64] cmp_Compare :=
 FnT.of (X := ctx 0 [cmp_isNaN.spec]) Tryz.mixed cmp_Compare.ann Tryz.func43 rfl (by kernel_rfl) (Nat.le_of_ble_eq_true rfl) (fun x => by kernel_rfl)
noncomputable def cmp_Compare.spec : XSpec Tryz.prog := XSpec.t 43 [.d .i64, .d .i64] [.i64] cmp_Compare (by kernel_rfl) cmp_Compare.fn
noncomputable def cmp_isNaN_2 : Int → Option Bool :=
 fun x_1 =>
 some (x_1 != x_1)
def cmp_isNaN_2.ann : Ann := .no
set_option maxRecDepth 100000 in
theorem cmp_isNaN_2.fn : FnT Tryz.prog 69 [.d .u64] [.bool] cmp_isNaN_2 :=
 FnT.of (X := ctx 0 []) Tryz.mixed cmp_isNaN_2.ann Tryz.func69 rfl (by kernel_rfl) (Nat.le_of_ble_eq_true rfl) (fun x => by kernel_rfl)
noncomputable def cmp_isNaN_2.spec : XSpec Tryz.prog := XSpec.t 69 [.d .u64] [.bool] cmp_isNaN_2 (by kernel_rfl) cmp_isNaN_2.fn
noncomputable def cmp_Compare_2 : (Int × Int) → Option Int :=
 fun (x_1, y_2) =>
 (cmp_isNaN_2 x_1).bind fun x_3 =>
 (cmp_isNaN_2 y_2).bind fun x_4 =>
 br x_3
  (br x_4
   (some (0 : Int))
   (some (-1 : Int)))
  (br x_4
   (some (1 : Int))
   (br (decide (x_1 < y_2))
    (some (-1 : Int))
    (br (decide (y_2 < x_1))
     (some (1 : Int))
     (some (0 : Int)))))
def cmp_Compare_2.ann : Ann := .no
set_option maxRecDepth 100000 in
theorem cmp_Compare_2.fn : FnT Tryz.prog 55 [.d .u64, .d .u64] [.i64] cmp_Compare_2 :=
 FnT.of (X := ctx 0 [cmp_isNaN_2.spec]) Tryz.mixed cmp_Compare_2.ann Tryz.func55 rfl (by kernel_rfl) (Nat.le_of_ble_eq_true rfl) (fun x => by kernel_rfl)
noncomputable def cmp_Compare_2.spec : XSpec Tryz.prog := XSpec.t 55 [.d .u64, .d .u64] [.i64] cmp_Compare_2 (by kernel_rfl) cmp_Compare_2.fn
noncomputable def cmp_Or : List Int → Option Int :=
 fun vals_1 =>
 (iter (σ := Int) (ρ := (Int) ⊕ (Unit)) (fun x_2 =>
  br (decide (x_2 < (vals_1.length : Int)))
   ((idx vals_1 x_2).bind fun x_3 =>
   br (x_3 != (0 : Int))
    (some (.done (.inl x_3)))
    ((addI .i64 x_2 (1 : Int)).bind fun x_4 =>
    some (.next x_4)))
   (some (.done (.inr ())))) (0 : Int)).bind fun x_6 =>
 Sum.elim
  (fun x_5 =>
  some x_5)
  (fun _ =>
  some (0 : Int)) x_6
def cmp_Or.ann : Ann := (.two .no (.two .no (.two (.two .no (.loop [2, 5, 8, 9, 10, 11, 12, 13, 14, 15, 16] [] [.slot 8 .i64 none] [(.ret, [.slot 2 .i64 none]), (.exit 0, [])] .no)) .no)))
set_option maxRecDepth 100000 in
theorem cmp_Or.fn : FnT Tryz.prog 41 [.d .l_i64] [.i64] cmp_Or :=
 FnT.of (X := ctx 0 []) Tryz.mixed cmp_Or.ann Tryz.func41 rfl (by kernel_rfl) (Nat.le_of_ble_eq_true rfl) (fun x => by kernel_rfl)
noncomputable def cmp_Or.spec : XSpec Tryz.prog := XSpec.t 41 [.d .l_i64] [.i64] cmp_Or (by kernel_rfl) cmp_Or.fn
noncomputable def bundle_Compare : (ID × ID) → Option Int :=
 fun (a_1, b_2) =>
 (cmp_Compare (a_1.Node, b_2.Node)).bind fun x_3 =>
 (cmp_Compare_2 (a_1.Seq, b_2.Seq)).bind fun x_4 =>
 (cmp_Compare (a_1.Off, b_2.Off)).bind fun x_5 =>
 (cmp_Or ([x_3, x_4, x_5] : List Int)).bind fun x_6 =>
 some x_6
def bundle_Compare.ann : Ann := .no
set_option maxRecDepth 100000 in
theorem bundle_Compare.fn : FnT Tryz.prog 42 [.d .ID, .d .ID] [.i64] bundle_Compare :=
 FnT.of (X := ctx 0 [cmp_Compare.spec, cmp_Compare_2.spec, cmp_Or.spec]) Tryz.mixed bundle_Compare.ann Tryz.func42 rfl (by kernel_rfl) (Nat.le_of_ble_eq_true rfl) (fun x => by kernel_rfl)
noncomputable def bundle_Compare.spec : XSpec Tryz.prog := XSpec.t 42 [.d .ID, .d .ID] [.i64] bundle_Compare (by kernel_rfl) bundle_Compare.fn
noncomputable def reroute_compare : (Denial × Key) → Option Int :=
 fun (d_1, k_2) =>
 (bundle_Compare (d_1.ID, k_2.id)).bind fun x_3 =>
 (cmp_Compare (d_1.Node, k_2.node)).bind fun x_4 =>
 (cmp_Or ([x_3, x_4] : List Int)).bind fun x_5 =>
 some x_5
def reroute_compare.ann : Ann := .no
set_option maxRecDepth 100000 in
theorem reroute_compare.fn : FnT Tryz.prog 27 [.d .Denial, .d .Key] [.i64] reroute_compare :=
 FnT.of (X := ctx 0 [bundle_Compare.spec, cmp_Compare.spec, cmp_Or.spec]) Tryz.mixed reroute_compare.ann Tryz.func27 rfl (by kernel_rfl) (Nat.le_of_ble_eq_true rfl) (fun x => by kernel_rfl)
noncomputable def reroute_compare.spec : XSpec Tryz.prog := XSpec.t 27 [.d .Denial, .d .Key] [.i64] reroute_compare (by kernel_rfl) reroute_compare.fn
noncomputable def reroute_Check : List Denial → Option (Int × Int) :=
 fun l_1 =>
 (iter (σ := Int) (ρ := (Int × Int) ⊕ (Unit)) (fun x_2 =>
  br (decide (x_2 < (l_1.length : Int)))
   ((idx l_1 x_2).bind fun x_3 =>
   (reroute_one x_3).bind fun x_4 =>
   br (x_4 != (0 : Int))
    (some (.done (.inl (x_4, x_2))))
    (br (decide ((0 : Int) < x_2))
     ((subI .i64 x_2 (1 : Int)).bind fun x_5 =>
     (idx l_1 x_5).bind fun x_6 =>
     (reroute_compare (x_6, (⟨x_3.ID, x_3.Node⟩ : Key))).bind fun x_7 =>
     br (decide ((0 : Int) ≤ x_7))
      (some (.done (.inl ((19 : Int), x_2))))
      ((addI .i64 x_2 (1 : Int)).bind fun x_8 =>
      some (.next x_8)))
     ((addI .i64 x_2 (1 : Int)).bind fun x_9 =>
     some (.next x_9))))
   (some (.done (.inr ())))) (0 : Int)).bind fun x_12 =>
 Sum.elim
  (fun (x_10, x_11) =>
  some (x_10, x_11))
  (fun _ =>
  some ((0 : Int), (0 : Int))) x_12
def reroute_Check.ann : Ann := (.two .no (.two (.two .no (.loop [2, 3, 4, 5, 6, 9, 10, 11, 12, 13, 14, 15, 16, 17, 18, 19, 20, 21, 22, 23, 24, 25, 26, 27, 28, 29, 30, 31, 32, 33, 34, 35, 36, 37] [] [.slot 9 .i64 none] [(.ret, [.slot 2 .i64 none, .slot 3 .i64 none]), (.exit 0, [])] .no)) .no))
set_option maxRecDepth 100000 in
theorem reroute_Check.fn : FnT Tryz.prog 7 [.d .l_Denial] [.i64, .i64] reroute_Check :=
 FnT.of (X := ctx 0 [reroute_one.spec, reroute_compare.spec]) Tryz.mixed reroute_Check.ann Tryz.func7 rfl (by kernel_rfl) (Nat.le_of_ble_eq_true rfl) (fun x => by kernel_rfl)
noncomputable def reroute_Check.spec : XSpec Tryz.prog := XSpec.t 7 [.d .l_Denial] [.i64, .i64] reroute_Check (by kernel_rfl) reroute_Check.fn
noncomputable def packhorseref32_fits : (Int × Int) → Option Bool :=
 fun (node_1, until_2) =>
 br (decide ((1 : Int) ≤ node_1))
  (br (decide (node_1 ≤ (16 : Int)))
   (br (decide ((0 : Int) ≤ until_2))
    (some (decide (until_2 ≤ (2199023255552 : Int))))
    (some false))
   (some false))
  (some false)
def packhorseref32_fits.ann : Ann := .no
set_option maxRecDepth 100000 in
theorem packhorseref32_fits.fn : FnT Tryz.prog 28 [.d .i64, .d .i64] [.bool] packhorseref32_fits :=
 FnT.of (X := ctx 0 []) Tryz.mixed packhorseref32_fits.ann Tryz.func28 rfl (by kernel_rfl) (Nat.le_of_ble_eq_true rfl) (fun x => by kernel_rfl)
noncomputable def packhorseref32_fits.spec : XSpec Tryz.prog := XSpec.t 28 [.d .i64, .d .i64] [.bool] packhorseref32_fits (by kernel_rfl) packhorseref32_fits.fn
noncomputable def packhorseref06_order : (Int × Int) → Option Int :=
 fun (a_1, b_2) =>
 br (decide (a_1 < b_2))
  (some (-1 : Int))
  (br (decide (b_2 < a_1))
   (some (1 : Int))
   (some (0 : Int)))
def packhorseref06_order.ann : Ann := .no
set_option maxRecDepth 100000 in
theorem packhorseref06_order.fn : FnT Tryz.prog 57 [.d .i64, .d .i64] [.i64] packhorseref06_order :=
 FnT.of (X := ctx 0 []) Tryz.mixed packhorseref06_order.ann Tryz.func57 rfl (by kernel_rfl) (Nat.le_of_ble_eq_true rfl) (fun x => by kernel_rfl)
noncomputable def packhorseref06_order.spec : XSpec Tryz.prog := XSpec.t 57 [.d .i64, .d .i64] [.i64] packhorseref06_order (by kernel_rfl) packhorseref06_order.fn
noncomputable def packhorseref06_Compare : (ID × ID) → Option Int :=
 fun (a_1, b_2) =>
 br (a_1.Node != b_2.Node)
  ((packhorseref06_order (a_1.Node, b_2.Node)).bind fun x_3 =>
  some x_3)
  (br (decide (a_1.Seq < b_2.Seq))
   (some (-1 : Int))
   (br (decide (b_2.Seq < a_1.Seq))
    (some (1 : Int))
    ((packhorseref06_order (a_1.Off, b_2.Off)).bind fun x_4 =>
    some x_4)))
def packhorseref06_Compare.ann : Ann := .no
set_option maxRecDepth 100000 in
theorem packhorseref06_Compare.fn : FnT Tryz.prog 44 [.d .ID, .d .ID] [.i64] packhorseref06_Compare :=
 FnT.of (X := ctx 0 [packhorseref06_order.spec]) Tryz.mixed packhorseref06_Compare.ann Tryz.func44 rfl (by kernel_rfl) (Nat.le_of_ble_eq_true rfl) (fun x => by kernel_rfl)
noncomputable def packhorseref06_Compare.spec : XSpec Tryz.prog := XSpec.t 44 [.d .ID, .d .ID] [.i64] packhorseref06_Compare (by kernel_rfl) packhorseref06_Compare.fn
noncomputable def packhorseref32_order : (Denial × Denial) → Option Int :=
 fun (a_1, b_2) =>
 (packhorseref06_Compare (a_1.ID, b_2.ID)).bind fun x_3 =>
 br (x_3 != (0 : Int))
  (some x_3)
  (br (decide (a_1.Node < b_2.Node))
   (some (-1 : Int))
   (br (decide (b_2.Node < a_1.Node))
    (some (1 : Int))
    (some (0 : Int))))
def packhorseref32_order.ann : Ann := .no
set_option maxRecDepth 100000 in
theorem packhorseref32_order.fn : FnT Tryz.prog 29 [.d .Denial, .d .Denial] [.i64] packhorseref32_order :=
 FnT.of (X := ctx 0 [packhorseref06_Compare.spec]) Tryz.mixed packhorseref32_order.ann Tryz.func29 rfl (by kernel_rfl) (Nat.le_of_ble_eq_true rfl) (fun x => by kernel_rfl)
noncomputable def packhorseref32_order.spec : XSpec Tryz.prog := XSpec.t 29 [.d .Denial, .d .Denial] [.i64] packhorseref32_order (by kernel_rfl) packhorseref32_order.fn
noncomputable def packhorseref32_Check : List Denial → Option (Int × Int) :=
 fun l_1 =>
 (iter (σ := Int) (ρ := (Int × Int) ⊕ (Unit)) (fun i_2 =>
  br (decide (i_2 < (l_1.length : Int)))
   ((idx l_1 i_2).bind fun x_3 =>
   (idx l_1 i_2).bind fun x_4 =>
   (packhorseref32_fits (x_3.Node, x_4.Until)).bind fun x_5 =>
   br (!x_5)
    (some (.done (.inl ((2 : Int), i_2))))
    (br (decide ((0 : Int) < i_2))
     ((subI .i64 i_2 (1 : Int)).bind fun x_6 =>
     (idx l_1 x_6).bind fun x_7 =>
     (idx l_1 i_2).bind fun x_8 =>
     (packhorseref32_order (x_7, x_8)).bind fun x_9 =>
     br (decide ((0 : Int) ≤ x_9))
      (some (.done (.inl ((19 : Int), i_2))))
      ((addI .i64 i_2 (1 : Int)).bind fun x_10 =>
      some (.next x_10)))
     ((addI .i64 i_2 (1 : Int)).bind fun x_11 =>
     some (.next x_11))))
   (some (.done (.inr ())))) (0 : Int)).bind fun x_14 =>
 Sum.elim
  (fun (x_12, x_13) =>
  some (x_12, x_13))
  (fun _ =>
  some ((0 : Int), (0 : Int))) x_14
def packhorseref32_Check.ann : Ann := (.two .no (.two (.two .no (.loop [2, 3, 4, 5, 6, 7, 8, 9, 10, 11, 12, 13, 14, 15, 16, 17, 18, 19, 20, 21, 22, 23, 24, 25, 26, 27, 28, 29, 30, 31, 32, 33, 34, 35, 36, 37, 38, 39, 40, 41] [] [.slot 4 .i64 none] [(.ret, [.slot 2 .i64 none, .slot 3 .i64 none]), (.exit 0, [])] .no)) .no))
set_option maxRecDepth 100000 in
theorem packhorseref32_Check.fn : FnT Tryz.prog 8 [.d .l_Denial] [.i64, .i64] packhorseref32_Check :=
 FnT.of (X := ctx 0 [packhorseref32_fits.spec, packhorseref32_order.spec]) Tryz.mixed packhorseref32_Check.ann Tryz.func8 rfl (by kernel_rfl) (Nat.le_of_ble_eq_true rfl) (fun x => by kernel_rfl)
noncomputable def packhorseref32_Check.spec : XSpec Tryz.prog := XSpec.t 8 [.d .l_Denial] [.i64, .i64] packhorseref32_Check (by kernel_rfl) packhorseref32_Check.fn
noncomputable def slices_Clone : List Denial → Option (List Denial) :=
 fun s_1 =>
 nilq s_1
  (some ([] : List Denial))
  ((app 40 ([] : List Denial) s_1).bind fun x_2 =>
  some x_2)
def slices_Clone.ann : Ann := .no
set_option maxRecDepth 100000 in
theorem slices_Clone.fn : FnT Tryz.prog 30 [.d .l_Denial] [.l_Denial] slices_Clone :=
 FnT.of (X := ctx 0 []) Tryz.mixed slices_Clone.ann Tryz.func30 rfl (by kernel_rfl) (Nat.le_of_ble_eq_true rfl) (fun x => by kernel_rfl)
noncomputable def slices_Clone.spec : XSpec Tryz.prog := XSpec.t 30 [.d .l_Denial] [.l_Denial] slices_Clone (by kernel_rfl) slices_Clone.fn
set_option maxRecDepth 100000 in
theorem slices_Clone.fo : FnTO Tryz.prog 30 [.d .l_Denial] .Denial 50 slices_Clone :=
 FnTO.of (X := ctx 0 []) Tryz.mixed slices_Clone.ann Tryz.func30 rfl (by kernel_rfl) (Nat.le_of_ble_eq_true rfl) (fun x => by kernel_rfl)
noncomputable def slices_Clone.ow : XOwn Tryz.prog := XOwn.t 30 [.d .l_Denial] .Denial 50 slices_Clone (by kernel_rfl) slices_Clone.fo
noncomputable def slices_BinarySearchFunc_f27 : ((List Denial) × Key) → Option (Int × Bool) :=
 fun (x_1, target_2) =>
 (iter (σ := Int × Int) (ρ := Int) (fun (i_3, j_4) =>
  br (decide (i_3 < j_4))
   ((addI .i64 i_3 j_4).bind fun x_5 =>
   (shrI .u64 (Go.IntKind.wrap .u64 x_5) (1 : Int)).bind fun x_6 =>
   (idx x_1 (Go.IntKind.wrap .i64 x_6)).bind fun x_7 =>
   (reroute_compare (x_7, target_2)).bind fun x_8 =>
   br (decide (x_8 < (0 : Int)))
    ((addI .i64 (Go.IntKind.wrap .i64 x_6) (1 : Int)).bind fun x_9 =>
    some (.next (x_9, j_4)))
    (some (.next (i_3, Go.IntKind.wrap .i64 x_6))))
   (some (.done i_3))) ((0 : Int), (x_1.length : Int))).bind fun i_10 =>
 br (decide (i_10 < (x_1.length : Int)))
  ((idx x_1 i_10).bind fun x_11 =>
  (reroute_compare (x_11, target_2)).bind fun x_12 =>
  some (i_10, x_12 == (0 : Int)))
  (some (i_10, false))
def slices_BinarySearchFunc_f27.ann : Ann := (.two .no (.two .no (.two .no (.two (.loop [9, 10, 11, 15, 16, 17, 18, 19, 20, 21, 22, 23, 24, 25, 26, 27, 28, 29, 30, 31, 32, 33, 34] [] [.slot 9 .i64 none, .slot 10 .i64 none] [(.exit 0, [.slot 9 .i64 none])] .no) .no))))
set_option maxRecDepth 100000 in
theorem slices_BinarySearchFunc_f27.fn : FnT Tryz.prog 31 [.d .l_Denial, .d .Key, .f 27 []] [.i64, .bool] slices_BinarySearchFunc_f27 :=
 FnT.of (X := ctx 0 [reroute_compare.spec]) Tryz.mixed slices_BinarySearchFunc_f27.ann Tryz.func31 rfl (by kernel_rfl) (Nat.le_of_ble_eq_true rfl) (fun x => by kernel_rfl)
noncomputable def slices_BinarySearchFunc_f27.spec : XSpec Tryz.prog := XSpec.t 31 [.d .l_Denial, .d .Key, .f 27 []] [.i64, .bool] slices_BinarySearchFunc_f27 (by kernel_rfl) slices_BinarySearchFunc_f27.fn
noncomputable def reroute_Add : ((List Denial) × ID × Int × Int) → Option ((List Denial) × Int) :=
 fun (l_1, id_2, node_3, until_4) =>
 (reroute_Check l_1).bind fun (x_5, x_6) =>
 br (x_5 != (0 : Int))
  (some (([] : List Denial), x_5))
  ((reroute_one (⟨id_2, node_3, until_4⟩ : Denial)).bind fun x_7 =>
  br (x_7 != (0 : Int))
   (some (([] : List Denial), x_7))
   ((slices_Clone l_1).bind fun x_8 =>
   (slices_BinarySearchFunc_f27 (x_8, (⟨id_2, node_3⟩ : Key))).bind fun (x_9, x_10) =>
   br x_10
    ((idx x_8 x_9).bind fun x_11 =>
    br (inB x_9 x_8.length)
     ((idx x_8 x_9).bind fun x_12 =>
     some (setI x_8 x_9 (⟨x_12.ID, x_12.Node, max x_11.Until until_4⟩ : Denial), (0 : Int)))
     (none))
    ((insertX x_8 x_9 ([(⟨id_2, node_3, until_4⟩ : Denial)] : List Denial)).bind fun x_13 =>
    some (x_13, (0 : Int)))))
def reroute_Add.ann : Ann := .no
set_option maxRecDepth 100000 in
theorem reroute_Add.fn : FnT Tryz.prog 9 [.d .l_Denial, .d .ID, .d .i64, .d .i64] [.l_Denial, .i64] reroute_Add :=
 FnT.of (X := ctxM 18014398509481984 [reroute_Check.spec, reroute_one.spec, slices_Clone.spec, slices_BinarySearchFunc_f27.spec] [] [slices_Clone.ow] [insertD.mu]) Tryz.mixed reroute_Add.ann Tryz.func9 rfl (by kernel_rfl) (Nat.le_of_ble_eq_true rfl) (fun x => by kernel_rfl)
noncomputable def reroute_Add.spec : XSpec Tryz.prog := XSpec.t 9 [.d .l_Denial, .d .ID, .d .i64, .d .i64] [.l_Denial, .i64] reroute_Add (by kernel_rfl) reroute_Add.fn
noncomputable def packhorseref32_Add : ((List Denial) × ID × Int × Int) → Option ((List Denial) × Int) :=
 fun (l_1, id_2, node_3, until_4) =>
 (packhorseref32_Check l_1).bind fun (x_5, x_6) =>
 br (x_5 != (0 : Int))
  (some (([] : List Denial), x_5))
  ((packhorseref32_fits (node_3, until_4)).bind fun x_7 =>
  br (!x_7)
   (some (([] : List Denial), (2 : Int)))
   ((iter (σ := Int) (ρ := Int) (fun at_8 =>
    br (decide (at_8 < (l_1.length : Int)))
     ((idx l_1 at_8).bind fun x_9 =>
     (packhorseref32_order (x_9, (⟨id_2, node_3, until_4⟩ : Denial))).bind fun x_10 =>
     br (decide (x_10 < (0 : Int)))
      ((addI .i64 at_8 (1 : Int)).bind fun x_11 =>
      some (.next x_11))
      (some (.done at_8)))
     (some (.done at_8))) (0 : Int)).bind fun at_12 =>
   (app 40 ([] : List Denial) l_1).bind fun x_13 =>
   br (decide (at_12 < (l_1.length : Int)))
    ((idx l_1 at_12).bind fun x_14 =>
    (packhorseref32_order (x_14, (⟨id_2, node_3, until_4⟩ : Denial))).bind fun x_15 =>
    br (x_15 == (0 : Int))
     ((idx x_13 at_12).bind fun x_16 =>
     br (inB at_12 x_13.length)
      ((idx x_13 at_12).bind fun x_17 =>
      some (setI x_13 at_12 (⟨x_17.ID, x_17.Node, max x_16.Until until_4⟩ : Denial), (0 : Int)))
      (none))
     ((slc l_1 (0 : Int) at_12).bind fun x_18 =>
     (app 40 ([] : List Denial) x_18).bind fun x_19 =>
     (app 40 x_19 ([(⟨id_2, node_3, until_4⟩ : Denial)] : List Denial)).bind fun x_20 =>
     (slc l_1 at_12 (l_1.length : Int)).bind fun x_21 =>
     (app 40 x_20 x_21).bind fun x_22 =>
     some (x_22, (0 : Int))))
    ((slc l_1 (0 : Int) at_12).bind fun x_23 =>
    (app 40 ([] : List Denial) x_23).bind fun x_24 =>
    (app 40 x_24 ([(⟨id_2, node_3, until_4⟩ : Denial)] : List Denial)).bind fun x_25 =>
    (slc l_1 at_12 (l_1.length : Int)).bind fun x_26 =>
    (app 40 x_25 x_26).bind fun x_27 =>
    some (x_27, (0 : Int)))))
def packhorseref32_Add.ann : Ann := (.two .no (.two .no (.two .no (.two .no (.two .no (.two .no (.two (.loop [8, 13, 31, 32, 33, 34, 35, 36, 37, 38, 39, 40, 41, 42, 43, 44, 45] [] [.slot 13 .i64 none] [(.exit 0, [.slot 13 .i64 none])] .no) .no)))))))
set_option maxRecDepth 100000 in
theorem packhorseref32_Add.fn : FnT Tryz.prog 10 [.d .l_Denial, .d .ID, .d .i64, .d .i64] [.l_Denial, .i64] packhorseref32_Add :=
 FnT.of (X := ctx 2361183241434822606848 [packhorseref32_Check.spec, packhorseref32_fits.spec, packhorseref32_order.spec]) Tryz.mixed packhorseref32_Add.ann Tryz.func10 rfl (by kernel_rfl) (Nat.le_of_ble_eq_true rfl) (fun x => by kernel_rfl)
noncomputable def packhorseref32_Add.spec : XSpec Tryz.prog := XSpec.t 10 [.d .l_Denial, .d .ID, .d .i64, .d .i64] [.l_Denial, .i64] packhorseref32_Add (by kernel_rfl) packhorseref32_Add.fn
noncomputable def packhorsekit_SameDenials : ((List Denial) × (List Denial)) → Option Bool :=
 fun (a_1, b_2) =>
 br ((a_1.length : Int) != (b_2.length : Int))
  (some false)
  ((iter (σ := Int) (ρ := (Bool) ⊕ (Unit)) (fun i_3 =>
   br (decide (i_3 < (a_1.length : Int)))
    ((idx a_1 i_3).bind fun x_4 =>
    (idx b_2 i_3).bind fun x_5 =>
    br (!((x_4.ID.Node == x_5.ID.Node) && ((x_4.ID.Seq == x_5.ID.Seq) && ((x_4.ID.Off == x_5.ID.Off) && ((x_4.Node == x_5.Node) && (x_4.Until == x_5.Until))))))
     (some (.done (.inl false)))
     ((addI .i64 i_3 (1 : Int)).bind fun x_6 =>
     some (.next x_6)))
    (some (.done (.inr ())))) (0 : Int)).bind fun x_8 =>
  Sum.elim
   (fun x_7 =>
   some x_7)
   (fun _ =>
   some true) x_8)
def packhorsekit_SameDenials.ann : Ann := (.two .no (.two .no (.two (.two .no (.loop [4, 5, 11, 12, 13, 14, 15, 16, 17, 18, 19, 20, 21, 22, 23, 24, 25] [] [.slot 5 .i64 none] [(.ret, [.slot 4 .bool none]), (.exit 0, [])] .no)) .no)))
set_option maxRecDepth 100000 in
theorem packhorsekit_SameDenials.fn : FnT Tryz.prog 11 [.d .l_Denial, .d .l_Denial] [.bool] packhorsekit_SameDenials :=
 FnT.of (X := ctx 0 []) Tryz.mixed packhorsekit_SameDenials.ann Tryz.func11 rfl (by kernel_rfl) (Nat.le_of_ble_eq_true rfl) (fun x => by kernel_rfl)
noncomputable def packhorsekit_SameDenials.spec : XSpec Tryz.prog := XSpec.t 11 [.d .l_Denial, .d .l_Denial] [.bool] packhorsekit_SameDenials (by kernel_rfl) packhorsekit_SameDenials.fn
noncomputable def reroute_Forget_1 : Denial → Int → Option ((Bool) × (Int)) :=
 fun d_1 x_2 =>
 some (decide (d_1.Until ≤ x_2), x_2)
def reroute_Forget_1.ann : Ann := .no
set_option maxRecDepth 100000 in
theorem reroute_Forget_1.fn : FnB Tryz.prog 34 [.d .Denial, .l 0 0] [(.i64, 3)] [.bool] reroute_Forget_1 :=
 FnB.of (X := ctx 0 []) Tryz.mixed reroute_Forget_1.ann Tryz.func34 rfl (by kernel_rfl) (Nat.le_of_ble_eq_true rfl) (fun x y => by kernel_rfl)
noncomputable def reroute_Forget_1.spec : XSpec Tryz.prog := XSpec.b 34 [.d .Denial, .l 0 0] [(.i64, 3)] [.bool] reroute_Forget_1 (by kernel_rfl) reroute_Forget_1.fn
noncomputable def slices_IndexFunc_f34 : List Denial → Int → Option ((Int) × (Int)) :=
 fun s_1 x_2 =>
 (iter (σ := Int × Int) (ρ := (Int × Int) ⊕ (Int)) (fun (x_3, x_4) =>
  br (decide (x_3 < (s_1.length : Int)))
   ((idx s_1 x_3).bind fun x_5 =>
   (reroute_Forget_1 x_5 x_4).bind fun (x_6, x_7) =>
   br x_6
    (some (.done (.inl (x_3, x_7))))
    ((addI .i64 x_3 (1 : Int)).bind fun x_8 =>
    some (.next (x_8, x_7))))
   (some (.done (.inr x_4)))) ((0 : Int), x_2)).bind fun x_12 =>
 Sum.elim
  (fun (x_9, x_10) =>
  some (x_9, x_10))
  (fun x_11 =>
  some ((-1 : Int), x_11)) x_12
def slices_IndexFunc_f34.ann : Ann := (.two .no (.two (.two .no (.loop [4, 5, 8, 9, 10, 11, 12, 13, 14, 15, 16, 17, 18] [0] [.slot 8 .i64 none, .box 0 .i64] [(.ret, [.slot 4 .i64 none, .box 0 .i64]), (.exit 0, [.box 0 .i64])] .no)) .no))
set_option maxRecDepth 100000 in
theorem slices_IndexFunc_f34.fn : FnB Tryz.prog 47 [.d .l_Denial, .f 34 [0]] [(.i64, 3)] [.i64] slices_IndexFunc_f34 :=
 FnB.of (X := ctx 0 [reroute_Forget_1.spec]) Tryz.mixed slices_IndexFunc_f34.ann Tryz.func47 rfl (by kernel_rfl) (Nat.le_of_ble_eq_true rfl) (fun x y => by kernel_rfl)
noncomputable def slices_IndexFunc_f34.spec : XSpec Tryz.prog := XSpec.b 47 [.d .l_Denial, .f 34 [0]] [(.i64, 3)] [.i64] slices_IndexFunc_f34 (by kernel_rfl) slices_IndexFunc_f34.fn
noncomputable def slices_DeleteFunc_f34 : List Denial → Int → Option ((List Denial) × (Int)) :=
 fun s_1 x_2 =>
 (slices_IndexFunc_f34 s_1 x_2).bind fun (x_3, x_4) =>
 br (x_3 == (-1 : Int))
  (some (s_1, x_4))
  ((addI .i64 x_3 (1 : Int)).bind fun x_5 =>
  (iter (σ := (List Denial) × Int × Int × Int) (ρ := (List Denial) × Int × Int) (fun (s_6, i_7, j_8, x_9) =>
   br (decide (j_8 < (s_6.length : Int)))
    ((idx s_6 j_8).bind fun x_10 =>
    (reroute_Forget_1 x_10 x_9).bind fun (x_11, x_12) =>
    br (!x_11)
     (br (inB i_7 s_6.length)
      ((idx s_6 i_7).bind fun x_13 =>
      (addI .i64 i_7 (1 : Int)).bind fun x_14 =>
      (addI .i64 j_8 (1 : Int)).bind fun x_15 =>
      some (.next (setI s_6 i_7 x_10, x_14, x_15, x_12)))
      (none))
     ((addI .i64 j_8 (1 : Int)).bind fun x_16 =>
     some (.next (s_6, i_7, x_16, x_12))))
    (some (.done (s_6, i_7, x_9)))) (s_1, x_3, x_5, x_4)).bind fun (s_17, i_18, x_19) =>
  (clrI s_17 i_18 (⟨(⟨(0 : Int), (0 : Int), (0 : Int)⟩ : ID), (0 : Int), (0 : Int)⟩ : Denial)).bind fun x_20 =>
  (slc x_20 (0 : Int) i_18).bind fun x_21 =>
  some (x_21, x_19))
def slices_DeleteFunc_f34.ann : Ann := (.two .no (.two .no (.two .no (.two (.two .no (.loop [0, 4, 5, 6, 7, 8, 16, 17, 18, 19, 20, 21, 22, 23, 24, 25, 26, 27, 28, 29, 30, 31, 32, 33, 34, 35] [0] [.slot 0 .l_Denial (some (0, 50)), .slot 5 .i64 none, .slot 6 .i64 none, .box 0 .i64] [(.exit 0, [.slot 0 .l_Denial (some (0, 50)), .slot 5 .i64 none, .box 0 .i64])] .no)) (.two .sch .no)))))
set_option maxRecDepth 100000 in
theorem slices_DeleteFunc_f34.mt : FnTM Tryz.prog 33 [.d .l_Denial, .f 34 [0]] [(.i64, 3)] 0 .Denial 50 slices_DeleteFunc_f34 :=
 FnTM.of (X := ctx 2207613190144 [slices_IndexFunc_f34.spec, reroute_Forget_1.spec]) Tryz.mixed slices_DeleteFunc_f34.ann Tryz.func33 rfl (by kernel_rfl) (Nat.le_of_ble_eq_true rfl) (by decide) (fun x => Nat.le_of_ble_eq_true (by kernel_rfl)) (fun x y => by kernel_rfl)
noncomputable def slices_DeleteFunc_f34.mu : XMut Tryz.prog := XMut.t 33 [.d .l_Denial, .f 34 [0]] [(.i64, 3)] 0 .Denial 50 slices_DeleteFunc_f34 (by kernel_rfl) slices_DeleteFunc_f34.mt
noncomputable def reroute_Forget : ((List Denial) × Int) → Option ((List Denial) × Int) :=
 fun (l_1, now_2) =>
 (reroute_Check l_1).bind fun (x_3, x_4) =>
 br (x_3 != (0 : Int))
  (some (([] : List Denial), x_3))
  ((slices_Clone l_1).bind fun x_5 =>
  (slices_DeleteFunc_f34 x_5 now_2).bind fun (x_6, x_7) =>
  some (x_6, (0 : Int)))
def reroute_Forget.ann : Ann := .no
set_option maxRecDepth 100000 in
theorem reroute_Forget.fn : FnT Tryz.prog 12 [.d .l_Denial, .d .i64] [.l_Denial, .i64] reroute_Forget :=
 FnT.of (X := ctxM 0 [reroute_Check.spec, slices_Clone.spec] [] [slices_Clone.ow] [slices_DeleteFunc_f34.mu]) Tryz.mixed reroute_Forget.ann Tryz.func12 rfl (by kernel_rfl) (Nat.le_of_ble_eq_true rfl) (fun x => by kernel_rfl)
noncomputable def reroute_Forget.spec : XSpec Tryz.prog := XSpec.t 12 [.d .l_Denial, .d .i64] [.l_Denial, .i64] reroute_Forget (by kernel_rfl) reroute_Forget.fn
noncomputable def packhorseref32_Forget : ((List Denial) × Int) → Option ((List Denial) × Int) :=
 fun (l_1, now_2) =>
 (packhorseref32_Check l_1).bind fun (x_3, x_4) =>
 br (x_3 != (0 : Int))
  (some (([] : List Denial), x_3))
  ((iter (σ := (List Denial) × Int) (ρ := List Denial) (fun (out_5, i_6) =>
   br (decide (i_6 < (l_1.length : Int)))
    ((idx l_1 i_6).bind fun x_7 =>
    br (decide (now_2 < x_7.Until))
     ((idx l_1 i_6).bind fun x_8 =>
     (app 40 out_5 ([x_8] : List Denial)).bind fun x_9 =>
     (addI .i64 i_6 (1 : Int)).bind fun x_10 =>
     some (.next (x_9, x_10)))
     ((addI .i64 i_6 (1 : Int)).bind fun x_11 =>
     some (.next (out_5, x_11))))
    (some (.done out_5))) (([] : List Denial), (0 : Int))).bind fun out_12 =>
  some (out_12, (0 : Int)))
def packhorseref32_Forget.ann : Ann := (.two .no (.two .no (.two .no (.two .no (.two (.two .no (.loop [8, 9, 18, 19, 20, 21, 22, 23, 24, 25, 26, 27, 28, 29, 30, 31, 32, 33, 34, 35, 36, 37] [] [.slot 8 .l_Denial (some (8, 50)), .slot 9 .i64 none] [(.exit 0, [.slot 8 .l_Denial (some (8, 50))])] .no)) .no)))))
set_option maxRecDepth 100000 in
theorem packhorseref32_Forget.fn : FnT Tryz.prog 13 [.d .l_Denial, .d .i64] [.l_Denial, .i64] packhorseref32_Forget :=
 FnT.of (X := ctx 0 [packhorseref32_Check.spec]) Tryz.mixed packhorseref32_Forget.ann Tryz.func13 rfl (by kernel_rfl) (Nat.le_of_ble_eq_true rfl) (fun x => by kernel_rfl)
noncomputable def packhorseref32_Forget.spec : XSpec Tryz.prog := XSpec.t 13 [.d .l_Denial, .d .i64] [.l_Denial, .i64] packhorseref32_Forget (by kernel_rfl) packhorseref32_Forget.fn
noncomputable def reroute_Drop_1 : Denial → ID → Option ((Bool) × (ID)) :=
 fun d_1 x_2 =>
 some (((d_1.ID.Node == x_2.Node) && ((d_1.ID.Seq == x_2.Seq) && (d_1.ID.Off == x_2.Off))), x_2)
def reroute_Drop_1.ann : Ann := .no
set_option maxRecDepth 100000 in
theorem reroute_Drop_1.fn : FnB Tryz.prog 35 [.d .Denial, .l 0 0] [(.ID, 25)] [.bool] reroute_Drop_1 :=
 FnB.of (X := ctx 0 []) Tryz.mixed reroute_Drop_1.ann Tryz.func35 rfl (by kernel_rfl) (Nat.le_of_ble_eq_true rfl) (fun x y => by kernel_rfl)
noncomputable def reroute_Drop_1.spec : XSpec Tryz.prog := XSpec.b 35 [.d .Denial, .l 0 0] [(.ID, 25)] [.bool] reroute_Drop_1 (by kernel_rfl) reroute_Drop_1.fn
noncomputable def slices_IndexFunc_f35 : List Denial → ID → Option ((Int) × (ID)) :=
 fun s_1 x_2 =>
 (iter (σ := Int × ID) (ρ := (Int × ID) ⊕ (ID)) (fun (x_3, x_4) =>
  br (decide (x_3 < (s_1.length : Int)))
   ((idx s_1 x_3).bind fun x_5 =>
   (reroute_Drop_1 x_5 x_4).bind fun (x_6, x_7) =>
   br x_6
    (some (.done (.inl (x_3, x_7))))
    ((addI .i64 x_3 (1 : Int)).bind fun x_8 =>
    some (.next (x_8, x_7))))
   (some (.done (.inr x_4)))) ((0 : Int), x_2)).bind fun x_12 =>
 Sum.elim
  (fun (x_9, x_10) =>
  some (x_9, x_10))
  (fun x_11 =>
  some ((-1 : Int), x_11)) x_12
def slices_IndexFunc_f35.ann : Ann := (.two .no (.two (.two .no (.loop [4, 5, 8, 9, 10, 11, 12, 13, 14, 15, 16, 17, 18] [0] [.slot 8 .i64 none, .box 0 .ID] [(.ret, [.slot 4 .i64 none, .box 0 .ID]), (.exit 0, [.box 0 .ID])] .no)) .no))
set_option maxRecDepth 100000 in
theorem slices_IndexFunc_f35.fn : FnB Tryz.prog 47 [.d .l_Denial, .f 35 [0]] [(.ID, 25)] [.i64] slices_IndexFunc_f35 :=
 FnB.of (X := ctx 0 [reroute_Drop_1.spec]) Tryz.mixed slices_IndexFunc_f35.ann Tryz.func47 rfl (by kernel_rfl) (Nat.le_of_ble_eq_true rfl) (fun x y => by kernel_rfl)
noncomputable def slices_IndexFunc_f35.spec : XSpec Tryz.prog := XSpec.b 47 [.d .l_Denial, .f 35 [0]] [(.ID, 25)] [.i64] slices_IndexFunc_f35 (by kernel_rfl) slices_IndexFunc_f35.fn
noncomputable def slices_DeleteFunc_f35 : List Denial → ID → Option ((List Denial) × (ID)) :=
 fun s_1 x_2 =>
 (slices_IndexFunc_f35 s_1 x_2).bind fun (x_3, x_4) =>
 br (x_3 == (-1 : Int))
  (some (s_1, x_4))
  ((addI .i64 x_3 (1 : Int)).bind fun x_5 =>
  (iter (σ := (List Denial) × Int × Int × ID) (ρ := (List Denial) × Int × ID) (fun (s_6, i_7, j_8, x_9) =>
   br (decide (j_8 < (s_6.length : Int)))
    ((idx s_6 j_8).bind fun x_10 =>
    (reroute_Drop_1 x_10 x_9).bind fun (x_11, x_12) =>
    br (!x_11)
     (br (inB i_7 s_6.length)
      ((idx s_6 i_7).bind fun x_13 =>
      (addI .i64 i_7 (1 : Int)).bind fun x_14 =>
      (addI .i64 j_8 (1 : Int)).bind fun x_15 =>
      some (.next (setI s_6 i_7 x_10, x_14, x_15, x_12)))
      (none))
     ((addI .i64 j_8 (1 : Int)).bind fun x_16 =>
     some (.next (s_6, i_7, x_16, x_12))))
    (some (.done (s_6, i_7, x_9)))) (s_1, x_3, x_5, x_4)).bind fun (s_17, i_18, x_19) =>
  (clrI s_17 i_18 (⟨(⟨(0 : Int), (0 : Int), (0 : Int)⟩ : ID), (0 : Int), (0 : Int)⟩ : Denial)).bind fun x_20 =>
  (slc x_20 (0 : Int) i_18).bind fun x_21 =>
  some (x_21, x_19))
def slices_DeleteFunc_f35.ann : Ann := (.two .no (.two .no (.two .no (.two (.two .no (.loop [0, 4, 5, 6, 7, 8, 16, 17, 18, 19, 20, 21, 22, 23, 24, 25, 26, 27, 28, 29, 30, 31, 32, 33, 34, 35] [0] [.slot 0 .l_Denial (some (0, 50)), .slot 5 .i64 none, .slot 6 .i64 none, .box 0 .ID] [(.exit 0, [.slot 0 .l_Denial (some (0, 50)), .slot 5 .i64 none, .box 0 .ID])] .no)) (.two .sch .no)))))
set_option maxRecDepth 100000 in
theorem slices_DeleteFunc_f35.mt : FnTM Tryz.prog 33 [.d .l_Denial, .f 35 [0]] [(.ID, 25)] 0 .Denial 50 slices_DeleteFunc_f35 :=
 FnTM.of (X := ctx 2207613190144 [slices_IndexFunc_f35.spec, reroute_Drop_1.spec]) Tryz.mixed slices_DeleteFunc_f35.ann Tryz.func33 rfl (by kernel_rfl) (Nat.le_of_ble_eq_true rfl) (by decide) (fun x => Nat.le_of_ble_eq_true (by kernel_rfl)) (fun x y => by kernel_rfl)
noncomputable def slices_DeleteFunc_f35.mu : XMut Tryz.prog := XMut.t 33 [.d .l_Denial, .f 35 [0]] [(.ID, 25)] 0 .Denial 50 slices_DeleteFunc_f35 (by kernel_rfl) slices_DeleteFunc_f35.mt
noncomputable def reroute_Drop : ((List Denial) × ID) → Option ((List Denial) × Int) :=
 fun (l_1, id_2) =>
 (reroute_Check l_1).bind fun (x_3, x_4) =>
 br (x_3 != (0 : Int))
  (some (([] : List Denial), x_3))
  ((slices_Clone l_1).bind fun x_5 =>
  (slices_DeleteFunc_f35 x_5 id_2).bind fun (x_6, x_7) =>
  some (x_6, (0 : Int)))
def reroute_Drop.ann : Ann := .no
set_option maxRecDepth 100000 in
theorem reroute_Drop.fn : FnT Tryz.prog 14 [.d .l_Denial, .d .ID] [.l_Denial, .i64] reroute_Drop :=
 FnT.of (X := ctxM 0 [reroute_Check.spec, slices_Clone.spec] [] [slices_Clone.ow] [slices_DeleteFunc_f35.mu]) Tryz.mixed reroute_Drop.ann Tryz.func14 rfl (by kernel_rfl) (Nat.le_of_ble_eq_true rfl) (fun x => by kernel_rfl)
noncomputable def reroute_Drop.spec : XSpec Tryz.prog := XSpec.t 14 [.d .l_Denial, .d .ID] [.l_Denial, .i64] reroute_Drop (by kernel_rfl) reroute_Drop.fn
noncomputable def packhorseref32_Drop : ((List Denial) × ID) → Option ((List Denial) × Int) :=
 fun (l_1, id_2) =>
 (packhorseref32_Check l_1).bind fun (x_3, x_4) =>
 br (x_3 != (0 : Int))
  (some (([] : List Denial), x_3))
  ((iter (σ := (List Denial) × Int) (ρ := List Denial) (fun (out_5, i_6) =>
   br (decide (i_6 < (l_1.length : Int)))
    ((idx l_1 i_6).bind fun x_7 =>
    br (!((x_7.ID.Node == id_2.Node) && ((x_7.ID.Seq == id_2.Seq) && (x_7.ID.Off == id_2.Off))))
     ((idx l_1 i_6).bind fun x_8 =>
     (app 40 out_5 ([x_8] : List Denial)).bind fun x_9 =>
     (addI .i64 i_6 (1 : Int)).bind fun x_10 =>
     some (.next (x_9, x_10)))
     ((addI .i64 i_6 (1 : Int)).bind fun x_11 =>
     some (.next (out_5, x_11))))
    (some (.done out_5))) (([] : List Denial), (0 : Int))).bind fun out_12 =>
  some (out_12, (0 : Int)))
def packhorseref32_Drop.ann : Ann := (.two .no (.two .no (.two .no (.two .no (.two (.two .no (.loop [8, 9, 18, 19, 20, 21, 22, 23, 24, 25, 26, 27, 28, 29, 30, 31, 32, 33, 34, 35, 36, 37] [] [.slot 8 .l_Denial (some (8, 50)), .slot 9 .i64 none] [(.exit 0, [.slot 8 .l_Denial (some (8, 50))])] .no)) .no)))))
set_option maxRecDepth 100000 in
theorem packhorseref32_Drop.fn : FnT Tryz.prog 15 [.d .l_Denial, .d .ID] [.l_Denial, .i64] packhorseref32_Drop :=
 FnT.of (X := ctx 0 [packhorseref32_Check.spec]) Tryz.mixed packhorseref32_Drop.ann Tryz.func15 rfl (by kernel_rfl) (Nat.le_of_ble_eq_true rfl) (fun x => by kernel_rfl)
noncomputable def packhorseref32_Drop.spec : XSpec Tryz.prog := XSpec.t 15 [.d .l_Denial, .d .ID] [.l_Denial, .i64] packhorseref32_Drop (by kernel_rfl) packhorseref32_Drop.fn
noncomputable def reroute_denied : ((List Denial) × ID × Int) → Option (List Int) :=
 fun (l_1, id_2, now_3) =>
 (iter (σ := (List Int) × Int) (ρ := List Int) (fun (out_4, x_5) =>
  br (decide (x_5 < (l_1.length : Int)))
   ((idx l_1 x_5).bind fun x_6 =>
   br ((x_6.ID.Node == id_2.Node) && ((x_6.ID.Seq == id_2.Seq) && (x_6.ID.Off == id_2.Off)))
    (br (decide (now_3 < x_6.Until))
     ((app 8 out_4 ([x_6.Node] : List Int)).bind fun x_7 =>
     (addI .i64 x_5 (1 : Int)).bind fun x_8 =>
     some (.next (x_7, x_8)))
     ((addI .i64 x_5 (1 : Int)).bind fun x_9 =>
     some (.next (out_4, x_9))))
    ((addI .i64 x_5 (1 : Int)).bind fun x_10 =>
    some (.next (out_4, x_10))))
   (some (.done out_4))) (([] : List Int), (0 : Int))).bind fun out_11 =>
 some out_11
def reroute_denied.ann : Ann := (.two .no (.two .no (.two (.two .no (.loop [7, 9, 12, 13, 14, 15, 16, 17, 18, 19, 20, 21, 22, 23, 24, 25, 26, 27, 28, 29, 30, 31] [] [.slot 7 .l_i64 (some (7, 3)), .slot 12 .i64 none] [(.exit 0, [.slot 7 .l_i64 (some (7, 3))])] .no)) .no)))
set_option maxRecDepth 100000 in
theorem reroute_denied.fn : FnT Tryz.prog 36 [.d .l_Denial, .d .ID, .d .i64] [.l_i64] reroute_denied :=
 FnT.of (X := ctx 0 []) Tryz.mixed reroute_denied.ann Tryz.func36 rfl (by kernel_rfl) (Nat.le_of_ble_eq_true rfl) (fun x => by kernel_rfl)
noncomputable def reroute_denied.spec : XSpec Tryz.prog := XSpec.t 36 [.d .l_Denial, .d .ID, .d .i64] [.l_i64] reroute_denied (by kernel_rfl) reroute_denied.fn
noncomputable def reroute_Denied : ((List Denial) × ID × Int) → Option ((List Int) × Int) :=
 fun (l_1, id_2, now_3) =>
 (reroute_Check l_1).bind fun (x_4, x_5) =>
 br (x_4 != (0 : Int))
  (some (([] : List Int), x_4))
  ((reroute_denied (l_1, id_2, now_3)).bind fun x_6 =>
  some (x_6, (0 : Int)))
def reroute_Denied.ann : Ann := .no
set_option maxRecDepth 100000 in
theorem reroute_Denied.fn : FnT Tryz.prog 16 [.d .l_Denial, .d .ID, .d .i64] [.l_i64, .i64] reroute_Denied :=
 FnT.of (X := ctx 0 [reroute_Check.spec, reroute_denied.spec]) Tryz.mixed reroute_Denied.ann Tryz.func16 rfl (by kernel_rfl) (Nat.le_of_ble_eq_true rfl) (fun x => by kernel_rfl)
noncomputable def reroute_Denied.spec : XSpec Tryz.prog := XSpec.t 16 [.d .l_Denial, .d .ID, .d .i64] [.l_i64, .i64] reroute_Denied (by kernel_rfl) reroute_Denied.fn
noncomputable def packhorseref32_Denied : ((List Denial) × ID × Int) → Option ((List Int) × Int) :=
 fun (l_1, id_2, now_3) =>
 (packhorseref32_Check l_1).bind fun (x_4, x_5) =>
 br (x_4 != (0 : Int))
  (some (([] : List Int), x_4))
  ((iter (σ := (List Int) × Int) (ρ := List Int) (fun (out_6, i_7) =>
   br (decide (i_7 < (l_1.length : Int)))
    ((idx l_1 i_7).bind fun x_8 =>
    br ((x_8.ID.Node == id_2.Node) && ((x_8.ID.Seq == id_2.Seq) && (x_8.ID.Off == id_2.Off)))
     ((idx l_1 i_7).bind fun x_9 =>
     br (decide (now_3 < x_9.Until))
      ((idx l_1 i_7).bind fun x_10 =>
      (app 8 out_6 ([x_10.Node] : List Int)).bind fun x_11 =>
      (addI .i64 i_7 (1 : Int)).bind fun x_12 =>
      some (.next (x_11, x_12)))
      ((addI .i64 i_7 (1 : Int)).bind fun x_13 =>
      some (.next (out_6, x_13))))
     ((addI .i64 i_7 (1 : Int)).bind fun x_14 =>
     some (.next (out_6, x_14))))
    (some (.done out_6))) (([] : List Int), (0 : Int))).bind fun out_15 =>
  some (out_15, (0 : Int)))
def packhorseref32_Denied.ann : Ann := (.two .no (.two .no (.two .no (.two .no (.two (.two .no (.loop [10, 11, 20, 21, 22, 23, 24, 25, 26, 27, 28, 29, 30, 31, 32, 33, 34, 35, 36, 37, 38, 39, 40, 41, 42, 43, 44, 45, 46, 47, 48, 49] [] [.slot 10 .l_i64 (some (10, 3)), .slot 11 .i64 none] [(.exit 0, [.slot 10 .l_i64 (some (10, 3))])] .no)) .no)))))
set_option maxRecDepth 100000 in
theorem packhorseref32_Denied.fn : FnT Tryz.prog 17 [.d .l_Denial, .d .ID, .d .i64] [.l_i64, .i64] packhorseref32_Denied :=
 FnT.of (X := ctx 0 [packhorseref32_Check.spec]) Tryz.mixed packhorseref32_Denied.ann Tryz.func17 rfl (by kernel_rfl) (Nat.le_of_ble_eq_true rfl) (fun x => by kernel_rfl)
noncomputable def packhorseref32_Denied.spec : XSpec Tryz.prog := XSpec.t 17 [.d .l_Denial, .d .ID, .d .i64] [.l_i64, .i64] packhorseref32_Denied (by kernel_rfl) packhorseref32_Denied.fn
noncomputable def packhorsekit_SameInts : ((List Int) × (List Int)) → Option Bool :=
 fun (a_1, b_2) =>
 br ((a_1.length : Int) != (b_2.length : Int))
  (some false)
  ((iter (σ := Int) (ρ := (Bool) ⊕ (Unit)) (fun i_3 =>
   br (decide (i_3 < (a_1.length : Int)))
    ((idx a_1 i_3).bind fun x_4 =>
    (idx b_2 i_3).bind fun x_5 =>
    br (x_4 != x_5)
     (some (.done (.inl false)))
     ((addI .i64 i_3 (1 : Int)).bind fun x_6 =>
     some (.next x_6)))
    (some (.done (.inr ())))) (0 : Int)).bind fun x_8 =>
  Sum.elim
   (fun x_7 =>
   some x_7)
   (fun _ =>
   some true) x_8)
def packhorsekit_SameInts.ann : Ann := (.two .no (.two .no (.two (.two .no (.loop [4, 5, 11, 12, 13, 14, 15, 16, 17, 18, 19, 20, 21, 22, 23, 24, 25] [] [.slot 5 .i64 none] [(.ret, [.slot 4 .bool none]), (.exit 0, [])] .no)) .no)))
set_option maxRecDepth 100000 in
theorem packhorsekit_SameInts.fn : FnT Tryz.prog 18 [.d .l_i64, .d .l_i64] [.bool] packhorsekit_SameInts :=
 FnT.of (X := ctx 0 []) Tryz.mixed packhorsekit_SameInts.ann Tryz.func18 rfl (by kernel_rfl) (Nat.le_of_ble_eq_true rfl) (fun x => by kernel_rfl)
noncomputable def packhorsekit_SameInts.spec : XSpec Tryz.prog := XSpec.t 18 [.d .l_i64, .d .l_i64] [.bool] packhorsekit_SameInts (by kernel_rfl) packhorsekit_SameInts.fn
noncomputable def packhorselaw32_RerouteChanges : ((List Denial) × ID × Int × Int × Int) → Option Bool :=
 fun (l_1, id_2, node_3, until_4, now_5) =>
 br (decide ((200 : Int) < (l_1.length : Int)))
  ((packhorselaw32_awake ()).bind fun x_6 =>
  some x_6)
  ((packhorsekit_OwnDenials l_1).bind fun x_7 =>
  (reroute_Check x_7).bind fun (x_8, x_9) =>
  (packhorseref32_Check l_1).bind fun (x_10, x_11) =>
  br (x_8 != x_10)
   (some false)
   (br (x_9 != x_11)
    (some false)
    ((reroute_Add (x_7, id_2, node_3, until_4)).bind fun (x_12, x_13) =>
    (packhorseref32_Add (l_1, id_2, node_3, until_4)).bind fun (x_14, x_15) =>
    (packhorsekit_SameDenials (x_12, x_14)).bind fun x_16 =>
    br (!x_16)
     (some false)
     (br (x_13 != x_15)
      (some false)
      ((reroute_Forget (x_7, now_5)).bind fun (x_17, x_18) =>
      (packhorseref32_Forget (l_1, now_5)).bind fun (x_19, x_20) =>
      (packhorsekit_SameDenials (x_17, x_19)).bind fun x_21 =>
      br (!x_21)
       (some false)
       (br (x_18 != x_20)
        (some false)
        ((reroute_Drop (x_7, id_2)).bind fun (x_22, x_23) =>
        (packhorseref32_Drop (l_1, id_2)).bind fun (x_24, x_25) =>
        (reroute_Denied (x_7, id_2, now_5)).bind fun (x_26, x_27) =>
        (packhorseref32_Denied (l_1, id_2, now_5)).bind fun (x_28, x_29) =>
        (packhorsekit_SameDenials (x_22, x_24)).bind fun x_30 =>
        br x_30
         (br (x_23 == x_25)
          ((packhorsekit_SameInts (x_26, x_28)).bind fun x_31 =>
          br x_31
           (br (x_27 == x_29)
            ((packhorsekit_SameDenials (x_7, l_1)).bind fun x_32 =>
            br x_32
             ((packhorselaw32_awake ()).bind fun x_33 =>
             some x_33)
             (some false))
            (some false))
           (some false))
          (some false))
         (some false))))))))
def packhorselaw32_RerouteChanges.ann : Ann := .no
set_option maxRecDepth 100000 in
theorem packhorselaw32_RerouteChanges.fn : FnT Tryz.prog 3 [.d .l_Denial, .d .ID, .d .i64, .d .i64, .d .i64] [.bool] packhorselaw32_RerouteChanges :=
 FnT.of (X := ctx 0 [packhorselaw32_awake.spec, packhorsekit_OwnDenials.spec, reroute_Check.spec, packhorseref32_Check.spec, reroute_Add.spec, packhorseref32_Add.spec, packhorsekit_SameDenials.spec, reroute_Forget.spec, packhorseref32_Forget.spec, reroute_Drop.spec, packhorseref32_Drop.spec, reroute_Denied.spec, packhorseref32_Denied.spec, packhorsekit_SameInts.spec]) Tryz.mixed packhorselaw32_RerouteChanges.ann Tryz.func3 rfl (by kernel_rfl) (Nat.le_of_ble_eq_true rfl) (fun x => by kernel_rfl)
noncomputable def packhorselaw32_RerouteChanges.spec : XSpec Tryz.prog := XSpec.t 3 [.d .l_Denial, .d .ID, .d .i64, .d .i64, .d .i64] [.bool] packhorselaw32_RerouteChanges (by kernel_rfl) packhorselaw32_RerouteChanges.fn
end Go.Proofs.YtjcbpfhlgebgdaaGreat
