import Derived.Test.YtjcbpfhlgebgdaaGreatXKA
import Derived.Test.YtjcbpfhlgebgdaaGreatInsC
import Derived.Test.YtjcbpfhlgebgdaaGreatX9
import Derived.Test.YtjcbpfhlgebgdaaGreatChecked
import Derived.KernelRfl
set_option linter.unusedSimpArgs false
set_option linter.unusedVariables false
namespace Go.Proofs.YtjcbpfhlgebgdaaGreat
open Go.X Go.Eng
theorem keyed94 : Go.Eng.KeyT Tryz.prog 94 := Go.Eng.KeyT.pair (e := 3) (q := .i64) ⟨by kernel_rfl, by kernel_rfl, by kernel_rfl, by kernel_rfl⟩ (by kernel_rfl) ⟨176, by kernel_rfl⟩ (Go.deep_law_laid (by kernel_rfl) (m := 2) (by omega) (of_decide_eq_true (by kernel_rfl)) (by kernel_rfl) (by kernel_rfl)) (by kernel_rfl)
def keyB (t : TypeId) : Bool := Nat.beq t 94
theorem keyB_ok (t : TypeId) (h : keyB t = true) : Go.Eng.KeyT Tryz.prog t := by
 have := Nat.eq_of_beq_eq_true h
 subst this
 exact keyed94
def codes : List (Option C) := [none, none, some .i64, some .i64, some .bool, some .u8, some .u8, none, none, some .str, some .str, some .str, some .u64, none, none, none, none, none, none, none, none, some .i32, some .l_Denial, some .u64, some .ID, some .ID, none, none, some .i64, none, none, none, none, none, none, none, some .l_i64, none, none, none, none, none, none, none, none, none, none, none, none, some .Denial, some .Denial, none, none, some .Key, some .Key, none, none, none, none, none, none, none, none, none, none, some .l_Contact, none, none, none, none, none, none, some .u64, none, none, some .Contact, some .Contact, none, some .l_Route, none, none, none, none, none, some .Route, some .Route, none, none, none, none, none, none, none, some .Pair, some .Pair, none, none, none, none, none, none, none, none, none, none, none, none, none, none, none, none, none, none, none, none, none, none, none, none, none, none, some .i64, none, none, none, none, none, none, some .u32, none, none, none, none, some .Pair, some .Pair, some .l_Pair, some .l_Pair, none, none, none, some .u64, none, none, none, none, none, none, none, none, none, none, none, none, none, none, none, none, none, none, some .Contact, none, none, none, none, none, none, none, none, some .u8, some .u8, none, none, some .i32, some .i32, none, none, none]
noncomputable def ctx (wr : Nat) (l : List (XSpec Tryz.prog)) : XCtx Tryz.prog := { code := fun t => (codes[t]?).getD none, wr := wr, key := keyB, keyed := keyB_ok, known := l }
noncomputable def ctxS (wr : Nat) (l : List (XSpec Tryz.prog)) (s : List (XSort Tryz.prog)) : XCtx Tryz.prog := { code := fun t => (codes[t]?).getD none, wr := wr, key := keyB, keyed := keyB_ok, known := l, sorts := s }
noncomputable def ctxO (wr : Nat) (l : List (XSpec Tryz.prog)) (s : List (XSort Tryz.prog)) (w : List (XOwn Tryz.prog)) : XCtx Tryz.prog := { code := fun t => (codes[t]?).getD none, wr := wr, key := keyB, keyed := keyB_ok, known := l, sorts := s, owned := w }
noncomputable def ctxM (wr : Nat) (l : List (XSpec Tryz.prog)) (s : List (XSort Tryz.prog)) (w : List (XOwn Tryz.prog)) (u : List (XMut Tryz.prog)) : XCtx Tryz.prog := { code := fun t => (codes[t]?).getD none, wr := wr, key := keyB, keyed := keyB_ok, known := l, sorts := s, owned := w, muts := u }
noncomputable def packhorsekit_Mod : (Int × Int) → Option Int :=
 fun (a_1, n_2) =>
 br (decide (n_2 < (1 : Int)))
  (some (0 : Int))
  ((remI a_1 n_2).bind fun x_3 =>
  br (decide (x_3 < (0 : Int)))
   ((addI .i64 x_3 n_2).bind fun x_4 =>
   some x_4)
   (some x_3))
def packhorsekit_Mod.ann : Ann := .no
set_option maxRecDepth 100000 in
theorem packhorsekit_Mod.fn : FnT Tryz.prog 20 [.d .i64, .d .i64] [.i64] packhorsekit_Mod :=
 FnT.of (X := ctx 0 []) Tryz.mixed packhorsekit_Mod.ann Tryz.func20 rfl (by kernel_rfl) (Nat.le_of_ble_eq_true rfl) (fun x => by kernel_rfl)
noncomputable def packhorsekit_Mod.spec : XSpec Tryz.prog := XSpec.t 20 [.d .i64, .d .i64] [.i64] packhorsekit_Mod (by kernel_rfl) packhorsekit_Mod.fn
noncomputable def packhorsekit_OwnInts : List Int → Option (List Int) :=
 fun l_1 =>
 (app 8 ([] : List Int) l_1).bind fun x_2 =>
 some x_2
def packhorsekit_OwnInts.ann : Ann := .no
set_option maxRecDepth 100000 in
theorem packhorsekit_OwnInts.fn : FnT Tryz.prog 21 [.d .l_i64] [.l_i64] packhorsekit_OwnInts :=
 FnT.of (X := ctx 0 []) Tryz.mixed packhorsekit_OwnInts.ann Tryz.func21 rfl (by kernel_rfl) (Nat.le_of_ble_eq_true rfl) (fun x => by kernel_rfl)
noncomputable def packhorsekit_OwnInts.spec : XSpec Tryz.prog := XSpec.t 21 [.d .l_i64] [.l_i64] packhorsekit_OwnInts (by kernel_rfl) packhorsekit_OwnInts.fn
set_option maxRecDepth 100000 in
theorem packhorsekit_OwnInts.fo : FnTO Tryz.prog 21 [.d .l_i64] .i64 3 packhorsekit_OwnInts :=
 FnTO.of (X := ctx 0 []) Tryz.mixed packhorsekit_OwnInts.ann Tryz.func21 rfl (by kernel_rfl) (Nat.le_of_ble_eq_true rfl) (fun x => by kernel_rfl)
noncomputable def packhorsekit_OwnInts.ow : XOwn Tryz.prog := XOwn.t 21 [.d .l_i64] .i64 3 packhorsekit_OwnInts (by kernel_rfl) packhorsekit_OwnInts.fo
noncomputable def packhorselaw32_known : Int → Option (ID × Int × Int) :=
 fun n_1 =>
 (packhorsekit_Mod (n_1, (1048576 : Int))).bind fun x_2 =>
 (remI x_2 (2 : Int)).bind fun x_3 =>
 (addI .i64 (1 : Int) x_3).bind fun x_4 =>
 (quoI .i64 x_2 (2 : Int)).bind fun x_5 =>
 (remI x_5 (3 : Int)).bind fun x_6 =>
 (quoI .i64 x_2 (6 : Int)).bind fun x_7 =>
 (remI x_7 (6 : Int)).bind fun x_8 =>
 (addI .i64 (1 : Int) x_8).bind fun x_9 =>
 (quoI .i64 x_2 (36 : Int)).bind fun x_10 =>
 (remI x_10 (60 : Int)).bind fun x_11 =>
 some ((⟨x_4, Go.IntKind.wrap .u64 x_6, (0 : Int)⟩ : ID), x_9, x_11)
def packhorselaw32_known.ann : Ann := .no
set_option maxRecDepth 100000 in
theorem packhorselaw32_known.fn : FnT Tryz.prog 39 [.d .i64] [.ID, .i64, .i64] packhorselaw32_known :=
 FnT.of (X := ctx 0 [packhorsekit_Mod.spec]) Tryz.mixed packhorselaw32_known.ann Tryz.func39 rfl (by kernel_rfl) (Nat.le_of_ble_eq_true rfl) (fun x => by kernel_rfl)
noncomputable def packhorselaw32_known.spec : XSpec Tryz.prog := XSpec.t 39 [.d .i64] [.ID, .i64, .i64] packhorselaw32_known (by kernel_rfl) packhorselaw32_known.fn
noncomputable def reroute_one : Denial → Option Int :=
 fun d_1 =>
 br (decide (d_1.Node < (1 : Int)))
  (some (2 : Int))
  (br (decide ((16 : Int) < d_1.Node))
   (some (2 : Int))
   (br (decide (d_1.Until < (0 : Int)))
    (some (2 : Int))
    (br (decide ((2199023255552 : Int) < d_1.Until))
     (some (2 : Int))
     (some (0 : Int)))))
def reroute_one.ann : Ann := .no
set_option maxRecDepth 100000 in
theorem reroute_one.fn : FnT Tryz.prog 26 [.d .Denial] [.i64] reroute_one :=
 FnT.of (X := ctx 0 []) Tryz.mixed reroute_one.ann Tryz.func26 rfl (by kernel_rfl) (Nat.le_of_ble_eq_true rfl) (fun x => by kernel_rfl)
noncomputable def reroute_one.spec : XSpec Tryz.prog := XSpec.t 26 [.d .Denial] [.i64] reroute_one (by kernel_rfl) reroute_one.fn
noncomputable def cmp_isNaN : Int → Option Bool :=
 fun x_1 =>
 some (x_1 != x_1)
def cmp_isNaN.ann : Ann := .no
set_option maxRecDepth 100000 in
theorem cmp_isNaN.fn : FnT Tryz.prog 56 [.d .i64] [.bool] cmp_isNaN :=
 FnT.of (X := ctx 0 []) Tryz.mixed cmp_isNaN.ann Tryz.func56 rfl (by kernel_rfl) (Nat.le_of_ble_eq_true rfl) (fun x => by kernel_rfl)
noncomputable def cmp_isNaN.spec : XSpec Tryz.prog := XSpec.t 56 [.d .i64] [.bool] cmp_isNaN (by kernel_rfl) cmp_isNaN.fn
noncomputable def cmp_Compare : (Int × Int) → Option Int :=
 fun (x_1, y_2) =>
 (cmp_isNaN x_1).bind fun x_3 =>
 (cmp_isNaN y_2).bind fun x_4 =>
 br x_3
  (br x_4
   (some (0 : Int))
   (some (-1 : Int)))
  (br x_4
   (some (1 : Int))
   (br (decide (x_1 < y_2))
    (some (-1 : Int))
    (br (decide (y_2 < x_1))
     (some (1 : Int))
     (some (0 : Int)))))
def cmp_Compare.ann : Ann := .no
set_option maxRecDepth 100000 in
theorem cmp_Compare.fn : FnT Tryz.prog 43 [.d .i64, .d .i64] [.i64] cmp_Compare :=
 FnT.of (X := ctx 0 [cmp_isNaN.spec]) Tryz.mixed cmp_Compare.ann Tryz.func43 rfl (by kernel_rfl) (Nat.le_of_ble_eq_true rfl) (fun x => by kernel_rfl)
noncomputable def cmp_Compare.spec : XSpec Tryz.prog := XSpec.t 43 [.d .i64, .d .i64] [.i64] cmp_Compare (by kernel_rfl) cmp_Compare.fn
noncomputable def cmp_isNaN_2 : Int → Option Bool :=
 fun x_1 =>
 some (x_1 != x_1)
def cmp_isNaN_2.ann : Ann := .no
set_option maxRecDepth 100000 in
theorem cmp_isNaN_2.fn : FnT Tryz.prog 69 [.d .u64] [.bool] cmp_isNaN_2 :=
 FnT.of (X := ctx 0 []) Tryz.mixed cmp_isNaN_2.ann Tryz.func69 rfl (by kernel_rfl) (Nat.le_of_ble_eq_true rfl) (fun x => by kernel_rfl)
noncomputable def cmp_isNaN_2.spec : XSpec Tryz.prog := XSpec.t 69 [.d .u64] [.bool] cmp_isNaN_2 (by kernel_rfl) cmp_isNaN_2.fn
noncomputable def cmp_Compare_2 : (Int × Int) → Option Int :=
 fun (x_1, y_2) =>
 (cmp_isNaN_2 x_1).bind fun x_3 =>
 (cmp_isNaN_2 y_2).bind fun x_4 =>
 br x_3
  (br x_4
   (some (0 : Int))
   (some (-1 : Int)))
  (br x_4
   (some (1 : Int))
   (br (decide (x_1 < y_2))
    (some (-1 : Int))
    (br (decide (y_2 < x_1))
     (some (1 : Int))
     (some (0 : Int)))))
def cmp_Compare_2.ann : Ann := .no
set_option maxRecDepth 100000 in
theorem cmp_Compare_2.fn : FnT Tryz.prog 55 [.d .u64, .d .u64] [.i64] cmp_Compare_2 :=
 FnT.of (X := ctx 0 [cmp_isNaN_2.spec]) Tryz.mixed cmp_Compare_2.ann Tryz.func55 rfl (by kernel_rfl) (Nat.le_of_ble_eq_true rfl) (fun x => by kernel_rfl)
noncomputable def cmp_Compare_2.spec : XSpec Tryz.prog := XSpec.t 55 [.d .u64, .d .u64] [.i64] cmp_Compare_2 (by kernel_rfl) cmp_Compare_2.fn
noncomputable def cmp_Or : List Int → Option Int :=
 fun vals_1 =>
 (iter (σ := Int) (ρ := (Int) ⊕ (Unit)) (fun x_2 =>
  br (decide (x_2 < (vals_1.length : Int)))
   ((idx vals_1 x_2).bind fun x_3 =>
   br (x_3 != (0 : Int))
    (some (.done (.inl x_3)))
    ((addI .i64 x_2 (1 : Int)).bind fun x_4 =>
    some (.next x_4)))
   (some (.done (.inr ())))) (0 : Int)).bind fun x_6 =>
 Sum.elim
  (fun x_5 =>
  some x_5)
  (fun _ =>
  some (0 : Int)) x_6
def cmp_Or.ann : Ann := (.two .no (.two .no (.two (.two .no (.loop [2, 5, 8, 9, 10, 11, 12, 13, 14, 15, 16] [] [.slot 8 .i64 none] [(.ret, [.slot 2 .i64 none]), (.exit 0, [])] .no)) .no)))
set_option maxRecDepth 100000 in
theorem cmp_Or.fn : FnT Tryz.prog 41 [.d .l_i64] [.i64] cmp_Or :=
 FnT.of (X := ctx 0 []) Tryz.mixed cmp_Or.ann Tryz.func41 rfl (by kernel_rfl) (Nat.le_of_ble_eq_true rfl) (fun x => by kernel_rfl)
noncomputable def cmp_Or.spec : XSpec Tryz.prog := XSpec.t 41 [.d .l_i64] [.i64] cmp_Or (by kernel_rfl) cmp_Or.fn
noncomputable def bundle_Compare : (ID × ID) → Option Int :=
 fun (a_1, b_2) =>
 (cmp_Compare (a_1.Node, b_2.Node)).bind fun x_3 =>
 (cmp_Compare_2 (a_1.Seq, b_2.Seq)).bind fun x_4 =>
 (cmp_Compare (a_1.Off, b_2.Off)).bind fun x_5 =>
 (cmp_Or ([x_3, x_4, x_5] : List Int)).bind fun x_6 =>
 some x_6
def bundle_Compare.ann : Ann := .no
set_option maxRecDepth 100000 in
theorem bundle_Compare.fn : FnT Tryz.prog 42 [.d .ID, .d .ID] [.i64] bundle_Compare :=
 FnT.of (X := ctx 0 [cmp_Compare.spec, cmp_Compare_2.spec, cmp_Or.spec]) Tryz.mixed bundle_Compare.ann Tryz.func42 rfl (by kernel_rfl) (Nat.le_of_ble_eq_true rfl) (fun x => by kernel_rfl)
noncomputable def bundle_Compare.spec : XSpec Tryz.prog := XSpec.t 42 [.d .ID, .d .ID] [.i64] bundle_Compare (by kernel_rfl) bundle_Compare.fn
noncomputable def reroute_compare : (Denial × Key) → Option Int :=
 fun (d_1, k_2) =>
 (bundle_Compare (d_1.ID, k_2.id)).bind fun x_3 =>
 (cmp_Compare (d_1.Node, k_2.node)).bind fun x_4 =>
 (cmp_Or ([x_3, x_4] : List Int)).bind fun x_5 =>
 some x_5
def reroute_compare.ann : Ann := .no
set_option maxRecDepth 100000 in
theorem reroute_compare.fn : FnT Tryz.prog 27 [.d .Denial, .d .Key] [.i64] reroute_compare :=
 FnT.of (X := ctx 0 [bundle_Compare.spec, cmp_Compare.spec, cmp_Or.spec]) Tryz.mixed reroute_compare.ann Tryz.func27 rfl (by kernel_rfl) (Nat.le_of_ble_eq_true rfl) (fun x => by kernel_rfl)
noncomputable def reroute_compare.spec : XSpec Tryz.prog := XSpec.t 27 [.d .Denial, .d .Key] [.i64] reroute_compare (by kernel_rfl) reroute_compare.fn
noncomputable def reroute_Check : List Denial → Option (Int × Int) :=
 fun l_1 =>
 (iter (σ := Int) (ρ := (Int × Int) ⊕ (Unit)) (fun x_2 =>
  br (decide (x_2 < (l_1.length : Int)))
   ((idx l_1 x_2).bind fun x_3 =>
   (reroute_one x_3).bind fun x_4 =>
   br (x_4 != (0 : Int))
    (some (.done (.inl (x_4, x_2))))
    (br (decide ((0 : Int) < x_2))
     ((subI .i64 x_2 (1 : Int)).bind fun x_5 =>
     (idx l_1 x_5).bind fun x_6 =>
     (reroute_compare (x_6, (⟨x_3.ID, x_3.Node⟩ : Key))).bind fun x_7 =>
     br (decide ((0 : Int) ≤ x_7))
      (some (.done (.inl ((19 : Int), x_2))))
      ((addI .i64 x_2 (1 : Int)).bind fun x_8 =>
      some (.next x_8)))
     ((addI .i64 x_2 (1 : Int)).bind fun x_9 =>
     some (.next x_9))))
   (some (.done (.inr ())))) (0 : Int)).bind fun x_12 =>
 Sum.elim
  (fun (x_10, x_11) =>
  some (x_10, x_11))
  (fun _ =>
  some ((0 : Int), (0 : Int))) x_12
def reroute_Check.ann : Ann := (.two .no (.two (.two .no (.loop [2, 3, 4, 5, 6, 9, 10, 11, 12, 13, 14, 15, 16, 17, 18, 19, 20, 21, 22, 23, 24, 25, 26, 27, 28, 29, 30, 31, 32, 33, 34, 35, 36, 37] [] [.slot 9 .i64 none] [(.ret, [.slot 2 .i64 none, .slot 3 .i64 none]), (.exit 0, [])] .no)) .no))
set_option maxRecDepth 100000 in
theorem reroute_Check.fn : FnT Tryz.prog 7 [.d .l_Denial] [.i64, .i64] reroute_Check :=
 FnT.of (X := ctx 0 [reroute_one.spec, reroute_compare.spec]) Tryz.mixed reroute_Check.ann Tryz.func7 rfl (by kernel_rfl) (Nat.le_of_ble_eq_true rfl) (fun x => by kernel_rfl)
noncomputable def reroute_Check.spec : XSpec Tryz.prog := XSpec.t 7 [.d .l_Denial] [.i64, .i64] reroute_Check (by kernel_rfl) reroute_Check.fn
noncomputable def slices_Clone : List Denial → Option (List Denial) :=
 fun s_1 =>
 nilq s_1
  (some ([] : List Denial))
  ((app 40 ([] : List Denial) s_1).bind fun x_2 =>
  some x_2)
def slices_Clone.ann : Ann := .no
set_option maxRecDepth 100000 in
theorem slices_Clone.fn : FnT Tryz.prog 30 [.d .l_Denial] [.l_Denial] slices_Clone :=
 FnT.of (X := ctx 0 []) Tryz.mixed slices_Clone.ann Tryz.func30 rfl (by kernel_rfl) (Nat.le_of_ble_eq_true rfl) (fun x => by kernel_rfl)
noncomputable def slices_Clone.spec : XSpec Tryz.prog := XSpec.t 30 [.d .l_Denial] [.l_Denial] slices_Clone (by kernel_rfl) slices_Clone.fn
set_option maxRecDepth 100000 in
theorem slices_Clone.fo : FnTO Tryz.prog 30 [.d .l_Denial] .Denial 50 slices_Clone :=
 FnTO.of (X := ctx 0 []) Tryz.mixed slices_Clone.ann Tryz.func30 rfl (by kernel_rfl) (Nat.le_of_ble_eq_true rfl) (fun x => by kernel_rfl)
noncomputable def slices_Clone.ow : XOwn Tryz.prog := XOwn.t 30 [.d .l_Denial] .Denial 50 slices_Clone (by kernel_rfl) slices_Clone.fo
noncomputable def slices_BinarySearchFunc_f27 : ((List Denial) × Key) → Option (Int × Bool) :=
 fun (x_1, target_2) =>
 (iter (σ := Int × Int) (ρ := Int) (fun (i_3, j_4) =>
  br (decide (i_3 < j_4))
   ((addI .i64 i_3 j_4).bind fun x_5 =>
   (shrI .u64 (Go.IntKind.wrap .u64 x_5) (1 : Int)).bind fun x_6 =>
   (idx x_1 (Go.IntKind.wrap .i64 x_6)).bind fun x_7 =>
   (reroute_compare (x_7, target_2)).bind fun x_8 =>
   br (decide (x_8 < (0 : Int)))
    ((addI .i64 (Go.IntKind.wrap .i64 x_6) (1 : Int)).bind fun x_9 =>
    some (.next (x_9, j_4)))
    (some (.next (i_3, Go.IntKind.wrap .i64 x_6))))
   (some (.done i_3))) ((0 : Int), (x_1.length : Int))).bind fun i_10 =>
 br (decide (i_10 < (x_1.length : Int)))
  ((idx x_1 i_10).bind fun x_11 =>
  (reroute_compare (x_11, target_2)).bind fun x_12 =>
  some (i_10, x_12 == (0 : Int)))
  (some (i_10, false))
def slices_BinarySearchFunc_f27.ann : Ann := (.two .no (.two .no (.two .no (.two (.loop [9, 10, 11, 15, 16, 17, 18, 19, 20, 21, 22, 23, 24, 25, 26, 27, 28, 29, 30, 31, 32, 33, 34] [] [.slot 9 .i64 none, .slot 10 .i64 none] [(.exit 0, [.slot 9 .i64 none])] .no) .no))))
set_option maxRecDepth 100000 in
theorem slices_BinarySearchFunc_f27.fn : FnT Tryz.prog 31 [.d .l_Denial, .d .Key, .f 27 []] [.i64, .bool] slices_BinarySearchFunc_f27 :=
 FnT.of (X := ctx 0 [reroute_compare.spec]) Tryz.mixed slices_BinarySearchFunc_f27.ann Tryz.func31 rfl (by kernel_rfl) (Nat.le_of_ble_eq_true rfl) (fun x => by kernel_rfl)
noncomputable def slices_BinarySearchFunc_f27.spec : XSpec Tryz.prog := XSpec.t 31 [.d .l_Denial, .d .Key, .f 27 []] [.i64, .bool] slices_BinarySearchFunc_f27 (by kernel_rfl) slices_BinarySearchFunc_f27.fn
noncomputable def reroute_Add : ((List Denial) × ID × Int × Int) → Option ((List Denial) × Int) :=
 fun (l_1, id_2, node_3, until_4) =>
 (reroute_Check l_1).bind fun (x_5, x_6) =>
 br (x_5 != (0 : Int))
  (some (([] : List Denial), x_5))
  ((reroute_one (⟨id_2, node_3, until_4⟩ : Denial)).bind fun x_7 =>
  br (x_7 != (0 : Int))
   (some (([] : List Denial), x_7))
   ((slices_Clone l_1).bind fun x_8 =>
   (slices_BinarySearchFunc_f27 (x_8, (⟨id_2, node_3⟩ : Key))).bind fun (x_9, x_10) =>
   br x_10
    ((idx x_8 x_9).bind fun x_11 =>
    br (inB x_9 x_8.length)
     ((idx x_8 x_9).bind fun x_12 =>
     some (setI x_8 x_9 (⟨x_12.ID, x_12.Node, max x_11.Until until_4⟩ : Denial), (0 : Int)))
     (none))
    ((insertX x_8 x_9 ([(⟨id_2, node_3, until_4⟩ : Denial)] : List Denial)).bind fun x_13 =>
    some (x_13, (0 : Int)))))
def reroute_Add.ann : Ann := .no
set_option maxRecDepth 100000 in
theorem reroute_Add.fn : FnT Tryz.prog 9 [.d .l_Denial, .d .ID, .d .i64, .d .i64] [.l_Denial, .i64] reroute_Add :=
 FnT.of (X := ctxM 18014398509481984 [reroute_Check.spec, reroute_one.spec, slices_Clone.spec, slices_BinarySearchFunc_f27.spec] [] [slices_Clone.ow] [insertD.mu]) Tryz.mixed reroute_Add.ann Tryz.func9 rfl (by kernel_rfl) (Nat.le_of_ble_eq_true rfl) (fun x => by kernel_rfl)
noncomputable def reroute_Add.spec : XSpec Tryz.prog := XSpec.t 9 [.d .l_Denial, .d .ID, .d .i64, .d .i64] [.l_Denial, .i64] reroute_Add (by kernel_rfl) reroute_Add.fn
noncomputable def packhorselaw32_made : List Int → Option ((List Denial) × Bool) :=
 fun nums_1 =>
 (iter (σ := (List Denial) × Int) (ρ := ((List Denial) × Bool) ⊕ (List Denial)) (fun (l_2, i_3) =>
  br (decide (i_3 < (nums_1.length : Int)))
   (br (decide (i_3 < (30 : Int)))
    ((idx nums_1 i_3).bind fun x_4 =>
    (packhorselaw32_known x_4).bind fun (x_5, x_6, x_7) =>
    (reroute_Add (l_2, x_5, x_6, x_7)).bind fun (x_8, x_9) =>
    br (x_9 != (0 : Int))
     (some (.done (.inl (([] : List Denial), false))))
     ((addI .i64 i_3 (1 : Int)).bind fun x_10 =>
     some (.next (x_8, x_10))))
    (some (.done (.inr l_2))))
   (some (.done (.inr l_2)))) (([] : List Denial), (0 : Int))).bind fun x_16 =>
 Sum.elim
  (fun (x_11, x_12) =>
  some (x_11, x_12))
  (fun l_13 =>
  (reroute_Check l_13).bind fun (x_14, x_15) =>
  some (l_13, x_14 == (0 : Int))) x_16
def packhorselaw32_made.ann : Ann := (.two .no (.two .no (.two (.two .no (.loop [2, 3, 4, 5, 6, 7, 8, 9, 12, 13, 14, 15, 16, 17, 18, 19, 20, 21, 22, 23, 24, 25, 26, 27, 28, 29, 30, 31, 32, 33, 34, 35, 36, 37, 38, 39, 40] [] [.slot 4 .l_Denial none, .slot 5 .i64 none] [(.ret, [.slot 2 .l_Denial (some (2, 50)), .slot 3 .bool none]), (.exit 0, [.slot 4 .l_Denial none])] .no)) .no)))
set_option maxRecDepth 100000 in
theorem packhorselaw32_made.fn : FnT Tryz.prog 22 [.d .l_i64] [.l_Denial, .bool] packhorselaw32_made :=
 FnT.of (X := ctx 0 [packhorselaw32_known.spec, reroute_Add.spec, reroute_Check.spec]) Tryz.mixed packhorselaw32_made.ann Tryz.func22 rfl (by kernel_rfl) (Nat.le_of_ble_eq_true rfl) (fun x => by kernel_rfl)
noncomputable def packhorselaw32_made.spec : XSpec Tryz.prog := XSpec.t 22 [.d .l_i64] [.l_Denial, .bool] packhorselaw32_made (by kernel_rfl) packhorselaw32_made.fn
noncomputable def packhorsekit_SameDenials : ((List Denial) × (List Denial)) → Option Bool :=
 fun (a_1, b_2) =>
 br ((a_1.length : Int) != (b_2.length : Int))
  (some false)
  ((iter (σ := Int) (ρ := (Bool) ⊕ (Unit)) (fun i_3 =>
   br (decide (i_3 < (a_1.length : Int)))
    ((idx a_1 i_3).bind fun x_4 =>
    (idx b_2 i_3).bind fun x_5 =>
    br (!((x_4.ID.Node == x_5.ID.Node) && ((x_4.ID.Seq == x_5.ID.Seq) && ((x_4.ID.Off == x_5.ID.Off) && ((x_4.Node == x_5.Node) && (x_4.Until == x_5.Until))))))
     (some (.done (.inl false)))
     ((addI .i64 i_3 (1 : Int)).bind fun x_6 =>
     some (.next x_6)))
    (some (.done (.inr ())))) (0 : Int)).bind fun x_8 =>
  Sum.elim
   (fun x_7 =>
   some x_7)
   (fun _ =>
   some true) x_8)
def packhorsekit_SameDenials.ann : Ann := (.two .no (.two .no (.two (.two .no (.loop [4, 5, 11, 12, 13, 14, 15, 16, 17, 18, 19, 20, 21, 22, 23, 24, 25] [] [.slot 5 .i64 none] [(.ret, [.slot 4 .bool none]), (.exit 0, [])] .no)) .no)))
set_option maxRecDepth 100000 in
theorem packhorsekit_SameDenials.fn : FnT Tryz.prog 11 [.d .l_Denial, .d .l_Denial] [.bool] packhorsekit_SameDenials :=
 FnT.of (X := ctx 0 []) Tryz.mixed packhorsekit_SameDenials.ann Tryz.func11 rfl (by kernel_rfl) (Nat.le_of_ble_eq_true rfl) (fun x => by kernel_rfl)
noncomputable def packhorsekit_SameDenials.spec : XSpec Tryz.prog := XSpec.t 11 [.d .l_Denial, .d .l_Denial] [.bool] packhorsekit_SameDenials (by kernel_rfl) packhorsekit_SameDenials.fn
noncomputable def packhorselaw32_RerouteOrder : ((List Int) × Int) → Option Bool :=
 fun (nums_1, at_2) =>
 (packhorselaw32_RerouteKnown ()).bind fun x_3 =>
 (addI .i64 (min (nums_1.length : Int) (30 : Int)) (1 : Int)).bind fun x_4 =>
 (packhorsekit_Mod (at_2, x_4)).bind fun x_5 =>
 (slc nums_1 x_5 (min (nums_1.length : Int) (30 : Int))).bind fun x_6 =>
 (slc nums_1 (0 : Int) x_5).bind fun x_7 =>
 (packhorsekit_OwnInts x_6).bind fun x_8 =>
 (app 8 x_8 x_7).bind fun x_9 =>
 (slc nums_1 (0 : Int) (min (nums_1.length : Int) (30 : Int))).bind fun x_10 =>
 (packhorselaw32_made x_10).bind fun (x_11, x_12) =>
 (packhorselaw32_made x_9).bind fun (x_13, x_14) =>
 br x_3
  (br x_12
   (br x_14
    ((packhorsekit_SameDenials (x_11, x_13)).bind fun x_15 =>
    some x_15)
    (some false))
   (some false))
  (some false)
def packhorselaw32_RerouteOrder.ann : Ann := (.two .no (.two .no (.two .no (.two .no (.two .sch .no)))))
set_option maxRecDepth 100000 in
theorem packhorselaw32_RerouteOrder.fn : FnT Tryz.prog 4 [.d .l_i64, .d .i64] [.bool] packhorselaw32_RerouteOrder :=
 FnT.of (X := ctxO 0 [packhorselaw32_RerouteKnown.spec, packhorsekit_Mod.spec, packhorsekit_OwnInts.spec, packhorselaw32_made.spec, packhorsekit_SameDenials.spec] [] [packhorsekit_OwnInts.ow]) Tryz.mixed packhorselaw32_RerouteOrder.ann Tryz.func4 rfl (by kernel_rfl) (Nat.le_of_ble_eq_true rfl) (fun x => by kernel_rfl)
noncomputable def packhorselaw32_RerouteOrder.spec : XSpec Tryz.prog := XSpec.t 4 [.d .l_i64, .d .i64] [.bool] packhorselaw32_RerouteOrder (by kernel_rfl) packhorselaw32_RerouteOrder.fn
end Go.Proofs.YtjcbpfhlgebgdaaGreat
