import Derived.Test.YtjcbpfhlgebgdaaX9
import Derived.Test.YtjcbpfhlgebgdaaChecked
import Derived.KernelRfl
set_option linter.unusedSimpArgs false
set_option linter.unusedVariables false
namespace Go.Proofs.Ytjcbpfhlgebgdaa
open Go.X Go.Eng
theorem keyed50 : Go.Eng.KeyT Try.prog 50 := Go.Eng.KeyT.pair (e := 3) (q := .i64) ⟨by kernel_rfl, by kernel_rfl, by kernel_rfl, by kernel_rfl⟩ (by kernel_rfl) ⟨104, by kernel_rfl⟩ (Go.deep_law_laid (by kernel_rfl) (m := 2) (by omega) (of_decide_eq_true (by kernel_rfl)) (by kernel_rfl) (by kernel_rfl)) (by kernel_rfl)
def keyB (t : TypeId) : Bool := Nat.beq t 50
theorem keyB_ok (t : TypeId) (h : keyB t = true) : Go.Eng.KeyT Try.prog t := by
  have := Nat.eq_of_beq_eq_true h
  subst this
  exact keyed50
def codes : List (Option C) := [none, none, some .i64, some .i64, some .bool, some .u8, some .u8, none, none, some .str, some .str, some .str, some .u64, none, none, none, none, none, none, none, none, some .i32, some .l_Contact, none, some .i64, none, none, none, none, some .l_i64, none, none, none, none, some .Contact, some .Contact, none, none, none, none, none, none, none, none, some .l_l_Contact, none, none, none, none, some .Pair, some .Pair, none, none, none, none, none, none, none, none, none, none, none, none, none, some .u64, none, none, none, some .i64, none, none, none, none, none, none, none, some .u32, none, some .u64, none, some .u64, none, none, none, none, none, none, none, none, none, none, none, none, none, none, none, some .u8, some .u8, none, none, some .i32, some .i32, none, none, none]
theorem _root_.Go.Proofs.Try.mixed : Try.prog.follows .mixedOrders = true := by kernel_rfl
noncomputable def ctx (wr : Nat) (l : List (XSpec Try.prog)) : XCtx Try.prog := { code := fun t => (codes[t]?).getD none, wr := wr, key := keyB, keyed := keyB_ok, known := l }
noncomputable def ctxO (wr : Nat) (l : List (XSpec Try.prog)) (s : List (XSort Try.prog)) (w : List (XOwn Try.prog)) : XCtx Try.prog := { code := fun t => (codes[t]?).getD none, wr := wr, key := keyB, keyed := keyB_ok, known := l, sorts := s, owned := w }
noncomputable def cmp_isNaN : Int → Option Bool :=
  fun x_1 =>
  some (x_1 != x_1)
def cmp_isNaN.ann : Ann := .no
set_option maxRecDepth 100000 in
theorem cmp_isNaN.fn : FnT Try.prog 54 [.d .i64] [.bool] cmp_isNaN :=
  FnT.of (X := ctx 0 []) Try.mixed cmp_isNaN.ann Try.func54 rfl (by kernel_rfl) (Nat.le_of_ble_eq_true rfl) (fun x => by kernel_rfl)
noncomputable def cmp_isNaN.spec : XSpec Try.prog := XSpec.t 54 [.d .i64] [.bool] cmp_isNaN (by kernel_rfl) cmp_isNaN.fn
noncomputable def cmp_Compare : (Int × Int) → Option Int :=
  fun (x_1, y_2) =>
  (cmp_isNaN x_1).bind fun x_3 =>
  (cmp_isNaN y_2).bind fun x_4 =>
  br x_3
    (br x_4
      (some (0 : Int))
      (some (-1 : Int)))
    (br x_4
      (some (1 : Int))
      (br (decide (x_1 < y_2))
        (some (-1 : Int))
        (br (decide (y_2 < x_1))
          (some (1 : Int))
          (some (0 : Int)))))
def cmp_Compare.ann : Ann := .no
set_option maxRecDepth 100000 in
theorem cmp_Compare.fn : FnT Try.prog 39 [.d .i64, .d .i64] [.i64] cmp_Compare :=
  FnT.of (X := ctx 0 [cmp_isNaN.spec]) Try.mixed cmp_Compare.ann Try.func39 rfl (by kernel_rfl) (Nat.le_of_ble_eq_true rfl) (fun x => by kernel_rfl)
noncomputable def cmp_Compare.spec : XSpec Try.prog := XSpec.t 39 [.d .i64, .d .i64] [.i64] cmp_Compare (by kernel_rfl) cmp_Compare.fn
noncomputable def cmp_Or : List Int → Option Int :=
  fun vals_1 =>
  (iter (σ := Int) (ρ := (Int) ⊕ (Unit)) (fun x_2 =>
    br (decide (x_2 < (vals_1.length : Int)))
      ((idx vals_1 x_2).bind fun x_3 =>
      br (x_3 != (0 : Int))
        (some (.done (.inl x_3)))
        ((addI .i64 x_2 (1 : Int)).bind fun x_4 =>
        some (.next x_4)))
      (some (.done (.inr ())))) (0 : Int)).bind fun x_6 =>
  Sum.elim
    (fun x_5 =>
    some x_5)
    (fun _ =>
    some (0 : Int)) x_6
def cmp_Or.ann : Ann := (.two .no (.two .no (.two (.two .no (.loop [2, 5, 8, 9, 10, 11, 12, 13, 14, 15, 16] [] [.slot 8 .i64 none] [(.ret, [.slot 2 .i64 none]), (.exit 0, [])] .no)) .no)))
set_option maxRecDepth 100000 in
theorem cmp_Or.fn : FnT Try.prog 38 [.d .l_i64] [.i64] cmp_Or :=
  FnT.of (X := ctx 0 []) Try.mixed cmp_Or.ann Try.func38 rfl (by kernel_rfl) (Nat.le_of_ble_eq_true rfl) (fun x => by kernel_rfl)
noncomputable def cmp_Or.spec : XSpec Try.prog := XSpec.t 38 [.d .l_i64] [.i64] cmp_Or (by kernel_rfl) cmp_Or.fn
noncomputable def plan_compare : (Contact × Contact) → Option Int :=
  fun (a_1, b_2) =>
  (cmp_Compare (a_1.Start, b_2.Start)).bind fun x_3 =>
  (cmp_Compare (a_1.From, b_2.From)).bind fun x_4 =>
  (cmp_Compare (a_1.To, b_2.To)).bind fun x_5 =>
  (cmp_Or ([x_3, x_4, x_5] : List Int)).bind fun x_6 =>
  some x_6
def plan_compare.ann : Ann := .no
set_option maxRecDepth 100000 in
theorem plan_compare.fn : FnT Try.prog 22 [.d .Contact, .d .Contact] [.i64] plan_compare :=
  FnT.of (X := ctx 0 [cmp_Compare.spec, cmp_Or.spec]) Try.mixed plan_compare.ann Try.func22 rfl (by kernel_rfl) (Nat.le_of_ble_eq_true rfl) (fun x => by kernel_rfl)
noncomputable def plan_compare.spec : XSpec Try.prog := XSpec.t 22 [.d .Contact, .d .Contact] [.i64] plan_compare (by kernel_rfl) plan_compare.fn
noncomputable def plan_nodes : List Int → Option Bool :=
  fun l_1 =>
  (iter (σ := Int) (ρ := (Bool) ⊕ (Unit)) (fun x_2 =>
    br (decide (x_2 < (l_1.length : Int)))
      ((idx l_1 x_2).bind fun x_3 =>
      br (decide (x_3 < (1 : Int)))
        (some (.done (.inl false)))
        (br (decide ((16 : Int) < x_3))
          (some (.done (.inl false)))
          ((addI .i64 x_2 (1 : Int)).bind fun x_4 =>
          some (.next x_4))))
      (some (.done (.inr ())))) (0 : Int)).bind fun x_6 =>
  Sum.elim
    (fun x_5 =>
    some x_5)
    (fun _ =>
    some true) x_6
def plan_nodes.ann : Ann := (.two .no (.two (.two .no (.loop [2, 4, 7, 8, 9, 10, 11, 12, 13, 14, 15, 16, 17] [] [.slot 7 .i64 none] [(.ret, [.slot 2 .bool none]), (.exit 0, [])] .no)) .no))
set_option maxRecDepth 100000 in
theorem plan_nodes.fn : FnT Try.prog 43 [.d .l_i64] [.bool] plan_nodes :=
  FnT.of (X := ctx 0 []) Try.mixed plan_nodes.ann Try.func43 rfl (by kernel_rfl) (Nat.le_of_ble_eq_true rfl) (fun x => by kernel_rfl)
noncomputable def plan_nodes.spec : XSpec Try.prog := XSpec.t 43 [.d .l_i64] [.bool] plan_nodes (by kernel_rfl) plan_nodes.fn
noncomputable def plan_One : Contact → Option Int :=
  fun c_1 =>
  (plan_nodes ([c_1.From, c_1.To] : List Int)).bind fun x_2 =>
  br (!x_2)
    (some (2 : Int))
    (br (c_1.From == c_1.To)
      (some (2 : Int))
      (br (decide (c_1.Start < (0 : Int)))
        (some (2 : Int))
        (br (decide (c_1.End ≤ c_1.Start))
          (some (2 : Int))
          (br (decide ((1099511627776 : Int) < c_1.End))
            (some (2 : Int))
            (br (decide (c_1.Rate < (1 : Int)))
              (some (2 : Int))
              (br (decide ((1048576 : Int) < c_1.Rate))
                (some (2 : Int))
                (br (decide (c_1.Delay < (0 : Int)))
                  (some (2 : Int))
                  (br (decide ((1048576 : Int) < c_1.Delay))
                    (some (2 : Int))
                    (some (0 : Int))))))))))
def plan_One.ann : Ann := .no
set_option maxRecDepth 100000 in
theorem plan_One.fn : FnT Try.prog 33 [.d .Contact] [.i64] plan_One :=
  FnT.of (X := ctx 0 [plan_nodes.spec]) Try.mixed plan_One.ann Try.func33 rfl (by kernel_rfl) (Nat.le_of_ble_eq_true rfl) (fun x => by kernel_rfl)
noncomputable def plan_One.spec : XSpec Try.prog := XSpec.t 33 [.d .Contact] [.i64] plan_One (by kernel_rfl) plan_One.fn
noncomputable def plan_of : Contact → Option Pair :=
  fun c_1 =>
  some (⟨c_1.From, c_1.To⟩ : Pair)
def plan_of.ann : Ann := .no
set_option maxRecDepth 100000 in
theorem plan_of.fn : FnT Try.prog 23 [.d .Contact] [.Pair] plan_of :=
  FnT.of (X := ctx 0 []) Try.mixed plan_of.ann Try.func23 rfl (by kernel_rfl) (Nat.le_of_ble_eq_true rfl) (fun x => by kernel_rfl)
noncomputable def plan_of.spec : XSpec Try.prog := XSpec.t 23 [.d .Contact] [.Pair] plan_of (by kernel_rfl) plan_of.fn
noncomputable def plan_Check : List Contact → Option (Int × Int) :=
  fun l_1 =>
  br (decide ((200 : Int) < (l_1.length : Int)))
    (some ((5 : Int), (0 : Int)))
    ((iter (σ := Int × (List (Pair × Int))) (ρ := (Int × Int × (List (Pair × Int))) ⊕ (List (Pair × Int))) (fun (x_2, x_3) =>
      br (decide (x_2 < (l_1.length : Int)))
        ((idx l_1 x_2).bind fun x_4 =>
        (plan_One x_4).bind fun x_5 =>
        br (x_5 != (0 : Int))
          (some (.done (.inl ((2 : Int), x_2, x_3))))
          (br (decide ((0 : Int) < x_2))
            ((subI .i64 x_2 (1 : Int)).bind fun x_6 =>
            (idx l_1 x_6).bind fun x_7 =>
            (plan_compare (x_7, x_4)).bind fun x_8 =>
            br (decide ((0 : Int) ≤ x_8))
              (some (.done (.inl ((19 : Int), x_2, x_3))))
              ((plan_of x_4).bind fun x_9 =>
              (mget (α := Pair) (β := Int) (kinC .Pair) x_3 x_9).bind fun x_10 =>
              br (decide (x_4.Start < (x_10.getD (0 : Int))))
                (some (.done (.inl ((12 : Int), x_2, x_3))))
                ((plan_of x_4).bind fun x_11 =>
                (mput (α := Pair) (β := Int) (kinC .Pair) x_3 x_11 x_4.End).bind fun x_12 =>
                (addI .i64 x_2 (1 : Int)).bind fun x_13 =>
                some (.next (x_13, x_12)))))
            ((plan_of x_4).bind fun x_14 =>
            (mget (α := Pair) (β := Int) (kinC .Pair) x_3 x_14).bind fun x_15 =>
            br (decide (x_4.Start < (x_15.getD (0 : Int))))
              (some (.done (.inl ((12 : Int), x_2, x_3))))
              ((plan_of x_4).bind fun x_16 =>
              (mput (α := Pair) (β := Int) (kinC .Pair) x_3 x_16 x_4.End).bind fun x_17 =>
              (addI .i64 x_2 (1 : Int)).bind fun x_18 =>
              some (.next (x_18, x_17))))))
        (some (.done (.inr x_3)))) ((0 : Int), ([] : List (Pair × Int)))).bind fun x_23 =>
    Sum.elim
      (fun (x_19, x_20, x_21) =>
      some (x_19, x_20))
      (fun x_22 =>
      some ((0 : Int), (0 : Int))) x_23)
def plan_Check.ann : Ann := (.two .no (.two .no (.two .no (.two (.two .no (.loop [2, 3, 5, 6, 13, 14, 15, 16, 17, 18, 19, 20, 21, 22, 23, 24, 25, 26, 27, 28, 29, 30, 31, 32, 33, 34, 35, 36, 37, 38, 39, 40, 41, 42, 43, 44, 45, 46, 47, 48, 49, 50, 51] [0] [.slot 13 .i64 none, .mapb 0 .Pair .i64] [(.ret, [.slot 2 .i64 none, .slot 3 .i64 none, .mapb 0 .Pair .i64]), (.exit 0, [.mapb 0 .Pair .i64])] .no)) .no))))
set_option maxRecDepth 100000 in
theorem plan_Check.fn : FnT Try.prog 16 [.d .l_Contact] [.i64, .i64] plan_Check :=
  FnT.of (X := ctx 0 [plan_One.spec, plan_compare.spec, plan_of.spec]) Try.mixed plan_Check.ann Try.func16 rfl (by kernel_rfl) (Nat.le_of_ble_eq_true rfl) (fun x => by kernel_rfl)
noncomputable def plan_Check.spec : XSpec Try.prog := XSpec.t 16 [.d .l_Contact] [.i64, .i64] plan_Check (by kernel_rfl) plan_Check.fn
end Go.Proofs.Ytjcbpfhlgebgdaa
