import Derived.Test.YtgihkmmcddhajaaX9
import Derived.Test.YtgihkmmcddhajaaChecked
import Derived.KernelRfl
/- What the interpreter makes of functions of the program, printed by xexec.py. -/
namespace Go.Proofs.Ytgihkmmcddhajaa
open Go.X Go.Eng
set_option linter.unusedVariables false
theorem keyed57 : Go.Eng.KeyT Try.prog 57 := Go.Eng.KeyT.pair (e := 3) (q := .i64) ⟨by kernel_rfl, by kernel_rfl, by kernel_rfl, by kernel_rfl⟩ (by kernel_rfl) ⟨123, by kernel_rfl⟩ (Go.deep_law_laid (by kernel_rfl) (m := 2) (by omega) (of_decide_eq_true (by kernel_rfl)) (by kernel_rfl) (by kernel_rfl)) (by kernel_rfl)
def keyB (t : TypeId) : Bool := Nat.beq t 57
theorem keyB_ok (t : TypeId) (h : keyB t = true) : Go.Eng.KeyT Try.prog t := by
  have := Nat.eq_of_beq_eq_true h
  subst this
  exact keyed57
def codes : List (Option C) := [none, none, some .i64, some .i64, some .bool, some .u8, some .u8, none, none, some .str, some .str, some .str, some .u64, none, none, none, none, none, none, none, none, some .i32, some .l_i64, some .l_Contact, none, none, some .i64, none, none, none, none, none, none, none, none, none, none, none, none, some .Contact, some .Contact, none, none, none, none, none, none, none, none, none, none, none, none, none, none, none, some .Pair, some .Pair, none, none, none, none, none, some .l_l_Contact, none, none, none, none, none, none, none, none, none, none, some .u64, none, none, none, none, some .i64, none, none, none, none, none, none, none, some .u32, none, some .u64, none, none, none, none, none, none, some .u64, none, none, none, none, none, none, none, none, none, none, none, none, none, none, none, none, none, none, some .u8, some .u8, none, none, some .i32, some .i32, none, none, none]
theorem _root_.Go.Proofs.Try.mixed : Try.prog.follows .mixedOrders = true := by kernel_rfl
noncomputable def ctx (wr : Nat) (l : List (XSpec Try.prog)) : XCtx Try.prog := { code := fun t => (codes[t]?).getD none, wr := wr, key := keyB, keyed := keyB_ok, known := l }
noncomputable def ctxS (wr : Nat) (l : List (XSpec Try.prog)) (s : List (XSort Try.prog)) : XCtx Try.prog := { code := fun t => (codes[t]?).getD none, wr := wr, key := keyB, keyed := keyB_ok, known := l, sorts := s }
noncomputable def ctxO (wr : Nat) (l : List (XSpec Try.prog)) (s : List (XSort Try.prog)) (w : List (XOwn Try.prog)) : XCtx Try.prog := { code := fun t => (codes[t]?).getD none, wr := wr, key := keyB, keyed := keyB_ok, known := l, sorts := s, owned := w }
/-- cmp.isNaN[int] -/
noncomputable def cmp_isNaN : Int → Option Bool :=
  fun x_1 =>
  some (x_1 != x_1)
def cmp_isNaN.ann : Ann := .no
set_option maxRecDepth 100000 in
theorem cmp_isNaN.fn : FnT Try.prog 68 [.d .i64] [.bool] cmp_isNaN :=
  FnT.of (X := ctx 0 []) Try.mixed cmp_isNaN.ann Try.func68 rfl (by kernel_rfl) (Nat.le_of_ble_eq_true rfl) (fun x => by kernel_rfl)
noncomputable def cmp_isNaN.spec : XSpec Try.prog := XSpec.t 68 [.d .i64] [.bool] cmp_isNaN (by kernel_rfl) cmp_isNaN.fn

/-- cmp.Compare[int] -/
noncomputable def cmp_Compare : (Int × Int) → Option Int :=
  fun (x_1, y_2) =>
  (cmp_isNaN x_1).bind fun x_3 =>
  (cmp_isNaN y_2).bind fun x_4 =>
  br x_3
    (br x_4
      (some (0 : Int))
      (some (-1 : Int)))
    (br x_4
      (some (1 : Int))
      (br (decide (x_1 < y_2))
        (some (-1 : Int))
        (br (decide (y_2 < x_1))
          (some (1 : Int))
          (some (0 : Int)))))
def cmp_Compare.ann : Ann := .no
set_option maxRecDepth 100000 in
theorem cmp_Compare.fn : FnT Try.prog 55 [.d .i64, .d .i64] [.i64] cmp_Compare :=
  FnT.of (X := ctx 0 [cmp_isNaN.spec]) Try.mixed cmp_Compare.ann Try.func55 rfl (by kernel_rfl) (Nat.le_of_ble_eq_true rfl) (fun x => by kernel_rfl)
noncomputable def cmp_Compare.spec : XSpec Try.prog := XSpec.t 55 [.d .i64, .d .i64] [.i64] cmp_Compare (by kernel_rfl) cmp_Compare.fn

/-- cmp.Or[int] -/
noncomputable def cmp_Or : List Int → Option Int :=
  fun vals_1 =>
  (iter (σ := Int) (ρ := (Int) ⊕ (Unit)) (fun x_2 =>
    br (decide (x_2 < (vals_1.length : Int)))
      ((idx vals_1 x_2).bind fun x_3 =>
      br (x_3 != (0 : Int))
        (some (.done (.inl x_3)))
        ((addI .i64 x_2 (1 : Int)).bind fun x_4 =>
        some (.next x_4)))
      (some (.done (.inr ())))) (0 : Int)).bind fun x_6 =>
  Sum.elim
    (fun x_5 =>
    some x_5)
    (fun _ =>
    some (0 : Int)) x_6
def cmp_Or.ann : Ann := (.two .no (.two .no (.two (.two .no (.loop [2, 5, 8, 9, 10, 11, 12, 13, 14, 15, 16] [] [.slot 8 .i64 none] [(.ret, [.slot 2 .i64 none]), (.exit 0, [])] .no)) .no)))
set_option maxRecDepth 100000 in
theorem cmp_Or.fn : FnT Try.prog 54 [.d .l_i64] [.i64] cmp_Or :=
  FnT.of (X := ctx 0 []) Try.mixed cmp_Or.ann Try.func54 rfl (by kernel_rfl) (Nat.le_of_ble_eq_true rfl) (fun x => by kernel_rfl)
noncomputable def cmp_Or.spec : XSpec Try.prog := XSpec.t 54 [.d .l_i64] [.i64] cmp_Or (by kernel_rfl) cmp_Or.fn

/-- packhorse/plan.compare -/
noncomputable def plan_compare : (Contact × Contact) → Option Int :=
  fun (a_1, b_2) =>
  (cmp_Compare (a_1.Start, b_2.Start)).bind fun x_3 =>
  (cmp_Compare (a_1.From, b_2.From)).bind fun x_4 =>
  (cmp_Compare (a_1.To, b_2.To)).bind fun x_5 =>
  (cmp_Or ([x_3, x_4, x_5] : List Int)).bind fun x_6 =>
  some x_6
def plan_compare.ann : Ann := .no
set_option maxRecDepth 100000 in
theorem plan_compare.fn : FnT Try.prog 36 [.d .Contact, .d .Contact] [.i64] plan_compare :=
  FnT.of (X := ctx 0 [cmp_Compare.spec, cmp_Or.spec]) Try.mixed plan_compare.ann Try.func36 rfl (by kernel_rfl) (Nat.le_of_ble_eq_true rfl) (fun x => by kernel_rfl)
noncomputable def plan_compare.spec : XSpec Try.prog := XSpec.t 36 [.d .Contact, .d .Contact] [.i64] plan_compare (by kernel_rfl) plan_compare.fn

end Go.Proofs.Ytgihkmmcddhajaa
