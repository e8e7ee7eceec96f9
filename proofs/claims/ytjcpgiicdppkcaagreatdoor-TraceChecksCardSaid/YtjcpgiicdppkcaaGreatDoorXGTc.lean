import Derived.Test.YtjcpgiicdppkcaaGreatDoorXKA
import Derived.Test.YtjcpgiicdppkcaaGreatDoorX9
import Derived.Test.YtjcpgiicdppkcaaGreatDoorChecked
import Derived.KernelRfl
set_option linter.unusedSimpArgs false
set_option linter.unusedVariables false
namespace Go.Proofs.YtjcpgiicdppkcaaGreatDoor
open Go.X Go.Eng
def keyB (t : TypeId) : Bool := false
theorem keyB_ok (t : TypeId) (h : keyB t = true) : Go.Eng.KeyT Tryz.prog t := Bool.noConfusion h
def codes : List (Option C) := [none, none, some .i64, some .i64, some .bool, some .u8, some .u8, none, none, some .str, some .str, some .str, some .u64, none, none, none, none, none, none, none, none, some .i32, some .l_Outc, none, none, some .i64, none, none, none, some .Fault, some .Fault, none, none, none, none, some .u64, some .ID, some .ID, none, none, none, none, none, some .l_i64, none, none, none, none, none, none, none, none, none, some .l_u8, none, none, some .Outc, some .Outc, some .l_Word, none, some .Word, some .Word, none, none, none, none, none, none, none, none, some .l_Row, none, none, some .Row, some .Row, none, none, none, none, none, none, none, none, none, none, none, some .Face, some .Face, none, some .i64, some .i64, some .i64, none, some .ID, some .i64, none, none, none, none, none, some .l_str, none, none, none, none, none, none, none, none, none, some .l_Face, none, none, none, none, none, none, none, none, none, none, some .W3, some .W3, some .l_W3, none, none, none, none, none, none, none, none, none, none, none, some .W3, none, none, none, none, none, none, none, none, none, none, none, none, none, none, none, none, none, none, none, none, none, none, some .u64, none, none, none, none, none, none, none, none, none, none, none, some .u32, none, none, none, none, none, none, none, none, none, none, none, none, none, some .u8, some .u8, none, some .i32, some .i32, none, none]
noncomputable def ctx (wr : Nat) (l : List (XSpec Tryz.prog)) : XCtx Tryz.prog := { code := fun t => (codes[t]?).getD none, wr := wr, key := keyB, keyed := keyB_ok, known := l }
noncomputable def ctxS (wr : Nat) (l : List (XSpec Tryz.prog)) (s : List (XSort Tryz.prog)) : XCtx Tryz.prog := { code := fun t => (codes[t]?).getD none, wr := wr, key := keyB, keyed := keyB_ok, known := l, sorts := s }
noncomputable def ctxO (wr : Nat) (l : List (XSpec Tryz.prog)) (s : List (XSort Tryz.prog)) (w : List (XOwn Tryz.prog)) : XCtx Tryz.prog := { code := fun t => (codes[t]?).getD none, wr := wr, key := keyB, keyed := keyB_ok, known := l, sorts := s, owned := w }
noncomputable def packhorselaw39_light : List Outc → Option Bool :=
  fun l_1 =>
  br (decide ((l_1.length : Int) ≤ (80 : Int)))
    (some true)
    (br (decide ((5000 : Int) < (l_1.length : Int)))
      (some (decide ((l_1.length : Int) ≤ (5010 : Int))))
      (some false))
def packhorselaw39_light.ann : Ann := .no
set_option maxRecDepth 100000 in
theorem packhorselaw39_light.fn : FnT Tryz.prog 5 [.d .l_Outc] [.bool] packhorselaw39_light :=
  FnT.of (X := ctx 0 []) Tryz.mixed packhorselaw39_light.ann Tryz.func5 rfl (by kernel_rfl) (Nat.le_of_ble_eq_true rfl) (fun x => by kernel_rfl)
noncomputable def packhorselaw39_light.spec : XSpec Tryz.prog := XSpec.t 5 [.d .l_Outc] [.bool] packhorselaw39_light (by kernel_rfl) packhorselaw39_light.fn
noncomputable def packhorselaw39_own : List Outc → Option (List Outc) :=
  fun l_1 =>
  (app 56 ([] : List Outc) l_1).bind fun x_2 =>
  some x_2
def packhorselaw39_own.ann : Ann := .no
set_option maxRecDepth 100000 in
theorem packhorselaw39_own.fn : FnT Tryz.prog 8 [.d .l_Outc] [.l_Outc] packhorselaw39_own :=
  FnT.of (X := ctx 0 []) Tryz.mixed packhorselaw39_own.ann Tryz.func8 rfl (by kernel_rfl) (Nat.le_of_ble_eq_true rfl) (fun x => by kernel_rfl)
noncomputable def packhorselaw39_own.spec : XSpec Tryz.prog := XSpec.t 8 [.d .l_Outc] [.l_Outc] packhorselaw39_own (by kernel_rfl) packhorselaw39_own.fn
noncomputable def bundle_within : List W3 → Option Bool :=
  fun l_1 =>
  (iter (σ := Int) (ρ := (Bool) ⊕ (Unit)) (fun x_2 =>
    br (decide (x_2 < (l_1.length : Int)))
      ((idx l_1 x_2).bind fun x_3 =>
      br (decide (x_3.a < x_3.b))
        (some (.done (.inl false)))
        (br (decide (x_3.c < x_3.a))
          (some (.done (.inl false)))
          ((addI .i64 x_2 (1 : Int)).bind fun x_4 =>
          some (.next x_4))))
      (some (.done (.inr ())))) (0 : Int)).bind fun x_6 =>
  Sum.elim
    (fun x_5 =>
    some x_5)
    (fun _ =>
    some true) x_6
def bundle_within.ann : Ann := (.two .no (.two (.two .no (.loop [2, 4, 7, 8, 9, 10, 11, 12, 13, 14, 15, 16, 17, 18, 19, 20, 21, 22, 23] [] [.slot 7 .i64 none] [(.ret, [.slot 2 .bool none]), (.exit 0, [])] .no)) .no))
set_option maxRecDepth 100000 in
theorem bundle_within.fn : FnT Tryz.prog 66 [.d .l_W3] [.bool] bundle_within :=
  FnT.of (X := ctx 0 []) Tryz.mixed bundle_within.ann Tryz.func66 rfl (by kernel_rfl) (Nat.le_of_ble_eq_true rfl) (fun x => by kernel_rfl)
noncomputable def bundle_within.spec : XSpec Tryz.prog := XSpec.t 66 [.d .l_W3] [.bool] bundle_within (by kernel_rfl) bundle_within.fn
noncomputable def bundle_CheckID : ID → Option Int :=
  fun id_1 =>
  (bundle_within ([(⟨id_1.Node, (1 : Int), (16 : Int)⟩ : W3), (⟨id_1.Off, (0 : Int), (19999 : Int)⟩ : W3)] : List W3)).bind fun x_2 =>
  br (!x_2)
    (some (2 : Int))
    (br (decide ((1099511627776 : Int) < id_1.Seq))
      (some (2 : Int))
      (some (0 : Int)))
def bundle_CheckID.ann : Ann := .no
set_option maxRecDepth 100000 in
theorem bundle_CheckID.fn : FnT Tryz.prog 41 [.d .ID] [.i64] bundle_CheckID :=
  FnT.of (X := ctx 0 [bundle_within.spec]) Tryz.mixed bundle_CheckID.ann Tryz.func41 rfl (by kernel_rfl) (Nat.le_of_ble_eq_true rfl) (fun x => by kernel_rfl)
noncomputable def bundle_CheckID.spec : XSpec Tryz.prog := XSpec.t 41 [.d .ID] [.i64] bundle_CheckID (by kernel_rfl) bundle_CheckID.fn
noncomputable def trace_one : Outc → Option Int :=
  fun o_1 =>
  br (decide (o_1.Kind < (1 : Int)))
    (some (7 : Int))
    (br (decide ((15 : Int) < o_1.Kind))
      (some (7 : Int))
      (br (inB o_1.Kind 16)
        ((tbl1 .i64 0 (0 + (o_1.Kind).toNat * 2 + 1)).bind fun x_2 =>
        br ((bitI .and .i64 x_2 (1 : Int)) != (0 : Int))
          ((bundle_CheckID o_1.ID).bind fun x_3 =>
          br ((bitI .and .i64 x_2 (2 : Int)) != (0 : Int))
            (br (decide ((1 : Int) ≤ o_1.Other))
              (br (decide (o_1.Other ≤ (16 : Int)))
                (br (o_1.Other != o_1.Node)
                  (br (decide (o_1.Tick < (0 : Int)))
                    (some (2 : Int))
                    (br (decide ((1099511627776 : Int) < o_1.Tick))
                      (some (2 : Int))
                      (br (decide (o_1.Node < (1 : Int)))
                        (some (2 : Int))
                        (br (decide ((16 : Int) < o_1.Node))
                          (some (2 : Int))
                          (br (!(x_3 == (0 : Int)))
                            (some (2 : Int))
                            (some (0 : Int)))))))
                  (br ((bitI .and .i64 x_2 (4 : Int)) != (0 : Int))
                    (br (decide (o_1.Tick < (0 : Int)))
                      (some (2 : Int))
                      (br (decide ((1099511627776 : Int) < o_1.Tick))
                        (some (2 : Int))
                        (br (decide (o_1.Node < (1 : Int)))
                          (some (2 : Int))
                          (br (decide ((16 : Int) < o_1.Node))
                            (some (2 : Int))
                            (br (!(x_3 == (0 : Int)))
                              (some (2 : Int))
                              (br (!(o_1.Other == (0 : Int)))
                                (some (2 : Int))
                                (some (0 : Int))))))))
                    (br (decide (o_1.Tick < (0 : Int)))
                      (some (2 : Int))
                      (br (decide ((1099511627776 : Int) < o_1.Tick))
                        (some (2 : Int))
                        (br (decide (o_1.Node < (1 : Int)))
                          (some (2 : Int))
                          (br (decide ((16 : Int) < o_1.Node))
                            (some (2 : Int))
                            (br (!(x_3 == (0 : Int)))
                              (some (2 : Int))
                              (some (2 : Int)))))))))
                (br ((bitI .and .i64 x_2 (4 : Int)) != (0 : Int))
                  (br (decide (o_1.Tick < (0 : Int)))
                    (some (2 : Int))
                    (br (decide ((1099511627776 : Int) < o_1.Tick))
                      (some (2 : Int))
                      (br (decide (o_1.Node < (1 : Int)))
                        (some (2 : Int))
                        (br (decide ((16 : Int) < o_1.Node))
                          (some (2 : Int))
                          (br (!(x_3 == (0 : Int)))
                            (some (2 : Int))
                            (br (!(o_1.Other == (0 : Int)))
                              (some (2 : Int))
                              (some (0 : Int))))))))
                  (br (decide (o_1.Tick < (0 : Int)))
                    (some (2 : Int))
                    (br (decide ((1099511627776 : Int) < o_1.Tick))
                      (some (2 : Int))
                      (br (decide (o_1.Node < (1 : Int)))
                        (some (2 : Int))
                        (br (decide ((16 : Int) < o_1.Node))
                          (some (2 : Int))
                          (br (!(x_3 == (0 : Int)))
                            (some (2 : Int))
                            (some (2 : Int)))))))))
              (br ((bitI .and .i64 x_2 (4 : Int)) != (0 : Int))
                (br (decide (o_1.Tick < (0 : Int)))
                  (some (2 : Int))
                  (br (decide ((1099511627776 : Int) < o_1.Tick))
                    (some (2 : Int))
                    (br (decide (o_1.Node < (1 : Int)))
                      (some (2 : Int))
                      (br (decide ((16 : Int) < o_1.Node))
                        (some (2 : Int))
                        (br (!(x_3 == (0 : Int)))
                          (some (2 : Int))
                          (br (!(o_1.Other == (0 : Int)))
                            (some (2 : Int))
                            (some (0 : Int))))))))
                (br (decide (o_1.Tick < (0 : Int)))
                  (some (2 : Int))
                  (br (decide ((1099511627776 : Int) < o_1.Tick))
                    (some (2 : Int))
                    (br (decide (o_1.Node < (1 : Int)))
                      (some (2 : Int))
                      (br (decide ((16 : Int) < o_1.Node))
                        (some (2 : Int))
                        (br (!(x_3 == (0 : Int)))
                          (some (2 : Int))
                          (some (2 : Int)))))))))
            (br (decide (o_1.Tick < (0 : Int)))
              (some (2 : Int))
              (br (decide ((1099511627776 : Int) < o_1.Tick))
                (some (2 : Int))
                (br (decide (o_1.Node < (1 : Int)))
                  (some (2 : Int))
                  (br (decide ((16 : Int) < o_1.Node))
                    (some (2 : Int))
                    (br (!(x_3 == (0 : Int)))
                      (some (2 : Int))
                      (br (!(o_1.Other == (0 : Int)))
                        (some (2 : Int))
                        (some (0 : Int)))))))))
          (br ((bitI .and .i64 x_2 (2 : Int)) != (0 : Int))
            (br (decide ((1 : Int) ≤ o_1.Other))
              (br (decide (o_1.Other ≤ (16 : Int)))
                (br (o_1.Other != o_1.Node)
                  (br (decide (o_1.Tick < (0 : Int)))
                    (some (2 : Int))
                    (br (decide ((1099511627776 : Int) < o_1.Tick))
                      (some (2 : Int))
                      (br (decide (o_1.Node < (1 : Int)))
                        (some (2 : Int))
                        (br (decide ((16 : Int) < o_1.Node))
                          (some (2 : Int))
                          (br (!((o_1.ID.Node == (0 : Int)) && ((o_1.ID.Seq == (0 : Int)) && (o_1.ID.Off == (0 : Int)))))
                            (some (2 : Int))
                            (some (0 : Int)))))))
                  (br ((bitI .and .i64 x_2 (4 : Int)) != (0 : Int))
                    (br (decide (o_1.Tick < (0 : Int)))
                      (some (2 : Int))
                      (br (decide ((1099511627776 : Int) < o_1.Tick))
                        (some (2 : Int))
                        (br (decide (o_1.Node < (1 : Int)))
                          (some (2 : Int))
                          (br (decide ((16 : Int) < o_1.Node))
                            (some (2 : Int))
                            (br (!((o_1.ID.Node == (0 : Int)) && ((o_1.ID.Seq == (0 : Int)) && (o_1.ID.Off == (0 : Int)))))
                              (some (2 : Int))
                              (br (!(o_1.Other == (0 : Int)))
                                (some (2 : Int))
                                (some (0 : Int))))))))
                    (br (decide (o_1.Tick < (0 : Int)))
                      (some (2 : Int))
                      (br (decide ((1099511627776 : Int) < o_1.Tick))
                        (some (2 : Int))
                        (br (decide (o_1.Node < (1 : Int)))
                          (some (2 : Int))
                          (br (decide ((16 : Int) < o_1.Node))
                            (some (2 : Int))
                            (br (!((o_1.ID.Node == (0 : Int)) && ((o_1.ID.Seq == (0 : Int)) && (o_1.ID.Off == (0 : Int)))))
                              (some (2 : Int))
                              (some (2 : Int)))))))))
                (br ((bitI .and .i64 x_2 (4 : Int)) != (0 : Int))
                  (br (decide (o_1.Tick < (0 : Int)))
                    (some (2 : Int))
                    (br (decide ((1099511627776 : Int) < o_1.Tick))
                      (some (2 : Int))
                      (br (decide (o_1.Node < (1 : Int)))
                        (some (2 : Int))
                        (br (decide ((16 : Int) < o_1.Node))
                          (some (2 : Int))
                          (br (!((o_1.ID.Node == (0 : Int)) && ((o_1.ID.Seq == (0 : Int)) && (o_1.ID.Off == (0 : Int)))))
                            (some (2 : Int))
                            (br (!(o_1.Other == (0 : Int)))
                              (some (2 : Int))
                              (some (0 : Int))))))))
                  (br (decide (o_1.Tick < (0 : Int)))
                    (some (2 : Int))
                    (br (decide ((1099511627776 : Int) < o_1.Tick))
                      (some (2 : Int))
                      (br (decide (o_1.Node < (1 : Int)))
                        (some (2 : Int))
                        (br (decide ((16 : Int) < o_1.Node))
                          (some (2 : Int))
                          (br (!((o_1.ID.Node == (0 : Int)) && ((o_1.ID.Seq == (0 : Int)) && (o_1.ID.Off == (0 : Int)))))
                            (some (2 : Int))
                            (some (2 : Int)))))))))
              (br ((bitI .and .i64 x_2 (4 : Int)) != (0 : Int))
                (br (decide (o_1.Tick < (0 : Int)))
                  (some (2 : Int))
                  (br (decide ((1099511627776 : Int) < o_1.Tick))
                    (some (2 : Int))
                    (br (decide (o_1.Node < (1 : Int)))
                      (some (2 : Int))
                      (br (decide ((16 : Int) < o_1.Node))
                        (some (2 : Int))
                        (br (!((o_1.ID.Node == (0 : Int)) && ((o_1.ID.Seq == (0 : Int)) && (o_1.ID.Off == (0 : Int)))))
                          (some (2 : Int))
                          (br (!(o_1.Other == (0 : Int)))
                            (some (2 : Int))
                            (some (0 : Int))))))))
                (br (decide (o_1.Tick < (0 : Int)))
                  (some (2 : Int))
                  (br (decide ((1099511627776 : Int) < o_1.Tick))
                    (some (2 : Int))
                    (br (decide (o_1.Node < (1 : Int)))
                      (some (2 : Int))
                      (br (decide ((16 : Int) < o_1.Node))
                        (some (2 : Int))
                        (br (!((o_1.ID.Node == (0 : Int)) && ((o_1.ID.Seq == (0 : Int)) && (o_1.ID.Off == (0 : Int)))))
                          (some (2 : Int))
                          (some (2 : Int)))))))))
            (br (decide (o_1.Tick < (0 : Int)))
              (some (2 : Int))
              (br (decide ((1099511627776 : Int) < o_1.Tick))
                (some (2 : Int))
                (br (decide (o_1.Node < (1 : Int)))
                  (some (2 : Int))
                  (br (decide ((16 : Int) < o_1.Node))
                    (some (2 : Int))
                    (br (!((o_1.ID.Node == (0 : Int)) && ((o_1.ID.Seq == (0 : Int)) && (o_1.ID.Off == (0 : Int)))))
                      (some (2 : Int))
                      (br (!(o_1.Other == (0 : Int)))
                        (some (2 : Int))
                        (some (0 : Int))))))))))
        (none)))
def trace_one.ann : Ann := .no
set_option maxRecDepth 100000 in
theorem trace_one.fn : FnT Tryz.prog 34 [.d .Outc] [.i64] trace_one :=
  FnT.of (X := ctx 0 [bundle_CheckID.spec]) Tryz.mixed trace_one.ann Tryz.func34 rfl (by kernel_rfl) (Nat.le_of_ble_eq_true rfl) (fun x => by kernel_rfl)
noncomputable def trace_one.spec : XSpec Tryz.prog := XSpec.t 34 [.d .Outc] [.i64] trace_one (by kernel_rfl) trace_one.fn
noncomputable def trace_Check : List Outc → Option (Int × Int) :=
  fun l_1 =>
  br (decide ((5000 : Int) < (l_1.length : Int)))
    (some ((5 : Int), (0 : Int)))
    ((iter (σ := Int) (ρ := (Int × Int) ⊕ (Unit)) (fun x_2 =>
      br (decide (x_2 < (l_1.length : Int)))
        ((idx l_1 x_2).bind fun x_3 =>
        (trace_one x_3).bind fun x_4 =>
        br (x_4 != (0 : Int))
          (some (.done (.inl (x_4, x_2))))
          (br (decide ((0 : Int) < x_2))
            ((subI .i64 x_2 (1 : Int)).bind fun x_5 =>
            (idx l_1 x_5).bind fun x_6 =>
            br (decide (x_3.Tick < x_6.Tick))
              (some (.done (.inl ((19 : Int), x_2))))
              ((addI .i64 x_2 (1 : Int)).bind fun x_7 =>
              some (.next x_7)))
            ((addI .i64 x_2 (1 : Int)).bind fun x_8 =>
            some (.next x_8))))
        (some (.done (.inr ())))) (0 : Int)).bind fun x_11 =>
    Sum.elim
      (fun (x_9, x_10) =>
      some (x_9, x_10))
      (fun _ =>
      some ((0 : Int), (0 : Int))) x_11)
def trace_Check.ann : Ann := (.two .no (.two .no (.two (.two .no (.loop [2, 3, 4, 5, 6, 12, 13, 14, 15, 16, 17, 18, 19, 20, 21, 22, 23, 24, 25, 26, 27, 28, 29, 30, 31, 32, 33, 34, 35, 36, 37] [] [.slot 12 .i64 none] [(.ret, [.slot 2 .i64 none, .slot 3 .i64 none]), (.exit 0, [])] .no)) .no)))
set_option maxRecDepth 100000 in
theorem trace_Check.fn : FnT Tryz.prog 13 [.d .l_Outc] [.i64, .i64] trace_Check :=
  FnT.of (X := ctx 0 [trace_one.spec]) Tryz.mixed trace_Check.ann Tryz.func13 rfl (by kernel_rfl) (Nat.le_of_ble_eq_true rfl) (fun x => by kernel_rfl)
noncomputable def trace_Check.spec : XSpec Tryz.prog := XSpec.t 13 [.d .l_Outc] [.i64, .i64] trace_Check (by kernel_rfl) trace_Check.fn
noncomputable def packhorseref39_usesOther : Int → Option Bool :=
  fun kind_1 =>
  br (kind_1 == (6 : Int))
    (some true)
    (br (kind_1 == (7 : Int))
      (some true)
      (br (kind_1 == (10 : Int))
        (some true)
        (br (kind_1 == (11 : Int))
          (some true)
          (br (kind_1 == (12 : Int))
            (some true)
            (some (kind_1 == (13 : Int)))))))
def packhorseref39_usesOther.ann : Ann := .no
set_option maxRecDepth 100000 in
theorem packhorseref39_usesOther.fn : FnT Tryz.prog 78 [.d .i64] [.bool] packhorseref39_usesOther :=
  FnT.of (X := ctx 0 []) Tryz.mixed packhorseref39_usesOther.ann Tryz.func78 rfl (by kernel_rfl) (Nat.le_of_ble_eq_true rfl) (fun x => by kernel_rfl)
noncomputable def packhorseref39_usesOther.spec : XSpec Tryz.prog := XSpec.t 78 [.d .i64] [.bool] packhorseref39_usesOther (by kernel_rfl) packhorseref39_usesOther.fn
noncomputable def packhorseref39_other : Outc → Option Bool :=
  fun o_1 =>
  (packhorseref39_usesOther o_1.Kind).bind fun x_2 =>
  br (!x_2)
    (some (o_1.Other == (0 : Int)))
    (br (o_1.Kind == (12 : Int))
      (br (o_1.Other == (0 : Int))
        (some (o_1.Other == (0 : Int)))
        (br (decide ((1 : Int) ≤ o_1.Other))
          (br (decide (o_1.Other ≤ (16 : Int)))
            (some (o_1.Other != o_1.Node))
            (some false))
          (some false)))
      (br (decide ((1 : Int) ≤ o_1.Other))
        (br (decide (o_1.Other ≤ (16 : Int)))
          (some (o_1.Other != o_1.Node))
          (some false))
        (some false)))
def packhorseref39_other.ann : Ann := .no
set_option maxRecDepth 100000 in
theorem packhorseref39_other.fn : FnT Tryz.prog 63 [.d .Outc] [.bool] packhorseref39_other :=
  FnT.of (X := ctx 0 [packhorseref39_usesOther.spec]) Tryz.mixed packhorseref39_other.ann Tryz.func63 rfl (by kernel_rfl) (Nat.le_of_ble_eq_true rfl) (fun x => by kernel_rfl)
noncomputable def packhorseref39_other.spec : XSpec Tryz.prog := XSpec.t 63 [.d .Outc] [.bool] packhorseref39_other (by kernel_rfl) packhorseref39_other.fn
noncomputable def packhorseref39_UsesID : Int → Option Bool :=
  fun kind_1 =>
  br (decide ((1 : Int) ≤ kind_1))
    (br (decide (kind_1 ≤ (10 : Int)))
      (some (kind_1 != (5 : Int)))
      (some false))
    (some false)
def packhorseref39_UsesID.ann : Ann := .no
set_option maxRecDepth 100000 in
theorem packhorseref39_UsesID.fn : FnT Tryz.prog 45 [.d .i64] [.bool] packhorseref39_UsesID :=
  FnT.of (X := ctx 0 []) Tryz.mixed packhorseref39_UsesID.ann Tryz.func45 rfl (by kernel_rfl) (Nat.le_of_ble_eq_true rfl) (fun x => by kernel_rfl)
noncomputable def packhorseref39_UsesID.spec : XSpec Tryz.prog := XSpec.t 45 [.d .i64] [.bool] packhorseref39_UsesID (by kernel_rfl) packhorseref39_UsesID.fn
noncomputable def packhorseref06_CheckID : ID → Option Int :=
  fun id_1 =>
  br (decide (id_1.Node < (1 : Int)))
    (some (2 : Int))
    (br (decide ((16 : Int) < id_1.Node))
      (some (2 : Int))
      (br (decide ((1099511627776 : Int) < id_1.Seq))
        (some (2 : Int))
        (br (decide (id_1.Off < (0 : Int)))
          (some (2 : Int))
          (br (decide ((20000 : Int) ≤ id_1.Off))
            (some (2 : Int))
            (some (0 : Int))))))
def packhorseref06_CheckID.ann : Ann := .no
set_option maxRecDepth 100000 in
theorem packhorseref06_CheckID.fn : FnT Tryz.prog 44 [.d .ID] [.i64] packhorseref06_CheckID :=
  FnT.of (X := ctx 0 []) Tryz.mixed packhorseref06_CheckID.ann Tryz.func44 rfl (by kernel_rfl) (Nat.le_of_ble_eq_true rfl) (fun x => by kernel_rfl)
noncomputable def packhorseref06_CheckID.spec : XSpec Tryz.prog := XSpec.t 44 [.d .ID] [.i64] packhorseref06_CheckID (by kernel_rfl) packhorseref06_CheckID.fn
noncomputable def packhorseref39_one : Outc → Option Int :=
  fun o_1 =>
  br (decide (o_1.Kind < (1 : Int)))
    (some (7 : Int))
    (br (decide ((15 : Int) < o_1.Kind))
      (some (7 : Int))
      (br (decide (o_1.Tick < (0 : Int)))
        (some (2 : Int))
        (br (decide ((1099511627776 : Int) < o_1.Tick))
          (some (2 : Int))
          (br (decide (o_1.Node < (1 : Int)))
            (some (2 : Int))
            (br (decide ((16 : Int) < o_1.Node))
              (some (2 : Int))
              ((packhorseref39_other o_1).bind fun x_2 =>
              br (!x_2)
                (some (2 : Int))
                ((packhorseref39_UsesID o_1.Kind).bind fun x_3 =>
                br x_3
                  ((packhorseref06_CheckID o_1.ID).bind fun x_4 =>
                  some x_4)
                  (br (!((o_1.ID.Node == (0 : Int)) && ((o_1.ID.Seq == (0 : Int)) && (o_1.ID.Off == (0 : Int)))))
                    (some (2 : Int))
                    (some (0 : Int))))))))))
def packhorseref39_one.ann : Ann := .no
set_option maxRecDepth 100000 in
theorem packhorseref39_one.fn : FnT Tryz.prog 39 [.d .Outc] [.i64] packhorseref39_one :=
  FnT.of (X := ctx 0 [packhorseref39_other.spec, packhorseref39_UsesID.spec, packhorseref06_CheckID.spec]) Tryz.mixed packhorseref39_one.ann Tryz.func39 rfl (by kernel_rfl) (Nat.le_of_ble_eq_true rfl) (fun x => by kernel_rfl)
noncomputable def packhorseref39_one.spec : XSpec Tryz.prog := XSpec.t 39 [.d .Outc] [.i64] packhorseref39_one (by kernel_rfl) packhorseref39_one.fn
noncomputable def packhorseref39_Check : List Outc → Option (Int × Int) :=
  fun l_1 =>
  br (decide ((5000 : Int) < (l_1.length : Int)))
    (some ((5 : Int), (0 : Int)))
    ((iter (σ := Int) (ρ := (Int × Int) ⊕ (Unit)) (fun i_2 =>
      br (decide (i_2 < (l_1.length : Int)))
        ((idx l_1 i_2).bind fun x_3 =>
        (packhorseref39_one x_3).bind fun x_4 =>
        br (x_4 != (0 : Int))
          (some (.done (.inl (x_4, i_2))))
          (br (decide ((0 : Int) < i_2))
            ((idx l_1 i_2).bind fun x_5 =>
            (subI .i64 i_2 (1 : Int)).bind fun x_6 =>
            (idx l_1 x_6).bind fun x_7 =>
            br (decide (x_5.Tick < x_7.Tick))
              (some (.done (.inl ((19 : Int), i_2))))
              ((addI .i64 i_2 (1 : Int)).bind fun x_8 =>
              some (.next x_8)))
            ((addI .i64 i_2 (1 : Int)).bind fun x_9 =>
            some (.next x_9))))
        (some (.done (.inr ())))) (0 : Int)).bind fun x_12 =>
    Sum.elim
      (fun (x_10, x_11) =>
      some (x_10, x_11))
      (fun _ =>
      some ((0 : Int), (0 : Int))) x_12)
def packhorseref39_Check.ann : Ann := (.two .no (.two .no (.two (.two .no (.loop [2, 3, 4, 5, 9, 10, 11, 12, 13, 14, 15, 16, 17, 18, 19, 20, 21, 22, 23, 24, 25, 26, 27, 28, 29, 30, 31, 32, 33, 34, 35, 36, 37, 38, 39, 40] [] [.slot 4 .i64 none] [(.ret, [.slot 2 .i64 none, .slot 3 .i64 none]), (.exit 0, [])] .no)) .no)))
set_option maxRecDepth 100000 in
theorem packhorseref39_Check.fn : FnT Tryz.prog 14 [.d .l_Outc] [.i64, .i64] packhorseref39_Check :=
  FnT.of (X := ctx 0 [packhorseref39_one.spec]) Tryz.mixed packhorseref39_Check.ann Tryz.func14 rfl (by kernel_rfl) (Nat.le_of_ble_eq_true rfl) (fun x => by kernel_rfl)
noncomputable def packhorseref39_Check.spec : XSpec Tryz.prog := XSpec.t 14 [.d .l_Outc] [.i64, .i64] packhorseref39_Check (by kernel_rfl) packhorseref39_Check.fn
noncomputable def trace_valid : List Outc → Option Int :=
  fun l_1 =>
  (trace_Check l_1).bind fun (x_2, x_3) =>
  some x_2
def trace_valid.ann : Ann := .no
set_option maxRecDepth 100000 in
theorem trace_valid.fn : FnT Tryz.prog 25 [.d .l_Outc] [.i64] trace_valid :=
  FnT.of (X := ctx 0 [trace_Check.spec]) Tryz.mixed trace_valid.ann Tryz.func25 rfl (by kernel_rfl) (Nat.le_of_ble_eq_true rfl) (fun x => by kernel_rfl)
noncomputable def trace_valid.spec : XSpec Tryz.prog := XSpec.t 25 [.d .l_Outc] [.i64] trace_valid (by kernel_rfl) trace_valid.fn
noncomputable def trace_Of_1 : Outc → ID → Option ((Bool) × (ID)) :=
  fun o_1 x_2 =>
  some (((o_1.ID.Node == x_2.Node) && ((o_1.ID.Seq == x_2.Seq) && (o_1.ID.Off == x_2.Off))), x_2)
def trace_Of_1.ann : Ann := .no
set_option maxRecDepth 100000 in
theorem trace_Of_1.fn : FnB Tryz.prog 43 [.d .Outc, .l 0 0] [(.ID, 37)] [.bool] trace_Of_1 :=
  FnB.of (X := ctx 0 []) Tryz.mixed trace_Of_1.ann Tryz.func43 rfl (by kernel_rfl) (Nat.le_of_ble_eq_true rfl) (fun x y => by kernel_rfl)
noncomputable def trace_Of_1.spec : XSpec Tryz.prog := XSpec.b 43 [.d .Outc, .l 0 0] [(.ID, 37)] [.bool] trace_Of_1 (by kernel_rfl) trace_Of_1.fn
noncomputable def trace_filter_f43 : List Outc → ID → Option ((List Outc) × (ID)) :=
  fun l_1 x_2 =>
  (iter (σ := (List Outc) × Int × ID) (ρ := (List Outc) × ID) (fun (out_3, x_4, x_5) =>
    br (decide (x_4 < (l_1.length : Int)))
      ((idx l_1 x_4).bind fun x_6 =>
      (trace_Of_1 x_6 x_5).bind fun (x_7, x_8) =>
      br x_7
        ((app 56 out_3 ([x_6] : List Outc)).bind fun x_9 =>
        (addI .i64 x_4 (1 : Int)).bind fun x_10 =>
        some (.next (x_9, x_10, x_8)))
        ((addI .i64 x_4 (1 : Int)).bind fun x_11 =>
        some (.next (out_3, x_11, x_8))))
      (some (.done (out_3, x_5)))) (([] : List Outc), (0 : Int), x_2)).bind fun (out_12, x_13) =>
  some (out_12, x_13)
def trace_filter_f43.ann : Ann := (.two .no (.two .no (.two (.two .no (.loop [5, 7, 10, 11, 12, 13, 14, 15, 16, 17, 18, 19, 20, 21] [0] [.slot 5 .l_Outc (some (5, 57)), .slot 10 .i64 none, .box 0 .ID] [(.exit 0, [.slot 5 .l_Outc (some (5, 57)), .box 0 .ID])] .no)) .no)))
set_option maxRecDepth 100000 in
theorem trace_filter_f43.fn : FnB Tryz.prog 42 [.d .l_Outc, .f 43 [0]] [(.ID, 37)] [.l_Outc] trace_filter_f43 :=
  FnB.of (X := ctx 0 [trace_Of_1.spec]) Tryz.mixed trace_filter_f43.ann Tryz.func42 rfl (by kernel_rfl) (Nat.le_of_ble_eq_true rfl) (fun x y => by kernel_rfl)
noncomputable def trace_filter_f43.spec : XSpec Tryz.prog := XSpec.b 42 [.d .l_Outc, .f 43 [0]] [(.ID, 37)] [.l_Outc] trace_filter_f43 (by kernel_rfl) trace_filter_f43.fn
noncomputable def trace_Of : ((List Outc) × ID) → Option ((List Outc) × Int) :=
  fun (l_1, id_2) =>
  (trace_valid l_1).bind fun x_3 =>
  br (x_3 != (0 : Int))
    (some (([] : List Outc), x_3))
    ((bundle_CheckID id_2).bind fun x_4 =>
    br (x_4 != (0 : Int))
      (some (([] : List Outc), (2 : Int)))
      ((trace_filter_f43 l_1 id_2).bind fun (x_5, x_6) =>
      some (x_5, (0 : Int))))
def trace_Of.ann : Ann := .no
set_option maxRecDepth 100000 in
theorem trace_Of.fn : FnT Tryz.prog 15 [.d .l_Outc, .d .ID] [.l_Outc, .i64] trace_Of :=
  FnT.of (X := ctx 0 [trace_valid.spec, bundle_CheckID.spec, trace_filter_f43.spec]) Tryz.mixed trace_Of.ann Tryz.func15 rfl (by kernel_rfl) (Nat.le_of_ble_eq_true rfl) (fun x => by kernel_rfl)
noncomputable def trace_Of.spec : XSpec Tryz.prog := XSpec.t 15 [.d .l_Outc, .d .ID] [.l_Outc, .i64] trace_Of (by kernel_rfl) trace_Of.fn
noncomputable def packhorseref39_Of : ((List Outc) × ID) → Option ((List Outc) × Int) :=
  fun (l_1, id_2) =>
  (packhorseref39_Check l_1).bind fun (x_3, x_4) =>
  br (x_3 == (0 : Int))
    ((packhorseref06_CheckID id_2).bind fun x_5 =>
    br (x_5 != (0 : Int))
      (some (([] : List Outc), x_5))
      ((iter (σ := (List Outc) × Int) (ρ := List Outc) (fun (out_6, i_7) =>
        br (decide (i_7 < (l_1.length : Int)))
          ((idx l_1 i_7).bind fun x_8 =>
          (packhorseref39_UsesID x_8.Kind).bind fun x_9 =>
          br x_9
            ((idx l_1 i_7).bind fun x_10 =>
            br ((x_10.ID.Node == id_2.Node) && ((x_10.ID.Seq == id_2.Seq) && (x_10.ID.Off == id_2.Off)))
              ((idx l_1 i_7).bind fun x_11 =>
              (app 56 out_6 ([x_11] : List Outc)).bind fun x_12 =>
              (addI .i64 i_7 (1 : Int)).bind fun x_13 =>
              some (.next (x_12, x_13)))
              ((addI .i64 i_7 (1 : Int)).bind fun x_14 =>
              some (.next (out_6, x_14))))
            ((addI .i64 i_7 (1 : Int)).bind fun x_15 =>
            some (.next (out_6, x_15))))
          (some (.done out_6))) (([] : List Outc), (0 : Int))).bind fun out_16 =>
      some (out_16, (0 : Int))))
    (br (x_3 != (0 : Int))
      (some (([] : List Outc), x_3))
      ((iter (σ := (List Outc) × Int) (ρ := List Outc) (fun (out_17, i_18) =>
        br (decide (i_18 < (l_1.length : Int)))
          ((idx l_1 i_18).bind fun x_19 =>
          (packhorseref39_UsesID x_19.Kind).bind fun x_20 =>
          br x_20
            ((idx l_1 i_18).bind fun x_21 =>
            br ((x_21.ID.Node == id_2.Node) && ((x_21.ID.Seq == id_2.Seq) && (x_21.ID.Off == id_2.Off)))
              ((idx l_1 i_18).bind fun x_22 =>
              (app 56 out_17 ([x_22] : List Outc)).bind fun x_23 =>
              (addI .i64 i_18 (1 : Int)).bind fun x_24 =>
              some (.next (x_23, x_24)))
              ((addI .i64 i_18 (1 : Int)).bind fun x_25 =>
              some (.next (out_17, x_25))))
            ((addI .i64 i_18 (1 : Int)).bind fun x_26 =>
            some (.next (out_17, x_26))))
          (some (.done out_17))) (([] : List Outc), (0 : Int))).bind fun out_27 =>
      some (out_27, (0 : Int))))
def packhorseref39_Of.ann : Ann := (.two .no (.two .no (.two .no (.two .no (.two .no (.two (.two .no (.loop [8, 9, 22, 23, 24, 25, 26, 27, 28, 29, 30, 31, 32, 33, 34, 35, 36, 37, 38, 39, 40, 41, 42, 43, 44, 45, 46, 47, 48, 49] [] [.slot 8 .l_Outc (some (8, 57)), .slot 9 .i64 none] [(.exit 0, [.slot 8 .l_Outc (some (8, 57))])] .no)) .no))))))
set_option maxRecDepth 100000 in
theorem packhorseref39_Of.fn : FnT Tryz.prog 16 [.d .l_Outc, .d .ID] [.l_Outc, .i64] packhorseref39_Of :=
  FnT.of (X := ctx 0 [packhorseref39_Check.spec, packhorseref06_CheckID.spec, packhorseref39_UsesID.spec]) Tryz.mixed packhorseref39_Of.ann Tryz.func16 rfl (by kernel_rfl) (Nat.le_of_ble_eq_true rfl) (fun x => by kernel_rfl)
noncomputable def packhorseref39_Of.spec : XSpec Tryz.prog := XSpec.t 16 [.d .l_Outc, .d .ID] [.l_Outc, .i64] packhorseref39_Of (by kernel_rfl) packhorseref39_Of.fn
noncomputable def packhorselaw39_same : ((List Outc) × (List Outc)) → Option Bool :=
  fun (a_1, b_2) =>
  br ((a_1.length : Int) != (b_2.length : Int))
    (some false)
    ((iter (σ := Int) (ρ := (Bool) ⊕ (Unit)) (fun i_3 =>
      br (decide (i_3 < (a_1.length : Int)))
        ((idx a_1 i_3).bind fun x_4 =>
        (idx b_2 i_3).bind fun x_5 =>
        br (!((x_4.Tick == x_5.Tick) && ((x_4.Node == x_5.Node) && ((x_4.Kind == x_5.Kind) && ((x_4.ID.Node == x_5.ID.Node) && ((x_4.ID.Seq == x_5.ID.Seq) && ((x_4.ID.Off == x_5.ID.Off) && (x_4.Other == x_5.Other))))))))
          (some (.done (.inl false)))
          ((addI .i64 i_3 (1 : Int)).bind fun x_6 =>
          some (.next x_6)))
        (some (.done (.inr ())))) (0 : Int)).bind fun x_8 =>
    Sum.elim
      (fun x_7 =>
      some x_7)
      (fun _ =>
      some true) x_8)
def packhorselaw39_same.ann : Ann := (.two .no (.two .no (.two (.two .no (.loop [4, 5, 11, 12, 13, 14, 15, 16, 17, 18, 19, 20, 21, 22, 23, 24, 25] [] [.slot 5 .i64 none] [(.ret, [.slot 4 .bool none]), (.exit 0, [])] .no)) .no)))
set_option maxRecDepth 100000 in
theorem packhorselaw39_same.fn : FnT Tryz.prog 12 [.d .l_Outc, .d .l_Outc] [.bool] packhorselaw39_same :=
  FnT.of (X := ctx 0 []) Tryz.mixed packhorselaw39_same.ann Tryz.func12 rfl (by kernel_rfl) (Nat.le_of_ble_eq_true rfl) (fun x => by kernel_rfl)
noncomputable def packhorselaw39_same.spec : XSpec Tryz.prog := XSpec.t 12 [.d .l_Outc, .d .l_Outc] [.bool] packhorselaw39_same (by kernel_rfl) packhorselaw39_same.fn
noncomputable def trace_At_1 : Outc → Int → Option ((Bool) × (Int)) :=
  fun o_1 x_2 =>
  some (o_1.Node == x_2, x_2)
def trace_At_1.ann : Ann := .no
set_option maxRecDepth 100000 in
theorem trace_At_1.fn : FnB Tryz.prog 46 [.d .Outc, .l 0 0] [(.i64, 3)] [.bool] trace_At_1 :=
  FnB.of (X := ctx 0 []) Tryz.mixed trace_At_1.ann Tryz.func46 rfl (by kernel_rfl) (Nat.le_of_ble_eq_true rfl) (fun x y => by kernel_rfl)
noncomputable def trace_At_1.spec : XSpec Tryz.prog := XSpec.b 46 [.d .Outc, .l 0 0] [(.i64, 3)] [.bool] trace_At_1 (by kernel_rfl) trace_At_1.fn
noncomputable def trace_filter_f46 : List Outc → Int → Option ((List Outc) × (Int)) :=
  fun l_1 x_2 =>
  (iter (σ := (List Outc) × Int × Int) (ρ := (List Outc) × Int) (fun (out_3, x_4, x_5) =>
    br (decide (x_4 < (l_1.length : Int)))
      ((idx l_1 x_4).bind fun x_6 =>
      (trace_At_1 x_6 x_5).bind fun (x_7, x_8) =>
      br x_7
        ((app 56 out_3 ([x_6] : List Outc)).bind fun x_9 =>
        (addI .i64 x_4 (1 : Int)).bind fun x_10 =>
        some (.next (x_9, x_10, x_8)))
        ((addI .i64 x_4 (1 : Int)).bind fun x_11 =>
        some (.next (out_3, x_11, x_8))))
      (some (.done (out_3, x_5)))) (([] : List Outc), (0 : Int), x_2)).bind fun (out_12, x_13) =>
  some (out_12, x_13)
def trace_filter_f46.ann : Ann := (.two .no (.two .no (.two (.two .no (.loop [5, 7, 10, 11, 12, 13, 14, 15, 16, 17, 18, 19, 20, 21] [0] [.slot 5 .l_Outc (some (5, 57)), .slot 10 .i64 none, .box 0 .i64] [(.exit 0, [.slot 5 .l_Outc (some (5, 57)), .box 0 .i64])] .no)) .no)))
set_option maxRecDepth 100000 in
theorem trace_filter_f46.fn : FnB Tryz.prog 42 [.d .l_Outc, .f 46 [0]] [(.i64, 3)] [.l_Outc] trace_filter_f46 :=
  FnB.of (X := ctx 0 [trace_At_1.spec]) Tryz.mixed trace_filter_f46.ann Tryz.func42 rfl (by kernel_rfl) (Nat.le_of_ble_eq_true rfl) (fun x y => by kernel_rfl)
noncomputable def trace_filter_f46.spec : XSpec Tryz.prog := XSpec.b 42 [.d .l_Outc, .f 46 [0]] [(.i64, 3)] [.l_Outc] trace_filter_f46 (by kernel_rfl) trace_filter_f46.fn
noncomputable def trace_At : ((List Outc) × Int) → Option ((List Outc) × Int) :=
  fun (l_1, node_2) =>
  (trace_valid l_1).bind fun x_3 =>
  br (x_3 != (0 : Int))
    (some (([] : List Outc), x_3))
    (br (decide (node_2 < (1 : Int)))
      (some (([] : List Outc), (2 : Int)))
      (br (decide ((16 : Int) < node_2))
        (some (([] : List Outc), (2 : Int)))
        ((trace_filter_f46 l_1 node_2).bind fun (x_4, x_5) =>
        some (x_4, (0 : Int)))))
def trace_At.ann : Ann := .no
set_option maxRecDepth 100000 in
theorem trace_At.fn : FnT Tryz.prog 17 [.d .l_Outc, .d .i64] [.l_Outc, .i64] trace_At :=
  FnT.of (X := ctx 0 [trace_valid.spec, trace_filter_f46.spec]) Tryz.mixed trace_At.ann Tryz.func17 rfl (by kernel_rfl) (Nat.le_of_ble_eq_true rfl) (fun x => by kernel_rfl)
noncomputable def trace_At.spec : XSpec Tryz.prog := XSpec.t 17 [.d .l_Outc, .d .i64] [.l_Outc, .i64] trace_At (by kernel_rfl) trace_At.fn
noncomputable def packhorseref39_At : ((List Outc) × Int) → Option ((List Outc) × Int) :=
  fun (l_1, node_2) =>
  (packhorseref39_Check l_1).bind fun (x_3, x_4) =>
  br (x_3 != (0 : Int))
    (some (([] : List Outc), x_3))
    (br (decide (node_2 < (1 : Int)))
      (some (([] : List Outc), (2 : Int)))
      (br (decide ((16 : Int) < node_2))
        (some (([] : List Outc), (2 : Int)))
        ((iter (σ := (List Outc) × Int) (ρ := List Outc) (fun (out_5, i_6) =>
          br (decide (i_6 < (l_1.length : Int)))
            ((idx l_1 i_6).bind fun x_7 =>
            br (x_7.Node == node_2)
              ((idx l_1 i_6).bind fun x_8 =>
              (app 56 out_5 ([x_8] : List Outc)).bind fun x_9 =>
              (addI .i64 i_6 (1 : Int)).bind fun x_10 =>
              some (.next (x_9, x_10)))
              ((addI .i64 i_6 (1 : Int)).bind fun x_11 =>
              some (.next (out_5, x_11))))
            (some (.done out_5))) (([] : List Outc), (0 : Int))).bind fun out_12 =>
        some (out_12, (0 : Int)))))
def packhorseref39_At.ann : Ann := (.two .no (.two .no (.two .no (.two .no (.two .no (.two (.two .no (.loop [8, 9, 24, 25, 26, 27, 28, 29, 30, 31, 32, 33, 34, 35, 36, 37, 38, 39, 40, 41, 42, 43] [] [.slot 8 .l_Outc (some (8, 57)), .slot 9 .i64 none] [(.exit 0, [.slot 8 .l_Outc (some (8, 57))])] .no)) .no))))))
set_option maxRecDepth 100000 in
theorem packhorseref39_At.fn : FnT Tryz.prog 18 [.d .l_Outc, .d .i64] [.l_Outc, .i64] packhorseref39_At :=
  FnT.of (X := ctx 0 [packhorseref39_Check.spec]) Tryz.mixed packhorseref39_At.ann Tryz.func18 rfl (by kernel_rfl) (Nat.le_of_ble_eq_true rfl) (fun x => by kernel_rfl)
noncomputable def packhorseref39_At.spec : XSpec Tryz.prog := XSpec.t 18 [.d .l_Outc, .d .i64] [.l_Outc, .i64] packhorseref39_At (by kernel_rfl) packhorseref39_At.fn
noncomputable def trace_Count : List Outc → Option ((List Int) × Int) :=
  fun l_1 =>
  (trace_valid l_1).bind fun x_2 =>
  br (x_2 != (0 : Int))
    (some (([] : List Int), x_2))
    ((mkL (0 : Int) 8 (15 : Int) (15 : Int)).bind fun x_3 =>
    (iter (σ := (List Int) × Int) (ρ := List Int) (fun (out_4, x_5) =>
      br (decide (x_5 < (l_1.length : Int)))
        ((idx l_1 x_5).bind fun x_6 =>
        (subI .i64 x_6.Kind (1 : Int)).bind fun x_7 =>
        (idx out_4 x_7).bind fun x_8 =>
        (addI .i64 x_8 (1 : Int)).bind fun x_9 =>
        br (inB x_7 out_4.length)
          ((idx out_4 x_7).bind fun x_10 =>
          (addI .i64 x_5 (1 : Int)).bind fun x_11 =>
          some (.next (setI out_4 x_7 x_9, x_11)))
          (none))
        (some (.done out_4))) (x_3, (0 : Int))).bind fun out_12 =>
    some (out_12, (0 : Int)))
def trace_Count.ann : Ann := (.two .no (.two .no (.two .no (.two (.two .no (.loop [5, 7, 13, 16, 17, 18, 19, 20, 21, 22, 23, 24, 25, 26, 27, 28] [] [.slot 5 .l_i64 (some (13, 3)), .slot 16 .i64 none] [(.exit 0, [.slot 5 .l_i64 (some (13, 3))])] .no)) .no))))
set_option maxRecDepth 100000 in
theorem trace_Count.fn : FnT Tryz.prog 19 [.d .l_Outc] [.l_i64, .i64] trace_Count :=
  FnT.of (X := ctx 134217728 [trace_valid.spec]) Tryz.mixed trace_Count.ann Tryz.func19 rfl (by kernel_rfl) (Nat.le_of_ble_eq_true rfl) (fun x => by kernel_rfl)
noncomputable def trace_Count.spec : XSpec Tryz.prog := XSpec.t 19 [.d .l_Outc] [.l_i64, .i64] trace_Count (by kernel_rfl) trace_Count.fn
noncomputable def packhorseref39_Count : List Outc → Option ((List Int) × Int) :=
  fun l_1 =>
  (packhorseref39_Check l_1).bind fun (x_2, x_3) =>
  br (x_2 != (0 : Int))
    (some (([] : List Int), x_2))
    ((mkL (0 : Int) 8 (15 : Int) (15 : Int)).bind fun x_4 =>
    (iter (σ := (List Int) × Int) (ρ := List Int) (fun (out_5, i_6) =>
      br (decide (i_6 < (l_1.length : Int)))
        ((idx l_1 i_6).bind fun x_7 =>
        (subI .i64 x_7.Kind (1 : Int)).bind fun x_8 =>
        (idx out_5 x_8).bind fun x_9 =>
        (addI .i64 x_9 (1 : Int)).bind fun x_10 =>
        br (inB x_8 out_5.length)
          ((idx out_5 x_8).bind fun x_11 =>
          (addI .i64 i_6 (1 : Int)).bind fun x_12 =>
          some (.next (setI out_5 x_8 x_10, x_12)))
          (none))
        (some (.done out_5))) (x_4, (0 : Int))).bind fun out_13 =>
    some (out_13, (0 : Int)))
def packhorseref39_Count.ann : Ann := (.two .no (.two .no (.two .no (.two .no (.two (.two .no (.loop [6, 7, 16, 17, 18, 19, 20, 21, 22, 23, 24, 25, 26, 27, 28, 29, 30, 31, 32, 33] [] [.slot 6 .l_i64 (some (16, 3)), .slot 7 .i64 none] [(.exit 0, [.slot 6 .l_i64 (some (16, 3))])] .no)) .no)))))
set_option maxRecDepth 100000 in
theorem packhorseref39_Count.fn : FnT Tryz.prog 20 [.d .l_Outc] [.l_i64, .i64] packhorseref39_Count :=
  FnT.of (X := ctx 8589934592 [packhorseref39_Check.spec]) Tryz.mixed packhorseref39_Count.ann Tryz.func20 rfl (by kernel_rfl) (Nat.le_of_ble_eq_true rfl) (fun x => by kernel_rfl)
noncomputable def packhorseref39_Count.spec : XSpec Tryz.prog := XSpec.t 20 [.d .l_Outc] [.l_i64, .i64] packhorseref39_Count (by kernel_rfl) packhorseref39_Count.fn
noncomputable def trace_Latency_1 : Outc → Option Bool :=
  fun o_1 =>
  br (o_1.Kind == (1 : Int))
    (some true)
    (some (o_1.Kind == (8 : Int)))
def trace_Latency_1.ann : Ann := .no
set_option maxRecDepth 100000 in
theorem trace_Latency_1.fn : FnT Tryz.prog 47 [.d .Outc] [.bool] trace_Latency_1 :=
  FnT.of (X := ctx 0 []) Tryz.mixed trace_Latency_1.ann Tryz.func47 rfl (by kernel_rfl) (Nat.le_of_ble_eq_true rfl) (fun x => by kernel_rfl)
noncomputable def trace_Latency_1.spec : XSpec Tryz.prog := XSpec.t 47 [.d .Outc] [.bool] trace_Latency_1 (by kernel_rfl) trace_Latency_1.fn
noncomputable def trace_filter_f47 : List Outc → Option (List Outc) :=
  fun l_1 =>
  (iter (σ := (List Outc) × Int) (ρ := List Outc) (fun (out_2, x_3) =>
    br (decide (x_3 < (l_1.length : Int)))
      ((idx l_1 x_3).bind fun x_4 =>
      (trace_Latency_1 x_4).bind fun x_5 =>
      br x_5
        ((app 56 out_2 ([x_4] : List Outc)).bind fun x_6 =>
        (addI .i64 x_3 (1 : Int)).bind fun x_7 =>
        some (.next (x_6, x_7)))
        ((addI .i64 x_3 (1 : Int)).bind fun x_8 =>
        some (.next (out_2, x_8))))
      (some (.done out_2))) (([] : List Outc), (0 : Int))).bind fun out_9 =>
  some out_9
def trace_filter_f47.ann : Ann := (.two .no (.two .no (.two (.two .no (.loop [5, 7, 10, 11, 12, 13, 14, 15, 16, 17, 18, 19, 20, 21] [] [.slot 5 .l_Outc (some (5, 57)), .slot 10 .i64 none] [(.exit 0, [.slot 5 .l_Outc (some (5, 57))])] .no)) .no)))
set_option maxRecDepth 100000 in
theorem trace_filter_f47.fn : FnT Tryz.prog 42 [.d .l_Outc, .f 47 []] [.l_Outc] trace_filter_f47 :=
  FnT.of (X := ctx 0 [trace_Latency_1.spec]) Tryz.mixed trace_filter_f47.ann Tryz.func42 rfl (by kernel_rfl) (Nat.le_of_ble_eq_true rfl) (fun x => by kernel_rfl)
noncomputable def trace_filter_f47.spec : XSpec Tryz.prog := XSpec.t 42 [.d .l_Outc, .f 47 []] [.l_Outc] trace_filter_f47 (by kernel_rfl) trace_filter_f47.fn
noncomputable def trace_Latency : ((List Outc) × ID) → Option (Int × Int) :=
  fun (l_1, id_2) =>
  (trace_Of (l_1, id_2)).bind fun (x_3, x_4) =>
  br (x_4 != (0 : Int))
    (some ((0 : Int), x_4))
    ((trace_filter_f47 x_3).bind fun x_5 =>
    br ((x_5.length : Int) != (2 : Int))
      (some ((0 : Int), (8 : Int)))
      ((idx x_5 (0 : Int)).bind fun x_6 =>
      br (x_6.Kind != (1 : Int))
        (some ((0 : Int), (8 : Int)))
        ((idx x_5 (1 : Int)).bind fun x_7 =>
        br (x_7.Kind != (8 : Int))
          (some ((0 : Int), (8 : Int)))
          ((idx x_5 (1 : Int)).bind fun x_8 =>
          (idx x_5 (0 : Int)).bind fun x_9 =>
          (subI .i64 x_8.Tick x_9.Tick).bind fun x_10 =>
          some (x_10, (0 : Int))))))
def trace_Latency.ann : Ann := .no
set_option maxRecDepth 100000 in
theorem trace_Latency.fn : FnT Tryz.prog 21 [.d .l_Outc, .d .ID] [.i64, .i64] trace_Latency :=
  FnT.of (X := ctx 0 [trace_Of.spec, trace_filter_f47.spec]) Tryz.mixed trace_Latency.ann Tryz.func21 rfl (by kernel_rfl) (Nat.le_of_ble_eq_true rfl) (fun x => by kernel_rfl)
noncomputable def trace_Latency.spec : XSpec Tryz.prog := XSpec.t 21 [.d .l_Outc, .d .ID] [.i64, .i64] trace_Latency (by kernel_rfl) trace_Latency.fn
noncomputable def packhorseref39_Latency : ((List Outc) × ID) → Option (Int × Int) :=
  fun (l_1, id_2) =>
  (packhorseref39_Of (l_1, id_2)).bind fun (x_3, x_4) =>
  br (x_4 != (0 : Int))
    (some ((0 : Int), x_4))
    ((iter (σ := Int × Int × Int × Int) (ρ := (Int × Int) ⊕ (Int × Int × Int)) (fun (from_5, to_6, many_7, i_8) =>
      br (decide (i_8 < (x_3.length : Int)))
        ((idx x_3 i_8).bind fun x_9 =>
        br (x_9.Kind == (1 : Int))
          (br (decide ((0 : Int) ≤ to_6))
            (some (.done (.inl ((0 : Int), (8 : Int)))))
            ((idx x_3 i_8).bind fun x_10 =>
            (addI .i64 many_7 (1 : Int)).bind fun x_11 =>
            (addI .i64 i_8 (1 : Int)).bind fun x_12 =>
            some (.next (x_10.Tick, to_6, x_11, x_12))))
          (br (x_9.Kind == (8 : Int))
            (br (decide (from_5 < (0 : Int)))
              (some (.done (.inl ((0 : Int), (8 : Int)))))
              (br (decide ((0 : Int) ≤ to_6))
                (some (.done (.inl ((0 : Int), (8 : Int)))))
                ((idx x_3 i_8).bind fun x_13 =>
                (addI .i64 i_8 (1 : Int)).bind fun x_14 =>
                some (.next (from_5, x_13.Tick, many_7, x_14)))))
            ((addI .i64 i_8 (1 : Int)).bind fun x_15 =>
            some (.next (from_5, to_6, many_7, x_15)))))
        (some (.done (.inr (from_5, to_6, many_7))))) ((-1 : Int), (-1 : Int), (0 : Int), (0 : Int))).bind fun x_22 =>
    Sum.elim
      (fun (x_16, x_17) =>
      some (x_16, x_17))
      (fun (from_18, to_19, many_20) =>
      br (many_20 != (1 : Int))
        (some ((0 : Int), (8 : Int)))
        (br (decide (to_19 < (0 : Int)))
          (some ((0 : Int), (8 : Int)))
          ((subI .i64 to_19 from_18).bind fun x_21 =>
          some (x_21, (0 : Int))))) x_22)
def packhorseref39_Latency.ann : Ann := (.two .no (.two .no (.two .no (.two .no (.two (.two .no (.loop [4, 5, 8, 9, 10, 11, 21, 22, 23, 24, 25, 26, 27, 28, 29, 30, 31, 32, 33, 34, 35, 36, 37, 38, 39, 40, 41, 42, 43, 44, 45, 46, 47, 48, 49, 50, 51, 52, 53, 54, 55] [] [.slot 8 .i64 none, .slot 9 .i64 none, .slot 10 .i64 none, .slot 11 .i64 none] [(.ret, [.slot 4 .i64 none, .slot 5 .i64 none]), (.exit 0, [.slot 8 .i64 none, .slot 9 .i64 none, .slot 10 .i64 none])] .no)) .no)))))
set_option maxRecDepth 100000 in
theorem packhorseref39_Latency.fn : FnT Tryz.prog 22 [.d .l_Outc, .d .ID] [.i64, .i64] packhorseref39_Latency :=
  FnT.of (X := ctx 0 [packhorseref39_Of.spec]) Tryz.mixed packhorseref39_Latency.ann Tryz.func22 rfl (by kernel_rfl) (Nat.le_of_ble_eq_true rfl) (fun x => by kernel_rfl)
noncomputable def packhorseref39_Latency.spec : XSpec Tryz.prog := XSpec.t 22 [.d .l_Outc, .d .ID] [.i64, .i64] packhorseref39_Latency (by kernel_rfl) packhorseref39_Latency.fn
noncomputable def packhorsekit_SameInts : ((List Int) × (List Int)) → Option Bool :=
  fun (a_1, b_2) =>
  br ((a_1.length : Int) != (b_2.length : Int))
    (some false)
    ((iter (σ := Int) (ρ := (Bool) ⊕ (Unit)) (fun i_3 =>
      br (decide (i_3 < (a_1.length : Int)))
        ((idx a_1 i_3).bind fun x_4 =>
        (idx b_2 i_3).bind fun x_5 =>
        br (x_4 != x_5)
          (some (.done (.inl false)))
          ((addI .i64 i_3 (1 : Int)).bind fun x_6 =>
          some (.next x_6)))
        (some (.done (.inr ())))) (0 : Int)).bind fun x_8 =>
    Sum.elim
      (fun x_7 =>
      some x_7)
      (fun _ =>
      some true) x_8)
def packhorsekit_SameInts.ann : Ann := (.two .no (.two .no (.two (.two .no (.loop [4, 5, 11, 12, 13, 14, 15, 16, 17, 18, 19, 20, 21, 22, 23, 24, 25] [] [.slot 5 .i64 none] [(.ret, [.slot 4 .bool none]), (.exit 0, [])] .no)) .no)))
set_option maxRecDepth 100000 in
theorem packhorsekit_SameInts.fn : FnT Tryz.prog 23 [.d .l_i64, .d .l_i64] [.bool] packhorsekit_SameInts :=
  FnT.of (X := ctx 0 []) Tryz.mixed packhorsekit_SameInts.ann Tryz.func23 rfl (by kernel_rfl) (Nat.le_of_ble_eq_true rfl) (fun x => by kernel_rfl)
noncomputable def packhorsekit_SameInts.spec : XSpec Tryz.prog := XSpec.t 23 [.d .l_i64, .d .l_i64] [.bool] packhorsekit_SameInts (by kernel_rfl) packhorsekit_SameInts.fn
noncomputable def packhorselaw39_TraceChecks : ((List Outc) × ID × Int) → Option Bool :=
  fun (l_1, id_2, node_3) =>
  (packhorselaw39_light l_1).bind fun x_4 =>
  br (!x_4)
    ((packhorselaw39_awake ()).bind fun x_5 =>
    some x_5)
    ((packhorselaw39_own l_1).bind fun x_6 =>
    (trace_Check x_6).bind fun (x_7, x_8) =>
    (packhorseref39_Check l_1).bind fun (x_9, x_10) =>
    br (x_7 != x_9)
      (some false)
      (br (x_8 != x_10)
        (some false)
        ((trace_Of (x_6, id_2)).bind fun (x_11, x_12) =>
        (packhorseref39_Of (l_1, id_2)).bind fun (x_13, x_14) =>
        (packhorselaw39_same (x_11, x_13)).bind fun x_15 =>
        br (!x_15)
          (some false)
          (br (x_12 != x_14)
            (some false)
            ((trace_At (x_6, node_3)).bind fun (x_16, x_17) =>
            (packhorseref39_At (l_1, node_3)).bind fun (x_18, x_19) =>
            (packhorselaw39_same (x_16, x_18)).bind fun x_20 =>
            br (!x_20)
              (some false)
              (br (x_17 != x_19)
                (some false)
                ((trace_Count x_6).bind fun (x_21, x_22) =>
                (packhorseref39_Count l_1).bind fun (x_23, x_24) =>
                (trace_Latency (x_6, id_2)).bind fun (x_25, x_26) =>
                (packhorseref39_Latency (l_1, id_2)).bind fun (x_27, x_28) =>
                (packhorsekit_SameInts (x_21, x_23)).bind fun x_29 =>
                br x_29
                  (br (x_22 == x_24)
                    (br (x_25 == x_27)
                      (br (x_26 == x_28)
                        ((packhorselaw39_same (x_6, l_1)).bind fun x_30 =>
                        br x_30
                          ((packhorselaw39_awake ()).bind fun x_31 =>
                          some x_31)
                          (some false))
                        (some false))
                      (some false))
                    (some false))
                  (some false))))))))
def packhorselaw39_TraceChecks.ann : Ann := .no
set_option maxRecDepth 100000 in
theorem packhorselaw39_TraceChecks.fn : FnT Tryz.prog 4 [.d .l_Outc, .d .ID, .d .i64] [.bool] packhorselaw39_TraceChecks :=
  FnT.of (X := ctx 0 [packhorselaw39_light.spec, packhorselaw39_awake.spec, packhorselaw39_own.spec, trace_Check.spec, packhorseref39_Check.spec, trace_Of.spec, packhorseref39_Of.spec, packhorselaw39_same.spec, trace_At.spec, packhorseref39_At.spec, trace_Count.spec, packhorseref39_Count.spec, trace_Latency.spec, packhorseref39_Latency.spec, packhorsekit_SameInts.spec]) Tryz.mixed packhorselaw39_TraceChecks.ann Tryz.func4 rfl (by kernel_rfl) (Nat.le_of_ble_eq_true rfl) (fun x => by kernel_rfl)
noncomputable def packhorselaw39_TraceChecks.spec : XSpec Tryz.prog := XSpec.t 4 [.d .l_Outc, .d .ID, .d .i64] [.bool] packhorselaw39_TraceChecks (by kernel_rfl) packhorselaw39_TraceChecks.fn
end Go.Proofs.YtjcpgiicdppkcaaGreatDoor
