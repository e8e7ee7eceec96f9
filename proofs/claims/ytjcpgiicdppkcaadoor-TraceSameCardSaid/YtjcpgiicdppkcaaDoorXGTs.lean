import Derived.Test.YtjcpgiicdppkcaaDoorXKA
import Derived.Test.YtjcpgiicdppkcaaDoorX9
import Derived.Test.YtjcpgiicdppkcaaDoorChecked
import Derived.KernelRfl
set_option linter.unusedSimpArgs false
set_option linter.unusedVariables false
namespace Go.Proofs.YtjcpgiicdppkcaaDoor
open Go.X Go.Eng
theorem keyed41 : Go.Eng.KeyT Tryd.prog 41 := Go.Eng.KeyT.struct (n := 24) (Go.deep_law_laid (by kernel_rfl) (m := 4) (by omega) (of_decide_eq_true (by kernel_rfl)) (by kernel_rfl) (by kernel_rfl)) Tryd.underlying41 (by kernel_rfl) (show Go.Eng.keyT Tryd.prog 41 = some (true, [.int .i64, .int .i64, .int .i64, .int .i64, .int .u64, .int .i64, .int .i64]) by kernel_rfl) (by kernel_rfl) (by kernel_rfl) (by kernel_rfl)
def keyB (t : TypeId) : Bool := Nat.beq t 41
theorem keyB_ok (t : TypeId) (h : keyB t = true) : Go.Eng.KeyT Tryd.prog t := by
  have := Nat.eq_of_beq_eq_true h
  subst this
  exact keyed41
def codes : List (Option C) := [none, none, some .i64, some .i64, some .bool, some .u8, some .u8, none, none, some .str, some .str, some .str, some .u64, none, none, none, none, none, none, none, none, some .i32, some .l_Outc, none, none, some .i64, none, none, none, none, some .u64, some .ID, some .ID, none, none, none, none, some .l_i64, none, none, some .Outc, some .Outc, none, none, none, none, none, none, none, some .Fault, some .Fault, none, none, none, none, none, none, none, none, none, none, none, none, none, none, none, none, some .l_u8, none, none, some .l_Word, none, some .Word, some .Word, none, none, none, none, none, none, none, some .l_Row, none, none, some .Row, some .Row, none, none, none, none, none, some .W3, some .W3, some .l_W3, some .Face, some .Face, none, some .i64, some .i64, some .i64, none, some .ID, some .i64, none, none, none, none, none, none, none, none, none, none, none, none, some .l_Face, none, none, none, none, none, none, none, none, none, none, none, none, none, none, none, none, none, some .W3, none, none, none, none, none, none, none, none, none, none, none, none, none, none, none, none, none, some .u64, none, none, none, none, none, none, none, none, none, some .u32, none, none, none, none, none, none, none, none, none, none, none, none, some .u8, some .u8, none, some .i32, some .i32, none, none]
noncomputable def ctx (wr : Nat) (l : List (XSpec Tryd.prog)) : XCtx Tryd.prog := { code := fun t => (codes[t]?).getD none, wr := wr, key := keyB, keyed := keyB_ok, known := l }
noncomputable def ctxS (wr : Nat) (l : List (XSpec Tryd.prog)) (s : List (XSort Tryd.prog)) : XCtx Tryd.prog := { code := fun t => (codes[t]?).getD none, wr := wr, key := keyB, keyed := keyB_ok, known := l, sorts := s }
noncomputable def ctxO (wr : Nat) (l : List (XSpec Tryd.prog)) (s : List (XSort Tryd.prog)) (w : List (XOwn Tryd.prog)) : XCtx Tryd.prog := { code := fun t => (codes[t]?).getD none, wr := wr, key := keyB, keyed := keyB_ok, known := l, sorts := s, owned := w }
noncomputable def packhorselaw39_light : List Outc → Option Bool :=
  fun l_1 =>
  br (decide ((l_1.length : Int) ≤ (80 : Int)))
    (some true)
    (br (decide ((5000 : Int) < (l_1.length : Int)))
      (some (decide ((l_1.length : Int) ≤ (5010 : Int))))
      (some false))
def packhorselaw39_light.ann : Ann := .no
set_option maxRecDepth 100000 in
theorem packhorselaw39_light.fn : FnT Tryd.prog 9 [.d .l_Outc] [.bool] packhorselaw39_light :=
  FnT.of (X := ctx 0 []) Tryd.mixed packhorselaw39_light.ann Tryd.func9 rfl (by kernel_rfl) (Nat.le_of_ble_eq_true rfl) (fun x => by kernel_rfl)
noncomputable def packhorselaw39_light.spec : XSpec Tryd.prog := XSpec.t 9 [.d .l_Outc] [.bool] packhorselaw39_light (by kernel_rfl) packhorselaw39_light.fn
noncomputable def packhorselaw39_own : List Outc → Option (List Outc) :=
  fun l_1 =>
  (app 56 ([] : List Outc) l_1).bind fun x_2 =>
  some x_2
def packhorselaw39_own.ann : Ann := .no
set_option maxRecDepth 100000 in
theorem packhorselaw39_own.fn : FnT Tryd.prog 12 [.d .l_Outc] [.l_Outc] packhorselaw39_own :=
  FnT.of (X := ctx 0 []) Tryd.mixed packhorselaw39_own.ann Tryd.func12 rfl (by kernel_rfl) (Nat.le_of_ble_eq_true rfl) (fun x => by kernel_rfl)
noncomputable def packhorselaw39_own.spec : XSpec Tryd.prog := XSpec.t 12 [.d .l_Outc] [.l_Outc] packhorselaw39_own (by kernel_rfl) packhorselaw39_own.fn
noncomputable def bundle_within : List W3 → Option Bool :=
  fun l_1 =>
  (iter (σ := Int) (ρ := (Bool) ⊕ (Unit)) (fun x_2 =>
    br (decide (x_2 < (l_1.length : Int)))
      ((idx l_1 x_2).bind fun x_3 =>
      br (decide (x_3.a < x_3.b))
        (some (.done (.inl false)))
        (br (decide (x_3.c < x_3.a))
          (some (.done (.inl false)))
          ((addI .i64 x_2 (1 : Int)).bind fun x_4 =>
          some (.next x_4))))
      (some (.done (.inr ())))) (0 : Int)).bind fun x_6 =>
  Sum.elim
    (fun x_5 =>
    some x_5)
    (fun _ =>
    some true) x_6
def bundle_within.ann : Ann := (.two .no (.two (.two .no (.loop [2, 4, 7, 8, 9, 10, 11, 12, 13, 14, 15, 16, 17, 18, 19, 20, 21, 22, 23] [] [.slot 7 .i64 none] [(.ret, [.slot 2 .bool none]), (.exit 0, [])] .no)) .no))
set_option maxRecDepth 100000 in
theorem bundle_within.fn : FnT Tryd.prog 47 [.d .l_W3] [.bool] bundle_within :=
  FnT.of (X := ctx 0 []) Tryd.mixed bundle_within.ann Tryd.func47 rfl (by kernel_rfl) (Nat.le_of_ble_eq_true rfl) (fun x => by kernel_rfl)
noncomputable def bundle_within.spec : XSpec Tryd.prog := XSpec.t 47 [.d .l_W3] [.bool] bundle_within (by kernel_rfl) bundle_within.fn
noncomputable def bundle_CheckID : ID → Option Int :=
  fun id_1 =>
  (bundle_within ([(⟨id_1.Node, (1 : Int), (16 : Int)⟩ : W3), (⟨id_1.Off, (0 : Int), (19999 : Int)⟩ : W3)] : List W3)).bind fun x_2 =>
  br (!x_2)
    (some (2 : Int))
    (br (decide ((1099511627776 : Int) < id_1.Seq))
      (some (2 : Int))
      (some (0 : Int)))
def bundle_CheckID.ann : Ann := .no
set_option maxRecDepth 100000 in
theorem bundle_CheckID.fn : FnT Tryd.prog 29 [.d .ID] [.i64] bundle_CheckID :=
  FnT.of (X := ctx 0 [bundle_within.spec]) Tryd.mixed bundle_CheckID.ann Tryd.func29 rfl (by kernel_rfl) (Nat.le_of_ble_eq_true rfl) (fun x => by kernel_rfl)
noncomputable def bundle_CheckID.spec : XSpec Tryd.prog := XSpec.t 29 [.d .ID] [.i64] bundle_CheckID (by kernel_rfl) bundle_CheckID.fn
noncomputable def trace_one : Outc → Option Int :=
  fun o_1 =>
  br (decide (o_1.Kind < (1 : Int)))
    (some (7 : Int))
    (br (decide ((15 : Int) < o_1.Kind))
      (some (7 : Int))
      (br (inB o_1.Kind 16)
        ((tbl1 .i64 0 (0 + (o_1.Kind).toNat * 2 + 1)).bind fun x_2 =>
        br ((bitI .and .i64 x_2 (1 : Int)) != (0 : Int))
          ((bundle_CheckID o_1.ID).bind fun x_3 =>
          br ((bitI .and .i64 x_2 (2 : Int)) != (0 : Int))
            (br (decide ((1 : Int) ≤ o_1.Other))
              (br (decide (o_1.Other ≤ (16 : Int)))
                (br (o_1.Other != o_1.Node)
                  (br (decide (o_1.Tick < (0 : Int)))
                    (some (2 : Int))
                    (br (decide ((1099511627776 : Int) < o_1.Tick))
                      (some (2 : Int))
                      (br (decide (o_1.Node < (1 : Int)))
                        (some (2 : Int))
                        (br (decide ((16 : Int) < o_1.Node))
                          (some (2 : Int))
                          (br (!(x_3 == (0 : Int)))
                            (some (2 : Int))
                            (some (0 : Int)))))))
                  (br ((bitI .and .i64 x_2 (4 : Int)) != (0 : Int))
                    (br (decide (o_1.Tick < (0 : Int)))
                      (some (2 : Int))
                      (br (decide ((1099511627776 : Int) < o_1.Tick))
                        (some (2 : Int))
                        (br (decide (o_1.Node < (1 : Int)))
                          (some (2 : Int))
                          (br (decide ((16 : Int) < o_1.Node))
                            (some (2 : Int))
                            (br (!(x_3 == (0 : Int)))
                              (some (2 : Int))
                              (br (!(o_1.Other == (0 : Int)))
                                (some (2 : Int))
                                (some (0 : Int))))))))
                    (br (decide (o_1.Tick < (0 : Int)))
                      (some (2 : Int))
                      (br (decide ((1099511627776 : Int) < o_1.Tick))
                        (some (2 : Int))
                        (br (decide (o_1.Node < (1 : Int)))
                          (some (2 : Int))
                          (br (decide ((16 : Int) < o_1.Node))
                            (some (2 : Int))
                            (br (!(x_3 == (0 : Int)))
                              (some (2 : Int))
                              (some (2 : Int)))))))))
                (br ((bitI .and .i64 x_2 (4 : Int)) != (0 : Int))
                  (br (decide (o_1.Tick < (0 : Int)))
                    (some (2 : Int))
                    (br (decide ((1099511627776 : Int) < o_1.Tick))
                      (some (2 : Int))
                      (br (decide (o_1.Node < (1 : Int)))
                        (some (2 : Int))
                        (br (decide ((16 : Int) < o_1.Node))
                          (some (2 : Int))
                          (br (!(x_3 == (0 : Int)))
                            (some (2 : Int))
                            (br (!(o_1.Other == (0 : Int)))
                              (some (2 : Int))
                              (some (0 : Int))))))))
                  (br (decide (o_1.Tick < (0 : Int)))
                    (some (2 : Int))
                    (br (decide ((1099511627776 : Int) < o_1.Tick))
                      (some (2 : Int))
                      (br (decide (o_1.Node < (1 : Int)))
                        (some (2 : Int))
                        (br (decide ((16 : Int) < o_1.Node))
                          (some (2 : Int))
                          (br (!(x_3 == (0 : Int)))
                            (some (2 : Int))
                            (some (2 : Int)))))))))
              (br ((bitI .and .i64 x_2 (4 : Int)) != (0 : Int))
                (br (decide (o_1.Tick < (0 : Int)))
                  (some (2 : Int))
                  (br (decide ((1099511627776 : Int) < o_1.Tick))
                    (some (2 : Int))
                    (br (decide (o_1.Node < (1 : Int)))
                      (some (2 : Int))
                      (br (decide ((16 : Int) < o_1.Node))
                        (some (2 : Int))
                        (br (!(x_3 == (0 : Int)))
                          (some (2 : Int))
                          (br (!(o_1.Other == (0 : Int)))
                            (some (2 : Int))
                            (some (0 : Int))))))))
                (br (decide (o_1.Tick < (0 : Int)))
                  (some (2 : Int))
                  (br (decide ((1099511627776 : Int) < o_1.Tick))
                    (some (2 : Int))
                    (br (decide (o_1.Node < (1 : Int)))
                      (some (2 : Int))
                      (br (decide ((16 : Int) < o_1.Node))
                        (some (2 : Int))
                        (br (!(x_3 == (0 : Int)))
                          (some (2 : Int))
                          (some (2 : Int)))))))))
            (br (decide (o_1.Tick < (0 : Int)))
              (some (2 : Int))
              (br (decide ((1099511627776 : Int) < o_1.Tick))
                (some (2 : Int))
                (br (decide (o_1.Node < (1 : Int)))
                  (some (2 : Int))
                  (br (decide ((16 : Int) < o_1.Node))
                    (some (2 : Int))
                    (br (!(x_3 == (0 : Int)))
                      (some (2 : Int))
                      (br (!(o_1.Other == (0 : Int)))
                        (some (2 : Int))
                        (some (0 : Int)))))))))
          (br ((bitI .and .i64 x_2 (2 : Int)) != (0 : Int))
            (br (decide ((1 : Int) ≤ o_1.Other))
              (br (decide (o_1.Other ≤ (16 : Int)))
                (br (o_1.Other != o_1.Node)
                  (br (decide (o_1.Tick < (0 : Int)))
                    (some (2 : Int))
                    (br (decide ((1099511627776 : Int) < o_1.Tick))
                      (some (2 : Int))
                      (br (decide (o_1.Node < (1 : Int)))
                        (some (2 : Int))
                        (br (decide ((16 : Int) < o_1.Node))
                          (some (2 : Int))
                          (br (!((o_1.ID.Node == (0 : Int)) && ((o_1.ID.Seq == (0 : Int)) && (o_1.ID.Off == (0 : Int)))))
                            (some (2 : Int))
                            (some (0 : Int)))))))
                  (br ((bitI .and .i64 x_2 (4 : Int)) != (0 : Int))
                    (br (decide (o_1.Tick < (0 : Int)))
                      (some (2 : Int))
                      (br (decide ((1099511627776 : Int) < o_1.Tick))
                        (some (2 : Int))
                        (br (decide (o_1.Node < (1 : Int)))
                          (some (2 : Int))
                          (br (decide ((16 : Int) < o_1.Node))
                            (some (2 : Int))
                            (br (!((o_1.ID.Node == (0 : Int)) && ((o_1.ID.Seq == (0 : Int)) && (o_1.ID.Off == (0 : Int)))))
                              (some (2 : Int))
                              (br (!(o_1.Other == (0 : Int)))
                                (some (2 : Int))
                                (some (0 : Int))))))))
                    (br (decide (o_1.Tick < (0 : Int)))
                      (some (2 : Int))
                      (br (decide ((1099511627776 : Int) < o_1.Tick))
                        (some (2 : Int))
                        (br (decide (o_1.Node < (1 : Int)))
                          (some (2 : Int))
                          (br (decide ((16 : Int) < o_1.Node))
                            (some (2 : Int))
                            (br (!((o_1.ID.Node == (0 : Int)) && ((o_1.ID.Seq == (0 : Int)) && (o_1.ID.Off == (0 : Int)))))
                              (some (2 : Int))
                              (some (2 : Int)))))))))
                (br ((bitI .and .i64 x_2 (4 : Int)) != (0 : Int))
                  (br (decide (o_1.Tick < (0 : Int)))
                    (some (2 : Int))
                    (br (decide ((1099511627776 : Int) < o_1.Tick))
                      (some (2 : Int))
                      (br (decide (o_1.Node < (1 : Int)))
                        (some (2 : Int))
                        (br (decide ((16 : Int) < o_1.Node))
                          (some (2 : Int))
                          (br (!((o_1.ID.Node == (0 : Int)) && ((o_1.ID.Seq == (0 : Int)) && (o_1.ID.Off == (0 : Int)))))
                            (some (2 : Int))
                            (br (!(o_1.Other == (0 : Int)))
                              (some (2 : Int))
                              (some (0 : Int))))))))
                  (br (decide (o_1.Tick < (0 : Int)))
                    (some (2 : Int))
                    (br (decide ((1099511627776 : Int) < o_1.Tick))
                      (some (2 : Int))
                      (br (decide (o_1.Node < (1 : Int)))
                        (some (2 : Int))
                        (br (decide ((16 : Int) < o_1.Node))
                          (some (2 : Int))
                          (br (!((o_1.ID.Node == (0 : Int)) && ((o_1.ID.Seq == (0 : Int)) && (o_1.ID.Off == (0 : Int)))))
                            (some (2 : Int))
                            (some (2 : Int)))))))))
              (br ((bitI .and .i64 x_2 (4 : Int)) != (0 : Int))
                (br (decide (o_1.Tick < (0 : Int)))
                  (some (2 : Int))
                  (br (decide ((1099511627776 : Int) < o_1.Tick))
                    (some (2 : Int))
                    (br (decide (o_1.Node < (1 : Int)))
                      (some (2 : Int))
                      (br (decide ((16 : Int) < o_1.Node))
                        (some (2 : Int))
                        (br (!((o_1.ID.Node == (0 : Int)) && ((o_1.ID.Seq == (0 : Int)) && (o_1.ID.Off == (0 : Int)))))
                          (some (2 : Int))
                          (br (!(o_1.Other == (0 : Int)))
                            (some (2 : Int))
                            (some (0 : Int))))))))
                (br (decide (o_1.Tick < (0 : Int)))
                  (some (2 : Int))
                  (br (decide ((1099511627776 : Int) < o_1.Tick))
                    (some (2 : Int))
                    (br (decide (o_1.Node < (1 : Int)))
                      (some (2 : Int))
                      (br (decide ((16 : Int) < o_1.Node))
                        (some (2 : Int))
                        (br (!((o_1.ID.Node == (0 : Int)) && ((o_1.ID.Seq == (0 : Int)) && (o_1.ID.Off == (0 : Int)))))
                          (some (2 : Int))
                          (some (2 : Int)))))))))
            (br (decide (o_1.Tick < (0 : Int)))
              (some (2 : Int))
              (br (decide ((1099511627776 : Int) < o_1.Tick))
                (some (2 : Int))
                (br (decide (o_1.Node < (1 : Int)))
                  (some (2 : Int))
                  (br (decide ((16 : Int) < o_1.Node))
                    (some (2 : Int))
                    (br (!((o_1.ID.Node == (0 : Int)) && ((o_1.ID.Seq == (0 : Int)) && (o_1.ID.Off == (0 : Int)))))
                      (some (2 : Int))
                      (br (!(o_1.Other == (0 : Int)))
                        (some (2 : Int))
                        (some (0 : Int))))))))))
        (none)))
def trace_one.ann : Ann := .no
set_option maxRecDepth 100000 in
theorem trace_one.fn : FnT Tryd.prog 42 [.d .Outc] [.i64] trace_one :=
  FnT.of (X := ctx 0 [bundle_CheckID.spec]) Tryd.mixed trace_one.ann Tryd.func42 rfl (by kernel_rfl) (Nat.le_of_ble_eq_true rfl) (fun x => by kernel_rfl)
noncomputable def trace_one.spec : XSpec Tryd.prog := XSpec.t 42 [.d .Outc] [.i64] trace_one (by kernel_rfl) trace_one.fn
noncomputable def trace_Check : List Outc → Option (Int × Int) :=
  fun l_1 =>
  br (decide ((5000 : Int) < (l_1.length : Int)))
    (some ((5 : Int), (0 : Int)))
    ((iter (σ := Int) (ρ := (Int × Int) ⊕ (Unit)) (fun x_2 =>
      br (decide (x_2 < (l_1.length : Int)))
        ((idx l_1 x_2).bind fun x_3 =>
        (trace_one x_3).bind fun x_4 =>
        br (x_4 != (0 : Int))
          (some (.done (.inl (x_4, x_2))))
          (br (decide ((0 : Int) < x_2))
            ((subI .i64 x_2 (1 : Int)).bind fun x_5 =>
            (idx l_1 x_5).bind fun x_6 =>
            br (decide (x_3.Tick < x_6.Tick))
              (some (.done (.inl ((19 : Int), x_2))))
              ((addI .i64 x_2 (1 : Int)).bind fun x_7 =>
              some (.next x_7)))
            ((addI .i64 x_2 (1 : Int)).bind fun x_8 =>
            some (.next x_8))))
        (some (.done (.inr ())))) (0 : Int)).bind fun x_11 =>
    Sum.elim
      (fun (x_9, x_10) =>
      some (x_9, x_10))
      (fun _ =>
      some ((0 : Int), (0 : Int))) x_11)
def trace_Check.ann : Ann := (.two .no (.two .no (.two (.two .no (.loop [2, 3, 4, 5, 6, 12, 13, 14, 15, 16, 17, 18, 19, 20, 21, 22, 23, 24, 25, 26, 27, 28, 29, 30, 31, 32, 33, 34, 35, 36, 37] [] [.slot 12 .i64 none] [(.ret, [.slot 2 .i64 none, .slot 3 .i64 none]), (.exit 0, [])] .no)) .no)))
set_option maxRecDepth 100000 in
theorem trace_Check.fn : FnT Tryd.prog 45 [.d .l_Outc] [.i64, .i64] trace_Check :=
  FnT.of (X := ctx 0 [trace_one.spec]) Tryd.mixed trace_Check.ann Tryd.func45 rfl (by kernel_rfl) (Nat.le_of_ble_eq_true rfl) (fun x => by kernel_rfl)
noncomputable def trace_Check.spec : XSpec Tryd.prog := XSpec.t 45 [.d .l_Outc] [.i64, .i64] trace_Check (by kernel_rfl) trace_Check.fn
noncomputable def trace_valid : List Outc → Option Int :=
  fun l_1 =>
  (trace_Check l_1).bind fun (x_2, x_3) =>
  some x_2
def trace_valid.ann : Ann := .no
set_option maxRecDepth 100000 in
theorem trace_valid.fn : FnT Tryd.prog 26 [.d .l_Outc] [.i64] trace_valid :=
  FnT.of (X := ctx 0 [trace_Check.spec]) Tryd.mixed trace_valid.ann Tryd.func26 rfl (by kernel_rfl) (Nat.le_of_ble_eq_true rfl) (fun x => by kernel_rfl)
noncomputable def trace_valid.spec : XSpec Tryd.prog := XSpec.t 26 [.d .l_Outc] [.i64] trace_valid (by kernel_rfl) trace_valid.fn
noncomputable def trace_Same : ((List Outc) × (List Outc)) → Option (Bool × Int) :=
  fun (a_1, b_2) =>
  (trace_valid a_1).bind fun x_3 =>
  br (x_3 != (0 : Int))
    (some (false, x_3))
    ((trace_valid b_2).bind fun x_4 =>
    br (x_4 != (0 : Int))
      (some (false, x_4))
      ((iter (σ := Int × (List (Outc × Int))) (ρ := List (Outc × Int)) (fun (x_5, x_6) =>
        br (decide (x_5 < (a_1.length : Int)))
          ((idx a_1 x_5).bind fun x_7 =>
          (mget (α := Outc) (β := Int) (kinC .Outc) x_6 x_7).bind fun x_8 =>
          (addI .i64 (x_8.getD (0 : Int)) (1 : Int)).bind fun x_9 =>
          (mput (α := Outc) (β := Int) (kinC .Outc) x_6 x_7 x_9).bind fun x_10 =>
          (addI .i64 x_5 (1 : Int)).bind fun x_11 =>
          some (.next (x_11, x_10)))
          (some (.done x_6))) ((0 : Int), ([] : List (Outc × Int)))).bind fun x_12 =>
      (iter (σ := Int × (List (Outc × Int))) (ρ := List (Outc × Int)) (fun (x_13, x_14) =>
        br (decide (x_13 < (b_2.length : Int)))
          ((idx b_2 x_13).bind fun x_15 =>
          (mget (α := Outc) (β := Int) (kinC .Outc) x_14 x_15).bind fun x_16 =>
          (subI .i64 (x_16.getD (0 : Int)) (1 : Int)).bind fun x_17 =>
          (mput (α := Outc) (β := Int) (kinC .Outc) x_14 x_15 x_17).bind fun x_18 =>
          (mget (α := Outc) (β := Int) (kinC .Outc) x_18 x_15).bind fun x_19 =>
          br ((x_19.getD (0 : Int)) == (0 : Int))
            ((mdel (α := Outc) (β := Int) (kinC .Outc) x_18 x_15).bind fun x_20 =>
            (addI .i64 x_13 (1 : Int)).bind fun x_21 =>
            some (.next (x_21, x_20)))
            ((addI .i64 x_13 (1 : Int)).bind fun x_22 =>
            some (.next (x_22, x_18))))
          (some (.done x_14))) ((0 : Int), x_12)).bind fun x_23 =>
      some ((x_23.length : Int) == (0 : Int), (0 : Int))))
def trace_Same.ann : Ann := (.two .no (.two .no (.two .no (.two .no (.two (.two .no (.loop [10, 26, 27, 28, 29, 30, 31, 32, 33, 34, 35, 36] [0] [.slot 26 .i64 none, .mapb 0 .Outc .i64] [(.exit 0, [.mapb 0 .Outc .i64])] .no)) (.two (.two .no (.loop [12, 39, 40, 41, 42, 43, 44, 45, 46, 47, 48, 49, 50, 51, 52, 53, 54, 55] [0] [.slot 39 .i64 none, .mapb 0 .Outc .i64] [(.exit 2, [.mapb 0 .Outc .i64])] .no)) .no))))))
set_option maxRecDepth 100000 in
theorem trace_Same.fn : FnT Tryd.prog 11 [.d .l_Outc, .d .l_Outc] [.bool, .i64] trace_Same :=
  FnT.of (X := ctx 0 [trace_valid.spec]) Tryd.mixed trace_Same.ann Tryd.func11 rfl (by kernel_rfl) (Nat.le_of_ble_eq_true rfl) (fun x => by kernel_rfl)
noncomputable def trace_Same.spec : XSpec Tryd.prog := XSpec.t 11 [.d .l_Outc, .d .l_Outc] [.bool, .i64] trace_Same (by kernel_rfl) trace_Same.fn
noncomputable def packhorseref39_usesOther : Int → Option Bool :=
  fun kind_1 =>
  br (kind_1 == (6 : Int))
    (some true)
    (br (kind_1 == (7 : Int))
      (some true)
      (br (kind_1 == (10 : Int))
        (some true)
        (br (kind_1 == (11 : Int))
          (some true)
          (br (kind_1 == (12 : Int))
            (some true)
            (some (kind_1 == (13 : Int)))))))
def packhorseref39_usesOther.ann : Ann := .no
set_option maxRecDepth 100000 in
theorem packhorseref39_usesOther.fn : FnT Tryd.prog 69 [.d .i64] [.bool] packhorseref39_usesOther :=
  FnT.of (X := ctx 0 []) Tryd.mixed packhorseref39_usesOther.ann Tryd.func69 rfl (by kernel_rfl) (Nat.le_of_ble_eq_true rfl) (fun x => by kernel_rfl)
noncomputable def packhorseref39_usesOther.spec : XSpec Tryd.prog := XSpec.t 69 [.d .i64] [.bool] packhorseref39_usesOther (by kernel_rfl) packhorseref39_usesOther.fn
noncomputable def packhorseref39_other : Outc → Option Bool :=
  fun o_1 =>
  (packhorseref39_usesOther o_1.Kind).bind fun x_2 =>
  br (!x_2)
    (some (o_1.Other == (0 : Int)))
    (br (o_1.Kind == (12 : Int))
      (br (o_1.Other == (0 : Int))
        (some (o_1.Other == (0 : Int)))
        (br (decide ((1 : Int) ≤ o_1.Other))
          (br (decide (o_1.Other ≤ (16 : Int)))
            (some (o_1.Other != o_1.Node))
            (some false))
          (some false)))
      (br (decide ((1 : Int) ≤ o_1.Other))
        (br (decide (o_1.Other ≤ (16 : Int)))
          (some (o_1.Other != o_1.Node))
          (some false))
        (some false)))
def packhorseref39_other.ann : Ann := .no
set_option maxRecDepth 100000 in
theorem packhorseref39_other.fn : FnT Tryd.prog 57 [.d .Outc] [.bool] packhorseref39_other :=
  FnT.of (X := ctx 0 [packhorseref39_usesOther.spec]) Tryd.mixed packhorseref39_other.ann Tryd.func57 rfl (by kernel_rfl) (Nat.le_of_ble_eq_true rfl) (fun x => by kernel_rfl)
noncomputable def packhorseref39_other.spec : XSpec Tryd.prog := XSpec.t 57 [.d .Outc] [.bool] packhorseref39_other (by kernel_rfl) packhorseref39_other.fn
noncomputable def packhorseref39_UsesID : Int → Option Bool :=
  fun kind_1 =>
  br (decide ((1 : Int) ≤ kind_1))
    (br (decide (kind_1 ≤ (10 : Int)))
      (some (kind_1 != (5 : Int)))
      (some false))
    (some false)
def packhorseref39_UsesID.ann : Ann := .no
set_option maxRecDepth 100000 in
theorem packhorseref39_UsesID.fn : FnT Tryd.prog 34 [.d .i64] [.bool] packhorseref39_UsesID :=
  FnT.of (X := ctx 0 []) Tryd.mixed packhorseref39_UsesID.ann Tryd.func34 rfl (by kernel_rfl) (Nat.le_of_ble_eq_true rfl) (fun x => by kernel_rfl)
noncomputable def packhorseref39_UsesID.spec : XSpec Tryd.prog := XSpec.t 34 [.d .i64] [.bool] packhorseref39_UsesID (by kernel_rfl) packhorseref39_UsesID.fn
noncomputable def packhorseref06_CheckID : ID → Option Int :=
  fun id_1 =>
  br (decide (id_1.Node < (1 : Int)))
    (some (2 : Int))
    (br (decide ((16 : Int) < id_1.Node))
      (some (2 : Int))
      (br (decide ((1099511627776 : Int) < id_1.Seq))
        (some (2 : Int))
        (br (decide (id_1.Off < (0 : Int)))
          (some (2 : Int))
          (br (decide ((20000 : Int) ≤ id_1.Off))
            (some (2 : Int))
            (some (0 : Int))))))
def packhorseref06_CheckID.ann : Ann := .no
set_option maxRecDepth 100000 in
theorem packhorseref06_CheckID.fn : FnT Tryd.prog 58 [.d .ID] [.i64] packhorseref06_CheckID :=
  FnT.of (X := ctx 0 []) Tryd.mixed packhorseref06_CheckID.ann Tryd.func58 rfl (by kernel_rfl) (Nat.le_of_ble_eq_true rfl) (fun x => by kernel_rfl)
noncomputable def packhorseref06_CheckID.spec : XSpec Tryd.prog := XSpec.t 58 [.d .ID] [.i64] packhorseref06_CheckID (by kernel_rfl) packhorseref06_CheckID.fn
noncomputable def packhorseref39_one : Outc → Option Int :=
  fun o_1 =>
  br (decide (o_1.Kind < (1 : Int)))
    (some (7 : Int))
    (br (decide ((15 : Int) < o_1.Kind))
      (some (7 : Int))
      (br (decide (o_1.Tick < (0 : Int)))
        (some (2 : Int))
        (br (decide ((1099511627776 : Int) < o_1.Tick))
          (some (2 : Int))
          (br (decide (o_1.Node < (1 : Int)))
            (some (2 : Int))
            (br (decide ((16 : Int) < o_1.Node))
              (some (2 : Int))
              ((packhorseref39_other o_1).bind fun x_2 =>
              br (!x_2)
                (some (2 : Int))
                ((packhorseref39_UsesID o_1.Kind).bind fun x_3 =>
                br x_3
                  ((packhorseref06_CheckID o_1.ID).bind fun x_4 =>
                  some x_4)
                  (br (!((o_1.ID.Node == (0 : Int)) && ((o_1.ID.Seq == (0 : Int)) && (o_1.ID.Off == (0 : Int)))))
                    (some (2 : Int))
                    (some (0 : Int))))))))))
def packhorseref39_one.ann : Ann := .no
set_option maxRecDepth 100000 in
theorem packhorseref39_one.fn : FnT Tryd.prog 46 [.d .Outc] [.i64] packhorseref39_one :=
  FnT.of (X := ctx 0 [packhorseref39_other.spec, packhorseref39_UsesID.spec, packhorseref06_CheckID.spec]) Tryd.mixed packhorseref39_one.ann Tryd.func46 rfl (by kernel_rfl) (Nat.le_of_ble_eq_true rfl) (fun x => by kernel_rfl)
noncomputable def packhorseref39_one.spec : XSpec Tryd.prog := XSpec.t 46 [.d .Outc] [.i64] packhorseref39_one (by kernel_rfl) packhorseref39_one.fn
noncomputable def packhorseref39_Check : List Outc → Option (Int × Int) :=
  fun l_1 =>
  br (decide ((5000 : Int) < (l_1.length : Int)))
    (some ((5 : Int), (0 : Int)))
    ((iter (σ := Int) (ρ := (Int × Int) ⊕ (Unit)) (fun i_2 =>
      br (decide (i_2 < (l_1.length : Int)))
        ((idx l_1 i_2).bind fun x_3 =>
        (packhorseref39_one x_3).bind fun x_4 =>
        br (x_4 != (0 : Int))
          (some (.done (.inl (x_4, i_2))))
          (br (decide ((0 : Int) < i_2))
            ((idx l_1 i_2).bind fun x_5 =>
            (subI .i64 i_2 (1 : Int)).bind fun x_6 =>
            (idx l_1 x_6).bind fun x_7 =>
            br (decide (x_5.Tick < x_7.Tick))
              (some (.done (.inl ((19 : Int), i_2))))
              ((addI .i64 i_2 (1 : Int)).bind fun x_8 =>
              some (.next x_8)))
            ((addI .i64 i_2 (1 : Int)).bind fun x_9 =>
            some (.next x_9))))
        (some (.done (.inr ())))) (0 : Int)).bind fun x_12 =>
    Sum.elim
      (fun (x_10, x_11) =>
      some (x_10, x_11))
      (fun _ =>
      some ((0 : Int), (0 : Int))) x_12)
def packhorseref39_Check.ann : Ann := (.two .no (.two .no (.two (.two .no (.loop [2, 3, 4, 5, 9, 10, 11, 12, 13, 14, 15, 16, 17, 18, 19, 20, 21, 22, 23, 24, 25, 26, 27, 28, 29, 30, 31, 32, 33, 34, 35, 36, 37, 38, 39, 40] [] [.slot 4 .i64 none] [(.ret, [.slot 2 .i64 none, .slot 3 .i64 none]), (.exit 0, [])] .no)) .no)))
set_option maxRecDepth 100000 in
theorem packhorseref39_Check.fn : FnT Tryd.prog 27 [.d .l_Outc] [.i64, .i64] packhorseref39_Check :=
  FnT.of (X := ctx 0 [packhorseref39_one.spec]) Tryd.mixed packhorseref39_Check.ann Tryd.func27 rfl (by kernel_rfl) (Nat.le_of_ble_eq_true rfl) (fun x => by kernel_rfl)
noncomputable def packhorseref39_Check.spec : XSpec Tryd.prog := XSpec.t 27 [.d .l_Outc] [.i64, .i64] packhorseref39_Check (by kernel_rfl) packhorseref39_Check.fn
noncomputable def packhorseref39_often : ((List Outc) × Outc) → Option Int :=
  fun (l_1, o_2) =>
  (iter (σ := Int × Int) (ρ := Int) (fun (n_3, i_4) =>
    br (decide (i_4 < (l_1.length : Int)))
      ((idx l_1 i_4).bind fun x_5 =>
      br ((x_5.Tick == o_2.Tick) && ((x_5.Node == o_2.Node) && ((x_5.Kind == o_2.Kind) && ((x_5.ID.Node == o_2.ID.Node) && ((x_5.ID.Seq == o_2.ID.Seq) && ((x_5.ID.Off == o_2.ID.Off) && (x_5.Other == o_2.Other)))))))
        ((addI .i64 n_3 (1 : Int)).bind fun x_6 =>
        (addI .i64 i_4 (1 : Int)).bind fun x_7 =>
        some (.next (x_6, x_7)))
        ((addI .i64 i_4 (1 : Int)).bind fun x_8 =>
        some (.next (n_3, x_8))))
      (some (.done n_3))) ((0 : Int), (0 : Int))).bind fun n_9 =>
  some n_9
def packhorseref39_often.ann : Ann := (.two .no (.two .no (.two (.two .no (.loop [5, 6, 7, 8, 9, 10, 11, 12, 13, 14, 15, 16, 17, 18, 19, 20] [] [.slot 5 .i64 none, .slot 6 .i64 none] [(.exit 0, [.slot 5 .i64 none])] .no)) .no)))
set_option maxRecDepth 100000 in
theorem packhorseref39_often.fn : FnT Tryd.prog 28 [.d .l_Outc, .d .Outc] [.i64] packhorseref39_often :=
  FnT.of (X := ctx 0 []) Tryd.mixed packhorseref39_often.ann Tryd.func28 rfl (by kernel_rfl) (Nat.le_of_ble_eq_true rfl) (fun x => by kernel_rfl)
noncomputable def packhorseref39_often.spec : XSpec Tryd.prog := XSpec.t 28 [.d .l_Outc, .d .Outc] [.i64] packhorseref39_often (by kernel_rfl) packhorseref39_often.fn
noncomputable def packhorseref39_Same : ((List Outc) × (List Outc)) → Option (Bool × Int) :=
  fun (a_1, b_2) =>
  (packhorseref39_Check a_1).bind fun (x_3, x_4) =>
  br (x_3 == (0 : Int))
    ((packhorseref39_Check b_2).bind fun (x_5, x_6) =>
    br (x_5 != (0 : Int))
      (some (false, x_5))
      (br ((a_1.length : Int) != (b_2.length : Int))
        (some (false, (0 : Int)))
        ((iter (σ := Int) (ρ := (Bool × Int) ⊕ (Unit)) (fun i_7 =>
          br (decide (i_7 < (a_1.length : Int)))
            ((idx a_1 i_7).bind fun x_8 =>
            (packhorseref39_often (a_1, x_8)).bind fun x_9 =>
            (idx a_1 i_7).bind fun x_10 =>
            (packhorseref39_often (b_2, x_10)).bind fun x_11 =>
            br (x_9 != x_11)
              (some (.done (.inl (false, (0 : Int)))))
              ((addI .i64 i_7 (1 : Int)).bind fun x_12 =>
              some (.next x_12)))
            (some (.done (.inr ())))) (0 : Int)).bind fun x_15 =>
        Sum.elim
          (fun (x_13, x_14) =>
          some (x_13, x_14))
          (fun _ =>
          some (true, (0 : Int))) x_15)))
    (br (x_3 != (0 : Int))
      (some (false, x_3))
      (br ((a_1.length : Int) != (b_2.length : Int))
        (some (false, (0 : Int)))
        ((iter (σ := Int) (ρ := (Bool × Int) ⊕ (Unit)) (fun i_16 =>
          br (decide (i_16 < (a_1.length : Int)))
            ((idx a_1 i_16).bind fun x_17 =>
            (packhorseref39_often (a_1, x_17)).bind fun x_18 =>
            (idx a_1 i_16).bind fun x_19 =>
            (packhorseref39_often (b_2, x_19)).bind fun x_20 =>
            br (x_18 != x_20)
              (some (.done (.inl (false, (0 : Int)))))
              ((addI .i64 i_16 (1 : Int)).bind fun x_21 =>
              some (.next x_21)))
            (some (.done (.inr ())))) (0 : Int)).bind fun x_24 =>
        Sum.elim
          (fun (x_22, x_23) =>
          some (x_22, x_23))
          (fun _ =>
          some (true, (0 : Int))) x_24)))
def packhorseref39_Same.ann : Ann := (.two .no (.two .no (.two .no (.two .no (.two .no (.two (.two .no (.loop [4, 5, 8, 29, 30, 31, 32, 33, 34, 35, 36, 37, 38, 39, 40, 41, 42, 43, 44, 45, 46, 47] [] [.slot 8 .i64 none] [(.ret, [.slot 4 .bool none, .slot 5 .i64 none]), (.exit 0, [])] .no)) .no))))))
set_option maxRecDepth 100000 in
theorem packhorseref39_Same.fn : FnT Tryd.prog 13 [.d .l_Outc, .d .l_Outc] [.bool, .i64] packhorseref39_Same :=
  FnT.of (X := ctx 0 [packhorseref39_Check.spec, packhorseref39_often.spec]) Tryd.mixed packhorseref39_Same.ann Tryd.func13 rfl (by kernel_rfl) (Nat.le_of_ble_eq_true rfl) (fun x => by kernel_rfl)
noncomputable def packhorseref39_Same.spec : XSpec Tryd.prog := XSpec.t 13 [.d .l_Outc, .d .l_Outc] [.bool, .i64] packhorseref39_Same (by kernel_rfl) packhorseref39_Same.fn
noncomputable def packhorselaw39_TraceSame : ((List Outc) × (List Outc)) → Option Bool :=
  fun (l_1, m_2) =>
  (packhorselaw39_light l_1).bind fun x_3 =>
  br (!x_3)
    ((packhorselaw39_awake ()).bind fun x_4 =>
    some x_4)
    ((packhorselaw39_light m_2).bind fun x_5 =>
    br (!x_5)
      ((packhorselaw39_awake ()).bind fun x_6 =>
      some x_6)
      ((packhorselaw39_own l_1).bind fun x_7 =>
      (packhorselaw39_own m_2).bind fun x_8 =>
      (trace_Same (x_7, x_8)).bind fun (x_9, x_10) =>
      (packhorseref39_Same (l_1, m_2)).bind fun (x_11, x_12) =>
      br (x_9 == x_11)
        (br (x_10 == x_12)
          ((packhorselaw39_awake ()).bind fun x_13 =>
          some x_13)
          (some false))
        (some false)))
def packhorselaw39_TraceSame.ann : Ann := .no
set_option maxRecDepth 100000 in
theorem packhorselaw39_TraceSame.fn : FnT Tryd.prog 3 [.d .l_Outc, .d .l_Outc] [.bool] packhorselaw39_TraceSame :=
  FnT.of (X := ctx 0 [packhorselaw39_light.spec, packhorselaw39_awake.spec, packhorselaw39_own.spec, trace_Same.spec, packhorseref39_Same.spec]) Tryd.mixed packhorselaw39_TraceSame.ann Tryd.func3 rfl (by kernel_rfl) (Nat.le_of_ble_eq_true rfl) (fun x => by kernel_rfl)
noncomputable def packhorselaw39_TraceSame.spec : XSpec Tryd.prog := XSpec.t 3 [.d .l_Outc, .d .l_Outc] [.bool] packhorselaw39_TraceSame (by kernel_rfl) packhorselaw39_TraceSame.fn
end Go.Proofs.YtjcpgiicdppkcaaDoor
