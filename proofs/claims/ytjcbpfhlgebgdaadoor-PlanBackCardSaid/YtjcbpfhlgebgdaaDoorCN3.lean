import Derived.Test.YtjcbpfhlgebgdaaDoorCN2
set_option linter.unusedSimpArgs false
set_option linter.unusedVariables false
namespace Go.Proofs.YtjcbpfhlgebgdaaDoor
open Go Go.Eng Go.RowKit Go.X Go.Seq Go.Shelf
theorem below_appC {N : Nat} {w wr W1 : World} (hb : Below N w wr) (hN : N ≤ wr.heap.size) (x1 : Below wr.heap.size wr W1) : Below N w W1 :=
  ⟨x1.os.trans hb.os, x1.tape.trans hb.tape, x1.output.trans hb.output, Nat.le_trans hb.size x1.size, fun k hk => (x1.block k (by omega)).trans (hb.block k hk)⟩
set_option maxRecDepth 20000 in
set_option maxHeartbeats 8000000 in
theorem contact_bad (w : World) (b o n cap : Nat) (at0 : Int) (f : Word) (ws : List Word) (hn : (f :: ws).length = n) (hlt : b < w.heap.size) (hw : WordsAt w b o (f :: ws)) (kd : Bool)
    (hC : ∀ W, Below w.heap.size w W → Calls Tryd.prog 120 #[.slice (some ⟨b, o, none⟩) n cap, .func (.func 121) #[] #[]] W fun en W' => en = .returned (.bool kd) ∧ Below W.heap.size W W')
    (hbad : n ≠ 7 ∨ (n = 7 ∧ kd = true) ∨ (n = 7 ∧ kd = false ∧ f.Text ≠ contactT)) :
    Calls Tryd.prog 60 #[.agg #[.int .i64 at0, .slice (some ⟨b, o, none⟩) n cap]] w fun e W' => e = .returned (.tuple #[cVal zc, fVal 3 f.At]) ∧ Below w.heap.size w W' := by
  have mixed : Tryd.prog.follows .mixedOrders = true := by kernel_rfl
  have d0 := hw.c0 0 f rfl
  have d1 := hw.c1 0 f rfl
  have d2 := hw.c2 0 f rfl
  rw [Nat.zero_mul, Nat.add_zero] at d0 d1 d2
  have hnp : 0 < n := by rw [← hn]; simp
  have lt1 : b < w.heap.size + 1 := by omega
  have lt2 : b < w.heap.size + 1 + 1 := by omega
  have lt3 : b < w.heap.size + 1 + 1 + 1 := by omega
  have hb4 : ∀ o1 o2 o3 o4, Below w.heap.size w ((((w.alloc o1).alloc o2).alloc o3).alloc o4) := fun o1 o2 o3 o4 => (((Below.refl _ _).alloc (Nat.le_refl _) _).alloc (by simp) _ |>.alloc (by simp; omega) _).alloc (by simp; omega) _
  have cb0 : Shut _ := CB.init (w := w) at0 (.slice (some ⟨b, o, none⟩) n cap) f
  clear hn hw
  have hfin : Shut (∀ (tmps : Array Value) (W1 : World), CB w.heap.size at0 (.slice (some ⟨b, o, none⟩) n cap) f W1 → Below w.heap.size w W1 → tmps[2]?.getD undef = .pointer (some ⟨w.heap.size + 1, 0, none⟩) → tmps[3]?.getD undef = .pointer (some ⟨w.heap.size + 1 + 1, 0, none⟩) →
      bodyPost Tryd.prog Tryd.f60 (fun e W' => e = .returned (.tuple #[cVal zc, fVal 3 f.At]) ∧ Below w.heap.size w W') .ret { tmps, defers := [] } (outW W1 w.heap.size zc 3 f.At)) := fun tmps W1 hcb hbl t2 t3 =>
    con_fin (outW_b1 hcb zc 3 f.At) (outW_b2 hcb zc 3 f.At) t2 t3 ⟨rfl, outW_below hbl (Nat.le_refl _) _ _ _⟩
  have hb5 : Shut (∀ o1 o2 o3 o4 W1, Below ((((w.alloc o1).alloc o2).alloc o3).alloc o4).heap.size ((((w.alloc o1).alloc o2).alloc o3).alloc o4) W1 → Below w.heap.size w W1) := fun o1 o2 o3 o4 W1 h =>
    below_appC (hb4 o1 o2 o3 o4) (by simp; omega) h
  rcases hbad with hni | ⟨rfl, rfl⟩ | ⟨rfl, rfl, ht⟩
  · have hni' : ¬ ((n : Int) = 7) := by omega
    go_enter Tryd.func60, Tryd.ntmps60
    go_wp2_with (go_at_call 120; refine (hC _ (hb4 _ _ _ _)).mono ?_; rintro en W1 ⟨rfl, x1⟩; have cb1 := cb0.out.more x1; obtain ⟨r0, r1, f0, f1, f2⟩ := cb1.cells; obtain ⟨⟨k0, k1, k2, k3, k4, k5⟩, ⟨m0, m1⟩, fz1, fz2⟩ := cb1.out)
    go_region
    go_wp2
    exact hfin.out _ W1 cb1 (hb5.out _ _ _ _ _ x1) rfl rfl
  · go_enter Tryd.func60, Tryd.ntmps60
    go_wp2_with (go_at_call 120; refine (hC _ (hb4 _ _ _ _)).mono ?_; rintro en W1 ⟨rfl, x1⟩; have cb1 := cb0.out.more x1; obtain ⟨r0, r1, f0, f1, f2⟩ := cb1.cells; obtain ⟨⟨k0, k1, k2, k3, k4, k5⟩, ⟨m0, m1⟩, fz1, fz2⟩ := cb1.out)
    go_region
    go_wp2
    exact hfin.out _ W1 cb1 (hb5.out _ _ _ _ _ x1) rfl rfl
  · have ht' : (f.Text == ([99, 111, 110, 116, 97, 99, 116] : List UInt8)) = false := beq_eq_false_iff_ne.2 ht
    go_enter Tryd.func60, Tryd.ntmps60
    go_wp2_with (go_at_call 120; refine (hC _ (hb4 _ _ _ _)).mono ?_; rintro en W1 ⟨rfl, x1⟩; have cb1 := cb0.out.more x1; obtain ⟨r0, r1, f0, f1, f2⟩ := cb1.cells; obtain ⟨⟨k0, k1, k2, k3, k4, k5⟩, ⟨m0, m1⟩, fz1, fz2⟩ := cb1.out)
    go_region
    go_wp2
    exact hfin.out _ W1 cb1 (hb5.out _ _ _ _ _ x1) rfl rfl
end Go.Proofs.YtjcbpfhlgebgdaaDoor
