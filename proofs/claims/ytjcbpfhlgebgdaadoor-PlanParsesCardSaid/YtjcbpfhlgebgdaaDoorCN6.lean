import Derived.Test.YtjcbpfhlgebgdaaDoorCN5
set_option linter.unusedSimpArgs false
set_option linter.unusedVariables false
namespace Go.Proofs.YtjcbpfhlgebgdaaDoor
open Go Go.Eng Go.RowKit Go.X Go.Seq Go.Shelf
theorem al3 (w : World) (o1 o2 o3 : Obj) : (((w.alloc o1).alloc o2).alloc o3).heap[w.heap.size + 1]? = some o2 ∧ (((w.alloc o1).alloc o2).alloc o3).heap[w.heap.size + 1 + 1]? = some o3 := by
  have e : ∀ (W : World) (o : Obj) (k : Nat), k < W.heap.size → (W.alloc o).heap[k]? = W.heap[k]? := fun W o k hk => Below.heap_alloc _ _ _ hk
  have z : ∀ (W : World) (o : Obj) (k : Nat), k = W.heap.size → (W.alloc o).heap[k]? = some o := fun W o k hk => by rw [hk]; exact ahn W o
  have s1 : ∀ (W : World) (o : Obj), (W.alloc o).heap.size = W.heap.size + 1 := fun W o => by simp
  refine ⟨?_, ?_⟩
  · rw [e _ _ _ (by simp only [s1]; omega)]; exact z _ _ _ (by simp only [s1])
  · exact z _ _ _ (by simp only [s1])
set_option maxRecDepth 20000 in
set_option maxHeartbeats 8000000 in
theorem refcon_bad (w : World) (b o n cap : Nat) (at0 : Int) (f : Word) (ws : List Word) (hn : (f :: ws).length = n) (hlt : b < w.heap.size) (hw : WordsAt w b o (f :: ws))
    (hbad : n ≠ 7 ∨ (n = 7 ∧ f.Text ≠ contactT)) :
    Calls Tryd.prog 62 #[.agg #[.int .i64 at0, .slice (some ⟨b, o, none⟩) n cap]] w fun e W' => e = .returned (.tuple #[cVal zc, fVal 3 f.At]) ∧ Below w.heap.size w W' := by
  have mixed : Tryd.prog.follows .mixedOrders = true := by kernel_rfl
  have d0 := hw.c0 0 f rfl
  have d1 := hw.c1 0 f rfl
  have d2 := hw.c2 0 f rfl
  rw [Nat.zero_mul, Nat.add_zero] at d0 d1 d2
  have hnp : 0 < n := by rw [← hn]; simp
  have lt1 : b < w.heap.size + 1 := by omega
  have lt2 : b < w.heap.size + 1 + 1 := by omega
  have lt3 : b < w.heap.size + 1 + 1 + 1 := by omega
  have hfin : Shut (∀ (tmps : Array Value) (o1 : Obj), tmps[2]?.getD undef = .pointer (some ⟨w.heap.size + 1, 0, none⟩) → tmps[3]?.getD undef = .pointer (some ⟨w.heap.size + 1 + 1, 0, none⟩) →
      bodyPost Tryd.prog Tryd.f62 (fun e W' => e = .returned (.tuple #[cVal zc, fVal 3 f.At]) ∧ Below w.heap.size w W') .ret { tmps, defers := [] } (((w.alloc o1).alloc (.cells #[.int .i64 0, .int .i64 0, .int .i64 0, .int .i64 0, .int .i64 0, .int .i64 0] 83)).alloc (.cells #[.int .i64 3, .int .i64 f.At] 30))) := fun tmps o1 t2 t3 =>
    rcon_fin (c := zc) (a := 3) (b := f.At) (al3 w o1 _ _).1 (al3 w o1 _ _).2 t2 t3 ⟨rfl, ((Below.refl _ _).alloc (Nat.le_refl _) _).alloc (by simp) _ |>.alloc (by simp; omega) _⟩
  clear hn hw
  rcases hbad with hni | ⟨rfl, ht⟩
  · have hni' : ¬ ((n : Int) = 7) := by omega
    go_enter Tryd.func62, Tryd.ntmps62
    go_wp2
    exact hfin.out _ _ rfl rfl
  · have ht' : (f.Text == ([99, 111, 110, 116, 97, 99, 116] : List UInt8)) = false := beq_eq_false_iff_ne.2 ht
    go_enter Tryd.func62, Tryd.ntmps62
    go_wp2
    exact hfin.out _ _ rfl rfl
end Go.Proofs.YtjcbpfhlgebgdaaDoor
