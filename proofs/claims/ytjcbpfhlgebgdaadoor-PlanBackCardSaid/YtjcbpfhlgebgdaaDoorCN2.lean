import Derived.Test.YtjcbpfhlgebgdaaDoorWO
import Derived.RegionTactic
import Derived.Deep.RegionWith
import Derived.Test.YtjcbpfhlgebgdaaDoorCN
set_option linter.unusedSimpArgs false
set_option linter.unusedVariables false
namespace Go.Proofs.YtjcbpfhlgebgdaaDoor
open Go Go.Eng Go.RowKit Go.X Go.Seq Go.Shelf
def zc : Contact := ⟨0, 0, 0, 0, 0, 0⟩
def fVal (a b : Int) : Value := .agg #[.int .i64 a, .int .i64 b]
noncomputable def numsF : List Word → Nat → List Int → Option (Int ⊕ List Int)
  | [], _, l => some (.inr l)
  | w :: ws, i, l => (words_Number w.Text).bind fun r => if r.2 then numsF ws (i + 1) (l.set i (wrap64 (min r.1 2199023255552))) else some (.inl w.At)
structure CB (N : Nat) (at0 : Int) (sl : Value) (f : Word) (W : World) : Prop where
  size : N + 4 ≤ W.heap.size
  b0 : W.heap[N]? = some (.cells #[.int .i64 at0, sl] 97 (0, 0))
  b1 : W.heap[N + 1]? = some (.cells #[.int .i64 0, .int .i64 0, .int .i64 0, .int .i64 0, .int .i64 0, .int .i64 0] 83 (0, 0))
  b2 : W.heap[N + 1 + 1]? = some (.cells #[.int .i64 0, .int .i64 0] 30 (0, 0))
  b3 : W.heap[N + 1 + 1 + 1]? = some (.cells #[.int .i64 f.At, .string ⟨f.Key.toArray⟩, .string ⟨f.Text.toArray⟩] 101 (0, 0))
theorem CB.keep {N : Nat} {at0 : Int} {sl : Value} {f : Word} {W W' : World} (h : CB N at0 sl f W) (hs : W.heap.size ≤ W'.heap.size) (hb : ∀ k, k < N + 4 → W'.heap[k]? = W.heap[k]?) : CB N at0 sl f W' :=
  ⟨Nat.le_trans h.size hs, (hb _ (by omega)).trans h.b0, (hb _ (by omega)).trans h.b1, (hb _ (by omega)).trans h.b2, (hb _ (by omega)).trans h.b3⟩
theorem CB.more {N : Nat} {at0 : Int} {sl : Value} {f : Word} {W W' : World} (h : CB N at0 sl f W) (hb : Below W.heap.size W W') : CB N at0 sl f W' :=
  h.keep hb.size fun k hk => hb.block k (Nat.lt_of_lt_of_le hk h.size)
theorem CB.alloc {N : Nat} {at0 : Int} {sl : Value} {f : Word} {W : World} (h : CB N at0 sl f W) (o : Obj) : CB N at0 sl f (W.alloc o) :=
  h.keep (by simp) fun k hk => Below.heap_alloc _ _ _ (Nat.lt_of_lt_of_le hk h.size)
theorem CB.set {N : Nat} {at0 : Int} {sl : Value} {f : Word} {W : World} (h : CB N at0 sl f W) {a : Addr} (ha : N + 4 ≤ a.block) (v : Value) : CB N at0 sl f (W.setCell a v) :=
  h.keep (by simp) fun k hk => Below.heap_setCell _ _ _ _ (by omega)
theorem CB.cells {N : Nat} {at0 : Int} {sl : Value} {f : Word} {W : World} (h : CB N at0 sl f W) :
    W.cell? ⟨N, 0, none⟩ = some (.int .i64 at0) ∧ W.cell? ⟨N, 1, none⟩ = some sl ∧
    W.cell? ⟨N + 1 + 1 + 1, 0, none⟩ = some (.int .i64 f.At) ∧ W.cell? ⟨N + 1 + 1 + 1, 1, none⟩ = some (.string ⟨f.Key.toArray⟩) ∧ W.cell? ⟨N + 1 + 1 + 1, 2, none⟩ = some (.string ⟨f.Text.toArray⟩) := by
  refine ⟨?_, ?_, ?_, ?_, ?_⟩
  · simp [World.cell?, h.b0]
  · simp [World.cell?, h.b0]
  · simp [World.cell?, h.b3]
  · simp [World.cell?, h.b3]
  · simp [World.cell?, h.b3]
theorem CB.out {N : Nat} {at0 : Int} {sl : Value} {f : Word} {W : World} (h : CB N at0 sl f W) :
    (W.cell? ⟨N + 1, 0, none⟩ = some (.int .i64 0) ∧ W.cell? ⟨N + 1, 1, none⟩ = some (.int .i64 0) ∧ W.cell? ⟨N + 1, 2, none⟩ = some (.int .i64 0) ∧ W.cell? ⟨N + 1, 3, none⟩ = some (.int .i64 0) ∧ W.cell? ⟨N + 1, 4, none⟩ = some (.int .i64 0) ∧ W.cell? ⟨N + 1, 5, none⟩ = some (.int .i64 0)) ∧
    (W.cell? ⟨N + 1 + 1, 0, none⟩ = some (.int .i64 0) ∧ W.cell? ⟨N + 1 + 1, 1, none⟩ = some (.int .i64 0)) ∧
    (∀ j, W.frozen? ⟨N + 1, j, none⟩ = false) ∧ (∀ j, W.frozen? ⟨N + 1 + 1, j, none⟩ = false) := by
  refine ⟨⟨?_, ?_, ?_, ?_, ?_, ?_⟩, ⟨?_, ?_⟩, fun j => ?_, fun j => ?_⟩
  all_goals first | (simp [World.cell?, h.b1]; done) | (simp [World.cell?, h.b2]; done) | (simp [World.frozen?, h.b1]; done) | (simp [World.frozen?, h.b2]; done)
theorem CB.init {w : World} (at0 : Int) (sl : Value) (f : Word) : CB w.heap.size at0 sl f ((((w.alloc (.cells #[.int .i64 at0, sl] 97)).alloc (.cells #[.int .i64 0, .int .i64 0, .int .i64 0, .int .i64 0, .int .i64 0, .int .i64 0] 83)).alloc (.cells #[.int .i64 0, .int .i64 0] 30)).alloc (.cells #[.int .i64 f.At, .string ⟨f.Key.toArray⟩, .string ⟨f.Text.toArray⟩] 101)) := by
  have e : ∀ (W : World) (o : Obj) (k : Nat), k < W.heap.size → (W.alloc o).heap[k]? = W.heap[k]? := fun W o k hk => Below.heap_alloc _ _ _ hk
  have z : ∀ (W : World) (o : Obj) (k : Nat), k = W.heap.size → (W.alloc o).heap[k]? = some o := fun W o k hk => by rw [hk]; exact ahn W o
  have s1 : ∀ (W : World) (o : Obj), (W.alloc o).heap.size = W.heap.size + 1 := fun W o => by simp
  refine ⟨by simp, ?_, ?_, ?_, ?_⟩
  · rw [e _ _ _ (by simp only [s1]; omega), e _ _ _ (by simp only [s1]; omega), e _ _ _ (by simp only [s1]; omega)]; exact z _ _ _ rfl
  · rw [e _ _ _ (by simp only [s1]; omega), e _ _ _ (by simp only [s1]; omega)]; exact z _ _ _ (by simp only [s1])
  · rw [e _ _ _ (by simp only [s1]; omega)]; exact z _ _ _ (by simp only [s1])
  · exact z _ _ _ (by simp only [s1])
theorem blw_set {N : Nat} {w W : World} (h : Below N w W) {a : Addr} (ha : N ≤ a.block) (v : Value) : Below N w (W.setCell a v) :=
  ⟨h.os, h.tape, h.output, by simpa using h.size, fun k hk => (Below.heap_setCell _ _ _ _ (by omega)).trans (h.block k hk)⟩
theorem drew_heap (A : World) (k : Nat) : A.drew.heap[k]? = A.heap[k]? := rfl
theorem drew_below {M : Nat} {w A : World} (h : Below M w A) : Below M w A.drew := ⟨h.os, h.tape, h.output, h.size, h.block⟩
def outW0 (W : World) (N : Nat) (c : Contact) (a b : Int) : World :=
  (((((((W.setCell ⟨N + 1, 0, none⟩ (.int .i64 c.From)).setCell ⟨N + 1, 1, none⟩ (.int .i64 c.To)).setCell ⟨N + 1, 2, none⟩ (.int .i64 c.Start)).setCell ⟨N + 1, 3, none⟩ (.int .i64 c.End)).setCell ⟨N + 1, 4, none⟩ (.int .i64 c.Rate)).setCell ⟨N + 1, 5, none⟩ (.int .i64 c.Delay)).setCell ⟨N + 1 + 1, 0, none⟩ (.int .i64 a)).setCell ⟨N + 1 + 1, 1, none⟩ (.int .i64 b)
def outW (W : World) (N : Nat) (c : Contact) (a b : Int) : World := (outW0 W N c a b).drew
theorem outW0_below {M N : Nat} {w W : World} (h : Below M w W) (hM : M ≤ N) (c : Contact) (a b : Int) : Below M w (outW0 W N c a b) := by
  unfold outW0
  refine blw_set (blw_set (blw_set (blw_set (blw_set (blw_set (blw_set (blw_set h ?_ _) ?_ _) ?_ _) ?_ _) ?_ _) ?_ _) ?_ _) ?_ _
  all_goals first | exact Nat.le_trans hM (Nat.le_add_right N 1) | exact Nat.le_trans hM (Nat.le_trans (Nat.le_add_right N 1) (Nat.le_add_right (N + 1) 1))
theorem outW_below {M N : Nat} {w W : World} (h : Below M w W) (hM : M ≤ N) (c : Contact) (a b : Int) : Below M w (outW W N c a b) :=
  drew_below (outW0_below h hM c a b)
theorem outW0_b1 {N : Nat} {at0 : Int} {sl : Value} {f : Word} {W : World} (h : CB N at0 sl f W) (c : Contact) (a b : Int) : (outW0 W N c a b).heap[N + 1]? = some (.cells #[.int .i64 c.From, .int .i64 c.To, .int .i64 c.Start, .int .i64 c.End, .int .i64 c.Rate, .int .i64 c.Delay] 83 (0, 0)) := by
  unfold outW0
  have e : ∀ (A : World) (j : Nat) (v : Value), (A.setCell ⟨N + 1 + 1, j, none⟩ v).heap[N + 1]? = A.heap[N + 1]? := fun A j v => Below.heap_setCell _ _ _ _ (by simp)
  refine ((e _ 1 (.int .i64 b)).trans (e _ 0 (.int .i64 a))).trans ?_
  exact heap_setCell_same _ _ 5 _ _ _ (heap_setCell_same _ _ 4 _ _ _ (heap_setCell_same _ _ 3 _ _ _ (heap_setCell_same _ _ 2 _ _ _ (heap_setCell_same _ _ 1 _ _ _ (heap_setCell_same _ _ 0 _ _ _ h.b1)))))
theorem outW0_b2 {N : Nat} {at0 : Int} {sl : Value} {f : Word} {W : World} (h : CB N at0 sl f W) (c : Contact) (a b : Int) : (outW0 W N c a b).heap[N + 1 + 1]? = some (.cells #[.int .i64 a, .int .i64 b] 30 (0, 0)) := by
  unfold outW0
  have e : ∀ (A : World) (j : Nat) (v : Value), (A.setCell ⟨N + 1, j, none⟩ v).heap[N + 1 + 1]? = A.heap[N + 1 + 1]? := fun A j v => Below.heap_setCell _ _ _ _ (by simp)
  have h6 := (e _ 5 (.int .i64 c.Delay)).trans ((e _ 4 (.int .i64 c.Rate)).trans ((e _ 3 (.int .i64 c.End)).trans ((e _ 2 (.int .i64 c.Start)).trans ((e _ 1 (.int .i64 c.To)).trans ((e W 0 (.int .i64 c.From)).trans h.b2)))))
  exact heap_setCell_same _ _ 1 _ _ _ (heap_setCell_same _ _ 0 _ _ _ h6)
theorem outW_b1 {N : Nat} {at0 : Int} {sl : Value} {f : Word} {W : World} (h : CB N at0 sl f W) (c : Contact) (a b : Int) : (outW W N c a b).heap[N + 1]? = some (.cells #[.int .i64 c.From, .int .i64 c.To, .int .i64 c.Start, .int .i64 c.End, .int .i64 c.Rate, .int .i64 c.Delay] 83 (0, 0)) := by
  unfold outW
  rw [drew_heap]
  exact outW0_b1 h c a b
theorem outW_b2 {N : Nat} {at0 : Int} {sl : Value} {f : Word} {W : World} (h : CB N at0 sl f W) (c : Contact) (a b : Int) : (outW W N c a b).heap[N + 1 + 1]? = some (.cells #[.int .i64 a, .int .i64 b] 30 (0, 0)) := by
  unfold outW
  rw [drew_heap]
  exact outW0_b2 h c a b
theorem con_fin {Q : Ending → World → Prop} {tmps : Array Value} {B : World} {N : Nat} {c : Contact} {a b : Int} (h1 : B.heap[N + 1]? = some (.cells #[.int .i64 c.From, .int .i64 c.To, .int .i64 c.Start, .int .i64 c.End, .int .i64 c.Rate, .int .i64 c.Delay] 83 (0, 0))) (h2 : B.heap[N + 1 + 1]? = some (.cells #[.int .i64 a, .int .i64 b] 30 (0, 0)))
    (t2 : tmps[2]?.getD undef = .pointer (some ⟨N + 1, 0, none⟩)) (t3 : tmps[3]?.getD undef = .pointer (some ⟨N + 1 + 1, 0, none⟩)) (h : Q (.returned (.tuple #[cVal c, fVal a b])) B) : bodyPost Tryd.prog Tryd.f60 Q .ret { tmps, defers := [] } B := by
  have q : B.cell? ⟨N + 1, 0, none⟩ = some (.int .i64 c.From) ∧ B.cell? ⟨N + 1, 1, none⟩ = some (.int .i64 c.To) ∧ B.cell? ⟨N + 1, 2, none⟩ = some (.int .i64 c.Start) ∧ B.cell? ⟨N + 1, 3, none⟩ = some (.int .i64 c.End) ∧ B.cell? ⟨N + 1, 4, none⟩ = some (.int .i64 c.Rate) ∧ B.cell? ⟨N + 1, 5, none⟩ = some (.int .i64 c.Delay) := by simp [World.cell?, h1]
  have p : B.cell? ⟨N + 1 + 1, 0, none⟩ = some (.int .i64 a) ∧ B.cell? ⟨N + 1 + 1, 1, none⟩ = some (.int .i64 b) := by simp [World.cell?, h2]
  obtain ⟨q0, q1, q2, q3, q4, q5⟩ := q
  obtain ⟨p0, p1⟩ := p
  refine bodyPost_ret (v := .tuple #[cVal c, fVal a b]) ?_ rfl h
  simp [results, Tryd.f60, go_sem, t2, t3, q0, q1, q2, q3, q4, q5, p0, p1, cVal, fVal]
def contactT : List UInt8 := [99, 111, 110, 116, 97, 99, 116]
end Go.Proofs.YtjcbpfhlgebgdaaDoor
