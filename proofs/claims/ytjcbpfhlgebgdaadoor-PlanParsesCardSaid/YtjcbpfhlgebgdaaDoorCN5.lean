import Derived.Test.YtjcbpfhlgebgdaaDoorCN2
set_option linter.unusedSimpArgs false
set_option linter.unusedVariables false
namespace Go.Proofs.YtjcbpfhlgebgdaaDoor
open Go Go.Eng Go.RowKit Go.X Go.Seq Go.Shelf
noncomputable def numsR : List Word → Nat → List Int → Option (Int ⊕ List Int)
  | [], _, l => some (.inr l)
  | w :: ws, i, l => (packhorseref03_Number w.Text).bind fun r => if r.2 then numsR ws (i + 1) (l.set i (wrap64 r.1)) else some (.inl w.At)
structure RB (N : Nat) (at0 : Int) (sl : Value) (W : World) : Prop where
  size : N + 3 ≤ W.heap.size
  b0 : W.heap[N]? = some (.cells #[.int .i64 at0, sl] 97 (0, 0))
  b1 : W.heap[N + 1]? = some (.cells #[.int .i64 0, .int .i64 0, .int .i64 0, .int .i64 0, .int .i64 0, .int .i64 0] 83 (0, 0))
  b2 : W.heap[N + 1 + 1]? = some (.cells #[.int .i64 0, .int .i64 0] 30 (0, 0))
theorem RB.keep {N : Nat} {at0 : Int} {sl : Value} {W W' : World} (h : RB N at0 sl W) (hs : W.heap.size ≤ W'.heap.size) (hb : ∀ k, k < N + 3 → W'.heap[k]? = W.heap[k]?) : RB N at0 sl W' :=
  ⟨Nat.le_trans h.size hs, (hb _ (by omega)).trans h.b0, (hb _ (by omega)).trans h.b1, (hb _ (by omega)).trans h.b2⟩
theorem RB.more {N : Nat} {at0 : Int} {sl : Value} {W W' : World} (h : RB N at0 sl W) (hb : Below W.heap.size W W') : RB N at0 sl W' :=
  h.keep hb.size fun k hk => hb.block k (Nat.lt_of_lt_of_le hk h.size)
theorem RB.alloc {N : Nat} {at0 : Int} {sl : Value} {W : World} (h : RB N at0 sl W) (o : Obj) : RB N at0 sl (W.alloc o) :=
  h.keep (by simp) fun k hk => Below.heap_alloc _ _ _ (Nat.lt_of_lt_of_le hk h.size)
theorem RB.set {N : Nat} {at0 : Int} {sl : Value} {W : World} (h : RB N at0 sl W) {a : Addr} (ha : N + 3 ≤ a.block) (v : Value) : RB N at0 sl (W.setCell a v) :=
  h.keep (by simp) fun k hk => Below.heap_setCell _ _ _ _ (by omega)
theorem RB.cells {N : Nat} {at0 : Int} {sl : Value} {W : World} (h : RB N at0 sl W) : W.cell? ⟨N, 0, none⟩ = some (.int .i64 at0) ∧ W.cell? ⟨N, 1, none⟩ = some sl := by
  refine ⟨?_, ?_⟩ <;> simp [World.cell?, h.b0]
theorem RB.out {N : Nat} {at0 : Int} {sl : Value} {W : World} (h : RB N at0 sl W) :
    (W.cell? ⟨N + 1, 0, none⟩ = some (.int .i64 0) ∧ W.cell? ⟨N + 1, 1, none⟩ = some (.int .i64 0) ∧ W.cell? ⟨N + 1, 2, none⟩ = some (.int .i64 0) ∧ W.cell? ⟨N + 1, 3, none⟩ = some (.int .i64 0) ∧ W.cell? ⟨N + 1, 4, none⟩ = some (.int .i64 0) ∧ W.cell? ⟨N + 1, 5, none⟩ = some (.int .i64 0)) ∧
    (W.cell? ⟨N + 1 + 1, 0, none⟩ = some (.int .i64 0) ∧ W.cell? ⟨N + 1 + 1, 1, none⟩ = some (.int .i64 0)) ∧
    (∀ j, W.frozen? ⟨N + 1, j, none⟩ = false) ∧ (∀ j, W.frozen? ⟨N + 1 + 1, j, none⟩ = false) := by
  refine ⟨⟨?_, ?_, ?_, ?_, ?_, ?_⟩, ⟨?_, ?_⟩, fun j => ?_, fun j => ?_⟩
  all_goals first | (simp [World.cell?, h.b1]; done) | (simp [World.cell?, h.b2]; done) | (simp [World.frozen?, h.b1]; done) | (simp [World.frozen?, h.b2]; done)
theorem RB.init {w : World} (at0 : Int) (sl : Value) : RB w.heap.size at0 sl (((w.alloc (.cells #[.int .i64 at0, sl] 97)).alloc (.cells #[.int .i64 0, .int .i64 0, .int .i64 0, .int .i64 0, .int .i64 0, .int .i64 0] 83)).alloc (.cells #[.int .i64 0, .int .i64 0] 30)) := by
  have e : ∀ (W : World) (o : Obj) (k : Nat), k < W.heap.size → (W.alloc o).heap[k]? = W.heap[k]? := fun W o k hk => Below.heap_alloc _ _ _ hk
  have z : ∀ (W : World) (o : Obj) (k : Nat), k = W.heap.size → (W.alloc o).heap[k]? = some o := fun W o k hk => by rw [hk]; exact ahn W o
  have s1 : ∀ (W : World) (o : Obj), (W.alloc o).heap.size = W.heap.size + 1 := fun W o => by simp
  refine ⟨by simp, ?_, ?_, ?_⟩
  · rw [e _ _ _ (by simp only [s1]; omega), e _ _ _ (by simp only [s1]; omega)]; exact z _ _ _ rfl
  · rw [e _ _ _ (by simp only [s1]; omega)]; exact z _ _ _ (by simp only [s1])
  · exact z _ _ _ (by simp only [s1])
theorem routW0_b1 {N : Nat} {at0 : Int} {sl : Value} {W : World} (h : RB N at0 sl W) (c : Contact) (a b : Int) : (outW0 W N c a b).heap[N + 1]? = some (.cells #[.int .i64 c.From, .int .i64 c.To, .int .i64 c.Start, .int .i64 c.End, .int .i64 c.Rate, .int .i64 c.Delay] 83 (0, 0)) := by
  unfold outW0
  have e : ∀ (A : World) (j : Nat) (v : Value), (A.setCell ⟨N + 1 + 1, j, none⟩ v).heap[N + 1]? = A.heap[N + 1]? := fun A j v => Below.heap_setCell _ _ _ _ (by simp)
  refine ((e _ 1 (.int .i64 b)).trans (e _ 0 (.int .i64 a))).trans ?_
  exact heap_setCell_same _ _ 5 _ _ _ (heap_setCell_same _ _ 4 _ _ _ (heap_setCell_same _ _ 3 _ _ _ (heap_setCell_same _ _ 2 _ _ _ (heap_setCell_same _ _ 1 _ _ _ (heap_setCell_same _ _ 0 _ _ _ h.b1)))))
theorem routW0_b2 {N : Nat} {at0 : Int} {sl : Value} {W : World} (h : RB N at0 sl W) (c : Contact) (a b : Int) : (outW0 W N c a b).heap[N + 1 + 1]? = some (.cells #[.int .i64 a, .int .i64 b] 30 (0, 0)) := by
  unfold outW0
  have e : ∀ (A : World) (j : Nat) (v : Value), (A.setCell ⟨N + 1, j, none⟩ v).heap[N + 1 + 1]? = A.heap[N + 1 + 1]? := fun A j v => Below.heap_setCell _ _ _ _ (by simp)
  have h6 := (e _ 5 (.int .i64 c.Delay)).trans ((e _ 4 (.int .i64 c.Rate)).trans ((e _ 3 (.int .i64 c.End)).trans ((e _ 2 (.int .i64 c.Start)).trans ((e _ 1 (.int .i64 c.To)).trans ((e W 0 (.int .i64 c.From)).trans h.b2)))))
  exact heap_setCell_same _ _ 1 _ _ _ (heap_setCell_same _ _ 0 _ _ _ h6)
theorem routW_b1 {N : Nat} {at0 : Int} {sl : Value} {W : World} (h : RB N at0 sl W) (c : Contact) (a b : Int) : (outW W N c a b).heap[N + 1]? = some (.cells #[.int .i64 c.From, .int .i64 c.To, .int .i64 c.Start, .int .i64 c.End, .int .i64 c.Rate, .int .i64 c.Delay] 83 (0, 0)) := by
  unfold outW
  rw [drew_heap]
  exact routW0_b1 h c a b
theorem routW_b2 {N : Nat} {at0 : Int} {sl : Value} {W : World} (h : RB N at0 sl W) (c : Contact) (a b : Int) : (outW W N c a b).heap[N + 1 + 1]? = some (.cells #[.int .i64 a, .int .i64 b] 30 (0, 0)) := by
  unfold outW
  rw [drew_heap]
  exact routW0_b2 h c a b
theorem rcon_fin {Q : Ending → World → Prop} {tmps : Array Value} {B : World} {N : Nat} {c : Contact} {a b : Int} (h1 : B.heap[N + 1]? = some (.cells #[.int .i64 c.From, .int .i64 c.To, .int .i64 c.Start, .int .i64 c.End, .int .i64 c.Rate, .int .i64 c.Delay] 83 (0, 0))) (h2 : B.heap[N + 1 + 1]? = some (.cells #[.int .i64 a, .int .i64 b] 30 (0, 0)))
    (t2 : tmps[2]?.getD undef = .pointer (some ⟨N + 1, 0, none⟩)) (t3 : tmps[3]?.getD undef = .pointer (some ⟨N + 1 + 1, 0, none⟩)) (h : Q (.returned (.tuple #[cVal c, fVal a b])) B) : bodyPost Tryd.prog Tryd.f62 Q .ret { tmps, defers := [] } B := by
  have q : B.cell? ⟨N + 1, 0, none⟩ = some (.int .i64 c.From) ∧ B.cell? ⟨N + 1, 1, none⟩ = some (.int .i64 c.To) ∧ B.cell? ⟨N + 1, 2, none⟩ = some (.int .i64 c.Start) ∧ B.cell? ⟨N + 1, 3, none⟩ = some (.int .i64 c.End) ∧ B.cell? ⟨N + 1, 4, none⟩ = some (.int .i64 c.Rate) ∧ B.cell? ⟨N + 1, 5, none⟩ = some (.int .i64 c.Delay) := by simp [World.cell?, h1]
  have p : B.cell? ⟨N + 1 + 1, 0, none⟩ = some (.int .i64 a) ∧ B.cell? ⟨N + 1 + 1, 1, none⟩ = some (.int .i64 b) := by simp [World.cell?, h2]
  obtain ⟨q0, q1, q2, q3, q4, q5⟩ := q
  obtain ⟨p0, p1⟩ := p
  refine bodyPost_ret (v := .tuple #[cVal c, fVal a b]) ?_ rfl h
  simp [results, Tryd.f62, go_sem, t2, t3, q0, q1, q2, q3, q4, q5, p0, p1, cVal, fVal]
theorem refnum_call {W : World} {pr : Nat → Nat → Prop} (hl : HL W pr) {l : List UInt8} (hle : l.length ≤ maxLen) {n : Int} {b : Bool} (h : packhorseref03_Number l = some (n, b)) :
    Calls Tryd.prog 124 #[.string ⟨l.toArray⟩] W fun e W' => e = .returned (.tuple #[.int .u64 n, .bool b]) ∧ Below W.heap.size W W' := by
  have hfn := packhorseref03_Number.fn _ _ h W pr (fun _ => none) #[.string ⟨l.toArray⟩] hl (by
    simp only [buildA, reflC, dataOf, refl, refl_str, toVL, toV, RL, R]
    exact ⟨_, _, rfl, ⟨rfl, hle⟩, rfl⟩) (fun i B h => by simp at h) (fun i j b h => by cases h) (fun _ _ => rfl)
  refine hfn.mono ?_
  rintro en W' ⟨v, pr', rfl, hr, _, hk⟩
  refine ⟨?_, ⟨hk.os, hk.tape, hk.output, hk.size, fun k h => hk.block k h (fun i e => by cases e)⟩⟩
  change R _ (.tup [.int .u64 n, .bool b]) v at hr
  simp only [R, RL] at hr
  obtain ⟨xs, rfl, y, ys, rfl, rfl, y2, ys2, rfl, rfl, rfl⟩ := hr
  rfl
theorem refone_call {W : World} {pr : Nat → Nat → Prop} (hl : HL W pr) {c : Contact} {e : Int} (h : packhorseref22_One c = some e) :
    Calls Tryd.prog 116 #[cVal c] W fun en W' => en = .returned (.int .i64 e) ∧ Below W.heap.size W W' := by
  have hfn := packhorseref22_One.fn _ _ h W pr (fun _ => none) #[cVal c] hl (by
    show RL _ [.agg [.int .i64 c.From, .int .i64 c.To, .int .i64 c.Start, .int .i64 c.End, .int .i64 c.Rate, .int .i64 c.Delay]] [cVal c]
    simp only [RL, R]
    refine ⟨_, _, rfl, ⟨[.int .i64 c.From, .int .i64 c.To, .int .i64 c.Start, .int .i64 c.End, .int .i64 c.Rate, .int .i64 c.Delay], rfl, ?_, ?_⟩, rfl⟩
    · exact ⟨_, _, rfl, rfl, _, _, rfl, rfl, _, _, rfl, rfl, _, _, rfl, rfl, _, _, rfl, rfl, _, _, rfl, rfl, rfl⟩
    · intro y hy; simp at hy; rcases hy with rfl | rfl | rfl | rfl | rfl | rfl <;> rfl) (fun i B h => by simp at h) (fun i j b h => by cases h) (fun _ _ => rfl)
  refine hfn.mono ?_
  rintro en W' ⟨v, pr', rfl, hr, _, hk⟩
  refine ⟨?_, ⟨hk.os, hk.tape, hk.output, hk.size, fun k h => hk.block k h (fun i e => by cases e)⟩⟩
  change R _ (.int .i64 e) v at hr
  simp only [R] at hr
  rw [hr]
def nCells (a0 a1 a2 a3 a4 a5 a6 : Int) : Obj := .cells #[.int .i64 a0, .int .i64 a1, .int .i64 a2, .int .i64 a3, .int .i64 a4, .int .i64 a5, .int .i64 a6] 176 (0, 0)
theorem nc_cells {W : World} {M : Nat} {a0 a1 a2 a3 a4 a5 a6 : Int} (h : W.heap[M]? = some (nCells a0 a1 a2 a3 a4 a5 a6)) :
    (W.cell? ⟨M, 0, none⟩ = some (.int .i64 a0) ∧ W.cell? ⟨M, 1, none⟩ = some (.int .i64 a1) ∧ W.cell? ⟨M, 2, none⟩ = some (.int .i64 a2) ∧ W.cell? ⟨M, 3, none⟩ = some (.int .i64 a3) ∧ W.cell? ⟨M, 4, none⟩ = some (.int .i64 a4) ∧ W.cell? ⟨M, 5, none⟩ = some (.int .i64 a5) ∧ W.cell? ⟨M, 6, none⟩ = some (.int .i64 a6)) ∧ ∀ j, W.frozen? ⟨M, j, none⟩ = false := by
  unfold nCells at h
  refine ⟨by simp [World.cell?, h], fun j => by simp [World.frozen?, h]⟩
end Go.Proofs.YtjcbpfhlgebgdaaDoor
