import Derived.Test.YtjcbpfhlgebgdaaDoorRoR
namespace Go.Seq
open Go.RowKit Go.Shelf Go.Proofs
def refRowsF (rowL : List UInt8 → Option (List Wd × Int)) : List (List UInt8) → List (Int × List Wd) → Int → Option (List (Int × List Wd) × Int × Int)
  | [], out, _ => some (out, 0, 0)
  | p :: ps, out, a => if 1000 < p.length then some ([], 4, a) else (rowL p).bind fun r =>
      if 0 ≤ r.2 then some ([], 3, a + r.2) else refRowsF rowL ps (if r.1 = [] then out else out ++ [(a, r.1.map (shW a))]) (a + (p.length + 1))
def nlL (l : List UInt8) : Nat := (l.takeWhile fun c => !decide (c = 10)).length
theorem nl_at : ∀ (l : List UInt8) (j : Nat), (j < nlL l → ∃ h : j < l.length, ¬ l[j] = 10) ∧ (j = nlL l → j ≤ l.length ∧ ∀ h : j < l.length, l[j] = 10)
  | [], j => ⟨fun h => absurd h (by simp [nlL]), fun h => ⟨by simp [nlL] at h; omega, fun h2 => absurd h2 (by simp)⟩⟩
  | x :: l, j => by
    unfold nlL
    rw [List.takeWhile_cons]
    by_cases hx : x = 10
    · rw [if_neg (by simp [hx])]
      refine ⟨fun h => absurd h (by simp), fun h => ?_⟩
      obtain rfl : j = 0 := by simpa using h
      exact ⟨Nat.zero_le _, fun _ => by simpa using hx⟩
    · rw [if_pos (by simp [hx])]
      cases j with
      | zero => exact ⟨fun _ => ⟨by simp, by simpa using hx⟩, fun h => absurd h (by simp)⟩
      | succ j =>
        obtain ⟨h1, h2⟩ := nl_at l j
        refine ⟨fun h => ?_, fun h => ?_⟩
        · obtain ⟨q1, q2⟩ := h1 (by simpa [nlL] using h)
          exact ⟨by simp; omega, by simpa using q2⟩
        · obtain ⟨q1, q2⟩ := h2 (by simpa [nlL] using h)
          exact ⟨by simp; omega, fun h => by have := q2 (by simpa using h); simpa using this⟩
theorem pieces_nl : ∀ (l : List UInt8), (nlL l = l.length → pieces 10 l = [l]) ∧ (nlL l < l.length → pieces 10 l = l.take (nlL l) :: pieces 10 (l.drop (nlL l + 1)))
  | [] => ⟨fun _ => rfl, fun h => absurd h (by simp [nlL])⟩
  | x :: l => by
    obtain ⟨h1, h2⟩ := pieces_nl l
    unfold nlL
    rw [List.takeWhile_cons]
    by_cases hx : x = 10
    · rw [if_neg (by simp [hx])]
      refine ⟨fun h => absurd h (by simp), fun _ => ?_⟩
      conv => lhs; unfold pieces
      rw [if_pos hx]
      rfl
    · rw [if_pos (by simp [hx])]
      refine ⟨fun h => ?_, fun h => ?_⟩
      · conv => lhs; unfold pieces
        rw [if_neg hx, h1 (by simpa [nlL] using h)]
      · conv => lhs; unfold pieces
        rw [if_neg hx, h2 (by simpa [nlL] using h)]
        rfl
theorem own_set_at {W : World} {base : Nat} {e : TypeId} {size : Nat} {g n cap : Nat} {xs : List Value} (h : W.ownsRow base e size (.slice (some ⟨g, 0, none⟩) n cap) n xs) {j : Nat} (hj : j < xs.length) (u : Value) :
    (W.setCell ⟨g, j, none⟩ u).ownsRow base e size (.slice (some ⟨g, 0, none⟩) n cap) n (xs.set j u) := by
  obtain ⟨hl, ⟨h0, _⟩ | ⟨g', cap', cur, hv, hb, hh, hc, hm, hs, ht⟩⟩ := h
  · cases h0
  · cases hv
    refine ⟨by simpa using hl, .inr ⟨g, cap, cur.setIfInBounds j u, rfl, hb, heap_setCell_same _ _ j _ _ u hh, hc, hm, by simpa using hs, ?_⟩⟩
    rw [Array.toList_setIfInBounds, List.take_set, ht]
theorem own_at {W : World} {base : Nat} {e : TypeId} {size : Nat} {g n cap : Nat} {xs : List Value} (h : W.ownsRow base e size (.slice (some ⟨g, 0, none⟩) n cap) n xs) {j : Nat} {z : Value} (hz : xs[j]? = some z) : W.cell? ⟨g, j, none⟩ = some z ∧ W.frozen? ⟨g, j, none⟩ = false := by
  obtain ⟨hl, ⟨h0, _⟩ | ⟨g', cap', cur, hv, hb, hh, hc, hm, hs, ht⟩⟩ := h
  · cases h0
  · cases hv
    have hj : j < n * size := by have := (List.getElem?_eq_some_iff.1 hz).1; omega
    rw [← ht, List.getElem?_take_of_lt hj] at hz
    constructor
    · simp only [World.cell?, hh]
      simpa using hz
    · simp [World.frozen?, hh]
theorem cellsW_get : ∀ {l : List Wd} {i : Nat} {x : Wd}, l[i]? = some x → (cellsW l)[i * 3]? = some (.int .i64 x.1)
  | [], i, x, h => by simp at h
  | y :: l, 0, x, h => by simp at h; subst h; simp [cellsW]
  | y :: l, i + 1, x, h => by
    have := cellsW_get (l := l) (i := i) (x := x) (by simpa using h)
    have e : cellsW (y :: l) = .int .i64 y.1 :: .string ⟨y.2.1.toArray⟩ :: .string ⟨y.2.2.toArray⟩ :: cellsW l := rfl
    rw [e, show (i + 1) * 3 = i * 3 + 1 + 1 + 1 by omega]
    simpa using this
theorem cellsW_set : ∀ {l : List Wd} {i : Nat} {x : Wd} (a : Int), l[i]? = some x → (cellsW l).set (i * 3) (.int .i64 a) = cellsW (l.set i (a, x.2))
  | [], i, x, a, h => by simp at h
  | y :: l, 0, x, a, h => by simp at h; subst h; simp [cellsW]
  | y :: l, i + 1, x, a, h => by
    have := cellsW_set (l := l) (i := i) (x := x) a (by simpa using h)
    have e : ∀ (y : Wd) l, cellsW (y :: l) = .int .i64 y.1 :: .string ⟨y.2.1.toArray⟩ :: .string ⟨y.2.2.toArray⟩ :: cellsW l := fun _ _ => rfl
    rw [List.set_cons_succ, e, e, show (i + 1) * 3 = i * 3 + 1 + 1 + 1 by omega]
    simp only [List.set_cons_succ]
    rw [this]
theorem cellsW_len : ∀ (l : List Wd), (cellsW l).length = l.length * 3
  | [] => rfl
  | y :: l => by
    have e : cellsW (y :: l) = .int .i64 y.1 :: .string ⟨y.2.1.toArray⟩ :: .string ⟨y.2.2.toArray⟩ :: cellsW l := rfl
    rw [e]; simp [cellsW_len l]; omega
structure RS (M : Nat) (w W : World) (v : Value) (vs : List Value) (o : List (Int × List Wd)) : Prop where
  bel : Below w.heap.size w W
  size : M ≤ W.heap.size
  own : W.ownsRow M 97 2 v o.length (cellsR o vs)
  len : vs.length = o.length
  rows : ∀ (i : Nat) (b : Int) (ws : List Wd) (u : Value), o[i]? = some (b, ws) → vs[i]? = some u → W.ownsRow M 101 3 u ws.length (cellsW ws)
theorem RS.kept {M : Nat} {w A B : World} {v : Value} {vs : List Value} {o : List (Int × List Wd)} (h : RS M w A v vs o) (hM : w.heap.size ≤ M) (hb : Below A.heap.size A B) : RS M w B v vs o :=
  have key : ∀ {base : Nat} {e : TypeId} {size : Nat} {v : Value} {n : Nat} {xs : List Value}, A.ownsRow base e size v n xs → B.ownsRow base e size v n xs := fun hu => own_kept hu fun g cur hg _ _ => hb.block g (Array.getElem?_eq_some_iff.1 hg).1
  ⟨⟨hb.os.trans h.bel.os, hb.tape.trans h.bel.tape, hb.output.trans h.bel.output, Nat.le_trans h.bel.size hb.size, fun k hk => (hb.block k (by have := h.size; omega)).trans (h.bel.block k hk)⟩, Nat.le_trans h.size hb.size, key h.own, h.len, fun i b ws u h1 h2 => key (h.rows i b ws u h1 h2)⟩
theorem RS.next {M : Nat} {w W W2 : World} {v v2 u : Value} {vs : List Value} {o : List (Int × List Wd)} {a : Int} {ws : List Wd} {o1 : Obj} (hM : w.heap.size ≤ M) (h : RS M w W v vs o) (hu : W.ownsRow M 101 3 u ws.length (cellsW ws))
    (hg : (W.alloc o1).grownBy W2 v.ownBlock) (hown : W2.ownsRow M 97 2 v2 (o.length + 1) (cellsR o vs ++ [.int .i64 a, u])) : RS M w W2 v2 (vs ++ [u]) (o ++ [(a, ws)]) := by
  have hW2 : ∀ k, k < W.heap.size → some k ≠ v.ownBlock → W2.heap[k]? = W.heap[k]? := fun k hk hn => (hg.block k (by simp; omega) hn).trans (Below.heap_alloc _ _ _ hk)
  have hsz : W.heap.size ≤ W2.heap.size := by have := hg.size; simp at this; omega
  have hWs := h.size
  have ww : ∀ {u : Value} {n : Nat} {xs : List Value}, W.ownsRow M 101 3 u n xs → W2.ownsRow M 101 3 u n xs := fun hu => own_kept hu fun g cur hg' _ hge => by
    refine hW2 g (Array.getElem?_eq_some_iff.1 hg').1 fun e => ?_
    obtain ⟨_, cur', hg''⟩ := own_blk h.own e.symm
    rw [hg'] at hg''
    simp only [Option.some.injEq, Obj.cells.injEq] at hg''
    exact absurd hg''.2.1 (by decide)
  refine ⟨⟨hg.os.trans h.bel.os, hg.tape.trans h.bel.tape, hg.output.trans h.bel.output, by have := h.bel.size; omega, fun k hk => (hW2 k (by omega) (fun e => by have := (own_blk h.own e.symm).1; omega)).trans (h.bel.block k hk)⟩, by omega, ?_, by simp [h.len], ?_⟩
  · rw [cellsR_snoc a ws u o vs h.len, show (o ++ [(a, ws)]).length = o.length + 1 by simp]
    exact hown
  · intro i b ws' u' h1 h2
    rcases Nat.lt_trichotomy i o.length with hi | hi | hi
    · rw [List.getElem?_append_left hi] at h1
      rw [List.getElem?_append_left (by rw [h.len]; exact hi)] at h2
      exact ww (h.rows i b ws' u' h1 h2)
    · subst hi
      simp at h1
      rw [← h.len] at h2
      simp at h2
      obtain ⟨_, rfl⟩ := h1
      subst h2
      exact ww hu
    · rw [List.getElem?_eq_none (by simp; omega)] at h1; cases h1
end Go.Seq
