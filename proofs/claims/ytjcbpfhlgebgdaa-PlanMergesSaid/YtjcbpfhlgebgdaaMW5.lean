import Derived.Test.YtjcbpfhlgebgdaaPS
import Derived.Test.YtjcbpfhlgebgdaaPMc
import Derived.Test.YtjcbpfhlgebgdaaXMg
set_option linter.unusedSimpArgs false
set_option linter.unusedVariables false
namespace Go.Seq
open Go.RowKit Go.Shelf Go.Proofs Go.X Go.Proofs.Ytjcbpfhlgebgdaa Go.Eng
def okJ (x y : Contact) : Prop := sameC x y ∧ y.Start ≤ x.End ∧ x.Start ≤ y.End
def joinC (x y : Contact) : Contact := ⟨x.From, x.To, min x.Start y.Start, max x.End y.End, x.Rate, x.Delay⟩
def JD (l : List Contact) (r : List Contact × Bool) : Prop :=
  (r = (l, false) ∧ ∀ (k i : Nat) x y, k < i → l[k]? = some x → l[i]? = some y → ¬ okJ x y) ∨
  (∃ (k i : Nat) (x y : Contact), k < i ∧ l[k]? = some x ∧ l[i]? = some y ∧ okJ x y ∧ (∀ (k' i' : Nat) x' y', k' < i' → (i' < i ∨ (i' = i ∧ k' < k)) → l[k']? = some x' → l[i']? = some y' → ¬ okJ x' y') ∧
    r = (l.take k ++ (l.drop (k + 1)).take (i - (k + 1)) ++ l.drop (i + 1) ++ [joinC x y], true))
theorem JD.det {l : List Contact} {r r' : List Contact × Bool} (h : JD l r) (h' : JD l r') : r = r' := by
  rcases h with ⟨rfl, h1⟩ | ⟨k, i, x, y, h1, h2, h3, h4, h5, rfl⟩ <;> rcases h' with ⟨rfl, g1⟩ | ⟨k', i', x', y', g1, g2, g3, g4, g5, rfl⟩
  · rfl
  · exact absurd g4 (h1 k' i' x' y' g1 g2 g3)
  · exact absurd h4 (g1 k i x y h1 h2 h3)
  · have hi : i = i' := by
      rcases Nat.lt_trichotomy i i' with q | q | q
      · exact absurd h4 (g5 k i x y h1 (.inl q) h2 h3)
      · exact q
      · exact absurd g4 (h5 k' i' x' y' g1 (.inl q) g2 g3)
    subst hi
    have hk : k = k' := by
      rcases Nat.lt_trichotomy k k' with q | q | q
      · exact absurd h4 (g5 k i x y h1 (.inr ⟨rfl, q⟩) h2 h3)
      · exact q
      · exact absurd g4 (h5 k' i x' y' g1 (.inr ⟨rfl, q⟩) g2 g3)
    subst hk
    rw [h2] at g2; cases g2
    rw [h3] at g3; cases g3
    rfl
theorem SL.elem {W : World} {v : Value} {l : List Contact} (h : SL W v l) {n : Nat} {c : Contact} (hc : l[n]? = some c) : ∃ b o cap, v = .slice (some ⟨b, o, none⟩) l.length cap ∧ l.length ≤ cap ∧ cap ≤ maxLen ∧ b < W.heap.size ∧
    ∀ (n : Nat) c, l[n]? = some c → W.cell? ⟨b, o + n * 6, none⟩ = some (.int .i64 c.From) ∧ W.cell? ⟨b, o + n * 6 + 1, none⟩ = some (.int .i64 c.To) ∧ W.cell? ⟨b, o + n * 6 + 2, none⟩ = some (.int .i64 c.Start) ∧ W.cell? ⟨b, o + n * 6 + 3, none⟩ = some (.int .i64 c.End) ∧ W.cell? ⟨b, o + n * 6 + 4, none⟩ = some (.int .i64 c.Rate) ∧ W.cell? ⟨b, o + n * 6 + 5, none⟩ = some (.int .i64 c.Delay) := by
  obtain ⟨base, cap, h1, h2, h3, ⟨rfl, _⟩ | ⟨b, o, rfl, h4, h5⟩⟩ := h
  · simp at hc
  · refine ⟨b, o, cap, h1, h2, h3, h4 (fun e => by rw [e] at hc; simp at hc), fun n c hc => ?_⟩
    have key : ∀ j u, j < 6 → (cellC c)[j]? = some u → W.cell? ⟨b, o + n * 6 + j, none⟩ = some u := fun j u hj hu => by
      have := h5 (n * 6 + j) u ((rowC_get hc j hj).trans hu)
      rw [← Nat.add_assoc] at this
      exact this
    exact ⟨key 0 _ (by omega) rfl, key 1 _ (by omega) rfl, key 2 _ (by omega) rfl, key 3 _ (by omega) rfl, key 4 _ (by omega) rfl, key 5 _ (by omega) rfl⟩
theorem SL.take {W : World} {b o cap n : Nat} {l : List Contact} (h : SL W (.slice (some ⟨b, o, none⟩) l.length cap) l) (hn : n ≤ l.length) : SL W (.slice (some ⟨b, o, none⟩) n cap) (l.take n) := by
  obtain ⟨base, c, h1, h2, h3, h4⟩ := h
  cases h1
  have e : (l.take n).length = n := by simp; omega
  refine ⟨_, cap, by rw [e], by omega, h3, .inr ⟨b, o, rfl, fun hne => ?_, fun j u hu => ?_⟩⟩
  · rcases h4 with ⟨rfl, _⟩ | ⟨b', o', q, q1, q2⟩
    · simp at hne
    · cases q
      exact q1 (fun e => by rw [e] at hne; simp at hne)
  · rcases h4 with ⟨rfl, _⟩ | ⟨b', o', q, q1, q2⟩
    · simp [rowC] at hu
    · cases q
      obtain ⟨x, hx, hc⟩ := rowC_at hu
      have hx' : l[j / 6]? = some x := by
        rw [List.getElem?_take] at hx
        split at hx
        · exact hx
        · cases hx
      have := rowC_get hx' (j % 6) (by omega)
      rw [show j / 6 * 6 + j % 6 = j by omega, hc] at this
      exact q2 j u this
theorem SL.drop {W : World} {b o cap n : Nat} {l : List Contact} (h : SL W (.slice (some ⟨b, o, none⟩) l.length cap) l) (hn : n ≤ l.length) : SL W (.slice (some ⟨b, o + n * 6, none⟩) (l.drop n).length (cap - n)) (l.drop n) := by
  obtain ⟨base, c, h1, h2, h3, h4⟩ := h
  cases h1
  have e : (l.drop n).length = l.length - n := by simp
  refine ⟨_, cap - n, rfl, by omega, by omega, .inr ⟨b, o + n * 6, rfl, fun hne => ?_, fun j u hu => ?_⟩⟩
  · rcases h4 with ⟨rfl, _⟩ | ⟨b', o', q, q1, q2⟩
    · simp at hne
    · cases q
      exact q1 (fun e => by rw [e] at hne; simp at hne)
  · rcases h4 with ⟨rfl, _⟩ | ⟨b', o', q, q1, q2⟩
    · simp [rowC] at hu
    · cases q
      obtain ⟨x, hx, hc⟩ := rowC_at hu
      have hx' : l[n + j / 6]? = some x := by rw [List.getElem?_drop] at hx; exact hx
      have := rowC_get hx' (j % 6) (by omega)
      rw [hc] at this
      have h9 := q2 _ u this
      rw [← h9]
      congr 2
      omega
theorem SL.drop' {W : World} {b o cap n : Nat} {l : List Contact} (h : SL W (.slice (some ⟨b, o, none⟩) l.length cap) l) (hn : n ≤ l.length) : SL W (.slice (if cap = n then some ⟨b, o, none⟩ else some ⟨b, o + n * 6, none⟩) (l.length - n) (cap - n)) (l.drop n) := by
  split
  · rename_i hc
    obtain ⟨base, c, h1, h2, h3, h4⟩ := id h
    cases h1
    have e : l.drop n = [] := List.drop_eq_nil_of_le (by omega)
    rw [e, show l.length - n = 0 by omega, show cap - n = 0 by omega]
    exact ⟨_, 0, rfl, Nat.le_refl _, Nat.zero_le _, .inl ⟨rfl, rfl⟩⟩
  · have := h.drop hn
    rwa [List.length_drop] at this
theorem SL.mid {W : World} {b o cap k i : Nat} {l : List Contact} (h : SL W (.slice (some ⟨b, o, none⟩) l.length cap) l) (hk : k ≤ i) (hi : i ≤ l.length) : SL W (.slice (some ⟨b, o + k * 6, none⟩) (i - k) (cap - k)) ((l.drop k).take (i - k)) :=
  (h.drop (n := k) (by omega)).take (by simp; omega)
theorem grownN {N base : Nat} {w A B : World} {v : Value} {e : TypeId} {size n : Nat} {xs : List Value} (h : Below N w A) (hs : N ≤ A.heap.size) (hown : A.ownsRow base e size v n xs) (hb : N ≤ base) (hg : A.grownBy B v.ownBlock) :
    Below N w B ∧ N ≤ B.heap.size ∧ ∀ j, j < A.heap.size → j < base → B.heap[j]? = A.heap[j]? :=
  ⟨⟨hg.os.trans h.os, hg.tape.trans h.tape, hg.output.trans h.output, Nat.le_trans h.size hg.size, fun k hk => (hg.block k (by omega) (fun e => by have := (own_blk2 hown e.symm).1; omega)).trans (h.block k hk)⟩, Nat.le_trans hs hg.size,
    fun j hj hjb => hg.block j hj (fun e => by have := (own_blk2 hown e.symm).1; omega)⟩
theorem pair_in (x y : Contact) {b : Bool} (hb : decide (x.From = y.From ∧ x.To = y.To) = b) (W : World) : Calls Try.prog 27 #[.agg #[.int .i64 x.From, .int .i64 x.To, .int .i64 x.Start, .int .i64 x.End, .int .i64 x.Rate, .int .i64 x.Delay], .agg #[.int .i64 y.From, .int .i64 y.To, .int .i64 y.Start, .int .i64 y.End, .int .i64 y.Rate, .int .i64 y.Delay]] W fun en W' => en = .returned (.bool b) ∧ Below W.heap.size W W' := by
  have hf := packhorseref22_pair.fn (x, y) b ((pair_s x y).trans (congrArg some hb))
  have := hf W (fun b _ => b < W.heap.size) (fun _ => none) #[.agg #[.int .i64 x.From, .int .i64 x.To, .int .i64 x.Start, .int .i64 x.End, .int .i64 x.Rate, .int .i64 x.Delay], .agg #[.int .i64 y.From, .int .i64 y.To, .int .i64 y.Start, .int .i64 y.End, .int .i64 y.Rate, .int .i64 y.Delay]] (hlAll W) (by
    show RL _ [enc_Contact x, enc_Contact y] _
    simp only [RL]
    exact ⟨_, _, rfl, (encC_R _ x _).2 rfl, _, [], rfl, (encC_R _ y _).2 rfl, rfl⟩) (fun i B hB => by simp at hB) (fun i j b h => by cases h) (fun _ _ => rfl)
  refine this.mono ?_
  rintro en w' ⟨r, pr', rfl, hr, _, hl⟩
  have hr' : R ⟨w', pr', fun _ => none⟩ (.bool b) r := hr
  simp only [R] at hr'
  subst hr'
  exact ⟨rfl, left_below hl⟩
set_option maxHeartbeats 8000000 in
set_option maxRecDepth 100000 in
theorem joined_in (W0 : World) (v : Value) (l : List Contact) (hv : SL W0 v l) (hl : l.length ≤ 1000) :
    Calls Try.prog 26 #[v] W0 fun en W' => ∃ r v', JD l r ∧ en = .returned (.tuple #[v', .bool r.2]) ∧ Below W0.heap.size W0 W' ∧ (r.2 = false → v' = v) ∧ (r.2 = true → W'.ownsRow W0.heap.size 35 6 v' r.1.length (rowC r.1)) := by
  have mixed : Try.prog.follows .mixedOrders = true := by kernel_rfl
  obtain ⟨ba, ca, rfl, a1, a2, _⟩ := id hv
  obtain ⟨N, hN⟩ : ∃ N, W0.heap.size = N := ⟨_, rfl⟩
  rw [hN]
  obtain ⟨hv⟩ : Nonempty (Shut (SL W0 (.slice ba l.length ca) l)) := ⟨hv⟩
  go_enter Try.func26, Try.ntmps26
  go_wp2
  go_loopw [4] (fun v4 wr => ∃ i : Nat, v4 = .int .i64 (i : Int) ∧ i ≤ l.length ∧ (∀ (k' i' : Nat) x' y', k' < i' → i' < i → l[k']? = some x' → l[i']? = some y' → ¬ okJ x' y') ∧ Below N W0 wr ∧ N ≤ wr.heap.size)
    (fun v4 wr => ((l.length : Int) - RowKit.intOf v4).toNat)
  case atStart => exact ⟨0, rfl, Nat.zero_le _, fun k' i' x y h1 h2 => by omega, by rw [← hN]; exact Below.refl _ _, by omega⟩
  case round =>
    obtain ⟨i, rfl, hi, hno, x1, hs1⟩ := hrel
    by_cases hil : i < l.length
    · obtain ⟨y, hy⟩ : ∃ y, l[i]? = some y := ⟨l[i], List.getElem?_eq_getElem hil⟩
      have hii : (i : Int) < (l.length : Int) := by omega
      have hwi : IntKind.i64.wrap ((i : Int) + 1) = ((i + 1 : Nat) : Int) := by rw [IntKind.wrap_i64]; omega
      obtain ⟨hno⟩ : Nonempty (Shut (∀ (k' i' : Nat) x' y', k' < i' → i' < i → l[k']? = some x' → l[i']? = some y' → ¬ okJ x' y')) := ⟨hno⟩
      obtain ⟨b, o, cap, hsl, p1, p2, hblt, hcells⟩ := SL.elem hv.out hy
      cases hsl
      obtain ⟨hcells⟩ : Nonempty (Shut (∀ (n : Nat) c, l[n]? = some c → W0.cell? ⟨b, o + n * 6, none⟩ = some (.int .i64 c.From) ∧ W0.cell? ⟨b, o + n * 6 + 1, none⟩ = some (.int .i64 c.To) ∧ W0.cell? ⟨b, o + n * 6 + 2, none⟩ = some (.int .i64 c.Start) ∧ W0.cell? ⟨b, o + n * 6 + 3, none⟩ = some (.int .i64 c.End) ∧ W0.cell? ⟨b, o + n * 6 + 4, none⟩ = some (.int .i64 c.Rate) ∧ W0.cell? ⟨b, o + n * 6 + 5, none⟩ = some (.int .i64 c.Delay))) := ⟨hcells⟩
      obtain ⟨Wo, hWo⟩ : ∃ Wo, wr = Wo := ⟨_, rfl⟩
      rw [hWo] at x1 hs1 ⊢
      clear hWo
      go_wp2
      go_loopw [5] (fun v5 w5 => ∃ k : Nat, v5 = .int .i64 (k : Int) ∧ k ≤ i ∧ (∀ (k' : Nat) x', k' < k → l[k']? = some x' → ¬ okJ x' y) ∧ Below N W0 w5 ∧ N ≤ w5.heap.size)
        (fun v5 w5 => ((i : Int) - RowKit.intOf v5).toNat)
      case atStart => exact ⟨0, rfl, Nat.zero_le _, fun k' x h => by omega, x1, hs1⟩
      case round =>
        obtain ⟨k, rfl, hk, hnk, x2, hs2⟩ := hrel
        by_cases hki : k < i
        · obtain ⟨x, hx⟩ : ∃ x, l[k]? = some x := ⟨l[k]'(by omega), List.getElem?_eq_getElem (by omega)⟩
          have hkii : (k : Int) < (i : Int) := by omega
          have hkl : (k : Int) < (l.length : Int) := by omega
          have hk0 : (0 : Int) ≤ (k : Int) := by omega
          have hi0 : (0 : Int) ≤ (i : Int) := by omega
          have hwk : IntKind.i64.wrap ((k : Int) + 1) = ((k + 1 : Nat) : Int) := by rw [IntKind.wrap_i64]; omega
          obtain ⟨m, hm⟩ : ∃ m, wr.heap.size = m := ⟨_, rfl⟩
          have hbm : b < m := by omega
          have hcl : ∀ W, Below N W0 W → ∀ j, W.cell? ⟨b, j, none⟩ = W0.cell? ⟨b, j, none⟩ := fun W h j => by rw [World.cell?, World.cell?, h.block b (by omega)]
          obtain ⟨e0, e1, e2, e3, e4, e5⟩ := hcells.out k x hx
          obtain ⟨d0, d1, d2, d3, d4, d5⟩ := hcells.out i y hy
          rw [← hcl wr x2] at e0 e1 e2 e3 e4 e5 d0 d1 d2 d3 d4 d5
          have hne : ¬ m = b := by omega
          have hne1 : ¬ m + 1 = b := by omega
          obtain ⟨hx2⟩ : Nonempty (Shut (Below N W0 wr ∧ N ≤ wr.heap.size)) := ⟨⟨x2, hs2⟩⟩
          clear hcl x2 hs2 x1 hs1
          go_wp2
          go_region_held3 (fun w' => w'.cell? ⟨b, o + k * 6, none⟩ = some (.int .i64 x.From) ∧ w'.cell? ⟨b, o + k * 6 + 1, none⟩ = some (.int .i64 x.To) ∧ w'.cell? ⟨b, o + k * 6 + 2, none⟩ = some (.int .i64 x.Start) ∧ w'.cell? ⟨b, o + k * 6 + 3, none⟩ = some (.int .i64 x.End) ∧ w'.cell? ⟨b, o + k * 6 + 4, none⟩ = some (.int .i64 x.Rate) ∧ w'.cell? ⟨b, o + k * 6 + 5, none⟩ = some (.int .i64 x.Delay) ∧ w'.cell? ⟨b, o + i * 6, none⟩ = some (.int .i64 y.From) ∧ w'.cell? ⟨b, o + i * 6 + 1, none⟩ = some (.int .i64 y.To) ∧ w'.cell? ⟨b, o + i * 6 + 2, none⟩ = some (.int .i64 y.Start) ∧ w'.cell? ⟨b, o + i * 6 + 3, none⟩ = some (.int .i64 y.End) ∧ w'.cell? ⟨b, o + i * 6 + 4, none⟩ = some (.int .i64 y.Rate) ∧ w'.cell? ⟨b, o + i * 6 + 5, none⟩ = some (.int .i64 y.Delay)) (go_keep) (fail)
          · obtain ⟨W1, hW1⟩ : ∃ W1, ((wr.alloc (.cells #[.int .i64 x.From, .int .i64 x.To, .int .i64 x.Start, .int .i64 x.End, .int .i64 x.Rate, .int .i64 x.Delay] 35)).alloc (.cells #[.int .i64 y.From, .int .i64 y.To, .int .i64 y.Start, .int .i64 y.End, .int .i64 y.Rate, .int .i64 y.Delay] 35)).drew = W1 := ⟨_, rfl⟩
            have g0 : W1.heap[m]? = some (.cells #[.int .i64 x.From, .int .i64 x.To, .int .i64 x.Start, .int .i64 x.End, .int .i64 x.Rate, .int .i64 x.Delay] 35 (0, 0)) := by rw [← hW1]; exact (Below.heap_alloc _ _ _ (by simp [hm])).trans (by rw [← hm]; exact (MapKept.heap_alloc wr _).1)
            have g1 : W1.heap[m + 1]? = some (.cells #[.int .i64 y.From, .int .i64 y.To, .int .i64 y.Start, .int .i64 y.End, .int .i64 y.Rate, .int .i64 y.Delay] 35 (0, 0)) := by
              rw [← hW1]
              have := (MapKept.heap_alloc (wr.alloc (.cells #[.int .i64 x.From, .int .i64 x.To, .int .i64 x.Start, .int .i64 x.End, .int .i64 x.Rate, .int .i64 x.Delay] 35)) (.cells #[.int .i64 y.From, .int .i64 y.To, .int .i64 y.Start, .int .i64 y.End, .int .i64 y.Rate, .int .i64 y.Delay] 35)).1
              rw [show (wr.alloc (.cells #[.int .i64 x.From, .int .i64 x.To, .int .i64 x.Start, .int .i64 x.End, .int .i64 x.Rate, .int .i64 x.Delay] 35)).heap.size = m + 1 by simp [hm]] at this
              exact this
            have hs3 : W1.heap.size = m + 2 := by rw [← hW1]; show ((wr.alloc _).alloc _).heap.size = _; simp [hm]
            have x3 : Below N W0 W1 := by
              have h1 := (hx2.out.1.alloc hx2.out.2 (.cells #[.int .i64 x.From, .int .i64 x.To, .int .i64 x.Start, .int .i64 x.End, .int .i64 x.Rate, .int .i64 x.Delay] 35)).alloc (by have := hx2.out.2; simp; omega) (.cells #[.int .i64 y.From, .int .i64 y.To, .int .i64 y.Start, .int .i64 y.End, .int .i64 y.Rate, .int .i64 y.Delay] 35)
              rw [← hW1]
              exact ⟨h1.os, h1.tape, h1.output, h1.size, h1.block⟩
            have pb : W1.heap[m]? = some (.cells #[.int .i64 x.From, .int .i64 x.To, .int .i64 x.Start, .int .i64 x.End, .int .i64 x.Rate, .int .i64 x.Delay] 35 (0, 0)) := by exact ‹W1.heap[m]? = some (.cells #[.int .i64 x.From, .int .i64 x.To, .int .i64 x.Start, .int .i64 x.End, .int .i64 x.Rate, .int .i64 x.Delay] 35 (0, 0))›
            have qb : W1.heap[m + 1]? = some (.cells #[.int .i64 y.From, .int .i64 y.To, .int .i64 y.Start, .int .i64 y.End, .int .i64 y.Rate, .int .i64 y.Delay] 35 (0, 0)) := by exact ‹W1.heap[m + 1]? = some (.cells #[.int .i64 y.From, .int .i64 y.To, .int .i64 y.Start, .int .i64 y.End, .int .i64 y.Rate, .int .i64 y.Delay] 35 (0, 0))›
            clear g0 g1
            rw [hW1]
            clear hW1
            obtain ⟨l0, l1, l2, l3, l4, l5⟩ := cells6 pb
            obtain ⟨r0, r1, r2, r3, r4, r5⟩ := cells6 qb
            obtain ⟨hbk⟩ : Nonempty (Shut (Below N W0 W1 ∧ N ≤ m ∧ W1.heap[m]? = some (.cells #[.int .i64 x.From, .int .i64 x.To, .int .i64 x.Start, .int .i64 x.End, .int .i64 x.Rate, .int .i64 x.Delay] 35 (0, 0)) ∧ W1.heap[m + 1]? = some (.cells #[.int .i64 y.From, .int .i64 y.To, .int .i64 y.Start, .int .i64 y.End, .int .i64 y.Rate, .int .i64 y.Delay] 35 (0, 0)))) := ⟨⟨x3, by have := hx2.out.2; omega, pb, qb⟩⟩
            clear pb qb x3
            have stop : ∀ W2, Below W1.heap.size W1 W2 → Below N W0 W2 ∧ N ≤ W2.heap.size := fun W2 h => ⟨hbk.out.1.trans (h.mono (by have := hbk.out.2.1; omega)), by have := hbk.out.2.1; have := h.size; omega⟩
            obtain ⟨stop⟩ : Nonempty (Shut (∀ W2, Below W1.heap.size W1 W2 → Below N W0 W2 ∧ N ≤ W2.heap.size)) := ⟨stop⟩
            obtain ⟨next⟩ : Nonempty (Shut (¬ okJ x y → ∀ (k' : Nat) x', k' < k + 1 → l[k']? = some x' → ¬ okJ x' y)) := ⟨fun h k' x' h1 h2 => by
              by_cases e : k' = k
              · subst e; rw [hx] at h2; cases h2; exact h
              · exact hnk k' x' (by omega) h2⟩
            by_cases hp : x.From = y.From ∧ x.To = y.To
            · have hpb : decide (x.From = y.From ∧ x.To = y.To) = true := decide_eq_true hp
              obtain ⟨hpS⟩ : Nonempty (Shut (x.From = y.From ∧ x.To = y.To)) := ⟨hp⟩
              clear hp
              by_cases hr : x.Rate = y.Rate
              · by_cases hd : x.Delay = y.Delay
                · have hrb : (x.Rate != y.Rate) = false := bne_eq_false_iff_eq.2 hr
                  have hdb : (x.Delay != y.Delay) = false := bne_eq_false_iff_eq.2 hd
                  obtain ⟨hrS⟩ : Nonempty (Shut (x.Rate = y.Rate ∧ x.Delay = y.Delay)) := ⟨⟨hr, hd⟩⟩
                  clear hr hd
                  by_cases h1 : x.End < y.Start
                  · go_wp2_with (go_at_call 27; go_loud (refine (pair_in x y hpb _).mono ?_); rintro e W2 ⟨rfl, z2⟩; have hp2 := (z2.block (m) (by omega)).trans hbk.out.2.2.1; have hq2 := (z2.block (m + 1) (by omega)).trans hbk.out.2.2.2; obtain ⟨m0, m1, m2, m3, m4, m5⟩ := cells6 hp2; obtain ⟨n0, n1, n2, n3, n4, n5⟩ := cells6 hq2; clear hp2 hq2)
                    obtain ⟨t1, t2⟩ := stop.out _ z2
                    refine ⟨⟨k + 1, rfl, hki, next.out (fun h => by have := h.2.1; omega), t1, t2⟩, ?_⟩
                    simp only [RowKit.intOf]
                    omega
                  · by_cases h2 : y.End < x.Start
                    · go_wp2_with (go_at_call 27; go_loud (refine (pair_in x y hpb _).mono ?_); rintro e W2 ⟨rfl, z2⟩; have hp2 := (z2.block (m) (by omega)).trans hbk.out.2.2.1; have hq2 := (z2.block (m + 1) (by omega)).trans hbk.out.2.2.2; obtain ⟨m0, m1, m2, m3, m4, m5⟩ := cells6 hp2; obtain ⟨n0, n1, n2, n3, n4, n5⟩ := cells6 hq2; clear hp2 hq2)
                      obtain ⟨t1, t2⟩ := stop.out _ z2
                      refine ⟨⟨k + 1, rfl, hki, next.out (fun h => by have := h.2.2; omega), t1, t2⟩, ?_⟩
                      simp only [RowKit.intOf]
                      omega
                    · go_wp2_with (go_at_call 27; go_loud (refine (pair_in x y hpb _).mono ?_); rintro e W2 ⟨rfl, z2⟩; have hp2 := (z2.block (m) (by omega)).trans hbk.out.2.2.1; have hq2 := (z2.block (m + 1) (by omega)).trans hbk.out.2.2.2; obtain ⟨m0, m1, m2, m3, m4, m5⟩ := cells6 hp2; obtain ⟨n0, n1, n2, n3, n4, n5⟩ := cells6 hq2; clear hp2 hq2)
                      obtain ⟨t1, t2⟩ := stop.out _ z2
                      have pb2 : W2.heap[m]? = some (.cells #[.int .i64 x.From, .int .i64 x.To, .int .i64 x.Start, .int .i64 x.End, .int .i64 x.Rate, .int .i64 x.Delay] 35 (0, 0)) := (z2.block _ (by omega)).trans hbk.out.2.2.1
                      have ps2 : m + 2 ≤ W2.heap.size := by have := z2.size; omega
                      have f2 : W2.frozen? ⟨m, 2, none⟩ = false := by simp [World.frozen?, pb2]
                      have f3 : W2.frozen? ⟨m, 3, none⟩ = false := by simp [World.frozen?, pb2]
                      clear z2
                      refine wp_region_held_drew (S := (fun w' : World => w'.cell? ⟨m + 1, 2, none⟩ = some (.int .i64 y.Start) ∧ w'.cell? ⟨m + 1, 3, none⟩ = some (.int .i64 y.End))) (by kernel_rfl) (⟨n2, n3⟩) (fun hHeld => ?_)
                      refine wpAnyH_take (i := 0) (v := ?_) rfl (by kernel_rfl) (by kernel_rfl) (by kernel_rfl) (fun _ _ _ h => h) (Or.inl ⟨by rfl, ?_⟩) (by assumption) ?_
                      rotate_left
                      · intro w hSw
                        try dsimp only at hSw
                        go_split_ands
                        go_simp
                        try with_reducible rfl
                      try simp only [Act.put, List.getElem_toArray, List.getElem_cons_zero, List.getElem_cons_succ, List.setIfInBounds_toArray, List.set_cons_zero, List.set_cons_succ]
                      refine wpAnyH_take (i := 2) (v := ?_) rfl (by kernel_rfl) (by kernel_rfl) (by kernel_rfl) (fun _ _ _ h => h) (Or.inl ⟨by rfl, ?_⟩) (by assumption) ?_
                      rotate_left
                      · intro w hSw
                        try dsimp only at hSw
                        go_split_ands
                        go_simp
                        try with_reducible rfl
                      try simp only [Act.put, List.getElem_toArray, List.getElem_cons_zero, List.getElem_cons_succ, List.setIfInBounds_toArray, List.set_cons_zero, List.set_cons_succ]
                      refine wpAnyH_take (i := 3) (v := ?_) rfl (by kernel_rfl) (by kernel_rfl) (by kernel_rfl) (fun _ _ _ h => h) (Or.inl ⟨by rfl, ?_⟩) (by assumption) ?_
                      rotate_left
                      · intro w hSw
                        try dsimp only at hSw
                        go_split_ands
                        go_simp
                        try with_reducible rfl
                      try simp only [Act.put, List.getElem_toArray, List.getElem_cons_zero, List.getElem_cons_succ, List.setIfInBounds_toArray, List.set_cons_zero, List.set_cons_succ]
                      refine wpAnyH_take (i := 5) (v := ?_) rfl (by kernel_rfl) (by kernel_rfl) (by kernel_rfl) (fun _ _ _ h => h) (Or.inl ⟨by rfl, ?_⟩) (by assumption) ?_
                      rotate_left
                      · intro w hSw
                        try dsimp only at hSw
                        go_split_ands
                        go_simp
                        try with_reducible rfl
                      try simp only [Act.put, List.getElem_toArray, List.getElem_cons_zero, List.getElem_cons_succ, List.setIfInBounds_toArray, List.set_cons_zero, List.set_cons_succ]
                      refine wpAnyH_take (i := 7) (v := ?_) rfl (by kernel_rfl) (by kernel_rfl) (by kernel_rfl) (fun _ _ _ h => h) (Or.inl ⟨by rfl, ?_⟩) (by assumption) ?_
                      rotate_left
                      · intro w hSw
                        try dsimp only at hSw
                        go_split_ands
                        go_simp
                        try with_reducible rfl
                      try simp only [Act.put, List.getElem_toArray, List.getElem_cons_zero, List.getElem_cons_succ, List.setIfInBounds_toArray, List.set_cons_zero, List.set_cons_succ]
                      refine wpAnyH_take (i := 8) (v := ?_) rfl (by kernel_rfl) (by kernel_rfl) (by kernel_rfl) (fun _ _ _ h => h) (Or.inl ⟨by rfl, ?_⟩) (by assumption) ?_
                      rotate_left
                      · intro w hSw
                        try dsimp only at hSw
                        go_split_ands
                        go_simp
                        try with_reducible rfl
                      try simp only [Act.put, List.getElem_toArray, List.getElem_cons_zero, List.getElem_cons_succ, List.setIfInBounds_toArray, List.set_cons_zero, List.set_cons_succ]
                      refine wpAnyH_ready (rs := [1, 6]) (by kernel_rfl) (by simp) ?_
                      refine AllReadyH.cons rfl (fun K hK => ?_) (AllReadyH.cons rfl (fun K hK => ?_) AllReadyH.nil)
                      · clear hHeld
                        rw [if_pos (by rfl)]
                        go_simp
                        refine hK.out _ _ ⟨n2, n3⟩ (fun hHeld => ?_)
                        try simp only [Act.put, List.getElem_toArray, List.getElem_cons_zero, List.getElem_cons_succ, List.setIfInBounds_toArray, List.set_cons_zero, List.set_cons_succ]
                        refine wpAnyH_take (i := 4) (v := ?_) rfl (by kernel_rfl) (by kernel_rfl) (by kernel_rfl) (fun _ _ _ h => h) (Or.inl ⟨by rfl, ?_⟩) (by assumption) ?_
                        rotate_left
                        · intro w hSw
                          try dsimp only at hSw
                          go_split_ands
                          go_simp
                          try with_reducible rfl
                        try simp only [Act.put, List.getElem_toArray, List.getElem_cons_zero, List.getElem_cons_succ, List.setIfInBounds_toArray, List.set_cons_zero, List.set_cons_succ]
                        refine wpAnyH_ready (rs := [6]) (by kernel_rfl) (by simp) ?_
                        refine AllReadyH.cons rfl (fun K hK => ?_) AllReadyH.nil
                        clear hHeld
                        rw [if_pos (by rfl)]
                        go_simp
                        refine hK.out _ _ ⟨n2, n3⟩ (fun hHeld => ?_)
                        try simp only [Act.put, List.getElem_toArray, List.getElem_cons_zero, List.getElem_cons_succ, List.setIfInBounds_toArray, List.set_cons_zero, List.set_cons_succ]
                        refine wpAnyH_take (i := 9) (v := ?_) rfl (by kernel_rfl) (by kernel_rfl) (by kernel_rfl) (fun _ _ _ h => h) (Or.inl ⟨by rfl, ?_⟩) (by assumption) ?_
                        rotate_left
                        · intro w hSw
                          try dsimp only at hSw
                          go_split_ands
                          go_simp
                          try with_reducible rfl
                        try simp only [Act.put, List.getElem_toArray, List.getElem_cons_zero, List.getElem_cons_succ, List.setIfInBounds_toArray, List.set_cons_zero, List.set_cons_succ]
                        refine wpAnyH_take (i := 10) (v := ?_) rfl (by kernel_rfl) (by kernel_rfl) (by kernel_rfl) (fun _ _ _ h => h) (Or.inl ⟨by rfl, ?_⟩) (by assumption) ?_
                        rotate_left
                        · intro w hSw
                          try dsimp only at hSw
                          go_split_ands
                          go_simp
                          try with_reducible rfl
                        try simp only [Act.put, List.getElem_toArray, List.getElem_cons_zero, List.getElem_cons_succ, List.setIfInBounds_toArray, List.set_cons_zero, List.set_cons_succ]
                        refine wpAnyH_ready (rs := [11]) (by kernel_rfl) (by simp) ?_
                        refine AllReadyH.cons rfl (fun K hK => ?_) AllReadyH.nil
                        clear hHeld
                        rw [if_pos (by rfl)]
                        go_simp
                        refine hK.out _ _ (by go_keep) (fun hHeld => ?_)
                        try simp only [Act.put, List.getElem_toArray, List.getElem_cons_zero, List.getElem_cons_succ, List.setIfInBounds_toArray, List.set_cons_zero, List.set_cons_succ]
                        refine wpAnyH_take (i := 12) (v := ?_) rfl (by kernel_rfl) (by kernel_rfl) (by kernel_rfl) (fun _ _ _ h => h) (Or.inl ⟨by rfl, ?_⟩) (by assumption) ?_
                        rotate_left
                        · intro w hSw
                          try dsimp only at hSw
                          go_split_ands
                          go_simp
                          try with_reducible rfl
                        try simp only [Act.put, List.getElem_toArray, List.getElem_cons_zero, List.getElem_cons_succ, List.setIfInBounds_toArray, List.set_cons_zero, List.set_cons_succ]
                        refine wpAnyH_ready (rs := [13]) (by kernel_rfl) (by simp) ?_
                        refine AllReadyH.cons rfl (fun K hK => ?_) AllReadyH.nil
                        clear hHeld
                        rw [if_pos (by rfl)]
                        go_simp
                        refine hK.out _ _ (by go_keep) (fun hHeld => ?_)
                        try simp only [Act.put, List.getElem_toArray, List.getElem_cons_zero, List.getElem_cons_succ, List.setIfInBounds_toArray, List.set_cons_zero, List.set_cons_succ]
                        refine wpAnyH_done (by kernel_rfl) ?_ _
                        clear hHeld
                        obtain ⟨W3, hW3⟩ : ∃ W3, ((W2.setCell ⟨m, 2, none⟩ (.int .i64 (min x.Start y.Start))).setCell ⟨m, 3, none⟩ (.int .i64 (max x.End y.End))).drew = W3 := ⟨_, rfl⟩
                        have pb3 : W3.heap[m]? = some (.cells #[.int .i64 x.From, .int .i64 x.To, .int .i64 (min x.Start y.Start), .int .i64 (max x.End y.End), .int .i64 x.Rate, .int .i64 x.Delay] 35 (0, 0)) := by rw [← hW3]; exact Go.heap_setCell_same _ _ _ _ _ _ (Go.heap_setCell_same _ _ _ _ _ _ pb2)
                        have hNm := hbk.out.2.1
                        have x3 : Below N W0 W3 := by
                          rw [← hW3]
                          exact ⟨t1.os, t1.tape, t1.output, (by have := t1.size; show _ ≤ ((W2.setCell _ _).setCell _ _).heap.size; simpa using this), fun j hj => (Below.heap_setCell _ _ _ _ (by show j ≠ m; omega)).trans ((Below.heap_setCell _ _ _ _ (by show j ≠ m; omega)).trans (t1.block j hj))⟩
                        have ps3 : m + 2 ≤ W3.heap.size := by rw [← hW3]; show _ ≤ ((W2.setCell _ _).setCell _ _).heap.size; simpa using ps2
                        obtain ⟨z, hzz⟩ : ∃ z, W3.heap.size = z := ⟨_, rfl⟩
                        have sl0 : SL W3 (.slice (some ⟨b, o, none⟩) l.length ca) l := SL.below hv.out (Nat.le_of_eq hN) x3
                        have ow0 : (W3.alloc (.cells #[] 35)).ownsRow (m + 2) 35 6 (.slice (some ⟨z, 0, none⟩) 0 0) 0 (rowC []) := by
                          rw [← hzz]; exact World.ownsRow_made W3 #[] 0 ps3 (by unfold maxLen; omega) (by simp)
                        have hNz : N ≤ W3.heap.size := by omega
                        have x4 := x3.alloc hNz (.cells #[] 35)
                        have sl1 : SL (W3.alloc (.cells #[] 35)) (.slice (some ⟨b, o, none⟩) l.length ca) l := SL.below hv.out (Nat.le_of_eq hN) x4
                        have hz4 : (W3.alloc (.cells #[] 35)).heap.size = z + 1 := by simp [hzz]
                        have hkl2 : (l.take k).length = k := by simp; omega
                        obtain ⟨v5, W5, hrun5, ow5, g5, _⟩ := run_append_SL ow0 (sl1.take (n := k) (by omega)) (by omega) (by omega) (by omega) 22
                        obtain ⟨x5, s5, k5⟩ := grownN x4 (by omega) ow0 (by omega) g5
                        have pb5 : W5.heap[m]? = some (.cells #[.int .i64 x.From, .int .i64 x.To, .int .i64 (min x.Start y.Start), .int .i64 (max x.End y.End), .int .i64 x.Rate, .int .i64 x.Delay] 35 (0, 0)) := (k5 _ (by omega) (by omega)).trans ((Below.heap_alloc _ _ _ (by omega)).trans pb3)
                        have s5m : m + 2 ≤ W5.heap.size := by have := g5.size; omega
                        have x5d : Below N W0 W5.drew := ⟨x5.os, x5.tape, x5.output, x5.size, x5.block⟩
                        have ow5d : W5.drew.ownsRow (m + 2) 35 6 v5 (l.take k).length (rowC (l.take k)) := by
                          have := ow5
                          rw [Nat.zero_add, rowC_nil, List.nil_append] at this
                          exact this
                        have sl5 : SL W5.drew (.slice (some ⟨b, o, none⟩) l.length ca) l := SL.below hv.out (Nat.le_of_eq hN) x5d
                        obtain ⟨v6, W6, hrun6, ow6, g6, _⟩ := run_append_SL ow5d (sl5.mid (k := k + 1) (i := i) (by omega) (by omega)) (by omega) (by simp; omega) (by exact s5m) 22
                        obtain ⟨x6, s6, k6⟩ := grownN x5d (by exact s5) ow5d (by omega) g6
                        have pb6 := (k6 (m) (by show _ < W5.heap.size; omega) (by omega)).trans pb5
                        have s6m : m + 2 ≤ W6.heap.size := by have h := g6.size; have : W5.drew.heap.size = W5.heap.size := rfl; omega
                        have sl6 : SL W6 (.slice (some ⟨b, o, none⟩) l.length ca) l := SL.below hv.out (Nat.le_of_eq hN) x6
                        obtain ⟨v7, W7, hrun7, ow7, g7, _⟩ := run_append_SL ow6 (sl6.drop' (n := i + 1) (by omega)) (by simp; omega) (by simp; omega) s6m 22
                        obtain ⟨x7, s7, k7⟩ := grownN x6 s6 ow6 (by omega) g7
                        have pb7 := (k7 (m) (by omega) (by omega)).trans pb6
                        have s7m : m + 2 ≤ W7.heap.size := by have := g7.size; omega
                        obtain ⟨z7, hz7⟩ : ∃ z7, W7.heap.size = z7 := ⟨_, rfl⟩
                        obtain ⟨v8, W8, hrun8, ow8, g8, _⟩ := run_append_SL (ow7.alloc (.cells #[.int .i64 x.From, .int .i64 x.To, .int .i64 (min x.Start y.Start), .int .i64 (max x.End y.End), .int .i64 x.Rate, .int .i64 x.Delay] 35)) (SL_one hz7 (joinC x y)) (by simp; omega) (by simp) (by simp; omega) 22
                        obtain ⟨x8, s8, _⟩ := grownN (x7.alloc (by omega) _) (by simp; omega) (ow7.alloc _) (by omega) g8
                        have ow9 : W8.ownsRow N 35 6 v8 (l.take k ++ (l.drop (k + 1)).take (i - (k + 1)) ++ l.drop (i + 1) ++ [joinC x y]).length (rowC (l.take k ++ (l.drop (k + 1)).take (i - (k + 1)) ++ l.drop (i + 1) ++ [joinC x y])) := by
                          have := ow_mono ow8 (base' := N) (by omega)
                          rw [← List.length_append, ← List.length_append, ← List.length_append, ← rowC_append, ← rowC_append, ← rowC_append] at this
                          exact this
                        obtain ⟨p0, p1', p2', p3, p4, p5⟩ : W7.cell? ⟨m, 0, none⟩ = some (.int .i64 x.From) ∧ W7.cell? ⟨m, 1, none⟩ = some (.int .i64 x.To) ∧ W7.cell? ⟨m, 2, none⟩ = some (.int .i64 (min x.Start y.Start)) ∧ W7.cell? ⟨m, 3, none⟩ = some (.int .i64 (max x.End y.End)) ∧ W7.cell? ⟨m, 4, none⟩ = some (.int .i64 x.Rate) ∧ W7.cell? ⟨m, 5, none⟩ = some (.int .i64 x.Delay) := by simp [World.cell?, pb7]
                        obtain ⟨hJ⟩ : Nonempty (Shut (JD l (l.take k ++ (l.drop (k + 1)).take (i - (k + 1)) ++ l.drop (i + 1) ++ [joinC x y], true))) := ⟨.inr ⟨k, i, x, y, hki, hx, hy, ⟨⟨hpS.out.1, hpS.out.2, hrS.out.1, hrS.out.2⟩, by omega, by omega⟩, fun k' i' x' y' q1 q2 q3 q4 => by
                          rcases q2 with q2 | ⟨rfl, q2⟩
                          · exact hno.out k' i' x' y' q1 q2 q3 q4
                          · rw [hy] at q4; cases q4
                            exact hnk k' x' q2 q3, rfl⟩⟩
                        obtain ⟨hE⟩ : Nonempty (Shut (Below N W0 W8)) := ⟨x8⟩
                        have hb1 : (k : Int) + 1 ≤ (i : Int) := by omega
                        have hb2 : (i : Int) ≤ (ca : Int) := by omega
                        have hb3 : (i : Int) + 1 ≤ (l.length : Int) := by omega
                        have hb4 : (l.length : Int) ≤ (ca : Int) := by omega
                        have hb5 : (0 : Int) ≤ (k : Int) + 1 := by omega
                        have hb6 : (0 : Int) ≤ (i : Int) + 1 := by omega
                        have hca : ¬ ca = k + 1 := by omega
                        rw [hW3]
                        clear hW3 pb2 ps2 t1 t2 x3 x4 sl1 ow0 g5 k5 x5 s5 ow5 pb3 pb5 x5d sl5 x6 s6 k6 g6 pb6 sl6 x7 s7 k7 g7 pb7 ow6 ow5d x8 g8 ow8 hnk hno
                        go_wp2_with (at_builtin; go_loud (refine Lib.wpList_append_run _ rfl _ _ _ _ rfl _ _ rfl rfl _ _ hrun5 ?_))
                        refine wp_region_held_drew (S := (fun _ : World => True)) (by kernel_rfl) trivial (fun hHeld => ?_)
                        refine wpAnyH_take (i := 0) (v := ?_) rfl (by kernel_rfl) (by kernel_rfl) (by kernel_rfl) (fun _ _ _ h => h) (Or.inl ⟨by rfl, ?_⟩) (by assumption) ?_
                        rotate_left
                        · intro w hSw
                          try dsimp only at hSw
                          go_split_ands
                          go_simp
                          try with_reducible rfl
                        try simp only [Act.put, List.getElem_toArray, List.getElem_cons_zero, List.getElem_cons_succ, List.setIfInBounds_toArray, List.set_cons_zero, List.set_cons_succ]
                        refine wpAnyH_take (i := 1) (v := ?_) rfl (by kernel_rfl) (by kernel_rfl) (by kernel_rfl) (fun _ _ _ h => h) (Or.inl ⟨by rfl, ?_⟩) (by assumption) ?_
                        rotate_left
                        · intro w hSw
                          try dsimp only at hSw
                          go_split_ands
                          go_simp
                          try with_reducible rfl
                        try simp only [Act.put, List.getElem_toArray, List.getElem_cons_zero, List.getElem_cons_succ, List.setIfInBounds_toArray, List.set_cons_zero, List.set_cons_succ]
                        refine wpAnyH_take (i := 2) (v := ?_) rfl (by kernel_rfl) (by kernel_rfl) (by kernel_rfl) (fun _ _ _ h => h) (Or.inl ⟨by rfl, ?_⟩) (by assumption) ?_
                        rotate_left
                        · intro w hSw
                          try dsimp only at hSw
                          go_split_ands
                          go_simp
                          try with_reducible rfl
                        try simp only [Act.put, List.getElem_toArray, List.getElem_cons_zero, List.getElem_cons_succ, List.setIfInBounds_toArray, List.set_cons_zero, List.set_cons_succ]
                        refine wpAnyH_take (i := 3) (v := ?_) rfl (by kernel_rfl) (by kernel_rfl) (by kernel_rfl) (fun _ _ _ h => h) (Or.inl ⟨by rfl, ?_⟩) (by assumption) ?_
                        rotate_left
                        · intro w hSw
                          try dsimp only at hSw
                          go_split_ands
                          go_simp
                          try with_reducible rfl
                        try simp only [Act.put, List.getElem_toArray, List.getElem_cons_zero, List.getElem_cons_succ, List.setIfInBounds_toArray, List.set_cons_zero, List.set_cons_succ]
                        refine wpAnyH_take (i := 4) (v := ?_) rfl (by kernel_rfl) (by kernel_rfl) (by kernel_rfl) (fun _ _ _ h => h) (Or.inl ⟨by rfl, ?_⟩) (by assumption) ?_
                        rotate_left
                        · intro w hSw
                          try dsimp only at hSw
                          go_split_ands
                          go_simp
                          try with_reducible rfl
                        try simp only [Act.put, List.getElem_toArray, List.getElem_cons_zero, List.getElem_cons_succ, List.setIfInBounds_toArray, List.set_cons_zero, List.set_cons_succ]
                        refine wpAnyH_take (i := 5) (v := ?_) rfl (by kernel_rfl) (by kernel_rfl) (by kernel_rfl) (fun _ _ _ h => h) (Or.inl ⟨by rfl, ?_⟩) (by assumption) ?_
                        rotate_left
                        · intro w hSw
                          try dsimp only at hSw
                          go_split_ands
                          go_simp
                          try with_reducible rfl
                        try simp only [Act.put, List.getElem_toArray, List.getElem_cons_zero, List.getElem_cons_succ, List.setIfInBounds_toArray, List.set_cons_zero, List.set_cons_succ]
                        refine wpAnyH_take (i := 7) (v := ?_) rfl (by kernel_rfl) (by kernel_rfl) (by kernel_rfl) (fun _ _ _ h => h) (Or.inl ⟨by rfl, ?_⟩) (by assumption) ?_
                        rotate_left
                        · intro w hSw
                          try dsimp only at hSw
                          go_split_ands
                          go_simp
                          try with_reducible rfl
                        try simp only [Act.put, List.getElem_toArray, List.getElem_cons_zero, List.getElem_cons_succ, List.setIfInBounds_toArray, List.set_cons_zero, List.set_cons_succ]
                        refine wpAnyH_take (i := 8) (v := ?_) rfl (by kernel_rfl) (by kernel_rfl) (by kernel_rfl) (fun _ _ _ h => h) (Or.inl ⟨by rfl, ?_⟩) (by assumption) ?_
                        rotate_left
                        · intro w hSw
                          try dsimp only at hSw
                          go_split_ands
                          go_simp
                          try with_reducible rfl
                        try simp only [Act.put, List.getElem_toArray, List.getElem_cons_zero, List.getElem_cons_succ, List.setIfInBounds_toArray, List.set_cons_zero, List.set_cons_succ]
                        refine wpAnyH_take (i := 9) (v := ?_) rfl (by kernel_rfl) (by kernel_rfl) (by kernel_rfl) (fun _ _ _ h => h) (Or.inl ⟨by rfl, ?_⟩) (by assumption) ?_
                        rotate_left
                        · intro w hSw
                          try dsimp only at hSw
                          go_split_ands
                          go_simp
                          try with_reducible rfl
                        try simp only [Act.put, List.getElem_toArray, List.getElem_cons_zero, List.getElem_cons_succ, List.setIfInBounds_toArray, List.set_cons_zero, List.set_cons_succ]
                        refine wpAnyH_take (i := 10) (v := ?_) rfl (by kernel_rfl) (by kernel_rfl) (by kernel_rfl) (fun _ _ _ h => h) (Or.inl ⟨by rfl, ?_⟩) (by assumption) ?_
                        rotate_left
                        · intro w hSw
                          try dsimp only at hSw
                          go_split_ands
                          go_simp
                          try with_reducible rfl
                        try simp only [Act.put, List.getElem_toArray, List.getElem_cons_zero, List.getElem_cons_succ, List.setIfInBounds_toArray, List.set_cons_zero, List.set_cons_succ]
                        refine wpAnyH_ready (rs := [6]) (by kernel_rfl) (by simp) ?_
                        refine AllReadyH.cons rfl (fun K hK => ?_) AllReadyH.nil
                        clear hHeld
                        rw [if_pos (by rfl)]
                        refine Lib.wp_append_run _ _ _ _ _ (by rfl) _ _ (by rfl) (by rfl) _ _ hrun6 ?_
                        refine hK.out _ _ trivial (fun hHeld => ?_)
                        try simp only [Act.put, List.getElem_toArray, List.getElem_cons_zero, List.getElem_cons_succ, List.setIfInBounds_toArray, List.set_cons_zero, List.set_cons_succ]
                        refine wpAnyH_ready (rs := [11]) (by kernel_rfl) (by simp) ?_
                        refine AllReadyH.cons rfl (fun K hK => ?_) AllReadyH.nil
                        clear hHeld
                        rw [if_pos (by rfl)]
                        refine Lib.wp_append_run _ _ _ _ _ (by rfl) _ _ (by rfl) (by rfl) _ _ hrun7 ?_
                        refine hK.out _ _ trivial (fun hHeld => ?_)
                        try simp only [Act.put, List.getElem_toArray, List.getElem_cons_zero, List.getElem_cons_succ, List.setIfInBounds_toArray, List.set_cons_zero, List.set_cons_succ]
                        refine wpAnyH_take (i := 12) (v := ?_) rfl (by kernel_rfl) (by kernel_rfl) (by kernel_rfl) (fun _ _ _ h => h) (Or.inl ⟨by rfl, ?_⟩) (by assumption) ?_
                        rotate_left
                        · intro w hSw
                          try dsimp only at hSw
                          go_split_ands
                          go_simp
                          try with_reducible rfl
                        try simp only [Act.put, List.getElem_toArray, List.getElem_cons_zero, List.getElem_cons_succ, List.setIfInBounds_toArray, List.set_cons_zero, List.set_cons_succ]
                        refine wpAnyH_done (by kernel_rfl) ?_ _
                        clear hHeld
                        go_wp2_with (at_builtin; go_loud (refine Lib.wpList_append_run _ rfl _ _ _ _ rfl _ _ rfl rfl _ _ hrun8 ?_))
                        all_goals go_ret2
                        all_goals exact ⟨_, .inr ⟨hJ.out, _, rfl, hE.out, ow9⟩⟩
                      · clear hHeld
                        rw [if_pos (by rfl)]
                        go_simp
                        refine hK.out _ _ ⟨n2, n3⟩ (fun hHeld => ?_)
                        try simp only [Act.put, List.getElem_toArray, List.getElem_cons_zero, List.getElem_cons_succ, List.setIfInBounds_toArray, List.set_cons_zero, List.set_cons_succ]
                        refine wpAnyH_take (i := 9) (v := ?_) rfl (by kernel_rfl) (by kernel_rfl) (by kernel_rfl) (fun _ _ _ h => h) (Or.inl ⟨by rfl, ?_⟩) (by assumption) ?_
                        rotate_left
                        · intro w hSw
                          try dsimp only at hSw
                          go_split_ands
                          go_simp
                          try with_reducible rfl
                        try simp only [Act.put, List.getElem_toArray, List.getElem_cons_zero, List.getElem_cons_succ, List.setIfInBounds_toArray, List.set_cons_zero, List.set_cons_succ]
                        refine wpAnyH_ready (rs := [1]) (by kernel_rfl) (by simp) ?_
                        refine AllReadyH.cons rfl (fun K hK => ?_) AllReadyH.nil
                        clear hHeld
                        rw [if_pos (by rfl)]
                        go_simp
                        refine hK.out _ _ ⟨n2, n3⟩ (fun hHeld => ?_)
                        try simp only [Act.put, List.getElem_toArray, List.getElem_cons_zero, List.getElem_cons_succ, List.setIfInBounds_toArray, List.set_cons_zero, List.set_cons_succ]
                        refine wpAnyH_take (i := 4) (v := ?_) rfl (by kernel_rfl) (by kernel_rfl) (by kernel_rfl) (fun _ _ _ h => h) (Or.inl ⟨by rfl, ?_⟩) (by assumption) ?_
                        rotate_left
                        · intro w hSw
                          try dsimp only at hSw
                          go_split_ands
                          go_simp
                          try with_reducible rfl
                        try simp only [Act.put, List.getElem_toArray, List.getElem_cons_zero, List.getElem_cons_succ, List.setIfInBounds_toArray, List.set_cons_zero, List.set_cons_succ]
                        refine wpAnyH_take (i := 10) (v := ?_) rfl (by kernel_rfl) (by kernel_rfl) (by kernel_rfl) (fun _ _ _ h => h) (Or.inl ⟨by rfl, ?_⟩) (by assumption) ?_
                        rotate_left
                        · intro w hSw
                          try dsimp only at hSw
                          go_split_ands
                          go_simp
                          try with_reducible rfl
                        try simp only [Act.put, List.getElem_toArray, List.getElem_cons_zero, List.getElem_cons_succ, List.setIfInBounds_toArray, List.set_cons_zero, List.set_cons_succ]
                        refine wpAnyH_ready (rs := [11]) (by kernel_rfl) (by simp) ?_
                        refine AllReadyH.cons rfl (fun K hK => ?_) AllReadyH.nil
                        clear hHeld
                        rw [if_pos (by rfl)]
                        go_simp
                        refine hK.out _ _ (by go_keep) (fun hHeld => ?_)
                        try simp only [Act.put, List.getElem_toArray, List.getElem_cons_zero, List.getElem_cons_succ, List.setIfInBounds_toArray, List.set_cons_zero, List.set_cons_succ]
                        refine wpAnyH_take (i := 12) (v := ?_) rfl (by kernel_rfl) (by kernel_rfl) (by kernel_rfl) (fun _ _ _ h => h) (Or.inl ⟨by rfl, ?_⟩) (by assumption) ?_
                        rotate_left
                        · intro w hSw
                          try dsimp only at hSw
                          go_split_ands
                          go_simp
                          try with_reducible rfl
                        try simp only [Act.put, List.getElem_toArray, List.getElem_cons_zero, List.getElem_cons_succ, List.setIfInBounds_toArray, List.set_cons_zero, List.set_cons_succ]
                        refine wpAnyH_ready (rs := [13]) (by kernel_rfl) (by simp) ?_
                        refine AllReadyH.cons rfl (fun K hK => ?_) AllReadyH.nil
                        clear hHeld
                        rw [if_pos (by rfl)]
                        go_simp
                        refine hK.out _ _ (by go_keep) (fun hHeld => ?_)
                        try simp only [Act.put, List.getElem_toArray, List.getElem_cons_zero, List.getElem_cons_succ, List.setIfInBounds_toArray, List.set_cons_zero, List.set_cons_succ]
                        refine wpAnyH_done (by kernel_rfl) ?_ _
                        clear hHeld
                        obtain ⟨W3, hW3⟩ : ∃ W3, ((W2.setCell ⟨m, 2, none⟩ (.int .i64 (min x.Start y.Start))).setCell ⟨m, 3, none⟩ (.int .i64 (max x.End y.End))).drew = W3 := ⟨_, rfl⟩
                        have pb3 : W3.heap[m]? = some (.cells #[.int .i64 x.From, .int .i64 x.To, .int .i64 (min x.Start y.Start), .int .i64 (max x.End y.End), .int .i64 x.Rate, .int .i64 x.Delay] 35 (0, 0)) := by rw [← hW3]; exact Go.heap_setCell_same _ _ _ _ _ _ (Go.heap_setCell_same _ _ _ _ _ _ pb2)
                        have hNm := hbk.out.2.1
                        have x3 : Below N W0 W3 := by
                          rw [← hW3]
                          exact ⟨t1.os, t1.tape, t1.output, (by have := t1.size; show _ ≤ ((W2.setCell _ _).setCell _ _).heap.size; simpa using this), fun j hj => (Below.heap_setCell _ _ _ _ (by show j ≠ m; omega)).trans ((Below.heap_setCell _ _ _ _ (by show j ≠ m; omega)).trans (t1.block j hj))⟩
                        have ps3 : m + 2 ≤ W3.heap.size := by rw [← hW3]; show _ ≤ ((W2.setCell _ _).setCell _ _).heap.size; simpa using ps2
                        obtain ⟨z, hzz⟩ : ∃ z, W3.heap.size = z := ⟨_, rfl⟩
                        have sl0 : SL W3 (.slice (some ⟨b, o, none⟩) l.length ca) l := SL.below hv.out (Nat.le_of_eq hN) x3
                        have ow0 : (W3.alloc (.cells #[] 35)).ownsRow (m + 2) 35 6 (.slice (some ⟨z, 0, none⟩) 0 0) 0 (rowC []) := by
                          rw [← hzz]; exact World.ownsRow_made W3 #[] 0 ps3 (by unfold maxLen; omega) (by simp)
                        have hNz : N ≤ W3.heap.size := by omega
                        have x4 := x3.alloc hNz (.cells #[] 35)
                        have sl1 : SL (W3.alloc (.cells #[] 35)) (.slice (some ⟨b, o, none⟩) l.length ca) l := SL.below hv.out (Nat.le_of_eq hN) x4
                        have hz4 : (W3.alloc (.cells #[] 35)).heap.size = z + 1 := by simp [hzz]
                        have hkl2 : (l.take k).length = k := by simp; omega
                        obtain ⟨v5, W5, hrun5, ow5, g5, _⟩ := run_append_SL ow0 (sl1.take (n := k) (by omega)) (by omega) (by omega) (by omega) 22
                        obtain ⟨x5, s5, k5⟩ := grownN x4 (by omega) ow0 (by omega) g5
                        have pb5 : W5.heap[m]? = some (.cells #[.int .i64 x.From, .int .i64 x.To, .int .i64 (min x.Start y.Start), .int .i64 (max x.End y.End), .int .i64 x.Rate, .int .i64 x.Delay] 35 (0, 0)) := (k5 _ (by omega) (by omega)).trans ((Below.heap_alloc _ _ _ (by omega)).trans pb3)
                        have s5m : m + 2 ≤ W5.heap.size := by have := g5.size; omega
                        have x5d : Below N W0 W5.drew := ⟨x5.os, x5.tape, x5.output, x5.size, x5.block⟩
                        have ow5d : W5.drew.ownsRow (m + 2) 35 6 v5 (l.take k).length (rowC (l.take k)) := by
                          have := ow5
                          rw [Nat.zero_add, rowC_nil, List.nil_append] at this
                          exact this
                        have sl5 : SL W5.drew (.slice (some ⟨b, o, none⟩) l.length ca) l := SL.below hv.out (Nat.le_of_eq hN) x5d
                        obtain ⟨v6, W6, hrun6, ow6, g6, _⟩ := run_append_SL ow5d (sl5.mid (k := k + 1) (i := i) (by omega) (by omega)) (by omega) (by simp; omega) (by exact s5m) 22
                        obtain ⟨x6, s6, k6⟩ := grownN x5d (by exact s5) ow5d (by omega) g6
                        have pb6 := (k6 (m) (by show _ < W5.heap.size; omega) (by omega)).trans pb5
                        have s6m : m + 2 ≤ W6.heap.size := by have h := g6.size; have : W5.drew.heap.size = W5.heap.size := rfl; omega
                        have sl6 : SL W6 (.slice (some ⟨b, o, none⟩) l.length ca) l := SL.below hv.out (Nat.le_of_eq hN) x6
                        obtain ⟨v7, W7, hrun7, ow7, g7, _⟩ := run_append_SL ow6 (sl6.drop' (n := i + 1) (by omega)) (by simp; omega) (by simp; omega) s6m 22
                        obtain ⟨x7, s7, k7⟩ := grownN x6 s6 ow6 (by omega) g7
                        have pb7 := (k7 (m) (by omega) (by omega)).trans pb6
                        have s7m : m + 2 ≤ W7.heap.size := by have := g7.size; omega
                        obtain ⟨z7, hz7⟩ : ∃ z7, W7.heap.size = z7 := ⟨_, rfl⟩
                        obtain ⟨v8, W8, hrun8, ow8, g8, _⟩ := run_append_SL (ow7.alloc (.cells #[.int .i64 x.From, .int .i64 x.To, .int .i64 (min x.Start y.Start), .int .i64 (max x.End y.End), .int .i64 x.Rate, .int .i64 x.Delay] 35)) (SL_one hz7 (joinC x y)) (by simp; omega) (by simp) (by simp; omega) 22
                        obtain ⟨x8, s8, _⟩ := grownN (x7.alloc (by omega) _) (by simp; omega) (ow7.alloc _) (by omega) g8
                        have ow9 : W8.ownsRow N 35 6 v8 (l.take k ++ (l.drop (k + 1)).take (i - (k + 1)) ++ l.drop (i + 1) ++ [joinC x y]).length (rowC (l.take k ++ (l.drop (k + 1)).take (i - (k + 1)) ++ l.drop (i + 1) ++ [joinC x y])) := by
                          have := ow_mono ow8 (base' := N) (by omega)
                          rw [← List.length_append, ← List.length_append, ← List.length_append, ← rowC_append, ← rowC_append, ← rowC_append] at this
                          exact this
                        obtain ⟨p0, p1', p2', p3, p4, p5⟩ : W7.cell? ⟨m, 0, none⟩ = some (.int .i64 x.From) ∧ W7.cell? ⟨m, 1, none⟩ = some (.int .i64 x.To) ∧ W7.cell? ⟨m, 2, none⟩ = some (.int .i64 (min x.Start y.Start)) ∧ W7.cell? ⟨m, 3, none⟩ = some (.int .i64 (max x.End y.End)) ∧ W7.cell? ⟨m, 4, none⟩ = some (.int .i64 x.Rate) ∧ W7.cell? ⟨m, 5, none⟩ = some (.int .i64 x.Delay) := by simp [World.cell?, pb7]
                        obtain ⟨hJ⟩ : Nonempty (Shut (JD l (l.take k ++ (l.drop (k + 1)).take (i - (k + 1)) ++ l.drop (i + 1) ++ [joinC x y], true))) := ⟨.inr ⟨k, i, x, y, hki, hx, hy, ⟨⟨hpS.out.1, hpS.out.2, hrS.out.1, hrS.out.2⟩, by omega, by omega⟩, fun k' i' x' y' q1 q2 q3 q4 => by
                          rcases q2 with q2 | ⟨rfl, q2⟩
                          · exact hno.out k' i' x' y' q1 q2 q3 q4
                          · rw [hy] at q4; cases q4
                            exact hnk k' x' q2 q3, rfl⟩⟩
                        obtain ⟨hE⟩ : Nonempty (Shut (Below N W0 W8)) := ⟨x8⟩
                        have hb1 : (k : Int) + 1 ≤ (i : Int) := by omega
                        have hb2 : (i : Int) ≤ (ca : Int) := by omega
                        have hb3 : (i : Int) + 1 ≤ (l.length : Int) := by omega
                        have hb4 : (l.length : Int) ≤ (ca : Int) := by omega
                        have hb5 : (0 : Int) ≤ (k : Int) + 1 := by omega
                        have hb6 : (0 : Int) ≤ (i : Int) + 1 := by omega
                        have hca : ¬ ca = k + 1 := by omega
                        rw [hW3]
                        clear hW3 pb2 ps2 t1 t2 x3 x4 sl1 ow0 g5 k5 x5 s5 ow5 pb3 pb5 x5d sl5 x6 s6 k6 g6 pb6 sl6 x7 s7 k7 g7 pb7 ow6 ow5d x8 g8 ow8 hnk hno
                        go_wp2_with (at_builtin; go_loud (refine Lib.wpList_append_run _ rfl _ _ _ _ rfl _ _ rfl rfl _ _ hrun5 ?_))
                        refine wp_region_held_drew (S := (fun _ : World => True)) (by kernel_rfl) trivial (fun hHeld => ?_)
                        refine wpAnyH_take (i := 0) (v := ?_) rfl (by kernel_rfl) (by kernel_rfl) (by kernel_rfl) (fun _ _ _ h => h) (Or.inl ⟨by rfl, ?_⟩) (by assumption) ?_
                        rotate_left
                        · intro w hSw
                          try dsimp only at hSw
                          go_split_ands
                          go_simp
                          try with_reducible rfl
                        try simp only [Act.put, List.getElem_toArray, List.getElem_cons_zero, List.getElem_cons_succ, List.setIfInBounds_toArray, List.set_cons_zero, List.set_cons_succ]
                        refine wpAnyH_take (i := 1) (v := ?_) rfl (by kernel_rfl) (by kernel_rfl) (by kernel_rfl) (fun _ _ _ h => h) (Or.inl ⟨by rfl, ?_⟩) (by assumption) ?_
                        rotate_left
                        · intro w hSw
                          try dsimp only at hSw
                          go_split_ands
                          go_simp
                          try with_reducible rfl
                        try simp only [Act.put, List.getElem_toArray, List.getElem_cons_zero, List.getElem_cons_succ, List.setIfInBounds_toArray, List.set_cons_zero, List.set_cons_succ]
                        refine wpAnyH_take (i := 2) (v := ?_) rfl (by kernel_rfl) (by kernel_rfl) (by kernel_rfl) (fun _ _ _ h => h) (Or.inl ⟨by rfl, ?_⟩) (by assumption) ?_
                        rotate_left
                        · intro w hSw
                          try dsimp only at hSw
                          go_split_ands
                          go_simp
                          try with_reducible rfl
                        try simp only [Act.put, List.getElem_toArray, List.getElem_cons_zero, List.getElem_cons_succ, List.setIfInBounds_toArray, List.set_cons_zero, List.set_cons_succ]
                        refine wpAnyH_take (i := 3) (v := ?_) rfl (by kernel_rfl) (by kernel_rfl) (by kernel_rfl) (fun _ _ _ h => h) (Or.inl ⟨by rfl, ?_⟩) (by assumption) ?_
                        rotate_left
                        · intro w hSw
                          try dsimp only at hSw
                          go_split_ands
                          go_simp
                          try with_reducible rfl
                        try simp only [Act.put, List.getElem_toArray, List.getElem_cons_zero, List.getElem_cons_succ, List.setIfInBounds_toArray, List.set_cons_zero, List.set_cons_succ]
                        refine wpAnyH_take (i := 4) (v := ?_) rfl (by kernel_rfl) (by kernel_rfl) (by kernel_rfl) (fun _ _ _ h => h) (Or.inl ⟨by rfl, ?_⟩) (by assumption) ?_
                        rotate_left
                        · intro w hSw
                          try dsimp only at hSw
                          go_split_ands
                          go_simp
                          try with_reducible rfl
                        try simp only [Act.put, List.getElem_toArray, List.getElem_cons_zero, List.getElem_cons_succ, List.setIfInBounds_toArray, List.set_cons_zero, List.set_cons_succ]
                        refine wpAnyH_take (i := 5) (v := ?_) rfl (by kernel_rfl) (by kernel_rfl) (by kernel_rfl) (fun _ _ _ h => h) (Or.inl ⟨by rfl, ?_⟩) (by assumption) ?_
                        rotate_left
                        · intro w hSw
                          try dsimp only at hSw
                          go_split_ands
                          go_simp
                          try with_reducible rfl
                        try simp only [Act.put, List.getElem_toArray, List.getElem_cons_zero, List.getElem_cons_succ, List.setIfInBounds_toArray, List.set_cons_zero, List.set_cons_succ]
                        refine wpAnyH_take (i := 7) (v := ?_) rfl (by kernel_rfl) (by kernel_rfl) (by kernel_rfl) (fun _ _ _ h => h) (Or.inl ⟨by rfl, ?_⟩) (by assumption) ?_
                        rotate_left
                        · intro w hSw
                          try dsimp only at hSw
                          go_split_ands
                          go_simp
                          try with_reducible rfl
                        try simp only [Act.put, List.getElem_toArray, List.getElem_cons_zero, List.getElem_cons_succ, List.setIfInBounds_toArray, List.set_cons_zero, List.set_cons_succ]
                        refine wpAnyH_take (i := 8) (v := ?_) rfl (by kernel_rfl) (by kernel_rfl) (by kernel_rfl) (fun _ _ _ h => h) (Or.inl ⟨by rfl, ?_⟩) (by assumption) ?_
                        rotate_left
                        · intro w hSw
                          try dsimp only at hSw
                          go_split_ands
                          go_simp
                          try with_reducible rfl
                        try simp only [Act.put, List.getElem_toArray, List.getElem_cons_zero, List.getElem_cons_succ, List.setIfInBounds_toArray, List.set_cons_zero, List.set_cons_succ]
                        refine wpAnyH_take (i := 9) (v := ?_) rfl (by kernel_rfl) (by kernel_rfl) (by kernel_rfl) (fun _ _ _ h => h) (Or.inl ⟨by rfl, ?_⟩) (by assumption) ?_
                        rotate_left
                        · intro w hSw
                          try dsimp only at hSw
                          go_split_ands
                          go_simp
                          try with_reducible rfl
                        try simp only [Act.put, List.getElem_toArray, List.getElem_cons_zero, List.getElem_cons_succ, List.setIfInBounds_toArray, List.set_cons_zero, List.set_cons_succ]
                        refine wpAnyH_take (i := 10) (v := ?_) rfl (by kernel_rfl) (by kernel_rfl) (by kernel_rfl) (fun _ _ _ h => h) (Or.inl ⟨by rfl, ?_⟩) (by assumption) ?_
                        rotate_left
                        · intro w hSw
                          try dsimp only at hSw
                          go_split_ands
                          go_simp
                          try with_reducible rfl
                        try simp only [Act.put, List.getElem_toArray, List.getElem_cons_zero, List.getElem_cons_succ, List.setIfInBounds_toArray, List.set_cons_zero, List.set_cons_succ]
                        refine wpAnyH_ready (rs := [6]) (by kernel_rfl) (by simp) ?_
                        refine AllReadyH.cons rfl (fun K hK => ?_) AllReadyH.nil
                        clear hHeld
                        rw [if_pos (by rfl)]
                        refine Lib.wp_append_run _ _ _ _ _ (by rfl) _ _ (by rfl) (by rfl) _ _ hrun6 ?_
                        refine hK.out _ _ trivial (fun hHeld => ?_)
                        try simp only [Act.put, List.getElem_toArray, List.getElem_cons_zero, List.getElem_cons_succ, List.setIfInBounds_toArray, List.set_cons_zero, List.set_cons_succ]
                        refine wpAnyH_ready (rs := [11]) (by kernel_rfl) (by simp) ?_
                        refine AllReadyH.cons rfl (fun K hK => ?_) AllReadyH.nil
                        clear hHeld
                        rw [if_pos (by rfl)]
                        refine Lib.wp_append_run _ _ _ _ _ (by rfl) _ _ (by rfl) (by rfl) _ _ hrun7 ?_
                        refine hK.out _ _ trivial (fun hHeld => ?_)
                        try simp only [Act.put, List.getElem_toArray, List.getElem_cons_zero, List.getElem_cons_succ, List.setIfInBounds_toArray, List.set_cons_zero, List.set_cons_succ]
                        refine wpAnyH_take (i := 12) (v := ?_) rfl (by kernel_rfl) (by kernel_rfl) (by kernel_rfl) (fun _ _ _ h => h) (Or.inl ⟨by rfl, ?_⟩) (by assumption) ?_
                        rotate_left
                        · intro w hSw
                          try dsimp only at hSw
                          go_split_ands
                          go_simp
                          try with_reducible rfl
                        try simp only [Act.put, List.getElem_toArray, List.getElem_cons_zero, List.getElem_cons_succ, List.setIfInBounds_toArray, List.set_cons_zero, List.set_cons_succ]
                        refine wpAnyH_done (by kernel_rfl) ?_ _
                        clear hHeld
                        go_wp2_with (at_builtin; go_loud (refine Lib.wpList_append_run _ rfl _ _ _ _ rfl _ _ rfl rfl _ _ hrun8 ?_))
                        all_goals go_ret2
                        all_goals exact ⟨_, .inr ⟨hJ.out, _, rfl, hE.out, ow9⟩⟩
                · have hdb : (x.Delay != y.Delay) = true := bne_iff_ne.2 hd
                  have hrb : (x.Rate != y.Rate) = false := bne_eq_false_iff_eq.2 hr
                  obtain ⟨hdS⟩ : Nonempty (Shut (¬ x.Delay = y.Delay)) := ⟨hd⟩
                  clear hr hd
                  go_wp2_with (go_at_call 27; go_loud (refine (pair_in x y hpb _).mono ?_); rintro e W2 ⟨rfl, z2⟩; have hp2 := (z2.block (m) (by omega)).trans hbk.out.2.2.1; have hq2 := (z2.block (m + 1) (by omega)).trans hbk.out.2.2.2; obtain ⟨m0, m1, m2, m3, m4, m5⟩ := cells6 hp2; obtain ⟨n0, n1, n2, n3, n4, n5⟩ := cells6 hq2; clear hp2 hq2)
                  obtain ⟨t1, t2⟩ := stop.out _ z2
                  refine ⟨⟨k + 1, rfl, hki, next.out (fun h => hdS.out h.1.2.2.2), t1, t2⟩, ?_⟩
                  simp only [RowKit.intOf]
                  omega
              · have hrb : (x.Rate != y.Rate) = true := bne_iff_ne.2 hr
                obtain ⟨hrS⟩ : Nonempty (Shut (¬ x.Rate = y.Rate)) := ⟨hr⟩
                clear hr
                go_wp2_with (go_at_call 27; go_loud (refine (pair_in x y hpb _).mono ?_); rintro e W2 ⟨rfl, z2⟩; have hp2 := (z2.block (m) (by omega)).trans hbk.out.2.2.1; have hq2 := (z2.block (m + 1) (by omega)).trans hbk.out.2.2.2; obtain ⟨m0, m1, m2, m3, m4, m5⟩ := cells6 hp2; obtain ⟨n0, n1, n2, n3, n4, n5⟩ := cells6 hq2; clear hp2 hq2)
                obtain ⟨t1, t2⟩ := stop.out _ z2
                refine ⟨⟨k + 1, rfl, hki, next.out (fun h => hrS.out h.1.2.2.1), t1, t2⟩, ?_⟩
                simp only [RowKit.intOf]
                omega
            · have hpb : decide (x.From = y.From ∧ x.To = y.To) = false := decide_eq_false hp
              obtain ⟨hpS⟩ : Nonempty (Shut (¬ (x.From = y.From ∧ x.To = y.To))) := ⟨hp⟩
              clear hp
              go_wp2_with (go_at_call 27; go_loud (refine (pair_in x y hpb _).mono ?_); rintro e W2 ⟨rfl, z2⟩; have hp2 := (z2.block (m) (by omega)).trans hbk.out.2.2.1; have hq2 := (z2.block (m + 1) (by omega)).trans hbk.out.2.2.2; obtain ⟨m0, m1, m2, m3, m4, m5⟩ := cells6 hp2; obtain ⟨n0, n1, n2, n3, n4, n5⟩ := cells6 hq2; clear hp2 hq2)
              obtain ⟨t1, t2⟩ := stop.out _ z2
              refine ⟨⟨k + 1, rfl, hki, next.out (fun h => hpS.out ⟨h.1.1, h.1.2.1⟩), t1, t2⟩, ?_⟩
              simp only [RowKit.intOf]
              omega
          · obtain ⟨W1, hW1⟩ : ∃ W1, ((wr.alloc (.cells #[.int .i64 y.From, .int .i64 y.To, .int .i64 y.Start, .int .i64 y.End, .int .i64 y.Rate, .int .i64 y.Delay] 35)).alloc (.cells #[.int .i64 x.From, .int .i64 x.To, .int .i64 x.Start, .int .i64 x.End, .int .i64 x.Rate, .int .i64 x.Delay] 35)).drew = W1 := ⟨_, rfl⟩
            have g0 : W1.heap[m]? = some (.cells #[.int .i64 y.From, .int .i64 y.To, .int .i64 y.Start, .int .i64 y.End, .int .i64 y.Rate, .int .i64 y.Delay] 35 (0, 0)) := by rw [← hW1]; exact (Below.heap_alloc _ _ _ (by simp [hm])).trans (by rw [← hm]; exact (MapKept.heap_alloc wr _).1)
            have g1 : W1.heap[m + 1]? = some (.cells #[.int .i64 x.From, .int .i64 x.To, .int .i64 x.Start, .int .i64 x.End, .int .i64 x.Rate, .int .i64 x.Delay] 35 (0, 0)) := by
              rw [← hW1]
              have := (MapKept.heap_alloc (wr.alloc (.cells #[.int .i64 y.From, .int .i64 y.To, .int .i64 y.Start, .int .i64 y.End, .int .i64 y.Rate, .int .i64 y.Delay] 35)) (.cells #[.int .i64 x.From, .int .i64 x.To, .int .i64 x.Start, .int .i64 x.End, .int .i64 x.Rate, .int .i64 x.Delay] 35)).1
              rw [show (wr.alloc (.cells #[.int .i64 y.From, .int .i64 y.To, .int .i64 y.Start, .int .i64 y.End, .int .i64 y.Rate, .int .i64 y.Delay] 35)).heap.size = m + 1 by simp [hm]] at this
              exact this
            have hs3 : W1.heap.size = m + 2 := by rw [← hW1]; show ((wr.alloc _).alloc _).heap.size = _; simp [hm]
            have x3 : Below N W0 W1 := by
              have h1 := (hx2.out.1.alloc hx2.out.2 (.cells #[.int .i64 y.From, .int .i64 y.To, .int .i64 y.Start, .int .i64 y.End, .int .i64 y.Rate, .int .i64 y.Delay] 35)).alloc (by have := hx2.out.2; simp; omega) (.cells #[.int .i64 x.From, .int .i64 x.To, .int .i64 x.Start, .int .i64 x.End, .int .i64 x.Rate, .int .i64 x.Delay] 35)
              rw [← hW1]
              exact ⟨h1.os, h1.tape, h1.output, h1.size, h1.block⟩
            have pb : W1.heap[m + 1]? = some (.cells #[.int .i64 x.From, .int .i64 x.To, .int .i64 x.Start, .int .i64 x.End, .int .i64 x.Rate, .int .i64 x.Delay] 35 (0, 0)) := by exact ‹W1.heap[m + 1]? = some (.cells #[.int .i64 x.From, .int .i64 x.To, .int .i64 x.Start, .int .i64 x.End, .int .i64 x.Rate, .int .i64 x.Delay] 35 (0, 0))›
            have qb : W1.heap[m]? = some (.cells #[.int .i64 y.From, .int .i64 y.To, .int .i64 y.Start, .int .i64 y.End, .int .i64 y.Rate, .int .i64 y.Delay] 35 (0, 0)) := by exact ‹W1.heap[m]? = some (.cells #[.int .i64 y.From, .int .i64 y.To, .int .i64 y.Start, .int .i64 y.End, .int .i64 y.Rate, .int .i64 y.Delay] 35 (0, 0))›
            clear g0 g1
            rw [hW1]
            clear hW1
            obtain ⟨l0, l1, l2, l3, l4, l5⟩ := cells6 pb
            obtain ⟨r0, r1, r2, r3, r4, r5⟩ := cells6 qb
            obtain ⟨hbk⟩ : Nonempty (Shut (Below N W0 W1 ∧ N ≤ m ∧ W1.heap[m + 1]? = some (.cells #[.int .i64 x.From, .int .i64 x.To, .int .i64 x.Start, .int .i64 x.End, .int .i64 x.Rate, .int .i64 x.Delay] 35 (0, 0)) ∧ W1.heap[m]? = some (.cells #[.int .i64 y.From, .int .i64 y.To, .int .i64 y.Start, .int .i64 y.End, .int .i64 y.Rate, .int .i64 y.Delay] 35 (0, 0)))) := ⟨⟨x3, by have := hx2.out.2; omega, pb, qb⟩⟩
            clear pb qb x3
            have stop : ∀ W2, Below W1.heap.size W1 W2 → Below N W0 W2 ∧ N ≤ W2.heap.size := fun W2 h => ⟨hbk.out.1.trans (h.mono (by have := hbk.out.2.1; omega)), by have := hbk.out.2.1; have := h.size; omega⟩
            obtain ⟨stop⟩ : Nonempty (Shut (∀ W2, Below W1.heap.size W1 W2 → Below N W0 W2 ∧ N ≤ W2.heap.size)) := ⟨stop⟩
            obtain ⟨next⟩ : Nonempty (Shut (¬ okJ x y → ∀ (k' : Nat) x', k' < k + 1 → l[k']? = some x' → ¬ okJ x' y)) := ⟨fun h k' x' h1 h2 => by
              by_cases e : k' = k
              · subst e; rw [hx] at h2; cases h2; exact h
              · exact hnk k' x' (by omega) h2⟩
            by_cases hp : x.From = y.From ∧ x.To = y.To
            · have hpb : decide (x.From = y.From ∧ x.To = y.To) = true := decide_eq_true hp
              obtain ⟨hpS⟩ : Nonempty (Shut (x.From = y.From ∧ x.To = y.To)) := ⟨hp⟩
              clear hp
              by_cases hr : x.Rate = y.Rate
              · by_cases hd : x.Delay = y.Delay
                · have hrb : (x.Rate != y.Rate) = false := bne_eq_false_iff_eq.2 hr
                  have hdb : (x.Delay != y.Delay) = false := bne_eq_false_iff_eq.2 hd
                  obtain ⟨hrS⟩ : Nonempty (Shut (x.Rate = y.Rate ∧ x.Delay = y.Delay)) := ⟨⟨hr, hd⟩⟩
                  clear hr hd
                  by_cases h1 : x.End < y.Start
                  · go_wp2_with (go_at_call 27; go_loud (refine (pair_in x y hpb _).mono ?_); rintro e W2 ⟨rfl, z2⟩; have hp2 := (z2.block (m + 1) (by omega)).trans hbk.out.2.2.1; have hq2 := (z2.block (m) (by omega)).trans hbk.out.2.2.2; obtain ⟨m0, m1, m2, m3, m4, m5⟩ := cells6 hp2; obtain ⟨n0, n1, n2, n3, n4, n5⟩ := cells6 hq2; clear hp2 hq2)
                    obtain ⟨t1, t2⟩ := stop.out _ z2
                    refine ⟨⟨k + 1, rfl, hki, next.out (fun h => by have := h.2.1; omega), t1, t2⟩, ?_⟩
                    simp only [RowKit.intOf]
                    omega
                  · by_cases h2 : y.End < x.Start
                    · go_wp2_with (go_at_call 27; go_loud (refine (pair_in x y hpb _).mono ?_); rintro e W2 ⟨rfl, z2⟩; have hp2 := (z2.block (m + 1) (by omega)).trans hbk.out.2.2.1; have hq2 := (z2.block (m) (by omega)).trans hbk.out.2.2.2; obtain ⟨m0, m1, m2, m3, m4, m5⟩ := cells6 hp2; obtain ⟨n0, n1, n2, n3, n4, n5⟩ := cells6 hq2; clear hp2 hq2)
                      obtain ⟨t1, t2⟩ := stop.out _ z2
                      refine ⟨⟨k + 1, rfl, hki, next.out (fun h => by have := h.2.2; omega), t1, t2⟩, ?_⟩
                      simp only [RowKit.intOf]
                      omega
                    · go_wp2_with (go_at_call 27; go_loud (refine (pair_in x y hpb _).mono ?_); rintro e W2 ⟨rfl, z2⟩; have hp2 := (z2.block (m + 1) (by omega)).trans hbk.out.2.2.1; have hq2 := (z2.block (m) (by omega)).trans hbk.out.2.2.2; obtain ⟨m0, m1, m2, m3, m4, m5⟩ := cells6 hp2; obtain ⟨n0, n1, n2, n3, n4, n5⟩ := cells6 hq2; clear hp2 hq2)
                      obtain ⟨t1, t2⟩ := stop.out _ z2
                      have pb2 : W2.heap[m + 1]? = some (.cells #[.int .i64 x.From, .int .i64 x.To, .int .i64 x.Start, .int .i64 x.End, .int .i64 x.Rate, .int .i64 x.Delay] 35 (0, 0)) := (z2.block _ (by omega)).trans hbk.out.2.2.1
                      have ps2 : m + 2 ≤ W2.heap.size := by have := z2.size; omega
                      have f2 : W2.frozen? ⟨m + 1, 2, none⟩ = false := by simp [World.frozen?, pb2]
                      have f3 : W2.frozen? ⟨m + 1, 3, none⟩ = false := by simp [World.frozen?, pb2]
                      clear z2
                      refine wp_region_held_drew (S := (fun w' : World => w'.cell? ⟨m, 2, none⟩ = some (.int .i64 y.Start) ∧ w'.cell? ⟨m, 3, none⟩ = some (.int .i64 y.End))) (by kernel_rfl) (⟨n2, n3⟩) (fun hHeld => ?_)
                      refine wpAnyH_take (i := 0) (v := ?_) rfl (by kernel_rfl) (by kernel_rfl) (by kernel_rfl) (fun _ _ _ h => h) (Or.inl ⟨by rfl, ?_⟩) (by assumption) ?_
                      rotate_left
                      · intro w hSw
                        try dsimp only at hSw
                        go_split_ands
                        go_simp
                        try with_reducible rfl
                      try simp only [Act.put, List.getElem_toArray, List.getElem_cons_zero, List.getElem_cons_succ, List.setIfInBounds_toArray, List.set_cons_zero, List.set_cons_succ]
                      refine wpAnyH_take (i := 2) (v := ?_) rfl (by kernel_rfl) (by kernel_rfl) (by kernel_rfl) (fun _ _ _ h => h) (Or.inl ⟨by rfl, ?_⟩) (by assumption) ?_
                      rotate_left
                      · intro w hSw
                        try dsimp only at hSw
                        go_split_ands
                        go_simp
                        try with_reducible rfl
                      try simp only [Act.put, List.getElem_toArray, List.getElem_cons_zero, List.getElem_cons_succ, List.setIfInBounds_toArray, List.set_cons_zero, List.set_cons_succ]
                      refine wpAnyH_take (i := 3) (v := ?_) rfl (by kernel_rfl) (by kernel_rfl) (by kernel_rfl) (fun _ _ _ h => h) (Or.inl ⟨by rfl, ?_⟩) (by assumption) ?_
                      rotate_left
                      · intro w hSw
                        try dsimp only at hSw
                        go_split_ands
                        go_simp
                        try with_reducible rfl
                      try simp only [Act.put, List.getElem_toArray, List.getElem_cons_zero, List.getElem_cons_succ, List.setIfInBounds_toArray, List.set_cons_zero, List.set_cons_succ]
                      refine wpAnyH_take (i := 5) (v := ?_) rfl (by kernel_rfl) (by kernel_rfl) (by kernel_rfl) (fun _ _ _ h => h) (Or.inl ⟨by rfl, ?_⟩) (by assumption) ?_
                      rotate_left
                      · intro w hSw
                        try dsimp only at hSw
                        go_split_ands
                        go_simp
                        try with_reducible rfl
                      try simp only [Act.put, List.getElem_toArray, List.getElem_cons_zero, List.getElem_cons_succ, List.setIfInBounds_toArray, List.set_cons_zero, List.set_cons_succ]
                      refine wpAnyH_take (i := 7) (v := ?_) rfl (by kernel_rfl) (by kernel_rfl) (by kernel_rfl) (fun _ _ _ h => h) (Or.inl ⟨by rfl, ?_⟩) (by assumption) ?_
                      rotate_left
                      · intro w hSw
                        try dsimp only at hSw
                        go_split_ands
                        go_simp
                        try with_reducible rfl
                      try simp only [Act.put, List.getElem_toArray, List.getElem_cons_zero, List.getElem_cons_succ, List.setIfInBounds_toArray, List.set_cons_zero, List.set_cons_succ]
                      refine wpAnyH_take (i := 8) (v := ?_) rfl (by kernel_rfl) (by kernel_rfl) (by kernel_rfl) (fun _ _ _ h => h) (Or.inl ⟨by rfl, ?_⟩) (by assumption) ?_
                      rotate_left
                      · intro w hSw
                        try dsimp only at hSw
                        go_split_ands
                        go_simp
                        try with_reducible rfl
                      try simp only [Act.put, List.getElem_toArray, List.getElem_cons_zero, List.getElem_cons_succ, List.setIfInBounds_toArray, List.set_cons_zero, List.set_cons_succ]
                      refine wpAnyH_ready (rs := [1, 6]) (by kernel_rfl) (by simp) ?_
                      refine AllReadyH.cons rfl (fun K hK => ?_) (AllReadyH.cons rfl (fun K hK => ?_) AllReadyH.nil)
                      · clear hHeld
                        rw [if_pos (by rfl)]
                        go_simp
                        refine hK.out _ _ ⟨n2, n3⟩ (fun hHeld => ?_)
                        try simp only [Act.put, List.getElem_toArray, List.getElem_cons_zero, List.getElem_cons_succ, List.setIfInBounds_toArray, List.set_cons_zero, List.set_cons_succ]
                        refine wpAnyH_take (i := 4) (v := ?_) rfl (by kernel_rfl) (by kernel_rfl) (by kernel_rfl) (fun _ _ _ h => h) (Or.inl ⟨by rfl, ?_⟩) (by assumption) ?_
                        rotate_left
                        · intro w hSw
                          try dsimp only at hSw
                          go_split_ands
                          go_simp
                          try with_reducible rfl
                        try simp only [Act.put, List.getElem_toArray, List.getElem_cons_zero, List.getElem_cons_succ, List.setIfInBounds_toArray, List.set_cons_zero, List.set_cons_succ]
                        refine wpAnyH_ready (rs := [6]) (by kernel_rfl) (by simp) ?_
                        refine AllReadyH.cons rfl (fun K hK => ?_) AllReadyH.nil
                        clear hHeld
                        rw [if_pos (by rfl)]
                        go_simp
                        refine hK.out _ _ ⟨n2, n3⟩ (fun hHeld => ?_)
                        try simp only [Act.put, List.getElem_toArray, List.getElem_cons_zero, List.getElem_cons_succ, List.setIfInBounds_toArray, List.set_cons_zero, List.set_cons_succ]
                        refine wpAnyH_take (i := 9) (v := ?_) rfl (by kernel_rfl) (by kernel_rfl) (by kernel_rfl) (fun _ _ _ h => h) (Or.inl ⟨by rfl, ?_⟩) (by assumption) ?_
                        rotate_left
                        · intro w hSw
                          try dsimp only at hSw
                          go_split_ands
                          go_simp
                          try with_reducible rfl
                        try simp only [Act.put, List.getElem_toArray, List.getElem_cons_zero, List.getElem_cons_succ, List.setIfInBounds_toArray, List.set_cons_zero, List.set_cons_succ]
                        refine wpAnyH_take (i := 10) (v := ?_) rfl (by kernel_rfl) (by kernel_rfl) (by kernel_rfl) (fun _ _ _ h => h) (Or.inl ⟨by rfl, ?_⟩) (by assumption) ?_
                        rotate_left
                        · intro w hSw
                          try dsimp only at hSw
                          go_split_ands
                          go_simp
                          try with_reducible rfl
                        try simp only [Act.put, List.getElem_toArray, List.getElem_cons_zero, List.getElem_cons_succ, List.setIfInBounds_toArray, List.set_cons_zero, List.set_cons_succ]
                        refine wpAnyH_ready (rs := [11]) (by kernel_rfl) (by simp) ?_
                        refine AllReadyH.cons rfl (fun K hK => ?_) AllReadyH.nil
                        clear hHeld
                        rw [if_pos (by rfl)]
                        go_simp
                        refine hK.out _ _ (by go_keep) (fun hHeld => ?_)
                        try simp only [Act.put, List.getElem_toArray, List.getElem_cons_zero, List.getElem_cons_succ, List.setIfInBounds_toArray, List.set_cons_zero, List.set_cons_succ]
                        refine wpAnyH_take (i := 12) (v := ?_) rfl (by kernel_rfl) (by kernel_rfl) (by kernel_rfl) (fun _ _ _ h => h) (Or.inl ⟨by rfl, ?_⟩) (by assumption) ?_
                        rotate_left
                        · intro w hSw
                          try dsimp only at hSw
                          go_split_ands
                          go_simp
                          try with_reducible rfl
                        try simp only [Act.put, List.getElem_toArray, List.getElem_cons_zero, List.getElem_cons_succ, List.setIfInBounds_toArray, List.set_cons_zero, List.set_cons_succ]
                        refine wpAnyH_ready (rs := [13]) (by kernel_rfl) (by simp) ?_
                        refine AllReadyH.cons rfl (fun K hK => ?_) AllReadyH.nil
                        clear hHeld
                        rw [if_pos (by rfl)]
                        go_simp
                        refine hK.out _ _ (by go_keep) (fun hHeld => ?_)
                        try simp only [Act.put, List.getElem_toArray, List.getElem_cons_zero, List.getElem_cons_succ, List.setIfInBounds_toArray, List.set_cons_zero, List.set_cons_succ]
                        refine wpAnyH_done (by kernel_rfl) ?_ _
                        clear hHeld
                        obtain ⟨W3, hW3⟩ : ∃ W3, ((W2.setCell ⟨m + 1, 2, none⟩ (.int .i64 (min x.Start y.Start))).setCell ⟨m + 1, 3, none⟩ (.int .i64 (max x.End y.End))).drew = W3 := ⟨_, rfl⟩
                        have pb3 : W3.heap[m + 1]? = some (.cells #[.int .i64 x.From, .int .i64 x.To, .int .i64 (min x.Start y.Start), .int .i64 (max x.End y.End), .int .i64 x.Rate, .int .i64 x.Delay] 35 (0, 0)) := by rw [← hW3]; exact Go.heap_setCell_same _ _ _ _ _ _ (Go.heap_setCell_same _ _ _ _ _ _ pb2)
                        have hNm := hbk.out.2.1
                        have x3 : Below N W0 W3 := by
                          rw [← hW3]
                          exact ⟨t1.os, t1.tape, t1.output, (by have := t1.size; show _ ≤ ((W2.setCell _ _).setCell _ _).heap.size; simpa using this), fun j hj => (Below.heap_setCell _ _ _ _ (by show j ≠ m + 1; omega)).trans ((Below.heap_setCell _ _ _ _ (by show j ≠ m + 1; omega)).trans (t1.block j hj))⟩
                        have ps3 : m + 2 ≤ W3.heap.size := by rw [← hW3]; show _ ≤ ((W2.setCell _ _).setCell _ _).heap.size; simpa using ps2
                        obtain ⟨z, hzz⟩ : ∃ z, W3.heap.size = z := ⟨_, rfl⟩
                        have sl0 : SL W3 (.slice (some ⟨b, o, none⟩) l.length ca) l := SL.below hv.out (Nat.le_of_eq hN) x3
                        have ow0 : (W3.alloc (.cells #[] 35)).ownsRow (m + 2) 35 6 (.slice (some ⟨z, 0, none⟩) 0 0) 0 (rowC []) := by
                          rw [← hzz]; exact World.ownsRow_made W3 #[] 0 ps3 (by unfold maxLen; omega) (by simp)
                        have hNz : N ≤ W3.heap.size := by omega
                        have x4 := x3.alloc hNz (.cells #[] 35)
                        have sl1 : SL (W3.alloc (.cells #[] 35)) (.slice (some ⟨b, o, none⟩) l.length ca) l := SL.below hv.out (Nat.le_of_eq hN) x4
                        have hz4 : (W3.alloc (.cells #[] 35)).heap.size = z + 1 := by simp [hzz]
                        have hkl2 : (l.take k).length = k := by simp; omega
                        obtain ⟨v5, W5, hrun5, ow5, g5, _⟩ := run_append_SL ow0 (sl1.take (n := k) (by omega)) (by omega) (by omega) (by omega) 22
                        obtain ⟨x5, s5, k5⟩ := grownN x4 (by omega) ow0 (by omega) g5
                        have pb5 : W5.heap[m + 1]? = some (.cells #[.int .i64 x.From, .int .i64 x.To, .int .i64 (min x.Start y.Start), .int .i64 (max x.End y.End), .int .i64 x.Rate, .int .i64 x.Delay] 35 (0, 0)) := (k5 _ (by omega) (by omega)).trans ((Below.heap_alloc _ _ _ (by omega)).trans pb3)
                        have s5m : m + 2 ≤ W5.heap.size := by have := g5.size; omega
                        have x5d : Below N W0 W5.drew := ⟨x5.os, x5.tape, x5.output, x5.size, x5.block⟩
                        have ow5d : W5.drew.ownsRow (m + 2) 35 6 v5 (l.take k).length (rowC (l.take k)) := by
                          have := ow5
                          rw [Nat.zero_add, rowC_nil, List.nil_append] at this
                          exact this
                        have sl5 : SL W5.drew (.slice (some ⟨b, o, none⟩) l.length ca) l := SL.below hv.out (Nat.le_of_eq hN) x5d
                        obtain ⟨v6, W6, hrun6, ow6, g6, _⟩ := run_append_SL ow5d (sl5.mid (k := k + 1) (i := i) (by omega) (by omega)) (by omega) (by simp; omega) (by exact s5m) 22
                        obtain ⟨x6, s6, k6⟩ := grownN x5d (by exact s5) ow5d (by omega) g6
                        have pb6 := (k6 (m + 1) (by show _ < W5.heap.size; omega) (by omega)).trans pb5
                        have s6m : m + 2 ≤ W6.heap.size := by have h := g6.size; have : W5.drew.heap.size = W5.heap.size := rfl; omega
                        have sl6 : SL W6 (.slice (some ⟨b, o, none⟩) l.length ca) l := SL.below hv.out (Nat.le_of_eq hN) x6
                        obtain ⟨v7, W7, hrun7, ow7, g7, _⟩ := run_append_SL ow6 (sl6.drop' (n := i + 1) (by omega)) (by simp; omega) (by simp; omega) s6m 22
                        obtain ⟨x7, s7, k7⟩ := grownN x6 s6 ow6 (by omega) g7
                        have pb7 := (k7 (m + 1) (by omega) (by omega)).trans pb6
                        have s7m : m + 2 ≤ W7.heap.size := by have := g7.size; omega
                        obtain ⟨z7, hz7⟩ : ∃ z7, W7.heap.size = z7 := ⟨_, rfl⟩
                        obtain ⟨v8, W8, hrun8, ow8, g8, _⟩ := run_append_SL (ow7.alloc (.cells #[.int .i64 x.From, .int .i64 x.To, .int .i64 (min x.Start y.Start), .int .i64 (max x.End y.End), .int .i64 x.Rate, .int .i64 x.Delay] 35)) (SL_one hz7 (joinC x y)) (by simp; omega) (by simp) (by simp; omega) 22
                        obtain ⟨x8, s8, _⟩ := grownN (x7.alloc (by omega) _) (by simp; omega) (ow7.alloc _) (by omega) g8
                        have ow9 : W8.ownsRow N 35 6 v8 (l.take k ++ (l.drop (k + 1)).take (i - (k + 1)) ++ l.drop (i + 1) ++ [joinC x y]).length (rowC (l.take k ++ (l.drop (k + 1)).take (i - (k + 1)) ++ l.drop (i + 1) ++ [joinC x y])) := by
                          have := ow_mono ow8 (base' := N) (by omega)
                          rw [← List.length_append, ← List.length_append, ← List.length_append, ← rowC_append, ← rowC_append, ← rowC_append] at this
                          exact this
                        obtain ⟨p0, p1', p2', p3, p4, p5⟩ : W7.cell? ⟨m + 1, 0, none⟩ = some (.int .i64 x.From) ∧ W7.cell? ⟨m + 1, 1, none⟩ = some (.int .i64 x.To) ∧ W7.cell? ⟨m + 1, 2, none⟩ = some (.int .i64 (min x.Start y.Start)) ∧ W7.cell? ⟨m + 1, 3, none⟩ = some (.int .i64 (max x.End y.End)) ∧ W7.cell? ⟨m + 1, 4, none⟩ = some (.int .i64 x.Rate) ∧ W7.cell? ⟨m + 1, 5, none⟩ = some (.int .i64 x.Delay) := by simp [World.cell?, pb7]
                        obtain ⟨hJ⟩ : Nonempty (Shut (JD l (l.take k ++ (l.drop (k + 1)).take (i - (k + 1)) ++ l.drop (i + 1) ++ [joinC x y], true))) := ⟨.inr ⟨k, i, x, y, hki, hx, hy, ⟨⟨hpS.out.1, hpS.out.2, hrS.out.1, hrS.out.2⟩, by omega, by omega⟩, fun k' i' x' y' q1 q2 q3 q4 => by
                          rcases q2 with q2 | ⟨rfl, q2⟩
                          · exact hno.out k' i' x' y' q1 q2 q3 q4
                          · rw [hy] at q4; cases q4
                            exact hnk k' x' q2 q3, rfl⟩⟩
                        obtain ⟨hE⟩ : Nonempty (Shut (Below N W0 W8)) := ⟨x8⟩
                        have hb1 : (k : Int) + 1 ≤ (i : Int) := by omega
                        have hb2 : (i : Int) ≤ (ca : Int) := by omega
                        have hb3 : (i : Int) + 1 ≤ (l.length : Int) := by omega
                        have hb4 : (l.length : Int) ≤ (ca : Int) := by omega
                        have hb5 : (0 : Int) ≤ (k : Int) + 1 := by omega
                        have hb6 : (0 : Int) ≤ (i : Int) + 1 := by omega
                        have hca : ¬ ca = k + 1 := by omega
                        rw [hW3]
                        clear hW3 pb2 ps2 t1 t2 x3 x4 sl1 ow0 g5 k5 x5 s5 ow5 pb3 pb5 x5d sl5 x6 s6 k6 g6 pb6 sl6 x7 s7 k7 g7 pb7 ow6 ow5d x8 g8 ow8 hnk hno
                        go_wp2_with (at_builtin; go_loud (refine Lib.wpList_append_run _ rfl _ _ _ _ rfl _ _ rfl rfl _ _ hrun5 ?_))
                        refine wp_region_held_drew (S := (fun _ : World => True)) (by kernel_rfl) trivial (fun hHeld => ?_)
                        refine wpAnyH_take (i := 0) (v := ?_) rfl (by kernel_rfl) (by kernel_rfl) (by kernel_rfl) (fun _ _ _ h => h) (Or.inl ⟨by rfl, ?_⟩) (by assumption) ?_
                        rotate_left
                        · intro w hSw
                          try dsimp only at hSw
                          go_split_ands
                          go_simp
                          try with_reducible rfl
                        try simp only [Act.put, List.getElem_toArray, List.getElem_cons_zero, List.getElem_cons_succ, List.setIfInBounds_toArray, List.set_cons_zero, List.set_cons_succ]
                        refine wpAnyH_take (i := 1) (v := ?_) rfl (by kernel_rfl) (by kernel_rfl) (by kernel_rfl) (fun _ _ _ h => h) (Or.inl ⟨by rfl, ?_⟩) (by assumption) ?_
                        rotate_left
                        · intro w hSw
                          try dsimp only at hSw
                          go_split_ands
                          go_simp
                          try with_reducible rfl
                        try simp only [Act.put, List.getElem_toArray, List.getElem_cons_zero, List.getElem_cons_succ, List.setIfInBounds_toArray, List.set_cons_zero, List.set_cons_succ]
                        refine wpAnyH_take (i := 2) (v := ?_) rfl (by kernel_rfl) (by kernel_rfl) (by kernel_rfl) (fun _ _ _ h => h) (Or.inl ⟨by rfl, ?_⟩) (by assumption) ?_
                        rotate_left
                        · intro w hSw
                          try dsimp only at hSw
                          go_split_ands
                          go_simp
                          try with_reducible rfl
                        try simp only [Act.put, List.getElem_toArray, List.getElem_cons_zero, List.getElem_cons_succ, List.setIfInBounds_toArray, List.set_cons_zero, List.set_cons_succ]
                        refine wpAnyH_take (i := 3) (v := ?_) rfl (by kernel_rfl) (by kernel_rfl) (by kernel_rfl) (fun _ _ _ h => h) (Or.inl ⟨by rfl, ?_⟩) (by assumption) ?_
                        rotate_left
                        · intro w hSw
                          try dsimp only at hSw
                          go_split_ands
                          go_simp
                          try with_reducible rfl
                        try simp only [Act.put, List.getElem_toArray, List.getElem_cons_zero, List.getElem_cons_succ, List.setIfInBounds_toArray, List.set_cons_zero, List.set_cons_succ]
                        refine wpAnyH_take (i := 4) (v := ?_) rfl (by kernel_rfl) (by kernel_rfl) (by kernel_rfl) (fun _ _ _ h => h) (Or.inl ⟨by rfl, ?_⟩) (by assumption) ?_
                        rotate_left
                        · intro w hSw
                          try dsimp only at hSw
                          go_split_ands
                          go_simp
                          try with_reducible rfl
                        try simp only [Act.put, List.getElem_toArray, List.getElem_cons_zero, List.getElem_cons_succ, List.setIfInBounds_toArray, List.set_cons_zero, List.set_cons_succ]
                        refine wpAnyH_take (i := 5) (v := ?_) rfl (by kernel_rfl) (by kernel_rfl) (by kernel_rfl) (fun _ _ _ h => h) (Or.inl ⟨by rfl, ?_⟩) (by assumption) ?_
                        rotate_left
                        · intro w hSw
                          try dsimp only at hSw
                          go_split_ands
                          go_simp
                          try with_reducible rfl
                        try simp only [Act.put, List.getElem_toArray, List.getElem_cons_zero, List.getElem_cons_succ, List.setIfInBounds_toArray, List.set_cons_zero, List.set_cons_succ]
                        refine wpAnyH_take (i := 7) (v := ?_) rfl (by kernel_rfl) (by kernel_rfl) (by kernel_rfl) (fun _ _ _ h => h) (Or.inl ⟨by rfl, ?_⟩) (by assumption) ?_
                        rotate_left
                        · intro w hSw
                          try dsimp only at hSw
                          go_split_ands
                          go_simp
                          try with_reducible rfl
                        try simp only [Act.put, List.getElem_toArray, List.getElem_cons_zero, List.getElem_cons_succ, List.setIfInBounds_toArray, List.set_cons_zero, List.set_cons_succ]
                        refine wpAnyH_take (i := 8) (v := ?_) rfl (by kernel_rfl) (by kernel_rfl) (by kernel_rfl) (fun _ _ _ h => h) (Or.inl ⟨by rfl, ?_⟩) (by assumption) ?_
                        rotate_left
                        · intro w hSw
                          try dsimp only at hSw
                          go_split_ands
                          go_simp
                          try with_reducible rfl
                        try simp only [Act.put, List.getElem_toArray, List.getElem_cons_zero, List.getElem_cons_succ, List.setIfInBounds_toArray, List.set_cons_zero, List.set_cons_succ]
                        refine wpAnyH_take (i := 9) (v := ?_) rfl (by kernel_rfl) (by kernel_rfl) (by kernel_rfl) (fun _ _ _ h => h) (Or.inl ⟨by rfl, ?_⟩) (by assumption) ?_
                        rotate_left
                        · intro w hSw
                          try dsimp only at hSw
                          go_split_ands
                          go_simp
                          try with_reducible rfl
                        try simp only [Act.put, List.getElem_toArray, List.getElem_cons_zero, List.getElem_cons_succ, List.setIfInBounds_toArray, List.set_cons_zero, List.set_cons_succ]
                        refine wpAnyH_take (i := 10) (v := ?_) rfl (by kernel_rfl) (by kernel_rfl) (by kernel_rfl) (fun _ _ _ h => h) (Or.inl ⟨by rfl, ?_⟩) (by assumption) ?_
                        rotate_left
                        · intro w hSw
                          try dsimp only at hSw
                          go_split_ands
                          go_simp
                          try with_reducible rfl
                        try simp only [Act.put, List.getElem_toArray, List.getElem_cons_zero, List.getElem_cons_succ, List.setIfInBounds_toArray, List.set_cons_zero, List.set_cons_succ]
                        refine wpAnyH_ready (rs := [6]) (by kernel_rfl) (by simp) ?_
                        refine AllReadyH.cons rfl (fun K hK => ?_) AllReadyH.nil
                        clear hHeld
                        rw [if_pos (by rfl)]
                        refine Lib.wp_append_run _ _ _ _ _ (by rfl) _ _ (by rfl) (by rfl) _ _ hrun6 ?_
                        refine hK.out _ _ trivial (fun hHeld => ?_)
                        try simp only [Act.put, List.getElem_toArray, List.getElem_cons_zero, List.getElem_cons_succ, List.setIfInBounds_toArray, List.set_cons_zero, List.set_cons_succ]
                        refine wpAnyH_ready (rs := [11]) (by kernel_rfl) (by simp) ?_
                        refine AllReadyH.cons rfl (fun K hK => ?_) AllReadyH.nil
                        clear hHeld
                        rw [if_pos (by rfl)]
                        refine Lib.wp_append_run _ _ _ _ _ (by rfl) _ _ (by rfl) (by rfl) _ _ hrun7 ?_
                        refine hK.out _ _ trivial (fun hHeld => ?_)
                        try simp only [Act.put, List.getElem_toArray, List.getElem_cons_zero, List.getElem_cons_succ, List.setIfInBounds_toArray, List.set_cons_zero, List.set_cons_succ]
                        refine wpAnyH_take (i := 12) (v := ?_) rfl (by kernel_rfl) (by kernel_rfl) (by kernel_rfl) (fun _ _ _ h => h) (Or.inl ⟨by rfl, ?_⟩) (by assumption) ?_
                        rotate_left
                        · intro w hSw
                          try dsimp only at hSw
                          go_split_ands
                          go_simp
                          try with_reducible rfl
                        try simp only [Act.put, List.getElem_toArray, List.getElem_cons_zero, List.getElem_cons_succ, List.setIfInBounds_toArray, List.set_cons_zero, List.set_cons_succ]
                        refine wpAnyH_done (by kernel_rfl) ?_ _
                        clear hHeld
                        go_wp2_with (at_builtin; go_loud (refine Lib.wpList_append_run _ rfl _ _ _ _ rfl _ _ rfl rfl _ _ hrun8 ?_))
                        all_goals go_ret2
                        all_goals exact ⟨_, .inr ⟨hJ.out, _, rfl, hE.out, ow9⟩⟩
                      · clear hHeld
                        rw [if_pos (by rfl)]
                        go_simp
                        refine hK.out _ _ ⟨n2, n3⟩ (fun hHeld => ?_)
                        try simp only [Act.put, List.getElem_toArray, List.getElem_cons_zero, List.getElem_cons_succ, List.setIfInBounds_toArray, List.set_cons_zero, List.set_cons_succ]
                        refine wpAnyH_take (i := 9) (v := ?_) rfl (by kernel_rfl) (by kernel_rfl) (by kernel_rfl) (fun _ _ _ h => h) (Or.inl ⟨by rfl, ?_⟩) (by assumption) ?_
                        rotate_left
                        · intro w hSw
                          try dsimp only at hSw
                          go_split_ands
                          go_simp
                          try with_reducible rfl
                        try simp only [Act.put, List.getElem_toArray, List.getElem_cons_zero, List.getElem_cons_succ, List.setIfInBounds_toArray, List.set_cons_zero, List.set_cons_succ]
                        refine wpAnyH_ready (rs := [1]) (by kernel_rfl) (by simp) ?_
                        refine AllReadyH.cons rfl (fun K hK => ?_) AllReadyH.nil
                        clear hHeld
                        rw [if_pos (by rfl)]
                        go_simp
                        refine hK.out _ _ ⟨n2, n3⟩ (fun hHeld => ?_)
                        try simp only [Act.put, List.getElem_toArray, List.getElem_cons_zero, List.getElem_cons_succ, List.setIfInBounds_toArray, List.set_cons_zero, List.set_cons_succ]
                        refine wpAnyH_take (i := 4) (v := ?_) rfl (by kernel_rfl) (by kernel_rfl) (by kernel_rfl) (fun _ _ _ h => h) (Or.inl ⟨by rfl, ?_⟩) (by assumption) ?_
                        rotate_left
                        · intro w hSw
                          try dsimp only at hSw
                          go_split_ands
                          go_simp
                          try with_reducible rfl
                        try simp only [Act.put, List.getElem_toArray, List.getElem_cons_zero, List.getElem_cons_succ, List.setIfInBounds_toArray, List.set_cons_zero, List.set_cons_succ]
                        refine wpAnyH_take (i := 10) (v := ?_) rfl (by kernel_rfl) (by kernel_rfl) (by kernel_rfl) (fun _ _ _ h => h) (Or.inl ⟨by rfl, ?_⟩) (by assumption) ?_
                        rotate_left
                        · intro w hSw
                          try dsimp only at hSw
                          go_split_ands
                          go_simp
                          try with_reducible rfl
                        try simp only [Act.put, List.getElem_toArray, List.getElem_cons_zero, List.getElem_cons_succ, List.setIfInBounds_toArray, List.set_cons_zero, List.set_cons_succ]
                        refine wpAnyH_ready (rs := [11]) (by kernel_rfl) (by simp) ?_
                        refine AllReadyH.cons rfl (fun K hK => ?_) AllReadyH.nil
                        clear hHeld
                        rw [if_pos (by rfl)]
                        go_simp
                        refine hK.out _ _ (by go_keep) (fun hHeld => ?_)
                        try simp only [Act.put, List.getElem_toArray, List.getElem_cons_zero, List.getElem_cons_succ, List.setIfInBounds_toArray, List.set_cons_zero, List.set_cons_succ]
                        refine wpAnyH_take (i := 12) (v := ?_) rfl (by kernel_rfl) (by kernel_rfl) (by kernel_rfl) (fun _ _ _ h => h) (Or.inl ⟨by rfl, ?_⟩) (by assumption) ?_
                        rotate_left
                        · intro w hSw
                          try dsimp only at hSw
                          go_split_ands
                          go_simp
                          try with_reducible rfl
                        try simp only [Act.put, List.getElem_toArray, List.getElem_cons_zero, List.getElem_cons_succ, List.setIfInBounds_toArray, List.set_cons_zero, List.set_cons_succ]
                        refine wpAnyH_ready (rs := [13]) (by kernel_rfl) (by simp) ?_
                        refine AllReadyH.cons rfl (fun K hK => ?_) AllReadyH.nil
                        clear hHeld
                        rw [if_pos (by rfl)]
                        go_simp
                        refine hK.out _ _ (by go_keep) (fun hHeld => ?_)
                        try simp only [Act.put, List.getElem_toArray, List.getElem_cons_zero, List.getElem_cons_succ, List.setIfInBounds_toArray, List.set_cons_zero, List.set_cons_succ]
                        refine wpAnyH_done (by kernel_rfl) ?_ _
                        clear hHeld
                        obtain ⟨W3, hW3⟩ : ∃ W3, ((W2.setCell ⟨m + 1, 2, none⟩ (.int .i64 (min x.Start y.Start))).setCell ⟨m + 1, 3, none⟩ (.int .i64 (max x.End y.End))).drew = W3 := ⟨_, rfl⟩
                        have pb3 : W3.heap[m + 1]? = some (.cells #[.int .i64 x.From, .int .i64 x.To, .int .i64 (min x.Start y.Start), .int .i64 (max x.End y.End), .int .i64 x.Rate, .int .i64 x.Delay] 35 (0, 0)) := by rw [← hW3]; exact Go.heap_setCell_same _ _ _ _ _ _ (Go.heap_setCell_same _ _ _ _ _ _ pb2)
                        have hNm := hbk.out.2.1
                        have x3 : Below N W0 W3 := by
                          rw [← hW3]
                          exact ⟨t1.os, t1.tape, t1.output, (by have := t1.size; show _ ≤ ((W2.setCell _ _).setCell _ _).heap.size; simpa using this), fun j hj => (Below.heap_setCell _ _ _ _ (by show j ≠ m + 1; omega)).trans ((Below.heap_setCell _ _ _ _ (by show j ≠ m + 1; omega)).trans (t1.block j hj))⟩
                        have ps3 : m + 2 ≤ W3.heap.size := by rw [← hW3]; show _ ≤ ((W2.setCell _ _).setCell _ _).heap.size; simpa using ps2
                        obtain ⟨z, hzz⟩ : ∃ z, W3.heap.size = z := ⟨_, rfl⟩
                        have sl0 : SL W3 (.slice (some ⟨b, o, none⟩) l.length ca) l := SL.below hv.out (Nat.le_of_eq hN) x3
                        have ow0 : (W3.alloc (.cells #[] 35)).ownsRow (m + 2) 35 6 (.slice (some ⟨z, 0, none⟩) 0 0) 0 (rowC []) := by
                          rw [← hzz]; exact World.ownsRow_made W3 #[] 0 ps3 (by unfold maxLen; omega) (by simp)
                        have hNz : N ≤ W3.heap.size := by omega
                        have x4 := x3.alloc hNz (.cells #[] 35)
                        have sl1 : SL (W3.alloc (.cells #[] 35)) (.slice (some ⟨b, o, none⟩) l.length ca) l := SL.below hv.out (Nat.le_of_eq hN) x4
                        have hz4 : (W3.alloc (.cells #[] 35)).heap.size = z + 1 := by simp [hzz]
                        have hkl2 : (l.take k).length = k := by simp; omega
                        obtain ⟨v5, W5, hrun5, ow5, g5, _⟩ := run_append_SL ow0 (sl1.take (n := k) (by omega)) (by omega) (by omega) (by omega) 22
                        obtain ⟨x5, s5, k5⟩ := grownN x4 (by omega) ow0 (by omega) g5
                        have pb5 : W5.heap[m + 1]? = some (.cells #[.int .i64 x.From, .int .i64 x.To, .int .i64 (min x.Start y.Start), .int .i64 (max x.End y.End), .int .i64 x.Rate, .int .i64 x.Delay] 35 (0, 0)) := (k5 _ (by omega) (by omega)).trans ((Below.heap_alloc _ _ _ (by omega)).trans pb3)
                        have s5m : m + 2 ≤ W5.heap.size := by have := g5.size; omega
                        have x5d : Below N W0 W5.drew := ⟨x5.os, x5.tape, x5.output, x5.size, x5.block⟩
                        have ow5d : W5.drew.ownsRow (m + 2) 35 6 v5 (l.take k).length (rowC (l.take k)) := by
                          have := ow5
                          rw [Nat.zero_add, rowC_nil, List.nil_append] at this
                          exact this
                        have sl5 : SL W5.drew (.slice (some ⟨b, o, none⟩) l.length ca) l := SL.below hv.out (Nat.le_of_eq hN) x5d
                        obtain ⟨v6, W6, hrun6, ow6, g6, _⟩ := run_append_SL ow5d (sl5.mid (k := k + 1) (i := i) (by omega) (by omega)) (by omega) (by simp; omega) (by exact s5m) 22
                        obtain ⟨x6, s6, k6⟩ := grownN x5d (by exact s5) ow5d (by omega) g6
                        have pb6 := (k6 (m + 1) (by show _ < W5.heap.size; omega) (by omega)).trans pb5
                        have s6m : m + 2 ≤ W6.heap.size := by have h := g6.size; have : W5.drew.heap.size = W5.heap.size := rfl; omega
                        have sl6 : SL W6 (.slice (some ⟨b, o, none⟩) l.length ca) l := SL.below hv.out (Nat.le_of_eq hN) x6
                        obtain ⟨v7, W7, hrun7, ow7, g7, _⟩ := run_append_SL ow6 (sl6.drop' (n := i + 1) (by omega)) (by simp; omega) (by simp; omega) s6m 22
                        obtain ⟨x7, s7, k7⟩ := grownN x6 s6 ow6 (by omega) g7
                        have pb7 := (k7 (m + 1) (by omega) (by omega)).trans pb6
                        have s7m : m + 2 ≤ W7.heap.size := by have := g7.size; omega
                        obtain ⟨z7, hz7⟩ : ∃ z7, W7.heap.size = z7 := ⟨_, rfl⟩
                        obtain ⟨v8, W8, hrun8, ow8, g8, _⟩ := run_append_SL (ow7.alloc (.cells #[.int .i64 x.From, .int .i64 x.To, .int .i64 (min x.Start y.Start), .int .i64 (max x.End y.End), .int .i64 x.Rate, .int .i64 x.Delay] 35)) (SL_one hz7 (joinC x y)) (by simp; omega) (by simp) (by simp; omega) 22
                        obtain ⟨x8, s8, _⟩ := grownN (x7.alloc (by omega) _) (by simp; omega) (ow7.alloc _) (by omega) g8
                        have ow9 : W8.ownsRow N 35 6 v8 (l.take k ++ (l.drop (k + 1)).take (i - (k + 1)) ++ l.drop (i + 1) ++ [joinC x y]).length (rowC (l.take k ++ (l.drop (k + 1)).take (i - (k + 1)) ++ l.drop (i + 1) ++ [joinC x y])) := by
                          have := ow_mono ow8 (base' := N) (by omega)
                          rw [← List.length_append, ← List.length_append, ← List.length_append, ← rowC_append, ← rowC_append, ← rowC_append] at this
                          exact this
                        obtain ⟨p0, p1', p2', p3, p4, p5⟩ : W7.cell? ⟨m + 1, 0, none⟩ = some (.int .i64 x.From) ∧ W7.cell? ⟨m + 1, 1, none⟩ = some (.int .i64 x.To) ∧ W7.cell? ⟨m + 1, 2, none⟩ = some (.int .i64 (min x.Start y.Start)) ∧ W7.cell? ⟨m + 1, 3, none⟩ = some (.int .i64 (max x.End y.End)) ∧ W7.cell? ⟨m + 1, 4, none⟩ = some (.int .i64 x.Rate) ∧ W7.cell? ⟨m + 1, 5, none⟩ = some (.int .i64 x.Delay) := by simp [World.cell?, pb7]
                        obtain ⟨hJ⟩ : Nonempty (Shut (JD l (l.take k ++ (l.drop (k + 1)).take (i - (k + 1)) ++ l.drop (i + 1) ++ [joinC x y], true))) := ⟨.inr ⟨k, i, x, y, hki, hx, hy, ⟨⟨hpS.out.1, hpS.out.2, hrS.out.1, hrS.out.2⟩, by omega, by omega⟩, fun k' i' x' y' q1 q2 q3 q4 => by
                          rcases q2 with q2 | ⟨rfl, q2⟩
                          · exact hno.out k' i' x' y' q1 q2 q3 q4
                          · rw [hy] at q4; cases q4
                            exact hnk k' x' q2 q3, rfl⟩⟩
                        obtain ⟨hE⟩ : Nonempty (Shut (Below N W0 W8)) := ⟨x8⟩
                        have hb1 : (k : Int) + 1 ≤ (i : Int) := by omega
                        have hb2 : (i : Int) ≤ (ca : Int) := by omega
                        have hb3 : (i : Int) + 1 ≤ (l.length : Int) := by omega
                        have hb4 : (l.length : Int) ≤ (ca : Int) := by omega
                        have hb5 : (0 : Int) ≤ (k : Int) + 1 := by omega
                        have hb6 : (0 : Int) ≤ (i : Int) + 1 := by omega
                        have hca : ¬ ca = k + 1 := by omega
                        rw [hW3]
                        clear hW3 pb2 ps2 t1 t2 x3 x4 sl1 ow0 g5 k5 x5 s5 ow5 pb3 pb5 x5d sl5 x6 s6 k6 g6 pb6 sl6 x7 s7 k7 g7 pb7 ow6 ow5d x8 g8 ow8 hnk hno
                        go_wp2_with (at_builtin; go_loud (refine Lib.wpList_append_run _ rfl _ _ _ _ rfl _ _ rfl rfl _ _ hrun5 ?_))
                        refine wp_region_held_drew (S := (fun _ : World => True)) (by kernel_rfl) trivial (fun hHeld => ?_)
                        refine wpAnyH_take (i := 0) (v := ?_) rfl (by kernel_rfl) (by kernel_rfl) (by kernel_rfl) (fun _ _ _ h => h) (Or.inl ⟨by rfl, ?_⟩) (by assumption) ?_
                        rotate_left
                        · intro w hSw
                          try dsimp only at hSw
                          go_split_ands
                          go_simp
                          try with_reducible rfl
                        try simp only [Act.put, List.getElem_toArray, List.getElem_cons_zero, List.getElem_cons_succ, List.setIfInBounds_toArray, List.set_cons_zero, List.set_cons_succ]
                        refine wpAnyH_take (i := 1) (v := ?_) rfl (by kernel_rfl) (by kernel_rfl) (by kernel_rfl) (fun _ _ _ h => h) (Or.inl ⟨by rfl, ?_⟩) (by assumption) ?_
                        rotate_left
                        · intro w hSw
                          try dsimp only at hSw
                          go_split_ands
                          go_simp
                          try with_reducible rfl
                        try simp only [Act.put, List.getElem_toArray, List.getElem_cons_zero, List.getElem_cons_succ, List.setIfInBounds_toArray, List.set_cons_zero, List.set_cons_succ]
                        refine wpAnyH_take (i := 2) (v := ?_) rfl (by kernel_rfl) (by kernel_rfl) (by kernel_rfl) (fun _ _ _ h => h) (Or.inl ⟨by rfl, ?_⟩) (by assumption) ?_
                        rotate_left
                        · intro w hSw
                          try dsimp only at hSw
                          go_split_ands
                          go_simp
                          try with_reducible rfl
                        try simp only [Act.put, List.getElem_toArray, List.getElem_cons_zero, List.getElem_cons_succ, List.setIfInBounds_toArray, List.set_cons_zero, List.set_cons_succ]
                        refine wpAnyH_take (i := 3) (v := ?_) rfl (by kernel_rfl) (by kernel_rfl) (by kernel_rfl) (fun _ _ _ h => h) (Or.inl ⟨by rfl, ?_⟩) (by assumption) ?_
                        rotate_left
                        · intro w hSw
                          try dsimp only at hSw
                          go_split_ands
                          go_simp
                          try with_reducible rfl
                        try simp only [Act.put, List.getElem_toArray, List.getElem_cons_zero, List.getElem_cons_succ, List.setIfInBounds_toArray, List.set_cons_zero, List.set_cons_succ]
                        refine wpAnyH_take (i := 4) (v := ?_) rfl (by kernel_rfl) (by kernel_rfl) (by kernel_rfl) (fun _ _ _ h => h) (Or.inl ⟨by rfl, ?_⟩) (by assumption) ?_
                        rotate_left
                        · intro w hSw
                          try dsimp only at hSw
                          go_split_ands
                          go_simp
                          try with_reducible rfl
                        try simp only [Act.put, List.getElem_toArray, List.getElem_cons_zero, List.getElem_cons_succ, List.setIfInBounds_toArray, List.set_cons_zero, List.set_cons_succ]
                        refine wpAnyH_take (i := 5) (v := ?_) rfl (by kernel_rfl) (by kernel_rfl) (by kernel_rfl) (fun _ _ _ h => h) (Or.inl ⟨by rfl, ?_⟩) (by assumption) ?_
                        rotate_left
                        · intro w hSw
                          try dsimp only at hSw
                          go_split_ands
                          go_simp
                          try with_reducible rfl
                        try simp only [Act.put, List.getElem_toArray, List.getElem_cons_zero, List.getElem_cons_succ, List.setIfInBounds_toArray, List.set_cons_zero, List.set_cons_succ]
                        refine wpAnyH_take (i := 7) (v := ?_) rfl (by kernel_rfl) (by kernel_rfl) (by kernel_rfl) (fun _ _ _ h => h) (Or.inl ⟨by rfl, ?_⟩) (by assumption) ?_
                        rotate_left
                        · intro w hSw
                          try dsimp only at hSw
                          go_split_ands
                          go_simp
                          try with_reducible rfl
                        try simp only [Act.put, List.getElem_toArray, List.getElem_cons_zero, List.getElem_cons_succ, List.setIfInBounds_toArray, List.set_cons_zero, List.set_cons_succ]
                        refine wpAnyH_take (i := 8) (v := ?_) rfl (by kernel_rfl) (by kernel_rfl) (by kernel_rfl) (fun _ _ _ h => h) (Or.inl ⟨by rfl, ?_⟩) (by assumption) ?_
                        rotate_left
                        · intro w hSw
                          try dsimp only at hSw
                          go_split_ands
                          go_simp
                          try with_reducible rfl
                        try simp only [Act.put, List.getElem_toArray, List.getElem_cons_zero, List.getElem_cons_succ, List.setIfInBounds_toArray, List.set_cons_zero, List.set_cons_succ]
                        refine wpAnyH_take (i := 9) (v := ?_) rfl (by kernel_rfl) (by kernel_rfl) (by kernel_rfl) (fun _ _ _ h => h) (Or.inl ⟨by rfl, ?_⟩) (by assumption) ?_
                        rotate_left
                        · intro w hSw
                          try dsimp only at hSw
                          go_split_ands
                          go_simp
                          try with_reducible rfl
                        try simp only [Act.put, List.getElem_toArray, List.getElem_cons_zero, List.getElem_cons_succ, List.setIfInBounds_toArray, List.set_cons_zero, List.set_cons_succ]
                        refine wpAnyH_take (i := 10) (v := ?_) rfl (by kernel_rfl) (by kernel_rfl) (by kernel_rfl) (fun _ _ _ h => h) (Or.inl ⟨by rfl, ?_⟩) (by assumption) ?_
                        rotate_left
                        · intro w hSw
                          try dsimp only at hSw
                          go_split_ands
                          go_simp
                          try with_reducible rfl
                        try simp only [Act.put, List.getElem_toArray, List.getElem_cons_zero, List.getElem_cons_succ, List.setIfInBounds_toArray, List.set_cons_zero, List.set_cons_succ]
                        refine wpAnyH_ready (rs := [6]) (by kernel_rfl) (by simp) ?_
                        refine AllReadyH.cons rfl (fun K hK => ?_) AllReadyH.nil
                        clear hHeld
                        rw [if_pos (by rfl)]
                        refine Lib.wp_append_run _ _ _ _ _ (by rfl) _ _ (by rfl) (by rfl) _ _ hrun6 ?_
                        refine hK.out _ _ trivial (fun hHeld => ?_)
                        try simp only [Act.put, List.getElem_toArray, List.getElem_cons_zero, List.getElem_cons_succ, List.setIfInBounds_toArray, List.set_cons_zero, List.set_cons_succ]
                        refine wpAnyH_ready (rs := [11]) (by kernel_rfl) (by simp) ?_
                        refine AllReadyH.cons rfl (fun K hK => ?_) AllReadyH.nil
                        clear hHeld
                        rw [if_pos (by rfl)]
                        refine Lib.wp_append_run _ _ _ _ _ (by rfl) _ _ (by rfl) (by rfl) _ _ hrun7 ?_
                        refine hK.out _ _ trivial (fun hHeld => ?_)
                        try simp only [Act.put, List.getElem_toArray, List.getElem_cons_zero, List.getElem_cons_succ, List.setIfInBounds_toArray, List.set_cons_zero, List.set_cons_succ]
                        refine wpAnyH_take (i := 12) (v := ?_) rfl (by kernel_rfl) (by kernel_rfl) (by kernel_rfl) (fun _ _ _ h => h) (Or.inl ⟨by rfl, ?_⟩) (by assumption) ?_
                        rotate_left
                        · intro w hSw
                          try dsimp only at hSw
                          go_split_ands
                          go_simp
                          try with_reducible rfl
                        try simp only [Act.put, List.getElem_toArray, List.getElem_cons_zero, List.getElem_cons_succ, List.setIfInBounds_toArray, List.set_cons_zero, List.set_cons_succ]
                        refine wpAnyH_done (by kernel_rfl) ?_ _
                        clear hHeld
                        go_wp2_with (at_builtin; go_loud (refine Lib.wpList_append_run _ rfl _ _ _ _ rfl _ _ rfl rfl _ _ hrun8 ?_))
                        all_goals go_ret2
                        all_goals exact ⟨_, .inr ⟨hJ.out, _, rfl, hE.out, ow9⟩⟩
                · have hdb : (x.Delay != y.Delay) = true := bne_iff_ne.2 hd
                  have hrb : (x.Rate != y.Rate) = false := bne_eq_false_iff_eq.2 hr
                  obtain ⟨hdS⟩ : Nonempty (Shut (¬ x.Delay = y.Delay)) := ⟨hd⟩
                  clear hr hd
                  go_wp2_with (go_at_call 27; go_loud (refine (pair_in x y hpb _).mono ?_); rintro e W2 ⟨rfl, z2⟩; have hp2 := (z2.block (m + 1) (by omega)).trans hbk.out.2.2.1; have hq2 := (z2.block (m) (by omega)).trans hbk.out.2.2.2; obtain ⟨m0, m1, m2, m3, m4, m5⟩ := cells6 hp2; obtain ⟨n0, n1, n2, n3, n4, n5⟩ := cells6 hq2; clear hp2 hq2)
                  obtain ⟨t1, t2⟩ := stop.out _ z2
                  refine ⟨⟨k + 1, rfl, hki, next.out (fun h => hdS.out h.1.2.2.2), t1, t2⟩, ?_⟩
                  simp only [RowKit.intOf]
                  omega
              · have hrb : (x.Rate != y.Rate) = true := bne_iff_ne.2 hr
                obtain ⟨hrS⟩ : Nonempty (Shut (¬ x.Rate = y.Rate)) := ⟨hr⟩
                clear hr
                go_wp2_with (go_at_call 27; go_loud (refine (pair_in x y hpb _).mono ?_); rintro e W2 ⟨rfl, z2⟩; have hp2 := (z2.block (m + 1) (by omega)).trans hbk.out.2.2.1; have hq2 := (z2.block (m) (by omega)).trans hbk.out.2.2.2; obtain ⟨m0, m1, m2, m3, m4, m5⟩ := cells6 hp2; obtain ⟨n0, n1, n2, n3, n4, n5⟩ := cells6 hq2; clear hp2 hq2)
                obtain ⟨t1, t2⟩ := stop.out _ z2
                refine ⟨⟨k + 1, rfl, hki, next.out (fun h => hrS.out h.1.2.2.1), t1, t2⟩, ?_⟩
                simp only [RowKit.intOf]
                omega
            · have hpb : decide (x.From = y.From ∧ x.To = y.To) = false := decide_eq_false hp
              obtain ⟨hpS⟩ : Nonempty (Shut (¬ (x.From = y.From ∧ x.To = y.To))) := ⟨hp⟩
              clear hp
              go_wp2_with (go_at_call 27; go_loud (refine (pair_in x y hpb _).mono ?_); rintro e W2 ⟨rfl, z2⟩; have hp2 := (z2.block (m + 1) (by omega)).trans hbk.out.2.2.1; have hq2 := (z2.block (m) (by omega)).trans hbk.out.2.2.2; obtain ⟨m0, m1, m2, m3, m4, m5⟩ := cells6 hp2; obtain ⟨n0, n1, n2, n3, n4, n5⟩ := cells6 hq2; clear hp2 hq2)
              obtain ⟨t1, t2⟩ := stop.out _ z2
              refine ⟨⟨k + 1, rfl, hki, next.out (fun h => hpS.out ⟨h.1.1, h.1.2.1⟩), t1, t2⟩, ?_⟩
              simp only [RowKit.intOf]
              omega
        · have hkii : ¬ (k : Int) < (i : Int) := by omega
          have hki2 : k = i := by omega
          obtain ⟨hx2⟩ : Nonempty (Shut (Below N W0 wr ∧ N ≤ wr.heap.size)) := ⟨⟨x2, hs2⟩⟩
          obtain ⟨hnk2⟩ : Nonempty (Shut (∀ (k' : Nat) x', k' < i → l[k']? = some x' → ¬ okJ x' y)) := ⟨fun k' x' h1 => hnk k' x' (by omega)⟩
          clear hnk x2 hs2 x1 hs1
          go_wp2
          refine ⟨⟨i + 1, rfl, hil, fun k' i' x' y' q1 q2 q3 q4 => ?_, hx2.out.1, hx2.out.2⟩, ?_⟩
          · by_cases e : i' = i
            · subst e; rw [hy] at q4; cases q4
              exact hnk2.out k' x' q1 q3
            · exact hno.out k' i' x' y' q1 (by omega) q3 q4
          · simp only [RowKit.intOf]
            omega
    · have hii : ¬ (i : Int) < (l.length : Int) := by omega
      obtain ⟨hJ⟩ : Nonempty (Shut (JD l (l, false) ∧ Below N W0 wr)) := ⟨⟨.inl ⟨rfl, fun k' i' x' y' q1 q2 q3 => hno k' i' x' y' q1 (by have := (List.getElem?_eq_some_iff.1 q3).1; omega) q2 q3⟩, x1⟩⟩
      clear hno x1
      go_wp2
      go_ret2
      exact ⟨_, .inl ⟨hJ.out.1, rfl, hJ.out.2⟩⟩
end Go.Seq
