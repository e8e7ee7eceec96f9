import Derived.Test.YtjcbpfhlgebgdaaMW2
import Derived.Test.YtjcbpfhlgebgdaaPMc
import Derived.Maps.RangeWalk
set_option linter.unusedSimpArgs false
set_option linter.unusedVariables false
namespace Go.Seq
open Go.RowKit Go.Shelf Go.Proofs Go.X Go.Proofs.Ytjcbpfhlgebgdaa Go.Eng
theorem encC_R (E : Env) (x : Contact) (v : Value) : R E (enc_Contact x) v ↔ v = .agg (cellC x).toArray := encLC_R E x v
theorem RR_of_cells {W : World} {pr : Nat → Nat → Prop} {lam : Nat → Option Nat} {b : Nat} (hp : ∀ o, pr b o) : ∀ {l : List Contact} {o : Nat}, (∀ j u, (rowC l)[j]? = some u → W.cell? ⟨b, o + j, none⟩ = some u) → RR ⟨W, pr, lam⟩ b 6 o (l.map enc_Contact)
  | [], o, _ => by simp [RR]
  | x :: l, o, h => by
    simp only [List.map_cons, RR]
    refine ⟨⟨.agg (cellC x).toArray, (encC_R _ x _).2 rfl, rfl, fun j z hz => ?_⟩, RR_of_cells hp fun j u hu => ?_⟩
    · have hz' : (cellC x)[j]? = some z := by simpa [Value.cells] using hz
      have hj : j < 6 := (List.getElem?_eq_some_iff.1 hz').1
      refine ⟨⟨h j z ?_, hp _⟩, cellC_one x z (List.mem_of_getElem? hz')⟩
      show (cellC x ++ rowC l)[j]? = some z
      rw [List.getElem?_append_left (by simpa [cellC] using hj)]
      exact hz'
    · have := h (6 + j) u (by
        show (cellC x ++ rowC l)[6 + j]? = some u
        rw [List.getElem?_append_right (by simp [cellC])]
        simpa [cellC] using hu)
      rw [← this]
      congr 2
      omega
theorem SL.toR {W : World} {v : Value} {l : List Contact} (h : SL W v l) (lam : Nat → Option Nat) : R ⟨W, fun b _ => b < W.heap.size, lam⟩ (.list (l.map enc_Contact)) v := by
  obtain ⟨base, cap, h1, h2, h3, h4⟩ := h
  simp only [R, List.length_map]
  refine ⟨base, cap, h1, h2, h3, ?_⟩
  rcases h4 with ⟨rfl, h0⟩ | ⟨b, o, q1, q2, q3⟩
  · exact .inl ⟨rfl, h0⟩
  · by_cases hl : l = []
    · subst hl
      exact .inr ⟨b, o, 6, q1, by simp [RR]⟩
    · exact .inr ⟨b, o, 6, q1, RR_of_cells (fun _ => q2 hl) q3⟩
theorem hlAll (W : World) : HL W fun b _ => b < W.heap.size := ⟨fun _ _ h => h, fun g vs h => by cases h⟩
theorem left_below {w w' : World} {pr pr' : Nat → Nat → Prop} (h : Go.Eng.Left w pr (fun _ => none) w' pr') : Below w.heap.size w w' := ⟨h.os, h.tape, h.output, h.size, fun k hk => h.block k hk fun i e => by cases e⟩
theorem SL_of_R {W : World} {pr : Nat → Nat → Prop} {lam : Nat → Option Nat} {v : Value} {l : List Contact} (hl : HL W pr) (h : R ⟨W, pr, lam⟩ (.list (l.map enc_Contact)) v) : SL W v l := by
  simp only [R, List.length_map] at h
  obtain ⟨base, cap, h1, h2, h3, h4⟩ := h
  refine ⟨base, cap, h1, h2, h3, ?_⟩
  rcases h4 with ⟨h4, h5⟩ | ⟨b, o, k, h4, h5⟩
  · exact .inl ⟨by simpa using h4, h5⟩
  · have key : ∀ {l : List Contact} {o : Nat}, RR ⟨W, pr, lam⟩ b k o (l.map enc_Contact) → ∀ j u, (rowC l)[j]? = some u → W.cell? ⟨b, o + j, none⟩ = some u ∧ pr b (o + j) := by
      intro l
      induction l with
      | nil => intro o _ j u hu; simp [rowC] at hu
      | cons x l ih =>
        intro o h j u hu
        simp only [List.map_cons, RR] at h
        obtain ⟨⟨y, p1, p2, p3⟩, p4⟩ := h
        rw [encC_R] at p1
        subst p1
        have hk : k = 6 := by rw [← p2]; rfl
        subst hk
        rcases Nat.lt_or_ge j 6 with hj | hj
        · have hu' : (cellC x)[j]? = some u := by
            rw [← hu]; symm
            show (cellC x ++ rowC l)[j]? = _
            rw [List.getElem?_append_left (by simpa [cellC] using hj)]
          obtain ⟨q1, _⟩ := p3 j u (by simpa [Value.cells] using hu')
          exact ⟨q1.1, q1.2⟩
        · have hu' : (rowC l)[j - 6]? = some u := by
            rw [← hu]; symm
            show (cellC x ++ rowC l)[j]? = _
            rw [List.getElem?_append_right (by simpa [cellC] using hj)]
            simp [cellC]
          have := ih p4 (j - 6) u hu'
          rw [show o + 6 + (j - 6) = o + j by omega] at this
          exact this
    refine .inr ⟨b, o, h4, fun hne => ?_, fun j u hu => (key h5 j u hu).1⟩
    cases l with
    | nil => exact absurd rfl hne
    | cons x l =>
      have := key h5 0 (.int .i64 x.From) (by simp [rowC, cellC])
      exact hl.lt _ _ this.2
theorem check_in {W : World} {v : Value} {l : List Contact} {e n : Int} (hs : SL W v l) (h : plan_Check l = some (e, n)) :
    Calls Try.prog 16 #[v] W fun en W' => en = .returned (.tuple #[.int .i64 e, .int .i64 n]) ∧ Below W.heap.size W W' := by
  have hf := plan_Check.fn l (e, n) h
  have := hf W (fun b _ => b < W.heap.size) (fun _ => none) #[v] (hlAll W) (by
    show RL _ [.list (l.map enc_Contact)] [v]
    simp only [RL]
    exact ⟨v, [], rfl, hs.toR _, rfl⟩) (fun i B hB => by simp at hB) (fun i j b h => by cases h) (fun _ _ => rfl)
  refine this.mono ?_
  rintro en w' ⟨r, pr', rfl, hr, _, hl⟩
  have hr' : R ⟨w', pr', fun _ => none⟩ (.tup [.int .i64 e, .int .i64 n]) r := hr
  simp only [R, RL] at hr'
  obtain ⟨xs, rfl, _, _, rfl, rfl, _, _, rfl, rfl, rfl⟩ := hr'
  exact ⟨rfl, left_below hl⟩
theorem of_in (c : Contact) (W : World) : Calls Try.prog 23 #[.agg #[.int .i64 c.From, .int .i64 c.To, .int .i64 c.Start, .int .i64 c.End, .int .i64 c.Rate, .int .i64 c.Delay]] W fun en W' => en = .returned (.agg #[.int .i64 c.From, .int .i64 c.To]) ∧ Below W.heap.size W W' := by
  have h : plan_of c = some ⟨c.From, c.To⟩ := rfl
  have hf := plan_of.fn c ⟨c.From, c.To⟩ h
  have := hf W (fun b _ => b < W.heap.size) (fun _ => none) #[.agg #[.int .i64 c.From, .int .i64 c.To, .int .i64 c.Start, .int .i64 c.End, .int .i64 c.Rate, .int .i64 c.Delay]] (hlAll W) (by
    show RL _ [enc_Contact c] _
    simp only [RL]
    exact ⟨_, [], rfl, (encC_R _ c _).2 rfl, rfl⟩) (fun i B hB => by simp at hB) (fun i j b h => by cases h) (fun _ _ => rfl)
  refine this.mono ?_
  rintro en w' ⟨r, pr', rfl, hr, _, hl⟩
  have hr' : R ⟨w', pr', fun _ => none⟩ (.agg [.int .i64 c.From, .int .i64 c.To]) r := hr
  simp only [R, RL] at hr'
  obtain ⟨xs, rfl, ⟨_, _, rfl, rfl, _, _, rfl, rfl, rfl⟩, _⟩ := hr'
  exact ⟨rfl, left_below hl⟩
theorem rowC_at {l : List Contact} {p : Nat} {u : Value} (h : (rowC l)[p]? = some u) : ∃ x, l[p / 6]? = some x ∧ (cellC x)[p % 6]? = some u := by
  have hp := (List.getElem?_eq_some_iff.1 h).1
  rw [rowC_len] at hp
  have hi : p / 6 < l.length := by omega
  refine ⟨l[p / 6], List.getElem?_eq_getElem hi, ?_⟩
  have := rowC_get (List.getElem?_eq_getElem hi) (p % 6) (by omega)
  rw [← this, ← h]
  congr 1
  omega
theorem sort_in {W : World} {base : Nat} {v : Value} {l : List Contact} (hown : W.ownsRow base 35 6 v l.length (rowC l)) (hl : l.length ≤ 1000000) :
    Calls Try.prog 21 #[v, .func (.func 22) #[] #[]] W fun en W' => en = .returned (.tuple #[]) ∧ W'.ownsRow base 35 6 v l.length (rowC (plan_compare.srt l)) ∧ W.grownBy W' v.ownBlock := by
  have hS : Sorts Try.prog 21 (some 22) enc_Contact 6 plan_compare.srt := plan_compare.sort.sound
  have hlen : (plan_compare.srt l).length = l.length := (srt_spec l).1.length_eq
  by_cases hne : l = []
  · subst hne
    obtain ⟨ba, cap, rfl, _⟩ := ow_form hown
    refine (hS.nil W _ ba cap (hlAll W)).mono ?_
    rintro en w' ⟨rfl, hb, _⟩
    have hsr : plan_compare.srt [] = [] := List.eq_nil_of_length_eq_zero hlen
    rw [hsr]
    have hg : W.grownBy w' (Value.ownBlock (.slice ba ([] : List Contact).length cap)) := ⟨hb.os, hb.tape, hb.output, hb.size, fun k hk _ => hb.block k hk⟩
    exact ⟨rfl, own_kept2 hown fun g _ _ hlt => hb.block g hlt, hg⟩
  · obtain ⟨hxl, ⟨rfl, h0⟩ | ⟨g, cap, cur, rfl, hb, hh, hn, hm, hcs, ht⟩⟩ := hown
    · exact absurd (List.length_eq_zero_iff.1 h0) hne
    have hglt := (Array.getElem?_eq_some_iff.1 hh).1
    have hrr : RR ⟨W, fun b _ => b < W.heap.size, fun _ => none⟩ g 6 0 (l.map enc_Contact) := RR_of_cells (fun _ => hglt) fun j u hu => by
      rw [Nat.zero_add, cell_of_row W g j cur _ (0, 0) hh]
      rw [← ht, List.getElem?_take] at hu
      split at hu
      · simpa using hu
      · cases hu
    refine (hS.row W _ _ g cap l cur 35 (hlAll W) (fun k vs h => by cases h) hne hn hm (by omega) hh hcs hrr).mono ?_
    rintro en w' ⟨rfl, w1, cur', hsw, hg1, hsz, hrr', hbl, _⟩
    have hglt1 := (Array.getElem?_eq_some_iff.1 hg1).1
    refine ⟨rfl, ⟨by rw [rowC_len, hlen], .inr ⟨g, cap, cur', rfl, hb, (hbl.block g hglt1).trans hg1, hn, hm, by rw [hsz]; exact hcs, ?_⟩⟩, ?_⟩
    · apply List.ext_getElem?
      intro p
      rcases Nat.lt_or_ge p (l.length * 6) with hp | hp
      · rw [List.getElem?_take_of_lt hp]
        have hi : p / 6 < (plan_compare.srt l).length := by omega
        obtain ⟨y, p1, p2, p3⟩ := hrr'.get (p / 6) (enc_Contact (plan_compare.srt l)[p / 6]) (by
          rw [List.getElem?_map, List.getElem?_eq_getElem hi]; rfl)
        rw [encC_R] at p1
        subst p1
        have hg := rowC_get (List.getElem?_eq_getElem hi) (p % 6) (by omega)
        rw [show p / 6 * 6 + p % 6 = p by omega] at hg
        rw [hg]
        have h6 : p % 6 < (cellC (plan_compare.srt l)[p / 6]).length := by simp [cellC]; omega
        obtain ⟨q1, _⟩ := p3 (p % 6) ((cellC (plan_compare.srt l)[p / 6])[p % 6]) (by
          rw [show (Value.agg (cellC (plan_compare.srt l)[p / 6]).toArray).cells = (cellC (plan_compare.srt l)[p / 6]).toArray from rfl, List.getElem?_toArray]
          exact List.getElem?_eq_getElem h6)
        have := q1.1
        change w1.cell? _ = _ at this
        rw [show (0 + p / 6 * 6 + p % 6) = p by omega, cell_of_row w1 g p cur' _ (0, 0) hg1] at this
        rw [List.getElem?_eq_getElem h6]
        simpa using this
      · rw [List.getElem?_eq_none (by simp; omega), List.getElem?_eq_none (by rw [rowC_len, hlen]; omega)]
    · exact ⟨hbl.os.trans hsw.os, hbl.tape.trans hsw.tape, hbl.output.trans hsw.output, by have := hbl.size; rw [hsw.size] at this; exact this, fun k hk hne' => by
        have hk1 : k ≠ g := fun e => hne' (by rw [e]; rfl)
        exact (hbl.block k (by rw [hsw.size]; exact hk)).trans (hsw.block k hk1)⟩
end Go.Seq
namespace Go.Seq
open Go.RowKit Go.Shelf Go.Proofs Go.X Go.Proofs.Ytjcbpfhlgebgdaa Go.Eng
def keyV (p : Int × Int) : Value := .agg #[.int .i64 p.1, .int .i64 p.2]
theorem keyV_inj (a b : Int × Int) (h : keyV a = keyV b) : a = b := by
  obtain ⟨a1, a2⟩ := a
  obtain ⟨b1, b2⟩ := b
  simp [keyV] at h
  exact Prod.ext h.1 h.2
def kin (p : Int × Int) : Prop := (1 ≤ p.1 ∧ p.1 ≤ 16) ∧ (1 ≤ p.2 ∧ p.2 ≤ 16)
theorem keyed50 : KeyT Try.prog 50 := keyB_ok _ (by kernel_rfl)
theorem key_of {p : Int × Int} (h : kin p) : ∃ l, keyOf Try.prog 50 (keyV p) = some l := by
  refine keyed50.key true [.int .i64, .int .i64] (by kernel_rfl) ⟨default, fun _ _ => True, fun _ => none⟩ (.agg [.int .i64 p.1, .int .i64 p.2]) (keyV p) ⟨rfl, rfl, ?_⟩ ?_
  · obtain ⟨h1, h2⟩ := h
    refine ⟨⟨rfl, ?_⟩, ⟨rfl, ?_⟩, trivial⟩ <;> (rw [IntKind.wrap_i64]; omega)
  · simp only [R, RL]
    exact ⟨[.int .i64 p.1, .int .i64 p.2], rfl, ⟨_, _, rfl, rfl, _, _, rfl, rfl, rfl⟩, by intro y hy; simp at hy; rcases hy with rfl | rfl <;> rfl⟩
theorem ow_mono {w : World} {base base' : Nat} {e : TypeId} {size : Nat} {v : Value} {n : Nat} {xs : List Value} (h : w.ownsRow base e size v n xs) (hb : base' ≤ base) : w.ownsRow base' e size v n xs :=
  ⟨h.1, h.2.imp id fun ⟨g, cap, cur, h1, h2, h3⟩ => ⟨g, cap, cur, h1, Nat.le_trans hb h2, h3⟩⟩
theorem below_step {N : Nat} {w A B : World} (h : Below N w A) (hs : N ≤ A.heap.size) (x : Below A.heap.size A B) : Below N w B ∧ N ≤ B.heap.size := ⟨h.trans (x.mono hs), Nat.le_trans hs x.size⟩
theorem zeroS (w : World) : (zeroValue 22).run Try.prog w = .ok (.slice none 0 0) w := by kernel_rfl
theorem bstep {M : Nat} {W1 A B : World} (h : Below M W1 A) (hM : W1.heap.size = M) (x : Below A.heap.size A B) : Below M W1 B := h.trans (x.mono (hM ▸ h.size))
theorem bal {M : Nat} {W1 A : World} (h : Below M W1 A) (hM : W1.heap.size = M) (o : Obj) : Below M W1 (A.alloc o) := h.alloc (hM ▸ h.size) o
theorem cells6 {w : World} {k : Nat} {c : Contact} (h : w.heap[k]? = some (.cells #[.int .i64 c.From, .int .i64 c.To, .int .i64 c.Start, .int .i64 c.End, .int .i64 c.Rate, .int .i64 c.Delay] 35 (0, 0))) :
    w.cell? ⟨k, 0, none⟩ = some (.int .i64 c.From) ∧ w.cell? ⟨k, 1, none⟩ = some (.int .i64 c.To) ∧ w.cell? ⟨k, 2, none⟩ = some (.int .i64 c.Start) ∧ w.cell? ⟨k, 3, none⟩ = some (.int .i64 c.End) ∧ w.cell? ⟨k, 4, none⟩ = some (.int .i64 c.Rate) ∧ w.cell? ⟨k, 5, none⟩ = some (.int .i64 c.Delay) := by
  simp [World.cell?, h]
theorem grp_round {N B k : Nat} {W0 wr W1 Wl W' W3 : World} {v v10 : Value} {n : Nat} {xs : List Value} (x1 : Below N W0 wr) (hNB : N ≤ B) (hsB : B + 1 ≤ wr.heap.size) (hk : wr.heap.size = k) (y0 : Below k wr W1) (hs1 : W1.heap.size = k + 1) (y : Below (k + 1) W1 Wl) (hgr : Wl.grownBy W' v.ownBlock)
    (hvb : ∀ g, v.ownBlock = some g → B + 1 ≤ g) (hg3 : W'.grownBy W3 (some B)) (hs3 : W3.heap.size = W'.heap.size) (hown : wr.ownsRow N 35 6 v10 n xs) (hgB : ∀ g, v10.ownBlock = some g → g < B) :
    Below N W0 W3 ∧ B + 1 ≤ W3.heap.size ∧ W3.ownsRow N 35 6 v10 n xs := by
  have h1 := y.size
  have h2 := hgr.size
  have key : ∀ j, j < B → W3.heap[j]? = wr.heap[j]? := fun j hj =>
    (hg3.block j (by omega) (fun e => by simp at e; omega)).trans ((hgr.block j (by omega) (fun e => by have := hvb j e.symm; omega)).trans ((y.block j (by omega)).trans (y0.block j (by omega))))
  refine ⟨⟨?_, ?_, ?_, ?_, fun j hj => (key j (by omega)).trans (x1.block j hj)⟩, by omega, own_kept2 hown fun g hg _ _ => key g (hgB g hg)⟩
  · exact hg3.os.trans (hgr.os.trans (y.os.trans (y0.os.trans x1.os)))
  · exact hg3.tape.trans (hgr.tape.trans (y.tape.trans (y0.tape.trans x1.tape)))
  · exact hg3.output.trans (hgr.output.trans (y.output.trans (y0.output.trans x1.output)))
  · have := x1.size; omega
theorem concat_at (W : World) {M : Nat} (hM : W.heap.size = M) {sa sb : Value} {A B : List Contact} (ha : SL W sa A) (hb : SL W sb B) (hA : A.length ≤ 200) (hB : B.length ≤ 200) {ab : List Contact} (hab : A ++ B = ab) (t : TypeId) :
    Calls Try.prog 20 #[.slice (some ⟨M, 0, none⟩) 2 2] (W.alloc (.cells #[sa, sb] t)) fun en W' => ∃ v, en = .returned v ∧ Below M W W' ∧ M + 1 ≤ W'.heap.size ∧ W'.ownsRow (M + 1) 35 6 v ab.length (rowC ab) := by
  subst hab
  have hb0 := (MapKept.heap_alloc W (.cells #[sa, sb] t)).1
  rw [hM] at hb0
  have hbl : Below M W (W.alloc (.cells #[sa, sb] t)) := by rw [← hM]; exact (Below.refl _ _).alloc (Nat.le_refl _) _
  have hsz : (W.alloc (.cells #[sa, sb] t)).heap.size = M + 1 := by simp [hM]
  refine (concat_in _ sa sb A B M (by simp [World.cell?, hb0]) (by simp [World.cell?, hb0]) (ha.below (Nat.le_of_eq hM) hbl) (hb.below (Nat.le_of_eq hM) hbl) hA hB).mono ?_
  rintro en W' ⟨v, rfl, x, ow⟩
  rw [hsz] at x ow
  refine ⟨v, rfl, hbl.trans (x.mono (by omega)), by have := x.size; omega, by rw [rowC_append, List.length_append]; exact ow⟩
set_option maxHeartbeats 8000000 in
set_option maxRecDepth 100000 in
theorem merge_in (W0 : World) (va vb : Value) (a b : List Contact) (ha : SL W0 va a) (hb : SL W0 vb b) {ea na : Int} (hCa : plan_Check a = some (ea, na)) (hCb : ea = 0 → ∃ eb nb, plan_Check b = some (eb, nb)) (hG : G0 a b) :
    Calls Try.prog 7 #[va, vb] W0 fun en W' => ∃ r v', MR0 a b r ∧ en = .returned (.tuple #[v', .int .i64 r.2]) ∧ Below W0.heap.size W0 W' ∧ W'.ownsRow W0.heap.size 35 6 v' r.1.length (rowC r.1) := by
  have mixed : Try.prog.follows .mixedOrders = true := by kernel_rfl
  have hmm := @run_makeMap Try.prog
  obtain ⟨ba, ca, rfl, a1, a2, a3⟩ := id ha
  obtain ⟨bb, cb, rfl, b1, b2, b3⟩ := id hb
  clear a1 a2 a3 b1 b2 b3
  obtain ⟨N, hN⟩ : ∃ N, W0.heap.size = N := ⟨_, rfl⟩
  rw [hN]
  obtain ⟨ha⟩ : Nonempty (Shut (SL W0 (.slice ba a.length ca) a)) := ⟨ha⟩
  obtain ⟨hb⟩ : Nonempty (Shut (SL W0 (.slice bb b.length cb) b)) := ⟨hb⟩
  obtain ⟨hG⟩ : Nonempty (Shut (G0 a b)) := ⟨hG⟩
  obtain ⟨hC⟩ : Nonempty (Shut (plan_Check a = some (ea, na) ∧ (ea = 0 → ∃ eb nb, plan_Check b = some (eb, nb)))) := ⟨⟨hCa, hCb⟩⟩
  clear hCa hCb
  go_enter Try.func7, Try.ntmps7
  go_wp2
  go_loopw [23] (fun v23 wr => ∃ i : Nat, v23 = .int .i64 (i : Int) ∧ i ≤ 2 ∧ Below N W0 wr ∧ N + 1 ≤ wr.heap.size ∧ wr.heap[N]? = some (.cells #[.slice ba a.length ca, .slice bb b.length cb] 22 (0, 0)) ∧ (1 ≤ i → ea = 0) ∧ (2 ≤ i → ∃ n, plan_Check b = some (0, n)))
    (fun v23 wr => (2 - RowKit.intOf v23).toNat)
  case atStart =>
    refine ⟨0, rfl, by omega, (by rw [← hN]; exact (Below.refl _ _).alloc (Nat.le_refl _) _), by simp [hN], by rw [← hN]; exact (MapKept.heap_alloc W0 _).1, by omega, by omega⟩
  case round =>
    obtain ⟨i, rfl, hi, x1, hs1, hblk, he1, he2⟩ := hrel
    have c0 : wr.cell? ⟨N, 0, none⟩ = some (.slice ba a.length ca) := by simp [World.cell?, hblk]
    have c1 : wr.cell? ⟨N, 1, none⟩ = some (.slice bb b.length cb) := by simp [World.cell?, hblk]
    obtain ⟨hx1⟩ : Nonempty (Shut (Below N W0 wr ∧ N + 1 ≤ wr.heap.size ∧ wr.heap[N]? = some (.cells #[.slice ba a.length ca, .slice bb b.length cb] 22 (0, 0)))) := ⟨⟨x1, hs1, hblk⟩⟩
    have hrest : ∀ W1, Below wr.heap.size wr W1 → Below N W0 W1 ∧ N + 1 ≤ W1.heap.size ∧ W1.heap[N]? = some (.cells #[.slice ba a.length ca, .slice bb b.length cb] 22 (0, 0)) := fun W1 h => ⟨(below_step x1 (by omega) h).1, Nat.le_trans hs1 h.size, (h.block N (by omega)).trans hblk⟩
    obtain ⟨hrest⟩ : Nonempty (Shut (∀ W1, Below wr.heap.size wr W1 → Below N W0 W1 ∧ N + 1 ≤ W1.heap.size ∧ W1.heap[N]? = some (.cells #[.slice ba a.length ca, .slice bb b.length cb] 22 (0, 0)))) := ⟨hrest⟩
    have sa := SL.below ha.out (Nat.le_of_eq hN) x1
    have sb := SL.below hb.out (Nat.le_of_eq hN) x1
    clear x1 hs1 hblk
    rcases (show i = 0 ∨ i = 1 ∨ i = 2 by omega) with rfl | rfl | rfl
    · by_cases he : ea = 0
      · have hCa : plan_Check a = some (0, na) := by rw [← he]; exact hC.out.1
        go_wp2_with (go_at_call 16; refine (check_in sa hCa).mono ?_; rintro e W1 ⟨rfl, x2⟩)
        obtain ⟨r1, r2, r3⟩ := hrest.out _ x2
        refine ⟨⟨1, rfl, by omega, r1, r2, r3, fun _ => he, by omega⟩, ?_⟩
        simp only [RowKit.intOf]
        decide
      · have hneb : (ea != 0) = true := bne_iff_ne.2 he
        have hCa := hC.out.1
        go_wp2_with (go_at_call 16; refine (check_in sa hCa).mono ?_; rintro e W1 ⟨rfl, x2⟩)
        all_goals first | exact absurd ‹ea = 0› he | skip
        go_ret2
        exact ⟨_, _, .inl ⟨ea, na, hCa, he, rfl⟩, rfl, (hrest.out _ x2).1, World.ownsRow_nil _ _ _ _⟩
    · have he := he1 (Nat.le_refl _)
      obtain ⟨eb, nb, hCb⟩ := hC.out.2 he
      by_cases heb : eb = 0
      · rw [heb] at hCb
        go_wp2_with (go_at_call 16; refine (check_in sb hCb).mono ?_; rintro e W1 ⟨rfl, x2⟩)
        obtain ⟨r1, r2, r3⟩ := hrest.out _ x2
        refine ⟨⟨2, rfl, by omega, r1, r2, r3, fun _ => he, fun _ => ⟨nb, hCb⟩⟩, ?_⟩
        simp only [RowKit.intOf]
        decide
      · have hneb : (eb != 0) = true := bne_iff_ne.2 heb
        go_wp2_with (go_at_call 16; refine (check_in sb hCb).mono ?_; rintro e W1 ⟨rfl, x2⟩)
        all_goals first | exact absurd ‹eb = 0› heb | skip
        go_ret2
        exact ⟨_, _, .inr (.inl ⟨⟨na, by rw [← he]; exact hC.out.1⟩, eb, nb, hCb, heb, rfl⟩), rfl, (hrest.out _ x2).1, World.ownsRow_nil _ _ _ _⟩
    · have he := he1 (by omega)
      obtain ⟨nb, hCb⟩ := he2 (Nat.le_refl _)
      have hCa : plan_Check a = some (0, na) := by rw [← he]; exact hC.out.1
      obtain ⟨hok, hla, hlb⟩ := hG.out ⟨na, hCa⟩ ⟨nb, hCb⟩
      obtain ⟨hCC⟩ : Nonempty (Shut ((∃ n, plan_Check a = some (0, n)) ∧ (∃ n, plan_Check b = some (0, n)))) := ⟨⟨⟨na, hCa⟩, ⟨nb, hCb⟩⟩⟩
      obtain ⟨hok⟩ : Nonempty (Shut (∀ c ∈ a ++ b, OKC c)) := ⟨hok⟩
      obtain ⟨M0, hM0⟩ : ∃ M0, wr.heap.size = M0 := ⟨_, rfl⟩
      obtain ⟨Wa, hWa⟩ : ∃ Wa, wr = Wa := ⟨_, rfl⟩
      rw [hWa] at hM0 hx1 sa sb ⊢
      obtain ⟨ab, hab⟩ : ∃ ab, a ++ b = ab := ⟨_, rfl⟩
      have hlab : ab.length ≤ 400 := by rw [← hab]; simp; omega
      rw [hab] at hok
      obtain ⟨hab⟩ : Nonempty (Shut (a ++ b = ab)) := ⟨hab⟩
      clear hWa c0 c1 hrest he1 he2 he hC hCa hCb hG ha hb
      go_wp2_with (first
        | (go_at_call 20; refine (concat_at _ hM0 sa sb hla hlb hab.out _).mono ?_; rintro e W1 ⟨v10, rfl, x2, s2, ow2⟩; obtain ⟨bs, cp, rfl, q1, q2, q3⟩ := ow_form ow2)
        | (go_at_call 21; refine (sort_in ow2 (by omega)).mono ?_; rintro e W2 ⟨rfl, ow3, g3⟩))
      obtain ⟨B, hB⟩ : ∃ B, W2.heap.size = B := ⟨_, rfl⟩
      obtain ⟨L, hL⟩ : ∃ L, plan_compare.srt ab = L := ⟨_, rfl⟩
      have hsp := srt_spec ab
      rw [hL] at hsp ow3
      have hlen : L.length = ab.length := hsp.1.length_eq
      rw [← hlen] at ow3 q1 q3
      have hL400 : L.length ≤ 400 := by omega
      have hNM : N + 1 ≤ M0 := by have := hx1.out.2.1; omega
      have x3 : Below N W0 W2 := by
        have h1 : Below N W0 W1 := hx1.out.1.trans (x2.mono (by omega))
        exact ⟨g3.os.trans h1.os, g3.tape.trans h1.tape, g3.output.trans h1.output, Nat.le_trans h1.size g3.size, fun j hj => (g3.block j (by omega) (fun e => by have := (own_blk2 ow2 e.symm).1; omega)).trans (h1.block j hj)⟩
      have hgB : ∀ g, (Value.slice bs L.length cp).ownBlock = some g → g < B := fun g hg => by have := (own_blk2 ow3 hg).2; omega
      have hNB : N ≤ B := by have := g3.size; omega
      have ow4 := ow_mono ow3 (base' := N) (by omega)
      rw [hB, ← hlen]
      obtain ⟨hgr0⟩ : Nonempty (Shut (Grp (α := Contact) 35 6 keyV rowC (W2.alloc (.map #[] 0)) (B + 1) B #[] 0 [])) := ⟨by rw [← hB]; exact Grp.made W2 _ (by omega)⟩
      go_loopw [45] (fun v45 wr => ∃ (n : Nat) (es : Array MapEntry) (clock : Nat) (G : List ((Int × Int) × List Contact)), v45 = .int .i64 (n : Int) ∧ n ≤ L.length ∧ GP (L.take n) G ∧ (∀ p ∈ G, kin p.1) ∧ (∀ p ∈ G, p.2.length ≤ n) ∧ G.length ≤ n ∧ Grp 35 6 keyV rowC wr (B + 1) B es clock G ∧ Below N W0 wr ∧ B + 1 ≤ wr.heap.size ∧ wr.ownsRow N 35 6 (.slice bs L.length cp) L.length (rowC L))
        (fun v45 wr => ((L.length : Int) - RowKit.intOf v45).toNat)
      case atStart => exact ⟨0, #[], 0, [], rfl, Nat.zero_le _, by simpa using GP.nil, by simp, by simp, by simp, hgr0.out, x3.alloc (by omega) _, by simp [hB], ow4.alloc _⟩
      case round =>
        obtain ⟨n, es, clock, G, rfl, hn, hGP, hkin, hglen0, hGl, hGrp, x1, hsB, hown10⟩ := hrel
        by_cases hnl : n < L.length
        · obtain ⟨c, hc⟩ : ∃ c, L[n]? = some c := ⟨L[n], List.getElem?_eq_getElem hnl⟩
          have hcok := hok.out c (hsp.1.mem_iff.1 (List.mem_of_getElem? hc))
          obtain ⟨g, rfl⟩ := q3 (by omega)
          have e0 := (ow_at hown10 ((rowC_get hc 0 (by omega)).trans (by rfl : _ = some (.int .i64 c.From)))).1
          have e1 := (ow_at hown10 ((rowC_get hc 1 (by omega)).trans (by rfl : _ = some (.int .i64 c.To)))).1
          have e2 := (ow_at hown10 ((rowC_get hc 2 (by omega)).trans (by rfl : _ = some (.int .i64 c.Start)))).1
          have e3 := (ow_at hown10 ((rowC_get hc 3 (by omega)).trans (by rfl : _ = some (.int .i64 c.End)))).1
          have e4 := (ow_at hown10 ((rowC_get hc 4 (by omega)).trans (by rfl : _ = some (.int .i64 c.Rate)))).1
          have e5 := (ow_at hown10 ((rowC_get hc 5 (by omega)).trans (by rfl : _ = some (.int .i64 c.Delay)))).1
          simp only [Nat.add_zero] at e0
          have hni : (n : Int) < (L.length : Int) := by omega
          have hwn : IntKind.i64.wrap ((n : Int) + 1) = ((n + 1 : Nat) : Int) := by rw [IntKind.wrap_i64]; omega
          obtain ⟨hR⟩ : Nonempty (Shut (GP (L.take n) G ∧ (∀ p ∈ G, kin p.1) ∧ (∀ p ∈ G, p.2.length ≤ n) ∧ G.length ≤ n ∧ Grp 35 6 keyV rowC wr (B + 1) B es clock G ∧ Below N W0 wr ∧ B + 1 ≤ wr.heap.size ∧ wr.ownsRow N 35 6 (.slice (some ⟨g, 0, none⟩) L.length cp) L.length (rowC L) ∧ OKC c ∧ L[n]? = some c ∧ n < L.length)) := ⟨⟨hGP, hkin, hglen0, hGl, hGrp, x1, hsB, hown10, hcok, hc, hnl⟩⟩
          obtain ⟨hO⟩ : Nonempty (Shut (L.Perm ab ∧ plan_compare.srt ab = L ∧ L.Pairwise (fun a b => ¬ cmpC b a < 0) ∧ (∀ g', (Value.slice (some ⟨g, 0, none⟩) L.length cp).ownBlock = some g' → g' < B) ∧ N ≤ B ∧ L.length = ab.length ∧ L.length ≤ 400 ∧ n ≤ L.length)) := ⟨⟨hsp.1, hL, hsp.2, hgB, hNB, hlen, hL400, hn⟩⟩
          clear hGP hkin hglen0 hGl hGrp x1 hsB hown10 hcok hc hnl hsp hL hgB hNB hlen hL400 hn hx1 sa sb x2 s2 ow2 q1 q2 q3 g3 ow3 x3 ow4 hB hgr0 hM0 hlab hNM hla hlb hCC hok hN
          go_wp2
          obtain ⟨hGP, hkin, hglen0, hGl, hGrp, x1, hsB, hown10, hcok, hc, hnl⟩ := hR.out
          obtain ⟨k, hk⟩ : ∃ k, wr.heap.size = k := ⟨_, rfl⟩
          obtain ⟨W1, hW1⟩ : ∃ W1, wr.alloc (.cells #[.int .i64 c.From, .int .i64 c.To, .int .i64 c.Start, .int .i64 c.End, .int .i64 c.Rate, .int .i64 c.Delay] 35) = W1 := ⟨_, rfl⟩
          rw [hW1]
          rw [hk]
          have hBk : B + 1 ≤ k := by omega
          have y0 : Below k wr W1 := by rw [← hW1, ← hk]; exact (Below.refl _ _).alloc (Nat.le_refl _) _
          have hs1 : W1.heap.size = k + 1 := by rw [← hW1, ← hk]; simp
          have kb : W1.heap[k]? = some (.cells #[.int .i64 c.From, .int .i64 c.To, .int .i64 c.Start, .int .i64 c.End, .int .i64 c.Rate, .int .i64 c.Delay] 35 (0, 0)) := by rw [← hW1, ← hk]; exact (MapKept.heap_alloc wr _).1
          have hlt : ∀ e ∈ es.toList, ∀ g', e.val.ownBlock = some g' → g' < k := fun e he g' hg' => by
            obtain ⟨i, hi⟩ := List.mem_iff_getElem?.1 he
            have hiG : i < G.length := by rw [← hGrp.len]; exact (List.getElem?_eq_some_iff.1 hi).1
            have := (own_blk2 (hGrp.ent i e _ _ hi (List.getElem?_eq_getElem hiG)).2 hg').2
            omega
          obtain ⟨hvlt⟩ : Nonempty (Shut (∀ v, (v = .slice none 0 0 ∨ ∃ e ∈ es.toList, v = e.val) → ∀ g', v.ownBlock = some g' → g' < k)) := ⟨fun v hv g' hg' => by
            rcases hv with rfl | ⟨e, he, rfl⟩
            · cases hg'
            · exact hlt e he g' hg'⟩
          obtain ⟨hGr⟩ : Nonempty (Shut (∀ W, Below (k + 1) W1 W → Grp 35 6 keyV rowC W (B + 1) B es clock G)) := ⟨fun W h => hGrp.kept ((h.block B (by omega)).trans (y0.block B (by omega))) fun g' _ _ ⟨e, he, hg'⟩ => by
            have := hlt e he g' hg'
            exact (h.block g' (by omega)).trans (y0.block g' (by omega))⟩
          obtain ⟨hS⟩ : Nonempty (Shut (∀ W, Below (k + 1) W1 W → W.cell? ⟨k, 0, none⟩ = some (.int .i64 c.From) ∧ W.cell? ⟨k, 1, none⟩ = some (.int .i64 c.To) ∧ W.cell? ⟨k, 2, none⟩ = some (.int .i64 c.Start) ∧ W.cell? ⟨k, 3, none⟩ = some (.int .i64 c.End) ∧ W.cell? ⟨k, 4, none⟩ = some (.int .i64 c.Rate) ∧ W.cell? ⟨k, 5, none⟩ = some (.int .i64 c.Delay))) := ⟨fun W h => cells6 ((h.block k (by omega)).trans kb)⟩
          obtain ⟨kl, hkl⟩ := key_of (p := pairOf c) ⟨hcok.f, hcok.t⟩
          have hglen1 : (glook G (pairOf c)).length ≤ n := by
            by_cases hex : ∃ p ∈ G, p.1 = pairOf c
            · obtain ⟨⟨k', l'⟩, hp, e⟩ := hex
              dsimp only at e; subst e
              rw [glook_mem hGP.nd hp]; exact hglen0 _ hp
            · rw [(glook_none fun p hp e => hex ⟨p, hp, e⟩).1]; simp
          have hglen : (glook G (pairOf c)).length ≤ 1000000 := by have := hO.out.2.2.2.2.2.2; omega
          obtain ⟨hfinG⟩ : Nonempty (Shut (GP (L.take (n + 1)) (gset G (pairOf c) (glook G (pairOf c) ++ [c])) ∧ (∀ p ∈ gset G (pairOf c) (glook G (pairOf c) ++ [c]), kin p.1) ∧ (∀ p ∈ gset G (pairOf c) (glook G (pairOf c) ++ [c]), p.2.length ≤ n + 1) ∧ (gset G (pairOf c) (glook G (pairOf c) ++ [c])).length ≤ n + 1)) := ⟨by
            refine ⟨?_, fun p hp => ?_, fun p hp => ?_, by have := gset_length G (pairOf c) (glook G (pairOf c) ++ [c]); omega⟩
            · rw [List.take_add_one, hc]; exact hGP.step c
            · rcases (mem_gset hGP.nd).1 hp with rfl | h
              · exact ⟨hcok.f, hcok.t⟩
              · exact hkin p h.1
            · rcases (mem_gset hGP.nd).1 hp with rfl | h
              · simp; omega
              · have := hglen0 p h.1; omega⟩
          obtain ⟨hkin2⟩ : Nonempty (Shut (∀ p ∈ G, kin p.1)) := ⟨hkin⟩
          clear hkin
          obtain ⟨hnl1⟩ : Nonempty (Shut (n + 1 ≤ L.length)) := ⟨hnl⟩
          obtain ⟨hP⟩ : Nonempty (Shut (Below N W0 wr ∧ N ≤ B ∧ B + 1 ≤ wr.heap.size ∧ wr.ownsRow N 35 6 (.slice (some ⟨g, 0, none⟩) L.length cp) L.length (rowC L) ∧ (∀ g', (Value.slice (some ⟨g, 0, none⟩) L.length cp).ownBlock = some g' → g' < B))) := ⟨⟨x1, hO.out.2.2.2.2.1, hsB, hown10, hO.out.2.2.2.1⟩⟩
          clear hW1 hGP hglen0 hGl hGrp x1 hsB hown10 hcok hc hnl hlt hglen1 hR hO e0 e1 e2 e3 e4 e5
          refine wp_region_held_drew (S := (fun w' : World => w'.cell? ⟨k, 0, none⟩ = some (.int .i64 c.From) ∧ w'.cell? ⟨k, 1, none⟩ = some (.int .i64 c.To) ∧ w'.cell? ⟨k, 2, none⟩ = some (.int .i64 c.Start) ∧ w'.cell? ⟨k, 3, none⟩ = some (.int .i64 c.End) ∧ w'.cell? ⟨k, 4, none⟩ = some (.int .i64 c.Rate) ∧ w'.cell? ⟨k, 5, none⟩ = some (.int .i64 c.Delay))) (by kernel_rfl) (cells6 (w := W1.drew) kb) (fun hHeld => ?_)
          refine wpAnyH_take (i := 0) (v := ?_) rfl (by kernel_rfl) (by kernel_rfl) (by kernel_rfl) (fun _ _ _ h => h) (Or.inl ⟨by rfl, ?_⟩) (by assumption) ?_
          rotate_left
          · intro w hSw
            try dsimp only at hSw
            go_split_ands
            go_simp
            try with_reducible rfl
          try simp only [Act.put, List.getElem_toArray, List.getElem_cons_zero, List.getElem_cons_succ, List.setIfInBounds_toArray, List.set_cons_zero, List.set_cons_succ]
          refine wpAnyH_take (i := 3) (v := ?_) rfl (by kernel_rfl) (by kernel_rfl) (by kernel_rfl) (fun _ _ _ h => h) (Or.inl ⟨by rfl, ?_⟩) (by assumption) ?_
          rotate_left
          · intro w hSw
            try dsimp only at hSw
            go_split_ands
            go_simp
            try with_reducible rfl
          try simp only [Act.put, List.getElem_toArray, List.getElem_cons_zero, List.getElem_cons_succ, List.setIfInBounds_toArray, List.set_cons_zero, List.set_cons_succ]
          refine wpAnyH_take (i := 1) (v := ?_) rfl (by kernel_rfl) (by kernel_rfl) (by kernel_rfl) (fun _ _ _ h => h) (Or.inl ⟨by rfl, ?_⟩) (by assumption) ?_
          rotate_left
          · intro w hSw
            try dsimp only at hSw
            go_split_ands
            go_simp
            try with_reducible rfl
          try simp only [Act.put, List.getElem_toArray, List.getElem_cons_zero, List.getElem_cons_succ, List.setIfInBounds_toArray, List.set_cons_zero, List.set_cons_succ]
          refine wpAnyH_take (i := 4) (v := ?_) rfl (by kernel_rfl) (by kernel_rfl) (by kernel_rfl) (fun _ _ _ h => h) (Or.inl ⟨by rfl, ?_⟩) (by assumption) ?_
          rotate_left
          · intro w hSw
            try dsimp only at hSw
            go_split_ands
            go_simp
            try with_reducible rfl
          try simp only [Act.put, List.getElem_toArray, List.getElem_cons_zero, List.getElem_cons_succ, List.setIfInBounds_toArray, List.set_cons_zero, List.set_cons_succ]
          refine wpAnyH_take (i := 7) (v := ?_) rfl (by kernel_rfl) (by kernel_rfl) (by kernel_rfl) (fun _ _ _ h => h) (Or.inl ⟨by rfl, ?_⟩) (by assumption) ?_
          rotate_left
          · intro w hSw
            try dsimp only at hSw
            go_split_ands
            go_simp
            try with_reducible rfl
          try simp only [Act.put, List.getElem_toArray, List.getElem_cons_zero, List.getElem_cons_succ, List.setIfInBounds_toArray, List.set_cons_zero, List.set_cons_succ]
          have y00 : Below (k + 1) W1 W1.drew := ⟨rfl, rfl, rfl, Nat.le_refl _, fun _ _ => rfl⟩
          obtain ⟨V0, hV0⟩ : ∃ V, W1.drew = V := ⟨_, rfl⟩
          rw [hV0] at hHeld y00 ⊢
          clear hV0
          refine wpAnyH_ready (rs := [2, 8]) (by kernel_rfl) (by simp) ?_
          refine AllReadyH.cons rfl (fun K hK => ?_) (AllReadyH.cons rfl (fun K hK => ?_) AllReadyH.nil)
          · clear hHeld
            rw [if_pos (by rfl)]
            go_simp
            go_at_call 23
            refine (of_in c V0).mono ?_
            rintro e V1 ⟨rfl, x1⟩
            have y1 : Below (k + 1) W1 V1 := bstep y00 hs1 x1
            refine hK.out _ _ (hS.out _ y1) (fun hHeld => ?_)
            try simp only [Act.put, List.getElem_toArray, List.getElem_cons_zero, List.getElem_cons_succ, List.setIfInBounds_toArray, List.set_cons_zero, List.set_cons_succ]
            refine wpAnyH_ready (rs := [5, 8]) (by kernel_rfl) (by simp) ?_
            refine AllReadyH.cons rfl (fun K hK => ?_) (AllReadyH.cons rfl (fun K hK => ?_) AllReadyH.nil)
            · clear hHeld
              rw [if_pos (by rfl)]
              go_simp
              go_at_call 23
              refine (of_in c V1).mono ?_
              rintro e V2 ⟨rfl, x2⟩
              have y2 : Below (k + 1) W1 V2 := bstep y1 hs1 x2
              refine hK.out _ _ (hS.out _ y2) (fun hHeld => ?_)
              try simp only [Act.put, List.getElem_toArray, List.getElem_cons_zero, List.getElem_cons_succ, List.setIfInBounds_toArray, List.set_cons_zero, List.set_cons_succ]
              refine wpAnyH_ready (rs := [6, 8]) (by kernel_rfl) (by simp) ?_
              refine AllReadyH.cons rfl (fun K hK => ?_) (AllReadyH.cons rfl (fun K hK => ?_) AllReadyH.nil)
              · clear hHeld
                obtain ⟨v, hlk, hvo, hback, hwho⟩ := (hGr.out _ y2).at (t := 48) (E := 22) (k := pairOf c) (by have := y2.size; omega) keyV_inj keyed50.keyed Try.underlying48 (zeroS _) (fun p hp => key_of (hkin2.out p hp)) hkl rowC_nil
                have hlk : (Instr.lookup 48 (.map (some B)) (.agg #[.int .i64 c.From, .int .i64 c.To]) false).run Try.prog V2 = .ok v V2 := hlk
                have hvk : ∀ g, v.ownBlock = some g → g < k := hvlt.out v hwho
                have hvb : ∀ g, v.ownBlock = some g → B + 1 ≤ g := fun g hg => (own_blk2 hvo hg).1
                obtain ⟨hback⟩ : Nonempty (Shut (GBack Try.prog 48 35 6 keyV rowC V2 (B + 1) B G (pairOf c) v)) := ⟨hback⟩
                rw [if_pos (by rfl)]
                go_simp
                refine hK.out _ _ (hS.out _ y2) (fun hHeld => ?_)
                try simp only [Act.put, List.getElem_toArray, List.getElem_cons_zero, List.getElem_cons_succ, List.setIfInBounds_toArray, List.set_cons_zero, List.set_cons_succ]
                refine wpAnyH_ready (rs := [8]) (by kernel_rfl) (by simp) ?_
                refine AllReadyH.cons rfl (fun K hK => ?_) AllReadyH.nil
                clear hHeld
                rw [if_pos (by rfl)]
                go_simp
                obtain ⟨m, hm⟩ : ∃ m, V2.heap.size = m := ⟨_, rfl⟩
                rw [hm]
                obtain ⟨V4, hV4⟩ : ∃ V, V2.alloc (.cells #[.int .i64 c.From, .int .i64 c.To, .int .i64 c.Start, .int .i64 c.End, .int .i64 c.Rate, .int .i64 c.Delay] 35) = V := ⟨_, rfl⟩
                rw [hV4]
                have sl4 : SL V4 (.slice (some ⟨m, 0, none⟩) 1 1) [c] := by rw [← hV4]; exact SL_one hm c
                have y4 : Below (k + 1) W1 V4 := by rw [← hV4]; exact bal y2 hs1 _
                have gb4 : ∀ row, V2.grownBy V4 row := fun row => by rw [← hV4]; exact World.grownBy_alloc _ _ _
                clear hV4 hm
                refine hK.out _ _ (hS.out _ y4) (fun hHeld => ?_)
                try simp only [Act.put, List.getElem_toArray, List.getElem_cons_zero, List.getElem_cons_succ, List.setIfInBounds_toArray, List.set_cons_zero, List.set_cons_succ]
                refine wpAnyH_ready (rs := [9]) (by kernel_rfl) (by simp) ?_
                refine AllReadyH.cons rfl (fun K hK => ?_) AllReadyH.nil
                clear hHeld
                have hvo2 : V4.ownsRow (B + 1) 35 6 v (glook G (pairOf c)).length (rowC (glook G (pairOf c))) := hvo.kept (gb4 none) (by cases v.ownBlock <;> simp)
                obtain ⟨v', W', hrun, hown', hg', hloc⟩ := run_append_SL hvo2 sl4 hglen (by simp) (by have := y4.size; omega) 22
                have hown2 : W'.ownsRow (B + 1) 35 6 v' (glook G (pairOf c) ++ [c]).length (rowC (glook G (pairOf c) ++ [c])) := by rw [rowC_append, List.length_append]; exact hown'
                have hgr : V2.grownBy W' v.ownBlock := (gb4 _).trans hg'
                have hkW : ∀ j, j < k + 1 → (∀ g, v.ownBlock = some g → j ≠ g) → W'.heap[j]? = W1.heap[j]? := fun j hj hne => (hg'.block j (by have := y4.size; omega) (fun e => hne j e.symm rfl)).trans (y4.block j hj)
                obtain ⟨W3, es', clock', hmu, hG', hg3, hs3⟩ := hback.out W' v' (glook G (pairOf c) ++ [c]) hgr hown2 (hloc.imp id fun e => .inr ⟨_, e, by have := hgr.size; have := (gb4 none).size; omega⟩)
                have hmu : (Instr.mapUpdate 48 (.map (some B)) (.agg #[.int .i64 c.From, .int .i64 c.To]) v').run Try.prog W' = .ok () W3 := hmu
                rw [if_pos (by rfl)]
                refine Lib.wp_append_run _ _ _ _ _ (by rfl) _ _ (by rfl) (by rfl) _ _ hrun ?_
                have hkk : W'.heap[k]? = some (.cells #[.int .i64 c.From, .int .i64 c.To, .int .i64 c.Start, .int .i64 c.End, .int .i64 c.Rate, .int .i64 c.Delay] 35 (0, 0)) := (hkW k (by omega) (fun g hg => by have := hvk g hg; omega)).trans kb
                refine hK.out _ _ (cells6 hkk) (fun hHeld => ?_)
                try simp only [Act.put, List.getElem_toArray, List.getElem_cons_zero, List.getElem_cons_succ, List.setIfInBounds_toArray, List.set_cons_zero, List.set_cons_succ]
                refine wpAnyH_ready (rs := [10]) (by kernel_rfl) (by simp) ?_
                refine AllReadyH.cons rfl (fun K hK => ?_) AllReadyH.nil
                clear hHeld
                have hk3 : W3.heap[k]? = some (.cells #[.int .i64 c.From, .int .i64 c.To, .int .i64 c.Start, .int .i64 c.End, .int .i64 c.Rate, .int .i64 c.Delay] 35 (0, 0)) := (hg3.block k (by have := hgr.size; have := y2.size; omega) (fun e => by simp at e; omega)).trans hkk
                rw [if_pos (by rfl)]
                go_simp
                refine hK.out _ _ (cells6 hk3) (fun hHeld => ?_)
                try simp only [Act.put, List.getElem_toArray, List.getElem_cons_zero, List.getElem_cons_succ, List.setIfInBounds_toArray, List.set_cons_zero, List.set_cons_succ]
                refine wpAnyH_done (by kernel_rfl) ?_ _
                obtain ⟨z1, z2, z3⟩ := grp_round hP.out.1 hP.out.2.1 hP.out.2.2.1 hk y0 hs1 y2 hgr hvb hg3 hs3 hP.out.2.2.2.1 hP.out.2.2.2.2
                clear hHeld
                go_wp2
                refine ⟨⟨n + 1, es', clock', gset G (pairOf c) (glook G (pairOf c) ++ [c]), rfl, hnl1.out, hfinG.out.1, hfinG.out.2.1, hfinG.out.2.2.1, hfinG.out.2.2.2, hG', z1, z2, z3⟩, ?_⟩
                simp only [RowKit.intOf]
                omega
              · clear hHeld
                rw [if_pos (by rfl)]
                go_simp
                obtain ⟨m, hm⟩ : ∃ m, V2.heap.size = m := ⟨_, rfl⟩
                rw [hm]
                obtain ⟨V3, hV3⟩ : ∃ V, V2.alloc (.cells #[.int .i64 c.From, .int .i64 c.To, .int .i64 c.Start, .int .i64 c.End, .int .i64 c.Rate, .int .i64 c.Delay] 35) = V := ⟨_, rfl⟩
                rw [hV3]
                have sl3 : SL V3 (.slice (some ⟨m, 0, none⟩) 1 1) [c] := by rw [← hV3]; exact SL_one hm c
                have y3 : Below (k + 1) W1 V3 := by rw [← hV3]; exact bal y2 hs1 _
                have gb3 : ∀ row, V2.grownBy V3 row := fun row => by rw [← hV3]; exact World.grownBy_alloc _ _ _
                clear hV3 hm
                refine hK.out _ _ (hS.out _ y3) (fun hHeld => ?_)
                try simp only [Act.put, List.getElem_toArray, List.getElem_cons_zero, List.getElem_cons_succ, List.setIfInBounds_toArray, List.set_cons_zero, List.set_cons_succ]
                refine wpAnyH_ready (rs := [6]) (by kernel_rfl) (by simp) ?_
                refine AllReadyH.cons rfl (fun K hK => ?_) AllReadyH.nil
                clear hHeld
                obtain ⟨v, hlk, hvo, hback, hwho⟩ := (hGr.out _ y3).at (t := 48) (E := 22) (k := pairOf c) (by have := y3.size; omega) keyV_inj keyed50.keyed Try.underlying48 (zeroS _) (fun p hp => key_of (hkin2.out p hp)) hkl rowC_nil
                have hlk : (Instr.lookup 48 (.map (some B)) (.agg #[.int .i64 c.From, .int .i64 c.To]) false).run Try.prog V3 = .ok v V3 := hlk
                have hvk : ∀ g, v.ownBlock = some g → g < k := hvlt.out v hwho
                have hvb : ∀ g, v.ownBlock = some g → B + 1 ≤ g := fun g hg => (own_blk2 hvo hg).1
                obtain ⟨hback⟩ : Nonempty (Shut (GBack Try.prog 48 35 6 keyV rowC V3 (B + 1) B G (pairOf c) v)) := ⟨hback⟩
                rw [if_pos (by rfl)]
                go_simp
                refine hK.out _ _ (hS.out _ y3) (fun hHeld => ?_)
                try simp only [Act.put, List.getElem_toArray, List.getElem_cons_zero, List.getElem_cons_succ, List.setIfInBounds_toArray, List.set_cons_zero, List.set_cons_succ]
                refine wpAnyH_ready (rs := [9]) (by kernel_rfl) (by simp) ?_
                refine AllReadyH.cons rfl (fun K hK => ?_) AllReadyH.nil
                clear hHeld
                have hvo2 : V3.ownsRow (B + 1) 35 6 v (glook G (pairOf c)).length (rowC (glook G (pairOf c))) := hvo
                obtain ⟨v', W', hrun, hown', hg', hloc⟩ := run_append_SL hvo2 sl3 hglen (by simp) (by have := y3.size; omega) 22
                have hown2 : W'.ownsRow (B + 1) 35 6 v' (glook G (pairOf c) ++ [c]).length (rowC (glook G (pairOf c) ++ [c])) := by rw [rowC_append, List.length_append]; exact hown'
                have hgr : V3.grownBy W' v.ownBlock := hg'
                have hkW : ∀ j, j < k + 1 → (∀ g, v.ownBlock = some g → j ≠ g) → W'.heap[j]? = W1.heap[j]? := fun j hj hne => (hg'.block j (by have := y3.size; omega) (fun e => hne j e.symm rfl)).trans (y3.block j hj)
                obtain ⟨W3, es', clock', hmu, hG', hg3, hs3⟩ := hback.out W' v' (glook G (pairOf c) ++ [c]) hgr hown2 (hloc.imp id fun e => .inr ⟨_, e, by have := hgr.size; omega⟩)
                have hmu : (Instr.mapUpdate 48 (.map (some B)) (.agg #[.int .i64 c.From, .int .i64 c.To]) v').run Try.prog W' = .ok () W3 := hmu
                rw [if_pos (by rfl)]
                refine Lib.wp_append_run _ _ _ _ _ (by rfl) _ _ (by rfl) (by rfl) _ _ hrun ?_
                have hkk : W'.heap[k]? = some (.cells #[.int .i64 c.From, .int .i64 c.To, .int .i64 c.Start, .int .i64 c.End, .int .i64 c.Rate, .int .i64 c.Delay] 35 (0, 0)) := (hkW k (by omega) (fun g hg => by have := hvk g hg; omega)).trans kb
                refine hK.out _ _ (cells6 hkk) (fun hHeld => ?_)
                try simp only [Act.put, List.getElem_toArray, List.getElem_cons_zero, List.getElem_cons_succ, List.setIfInBounds_toArray, List.set_cons_zero, List.set_cons_succ]
                refine wpAnyH_ready (rs := [10]) (by kernel_rfl) (by simp) ?_
                refine AllReadyH.cons rfl (fun K hK => ?_) AllReadyH.nil
                clear hHeld
                have hk3 : W3.heap[k]? = some (.cells #[.int .i64 c.From, .int .i64 c.To, .int .i64 c.Start, .int .i64 c.End, .int .i64 c.Rate, .int .i64 c.Delay] 35 (0, 0)) := (hg3.block k (by have := hgr.size; have := y3.size; omega) (fun e => by simp at e; omega)).trans hkk
                rw [if_pos (by rfl)]
                go_simp
                refine hK.out _ _ (cells6 hk3) (fun hHeld => ?_)
                try simp only [Act.put, List.getElem_toArray, List.getElem_cons_zero, List.getElem_cons_succ, List.setIfInBounds_toArray, List.set_cons_zero, List.set_cons_succ]
                refine wpAnyH_done (by kernel_rfl) ?_ _
                obtain ⟨z1, z2, z3⟩ := grp_round hP.out.1 hP.out.2.1 hP.out.2.2.1 hk y0 hs1 y3 hgr hvb hg3 hs3 hP.out.2.2.2.1 hP.out.2.2.2.2
                clear hHeld
                go_wp2
                refine ⟨⟨n + 1, es', clock', gset G (pairOf c) (glook G (pairOf c) ++ [c]), rfl, hnl1.out, hfinG.out.1, hfinG.out.2.1, hfinG.out.2.2.1, hfinG.out.2.2.2, hG', z1, z2, z3⟩, ?_⟩
                simp only [RowKit.intOf]
                omega
            · clear hHeld
              rw [if_pos (by rfl)]
              go_simp
              obtain ⟨m, hm⟩ : ∃ m, V1.heap.size = m := ⟨_, rfl⟩
              rw [hm]
              obtain ⟨V2, hV2⟩ : ∃ V, V1.alloc (.cells #[.int .i64 c.From, .int .i64 c.To, .int .i64 c.Start, .int .i64 c.End, .int .i64 c.Rate, .int .i64 c.Delay] 35) = V := ⟨_, rfl⟩
              rw [hV2]
              have sl2 : SL V2 (.slice (some ⟨m, 0, none⟩) 1 1) [c] := by rw [← hV2]; exact SL_one hm c
              have y2 : Below (k + 1) W1 V2 := by rw [← hV2]; exact bal y1 hs1 _
              have gb2 : ∀ row, V1.grownBy V2 row := fun row => by rw [← hV2]; exact World.grownBy_alloc _ _ _
              clear hV2 hm
              refine hK.out _ _ (hS.out _ y2) (fun hHeld => ?_)
              try simp only [Act.put, List.getElem_toArray, List.getElem_cons_zero, List.getElem_cons_succ, List.setIfInBounds_toArray, List.set_cons_zero, List.set_cons_succ]
              refine wpAnyH_ready (rs := [5]) (by kernel_rfl) (by simp) ?_
              refine AllReadyH.cons rfl (fun K hK => ?_) AllReadyH.nil
              clear hHeld
              rw [if_pos (by rfl)]
              go_simp
              go_at_call 23
              refine (of_in c V2).mono ?_
              rintro e V3 ⟨rfl, x3⟩
              have y3 : Below (k + 1) W1 V3 := bstep y2 hs1 x3
              refine hK.out _ _ (hS.out _ y3) (fun hHeld => ?_)
              try simp only [Act.put, List.getElem_toArray, List.getElem_cons_zero, List.getElem_cons_succ, List.setIfInBounds_toArray, List.set_cons_zero, List.set_cons_succ]
              have sl3 := sl2.below (Nat.le_refl _) x3
              refine wpAnyH_ready (rs := [6]) (by kernel_rfl) (by simp) ?_
              refine AllReadyH.cons rfl (fun K hK => ?_) AllReadyH.nil
              clear hHeld
              obtain ⟨v, hlk, hvo, hback, hwho⟩ := (hGr.out _ y3).at (t := 48) (E := 22) (k := pairOf c) (by have := y3.size; omega) keyV_inj keyed50.keyed Try.underlying48 (zeroS _) (fun p hp => key_of (hkin2.out p hp)) hkl rowC_nil
              have hlk : (Instr.lookup 48 (.map (some B)) (.agg #[.int .i64 c.From, .int .i64 c.To]) false).run Try.prog V3 = .ok v V3 := hlk
              have hvk : ∀ g, v.ownBlock = some g → g < k := hvlt.out v hwho
              have hvb : ∀ g, v.ownBlock = some g → B + 1 ≤ g := fun g hg => (own_blk2 hvo hg).1
              obtain ⟨hback⟩ : Nonempty (Shut (GBack Try.prog 48 35 6 keyV rowC V3 (B + 1) B G (pairOf c) v)) := ⟨hback⟩
              rw [if_pos (by rfl)]
              go_simp
              refine hK.out _ _ (hS.out _ y3) (fun hHeld => ?_)
              try simp only [Act.put, List.getElem_toArray, List.getElem_cons_zero, List.getElem_cons_succ, List.setIfInBounds_toArray, List.set_cons_zero, List.set_cons_succ]
              refine wpAnyH_ready (rs := [9]) (by kernel_rfl) (by simp) ?_
              refine AllReadyH.cons rfl (fun K hK => ?_) AllReadyH.nil
              clear hHeld
              have hvo2 : V3.ownsRow (B + 1) 35 6 v (glook G (pairOf c)).length (rowC (glook G (pairOf c))) := hvo
              obtain ⟨v', W', hrun, hown', hg', hloc⟩ := run_append_SL hvo2 sl3 hglen (by simp) (by have := y3.size; omega) 22
              have hown2 : W'.ownsRow (B + 1) 35 6 v' (glook G (pairOf c) ++ [c]).length (rowC (glook G (pairOf c) ++ [c])) := by rw [rowC_append, List.length_append]; exact hown'
              have hgr : V3.grownBy W' v.ownBlock := hg'
              have hkW : ∀ j, j < k + 1 → (∀ g, v.ownBlock = some g → j ≠ g) → W'.heap[j]? = W1.heap[j]? := fun j hj hne => (hg'.block j (by have := y3.size; omega) (fun e => hne j e.symm rfl)).trans (y3.block j hj)
              obtain ⟨W3, es', clock', hmu, hG', hg3, hs3⟩ := hback.out W' v' (glook G (pairOf c) ++ [c]) hgr hown2 (hloc.imp id fun e => .inr ⟨_, e, by have := hgr.size; omega⟩)
              have hmu : (Instr.mapUpdate 48 (.map (some B)) (.agg #[.int .i64 c.From, .int .i64 c.To]) v').run Try.prog W' = .ok () W3 := hmu
              rw [if_pos (by rfl)]
              refine Lib.wp_append_run _ _ _ _ _ (by rfl) _ _ (by rfl) (by rfl) _ _ hrun ?_
              have hkk : W'.heap[k]? = some (.cells #[.int .i64 c.From, .int .i64 c.To, .int .i64 c.Start, .int .i64 c.End, .int .i64 c.Rate, .int .i64 c.Delay] 35 (0, 0)) := (hkW k (by omega) (fun g hg => by have := hvk g hg; omega)).trans kb
              refine hK.out _ _ (cells6 hkk) (fun hHeld => ?_)
              try simp only [Act.put, List.getElem_toArray, List.getElem_cons_zero, List.getElem_cons_succ, List.setIfInBounds_toArray, List.set_cons_zero, List.set_cons_succ]
              refine wpAnyH_ready (rs := [10]) (by kernel_rfl) (by simp) ?_
              refine AllReadyH.cons rfl (fun K hK => ?_) AllReadyH.nil
              clear hHeld
              have hk3 : W3.heap[k]? = some (.cells #[.int .i64 c.From, .int .i64 c.To, .int .i64 c.Start, .int .i64 c.End, .int .i64 c.Rate, .int .i64 c.Delay] 35 (0, 0)) := (hg3.block k (by have := hgr.size; have := y3.size; omega) (fun e => by simp at e; omega)).trans hkk
              rw [if_pos (by rfl)]
              go_simp
              refine hK.out _ _ (cells6 hk3) (fun hHeld => ?_)
              try simp only [Act.put, List.getElem_toArray, List.getElem_cons_zero, List.getElem_cons_succ, List.setIfInBounds_toArray, List.set_cons_zero, List.set_cons_succ]
              refine wpAnyH_done (by kernel_rfl) ?_ _
              obtain ⟨z1, z2, z3⟩ := grp_round hP.out.1 hP.out.2.1 hP.out.2.2.1 hk y0 hs1 y3 hgr hvb hg3 hs3 hP.out.2.2.2.1 hP.out.2.2.2.2
              clear hHeld
              go_wp2
              refine ⟨⟨n + 1, es', clock', gset G (pairOf c) (glook G (pairOf c) ++ [c]), rfl, hnl1.out, hfinG.out.1, hfinG.out.2.1, hfinG.out.2.2.1, hfinG.out.2.2.2, hG', z1, z2, z3⟩, ?_⟩
              simp only [RowKit.intOf]
              omega
          · clear hHeld
            rw [if_pos (by rfl)]
            go_simp
            obtain ⟨m, hm⟩ : ∃ m, V0.heap.size = m := ⟨_, rfl⟩
            rw [hm]
            obtain ⟨V1, hV1⟩ : ∃ V, V0.alloc (.cells #[.int .i64 c.From, .int .i64 c.To, .int .i64 c.Start, .int .i64 c.End, .int .i64 c.Rate, .int .i64 c.Delay] 35) = V := ⟨_, rfl⟩
            rw [hV1]
            have sl1 : SL V1 (.slice (some ⟨m, 0, none⟩) 1 1) [c] := by rw [← hV1]; exact SL_one hm c
            have y1 : Below (k + 1) W1 V1 := by rw [← hV1]; exact bal y00 hs1 _
            have gb1 : ∀ row, V0.grownBy V1 row := fun row => by rw [← hV1]; exact World.grownBy_alloc _ _ _
            clear hV1 hm
            refine hK.out _ _ (hS.out _ y1) (fun hHeld => ?_)
            try simp only [Act.put, List.getElem_toArray, List.getElem_cons_zero, List.getElem_cons_succ, List.setIfInBounds_toArray, List.set_cons_zero, List.set_cons_succ]
            refine wpAnyH_ready (rs := [2]) (by kernel_rfl) (by simp) ?_
            refine AllReadyH.cons rfl (fun K hK => ?_) AllReadyH.nil
            clear hHeld
            rw [if_pos (by rfl)]
            go_simp
            go_at_call 23
            refine (of_in c V1).mono ?_
            rintro e V2 ⟨rfl, x2⟩
            have y2 : Below (k + 1) W1 V2 := bstep y1 hs1 x2
            refine hK.out _ _ (hS.out _ y2) (fun hHeld => ?_)
            try simp only [Act.put, List.getElem_toArray, List.getElem_cons_zero, List.getElem_cons_succ, List.setIfInBounds_toArray, List.set_cons_zero, List.set_cons_succ]
            have sl2 := sl1.below (Nat.le_refl _) x2
            refine wpAnyH_ready (rs := [5]) (by kernel_rfl) (by simp) ?_
            refine AllReadyH.cons rfl (fun K hK => ?_) AllReadyH.nil
            clear hHeld
            rw [if_pos (by rfl)]
            go_simp
            go_at_call 23
            refine (of_in c V2).mono ?_
            rintro e V3 ⟨rfl, x3⟩
            have y3 : Below (k + 1) W1 V3 := bstep y2 hs1 x3
            refine hK.out _ _ (hS.out _ y3) (fun hHeld => ?_)
            try simp only [Act.put, List.getElem_toArray, List.getElem_cons_zero, List.getElem_cons_succ, List.setIfInBounds_toArray, List.set_cons_zero, List.set_cons_succ]
            have sl3 := sl2.below (Nat.le_refl _) x3
            refine wpAnyH_ready (rs := [6]) (by kernel_rfl) (by simp) ?_
            refine AllReadyH.cons rfl (fun K hK => ?_) AllReadyH.nil
            clear hHeld
            obtain ⟨v, hlk, hvo, hback, hwho⟩ := (hGr.out _ y3).at (t := 48) (E := 22) (k := pairOf c) (by have := y3.size; omega) keyV_inj keyed50.keyed Try.underlying48 (zeroS _) (fun p hp => key_of (hkin2.out p hp)) hkl rowC_nil
            have hlk : (Instr.lookup 48 (.map (some B)) (.agg #[.int .i64 c.From, .int .i64 c.To]) false).run Try.prog V3 = .ok v V3 := hlk
            have hvk : ∀ g, v.ownBlock = some g → g < k := hvlt.out v hwho
            have hvb : ∀ g, v.ownBlock = some g → B + 1 ≤ g := fun g hg => (own_blk2 hvo hg).1
            obtain ⟨hback⟩ : Nonempty (Shut (GBack Try.prog 48 35 6 keyV rowC V3 (B + 1) B G (pairOf c) v)) := ⟨hback⟩
            rw [if_pos (by rfl)]
            go_simp
            refine hK.out _ _ (hS.out _ y3) (fun hHeld => ?_)
            try simp only [Act.put, List.getElem_toArray, List.getElem_cons_zero, List.getElem_cons_succ, List.setIfInBounds_toArray, List.set_cons_zero, List.set_cons_succ]
            refine wpAnyH_ready (rs := [9]) (by kernel_rfl) (by simp) ?_
            refine AllReadyH.cons rfl (fun K hK => ?_) AllReadyH.nil
            clear hHeld
            have hvo2 : V3.ownsRow (B + 1) 35 6 v (glook G (pairOf c)).length (rowC (glook G (pairOf c))) := hvo
            obtain ⟨v', W', hrun, hown', hg', hloc⟩ := run_append_SL hvo2 sl3 hglen (by simp) (by have := y3.size; omega) 22
            have hown2 : W'.ownsRow (B + 1) 35 6 v' (glook G (pairOf c) ++ [c]).length (rowC (glook G (pairOf c) ++ [c])) := by rw [rowC_append, List.length_append]; exact hown'
            have hgr : V3.grownBy W' v.ownBlock := hg'
            have hkW : ∀ j, j < k + 1 → (∀ g, v.ownBlock = some g → j ≠ g) → W'.heap[j]? = W1.heap[j]? := fun j hj hne => (hg'.block j (by have := y3.size; omega) (fun e => hne j e.symm rfl)).trans (y3.block j hj)
            obtain ⟨W3, es', clock', hmu, hG', hg3, hs3⟩ := hback.out W' v' (glook G (pairOf c) ++ [c]) hgr hown2 (hloc.imp id fun e => .inr ⟨_, e, by have := hgr.size; omega⟩)
            have hmu : (Instr.mapUpdate 48 (.map (some B)) (.agg #[.int .i64 c.From, .int .i64 c.To]) v').run Try.prog W' = .ok () W3 := hmu
            rw [if_pos (by rfl)]
            refine Lib.wp_append_run _ _ _ _ _ (by rfl) _ _ (by rfl) (by rfl) _ _ hrun ?_
            have hkk : W'.heap[k]? = some (.cells #[.int .i64 c.From, .int .i64 c.To, .int .i64 c.Start, .int .i64 c.End, .int .i64 c.Rate, .int .i64 c.Delay] 35 (0, 0)) := (hkW k (by omega) (fun g hg => by have := hvk g hg; omega)).trans kb
            refine hK.out _ _ (cells6 hkk) (fun hHeld => ?_)
            try simp only [Act.put, List.getElem_toArray, List.getElem_cons_zero, List.getElem_cons_succ, List.setIfInBounds_toArray, List.set_cons_zero, List.set_cons_succ]
            refine wpAnyH_ready (rs := [10]) (by kernel_rfl) (by simp) ?_
            refine AllReadyH.cons rfl (fun K hK => ?_) AllReadyH.nil
            clear hHeld
            have hk3 : W3.heap[k]? = some (.cells #[.int .i64 c.From, .int .i64 c.To, .int .i64 c.Start, .int .i64 c.End, .int .i64 c.Rate, .int .i64 c.Delay] 35 (0, 0)) := (hg3.block k (by have := hgr.size; have := y3.size; omega) (fun e => by simp at e; omega)).trans hkk
            rw [if_pos (by rfl)]
            go_simp
            refine hK.out _ _ (cells6 hk3) (fun hHeld => ?_)
            try simp only [Act.put, List.getElem_toArray, List.getElem_cons_zero, List.getElem_cons_succ, List.setIfInBounds_toArray, List.set_cons_zero, List.set_cons_succ]
            refine wpAnyH_done (by kernel_rfl) ?_ _
            obtain ⟨z1, z2, z3⟩ := grp_round hP.out.1 hP.out.2.1 hP.out.2.2.1 hk y0 hs1 y3 hgr hvb hg3 hs3 hP.out.2.2.2.1 hP.out.2.2.2.2
            clear hHeld
            go_wp2
            refine ⟨⟨n + 1, es', clock', gset G (pairOf c) (glook G (pairOf c) ++ [c]), rfl, hnl1.out, hfinG.out.1, hfinG.out.2.1, hfinG.out.2.2.1, hfinG.out.2.2.2, hG', z1, z2, z3⟩, ?_⟩
            simp only [RowKit.intOf]
            omega
        · have hnl' : n = L.length := by omega
          have hni : ¬ (n : Int) < (L.length : Int) := by omega
          rw [hnl', List.take_length] at hGP
          rw [hnl'] at hglen0 hGl
          have hok2 : ∀ c ∈ L, OKC c := fun c hc => hok.out c (hsp.1.mem_iff.1 hc)
          have hLv : ValC L := fun c hc => (hok2 c hc).s.2.1
          have hLa := asc_start hsp.2
          have hmem : ∀ c, c ∈ L ↔ c ∈ a ++ b := fun c => by rw [hab.out]; exact hsp.1.mem_iff
          obtain ⟨hPL⟩ : Nonempty (Shut (∀ (i : Nat) k l, G[i]? = some (k, l) → PairL l ∧ l.length ≤ 400)) := ⟨fun i k l hi => ⟨hGP.pairL hLa hLv (List.mem_of_getElem? hi), by have := hglen0 _ (List.mem_of_getElem? hi); dsimp only at this; omega⟩⟩
          obtain ⟨hbad⟩ : Nonempty (Shut (∀ (i : Nat) k l out, G[i]? = some (k, l) → JInv l out → ¬ out.Pairwise apartC → MR0 a b ([], 12))) := ⟨fun i k l out hi hJ hn => by
            obtain ⟨F, f1, f2⟩ := bad_union hGP hLa hLv (List.mem_of_getElem? hi) hJ hn
            exact .inr (.inr ⟨hCC.out.1, hCC.out.2, F, f1.congr hmem, .inl ⟨f2, rfl⟩⟩)⟩
          obtain ⟨hgood⟩ : Nonempty (Shut (∀ (is : List Nat) (J : List (List Contact)), is.Nodup → (∀ i ∈ is, i < es.toList.length) → (∀ i, i < es.toList.length → i ∈ is) → J.length = is.length → (∀ (t i : Nat) out, is[t]? = some i → J[t]? = some out → ∃ k l, G[i]? = some (k, l) ∧ JInv l out ∧ out.Pairwise apartC) →
              ((200 < J.flatten.length → MR0 a b ([], 5)) ∧ (¬ 200 < J.flatten.length → MR0 a b (plan_compare.srt J.flatten, 0))))) := ⟨fun is J h1 h2 h3 h4 h5 => by
            rw [hGrp.len] at h2 h3
            obtain ⟨f1, f2⟩ := all_union hGP h1 h2 h3 J h4 h5
            have f3 := f1.congr hmem
            exact ⟨fun h => .inr (.inr ⟨hCC.out.1, hCC.out.2, _, f3, .inr (.inl ⟨f2, h, rfl⟩)⟩), fun h => .inr (.inr ⟨hCC.out.1, hCC.out.2, _, f3, SRF.of f2 (f1.ok hok2) (by omega)⟩)⟩⟩
          have hGl4 : es.toList.length ≤ 400 := by rw [hGrp.len]; omega
          have hlt : ∀ (i : Nat) e g', es.toList[i]? = some e → e.val.ownBlock = some g' → g' < wr.heap.size := fun i e g' hi hg' => by
            have hiG : i < G.length := by rw [← hGrp.len]; exact (List.getElem?_eq_some_iff.1 hi).1
            exact (own_blk2 (hGrp.ent i e _ _ hi (List.getElem?_eq_getElem hiG)).2 hg').2
          obtain ⟨r, hr⟩ : ∃ r, wr.heap.size = r := ⟨_, rfl⟩
          obtain ⟨Wg, hWg⟩ : ∃ Wg, wr = Wg := ⟨_, rfl⟩
          rw [hWg] at hr hlt hGrp x1 hsB ⊢
          rw [hr] at hlt hsB
          obtain ⟨hx1⟩ : Nonempty (Shut (Below N W0 Wg)) := ⟨x1⟩
          obtain ⟨hlt⟩ : Nonempty (Shut (∀ (i : Nat) e g', es.toList[i]? = some e → e.val.ownBlock = some g' → g' < r)) := ⟨hlt⟩
          obtain ⟨hN4⟩ : Nonempty (Shut (N ≤ B)) := ⟨hNB⟩
          obtain ⟨hGS⟩ : Nonempty (Shut (Grp 35 6 keyV rowC Wg (B + 1) B es clock G)) := ⟨hGrp⟩
          clear hWg hGP hkin hglen0 hGl x1 hown10 hok hok2 hLv hLa hmem hsp hL hgB hNB hlen hL400 hn sa sb x2 s2 ow2 q1 q2 q3 g3 ow3 x3 ow4 hB hgr0 hM0 hlab hNM hla hlb hCC hN hab hnl
          go_wp2_with (at_range; go_loud (refine wpList_range_grp rfl _ _ rfl Try.underlying48 hGrp rfl ?_; intro hrng))
          rw [hr] at hrng
          have hs0 : (Wg.alloc (.mapIter (some B) clock #[] clock)).heap.size = r + 1 := by simp [hr]
          have hold : ∀ j, j < r → (Wg.alloc (.mapIter (some B) clock #[] clock)).heap[j]? = Wg.heap[j]? := fun j hj => Below.heap_alloc _ _ _ (by omega)
          obtain ⟨W8, hW8⟩ : ∃ W8, Wg.alloc (.mapIter (some B) clock #[] clock) = W8 := ⟨_, rfl⟩
          have x8 : Below N W0 W8 := by rw [← hW8]; exact hx1.out.alloc (by have := hN4.out; omega) _
          rw [hW8] at hrng hs0 hold ⊢
          have hG8 : Grp 35 6 keyV rowC W8 (B + 1) B es clock G := hGS.out.kept (hold B (by omega)) fun g' _ _ ⟨e, he, hg'⟩ => by
            obtain ⟨i, hi⟩ := List.mem_iff_getElem?.1 he
            exact hold g' (hlt.out i e g' hi hg')
          obtain ⟨hBr⟩ : Nonempty (Shut (B + 1 ≤ r)) := ⟨hsB⟩
          clear hW8 hGS hx1 hold hr hGrp hsB
          go_loopw [14] (fun v14 w9 => ∃ (seen : Array Nat) (is : List Nat) (J : List (List Contact)), J.length = is.length ∧ (∀ (t i : Nat) out, is[t]? = some i → J[t]? = some out → ∃ k l, G[i]? = some (k, l) ∧ JInv l out ∧ out.Pairwise apartC) ∧ (∀ o ∈ J, o.length ≤ 400) ∧
              Rng w9 B r es clock seen is ∧ Grp 35 6 keyV rowC w9 (B + 1) B es clock G ∧ Below N W0 w9 ∧ r + 1 ≤ w9.heap.size ∧ w9.ownsRow (r + 1) 35 6 v14 J.flatten.length (rowC J.flatten))
            (fun v14 w9 => w9.rangeLeft B r)
          case atStart => exact ⟨#[], [], [], rfl, by simp, by simp, hrng, hG8, x8, by omega, World.ownsRow_nil _ _ _ _⟩
          case round =>
            obtain ⟨seen, is, J, hJl, hJ, hJ4, hR9, hG9, x9, s9, ow9⟩ := hrel
            have hil := nodup_le es.toList.length is hR9.nd hR9.lt
            have hFl := flat_le 400 J hJ4
            have hF4 : J.flatten.length ≤ 160000 := by omega
            obtain ⟨b14, c14, rfl, p1, p2, _⟩ := ow_form ow9
            obtain ⟨hK⟩ : Nonempty (Shut (J.length = is.length ∧ (∀ (t i : Nat) out, is[t]? = some i → J[t]? = some out → ∃ k l, G[i]? = some (k, l) ∧ JInv l out ∧ out.Pairwise apartC) ∧ (∀ o ∈ J, o.length ≤ 400) ∧ Below N W0 wr ∧ r + 1 ≤ wr.heap.size)) := ⟨⟨hJl, hJ, hJ4, x9, s9⟩⟩
            obtain ⟨hMM⟩ : Nonempty (Shut ((∀ i, i < es.toList.length → i ∈ is) → (200 < J.flatten.length → MR0 a b ([], 5)) ∧ (¬ 200 < J.flatten.length → MR0 a b (plan_compare.srt J.flatten, 0)))) := ⟨fun h => hgood.out is J hR9.nd hR9.lt h hJl hJ⟩
            obtain ⟨F, hF⟩ : ∃ F, J.flatten = F := ⟨_, rfl⟩
            obtain ⟨hF⟩ : Nonempty (Shut (J.flatten = F)) := ⟨hF⟩
            rw [hF.out] at hMM ow9 hF4 p1 ⊢
            clear hJl hJ hJ4 x9 s9 hgood hFl hil hG8 hrng hs0 x8 hGl4
            go_wp2_with (at_next; go_loud (refine wpList_next_grp rfl _ rfl hG9 hR9 (Nat.le_refl _) rfl ?_ ?_ (.inr fun i e g' h1 h2 => Nat.ne_of_lt (hlt.out i e g' h1 h2))))
            · intro hdone
              obtain ⟨m1, m2⟩ := hMM.out hdone
              by_cases h2 : 200 < F.length
              · have h2i : (200 : Int) < (F.length : Int) := by omega
                obtain ⟨hM⟩ : Nonempty (Shut (MR0 a b ([], 5))) := ⟨m1 h2⟩
                clear m1 m2 hMM
                go_wp2
                go_ret2
                exact ⟨_, _, hM.out, rfl, hK.out.2.2.2.1, World.ownsRow_nil _ _ _ _⟩
              · have h2i : ¬ (200 : Int) < (F.length : Int) := by omega
                obtain ⟨hM⟩ : Nonempty (Shut (MR0 a b (plan_compare.srt F, 0))) := ⟨m2 h2⟩
                clear m1 m2 hMM
                go_wp2_with (go_at_call 21; go_loud (refine (sort_in ow9 (by omega)).mono ?_); rintro e W5 ⟨rfl, ow5, g5⟩)
                have hNr : N ≤ r + 1 := by have := hN4.out; have := hBr.out; omega
                have xk := hK.out.2.2.2
                have x5 : Below N W0 W5 := ⟨g5.os.trans xk.1.os, g5.tape.trans xk.1.tape, g5.output.trans xk.1.output, Nat.le_trans xk.1.size g5.size, fun j hj => (g5.block j (by omega) (fun e => by have := (own_blk2 ow9 e.symm).1; omega)).trans (xk.1.block j hj)⟩
                have hlF : (plan_compare.srt F).length = F.length := (srt_spec F).1.length_eq
                have ow6 : W5.ownsRow N 35 6 (.slice b14 F.length c14) (plan_compare.srt F).length (rowC (plan_compare.srt F)) := by rw [hlF]; exact ow_mono ow5 hNr
                clear g5 hlF ow5
                go_ret2
                exact ⟨_, _, hM.out, rfl, x5, ow6⟩
            · intro i kx ky l v W' seen' hGi hov hG' hni hR' hrl hgr hsz hne hen
              clear hMM
              have ov' : W'.ownsRow (B + 1) 35 6 v l.length (rowC l) := own_kept2 hov fun g hg _ hl => hgr.block g hl (fun e => hne g hg (by cases e; rfl))
              have hPi := hPL.out i _ l hGi
              have hNr : N ≤ r + 1 := by have := hN4.out; have := hBr.out; omega
              have xk := hK.out.2.2.2
              have x10 : Below N W0 W' := ⟨hgr.os.trans xk.1.os, hgr.tape.trans xk.1.tape, hgr.output.trans xk.1.output, Nat.le_trans xk.1.size hgr.size, fun j hj => (hgr.block j (by omega) (fun e => by simp at e; have := hN4.out; have := hBr.out; omega)).trans (xk.1.block j hj)⟩
              have ow10 : W'.ownsRow (r + 1) 35 6 (.slice b14 F.length c14) F.length (rowC F) := own_kept2 ow9 fun g _ hge hl => hgr.block g hl (fun e => by simp at e; omega)
              have hs10 : r + 1 ≤ W'.heap.size := by rw [hsz]; exact xk.2
              have hrl' : W'.rangeLeft B r < wr.rangeLeft B r := hrl
              have hjr := hbad.out i (kx, ky) l
              obtain ⟨hX⟩ : Nonempty (Shut (Below N W0 W' ∧ W'.ownsRow (r + 1) 35 6 (.slice b14 F.length c14) F.length (rowC F) ∧ r + 1 ≤ W'.heap.size ∧ N ≤ r + 1 ∧ Grp 35 6 keyV rowC W' (B + 1) B es clock G ∧ Rng W' B r es clock seen' (is ++ [i]) ∧ G[i]? = some ((kx, ky), l) ∧ W'.rangeLeft B r < wr.rangeLeft B r ∧ l.length ≤ 400 ∧ PairL l)) := ⟨⟨x10, ow10, hs10, hNr, hG', hR', hGi, hrl', hPi.2, hPi.1⟩⟩
              obtain ⟨hJB⟩ : Nonempty (Shut (∀ out, JInv l out → ¬ out.Pairwise apartC → MR0 a b ([], 12))) := ⟨fun out h1 h2 => hbad.out i (kx, ky) l out hGi h1 h2⟩
              clear hov hgr hsz hne hrl hrl' hni hR' hG' hGi x10 ow10 hs10 hNr xk hPi hjr hG9 hR9 ow9 hbad hPL
              go_wp2_with (first | (go_at_call 24; go_loud (refine (join_in W' v l (SL.of_own ov') hX.out.2.2.2.2.2.2.2.2.2 (by have := hX.out.2.2.2.2.2.2.2.2.1; omega)).mono ?_); rintro e W5 ⟨⟨r1, r2⟩, v5, ⟨out, hJi, hol, ⟨h1, h2, h3⟩ | ⟨h1, h2, h3⟩⟩, rfl, x5, ow5⟩ <;> (dsimp only at h1 h2; subst h1; subst h2; dsimp only at ow5 ⊢; obtain ⟨v6, W6, hrun, hown6, hg6, _⟩ := run_append_SL (own_kept2 hX.out.2.1 fun g _ _ hl => x5.block g hl) (SL.of_own ow5) (by omega) (by have := hX.out.2.2.2.2.2.2.2.2.1; first | omega | simp) (by have := x5.size; have := hX.out.2.2.1; omega) 22; obtain ⟨hZ⟩ : Nonempty (Shut (Below W'.heap.size W' W5)) := ⟨x5⟩; clear x5 ow5)) | (at_builtin; go_loud (refine Lib.wpList_append_run _ rfl _ _ _ _ rfl _ _ rfl rfl _ _ hrun ?_)))
              · obtain ⟨x10, ow10, hs10, hNr, hG10, hR10, hGi, hrl, hl4, _⟩ := hX.out
                obtain ⟨k1, k2, k3, _⟩ := hK.out
                have x5 := hZ.out
                have key : ∀ j, j < r + 1 → W6.heap[j]? = W'.heap[j]? := fun j hj => (hg6.block j (by have := x5.size; omega) (fun e => by have := (own_blk2 ow10 e.symm).1; omega)).trans (x5.block j (by omega))
                have hs6 : r + 1 ≤ W6.heap.size := by have := x5.size; have := hg6.size; omega
                refine ⟨⟨seen', is ++ [i], J ++ [r1], by simp [k1], fun t i' o ht ho => ?_, fun o ho => ?_, hR10.kept (key r (by omega)), hG10.kept (key B (by have := hBr.out; omega)) fun g' _ _ ⟨e, he, hg'⟩ => ?_, ⟨?_, ?_, ?_, ?_, fun j hj => (key j (by omega)).trans (x10.block j hj)⟩, hs6, ?_⟩, ?_⟩
                · rcases Nat.lt_or_ge t is.length with q | q
                  · rw [List.getElem?_append_left q] at ht
                    rw [List.getElem?_append_left (by omega)] at ho
                    exact k2 t i' o ht ho
                  · rw [List.getElem?_append_right q] at ht
                    rw [List.getElem?_append_right (by omega)] at ho
                    have e1 := List.mem_of_getElem? ht
                    have e2 := List.mem_of_getElem? ho
                    simp at e1 e2
                    subst e1; subst e2
                    exact ⟨_, l, hGi, hJi, h3⟩
                · rcases List.mem_append.1 ho with ho | ho
                  · exact k3 o ho
                  · simp at ho; subst ho; omega
                · obtain ⟨t, ht⟩ := List.mem_iff_getElem?.1 he
                  exact key g' (by have := hlt.out t e g' ht hg'; omega)
                · exact hg6.os.trans (x5.os.trans x10.os)
                · exact hg6.tape.trans (x5.tape.trans x10.tape)
                · exact hg6.output.trans (x5.output.trans x10.output)
                · have := x5.size; have := x10.size; have := hg6.size; omega
                · have e1 : (J ++ [r1]).flatten = F ++ r1 := by rw [List.flatten_append, hF.out]; simp
                  rw [e1, List.length_append, rowC_append]
                  exact hown6
                · have e2 : W6.rangeLeft B r = W'.rangeLeft B r := by
                    simp only [World.rangeLeft, key B (by have := hBr.out; omega), key r (by omega)]
                  rw [e2]; exact hrl
              · clear hrun hown6 hg6
                go_ret2
                obtain ⟨x10, _, hs10, _⟩ := hX.out
                exact ⟨_, _, hJB.out out hJi h3, rfl, x10.trans (hZ.out.mono (by omega)), World.ownsRow_nil _ _ _ _⟩
end Go.Seq
namespace Go.Proofs.Ytjcbpfhlgebgdaa
open Go Go.Eng Go.RowKit Go.X Go.Seq Go.Shelf
open Classical in
noncomputable def plan_Merge : (List Contact) × (List Contact) → Option ((List Contact) × Int) := fun x => if h : (∃ r, MR0 x.1 x.2 r) ∧ G0 x.1 x.2 then some (Classical.choose h.1) else none
theorem plan_Merge_mr {x : (List Contact) × (List Contact)} {r : (List Contact) × Int} (h : plan_Merge x = some r) : MR0 x.1 x.2 r ∧ G0 x.1 x.2 := by
  unfold plan_Merge at h
  split at h
  · rename_i hx
    cases h
    exact ⟨Classical.choose_spec hx.1, hx.2⟩
  · cases h
theorem plan_Merge_of {a b : List Contact} {r : (List Contact) × Int} (h : MR0 a b r) (hg : G0 a b) : plan_Merge (a, b) = some r := by
  unfold plan_Merge
  have hx : (∃ r, MR0 (a, b).1 (a, b).2 r) ∧ G0 (a, b).1 (a, b).2 := ⟨⟨r, h⟩, hg⟩
  rw [dif_pos hx]
  exact congrArg some ((Classical.choose_spec hx.1).det h)
theorem ow_R {W : World} {base : Nat} {v : Value} {l : List Contact} {pr : Nat → Nat → Prop} {lam : Nat → Option Nat} (h : W.ownsRow base 35 6 v l.length (rowC l)) (hp : ∀ b, base ≤ b → b < W.heap.size → ∀ o, pr b o) : R ⟨W, pr, lam⟩ (.list (l.map enc_Contact)) v := by
  obtain ⟨hl, ⟨rfl, h0⟩ | ⟨g, cap, cur, rfl, hb, hh, hn, hm, hs, ht⟩⟩ := h
  · simp only [R, List.length_map]
    have := List.length_eq_zero_iff.1 h0
    subst this
    exact ⟨none, 0, rfl, Nat.le_refl _, Nat.zero_le _, .inl ⟨rfl, rfl⟩⟩
  · have hlt := (Array.getElem?_eq_some_iff.1 hh).1
    simp only [R, List.length_map]
    refine ⟨_, cap, rfl, hn, hm, .inr ⟨g, 0, 6, rfl, RR_of_cells (hp g hb hlt) fun j u hu => ?_⟩⟩
    rw [Nat.zero_add, cell_of_row W g j cur _ (0, 0) hh]
    rw [← ht, List.getElem?_take] at hu
    split at hu
    · simpa using hu
    · cases hu
theorem plan_Merge.fn : FnT Try.prog 7 [.d .l_Contact, .d .l_Contact] [.l_Contact, .i64] plan_Merge := by
  rintro ⟨a, b⟩ r h
  obtain ⟨hMR, hG⟩ := plan_Merge_mr h
  dsimp only at hMR hG
  intro w pr lam cargs hl hargs hin hinj hlam
  have ha : RL ⟨w, pr, lam⟩ [.list (a.map enc_Contact), .list (b.map enc_Contact)] cargs.toList := hargs
  simp only [RL] at ha
  obtain ⟨va, ys, e, hva, vb, ys', e', hvb, e''⟩ := ha
  subst e''; subst e'
  have hc : cargs = #[va, vb] := by rw [← Array.toList_inj]; exact e
  subst hc
  have hlam0 : lam = fun _ => none := funext fun i => hlam i (Nat.zero_le _)
  subst hlam0
  have hCC : ∃ ea na, plan_Check a = some (ea, na) ∧ (ea = 0 → ∃ eb nb, plan_Check b = some (eb, nb)) := by
    rcases hMR with ⟨e, n, h1, h2, _⟩ | ⟨⟨n0, h0⟩, e, n, h1, _⟩ | ⟨⟨n0, h0⟩, ⟨n1, h1⟩, _⟩
    · exact ⟨e, n, h1, fun h => absurd h h2⟩
    · exact ⟨0, n0, h0, fun _ => ⟨e, n, h1⟩⟩
    · exact ⟨0, n0, h0, fun _ => ⟨0, n1, h1⟩⟩
  obtain ⟨ea, na, hCa, hCb⟩ := hCC
  refine (merge_in w va vb a b (SL_of_R hl hva) (SL_of_R hl hvb) hCa hCb hG).mono ?_
  rintro en w' ⟨r', v', hMR', rfl, hb, ho⟩
  have hr := hMR'.det hMR
  subst hr
  refine ⟨_, fun b o => pr b o ∨ (w.heap.size ≤ b ∧ b < w'.heap.size), rfl, ?_, fun i B hi => by simp at hi, ⟨hb.os, hb.tape, hb.output, trivial, hb.size, fun k hk _ => hb.block k hk, fun b o h => .inl h, fun b o h => h⟩⟩
  show R _ (.tup [.list (r'.1.map enc_Contact), .int .i64 r'.2]) _
  simp only [R, RL]
  have hR := ow_R (lam := fun _ => none) (pr := fun b o => pr b o ∨ (w.heap.size ≤ b ∧ b < w'.heap.size)) ho fun b h1 h2 _ => .inr ⟨h1, h2⟩
  simp only [R] at hR
  exact ⟨[v', .int .i64 r'.2], rfl, _, _, rfl, hR, _, _, rfl, rfl, rfl⟩
noncomputable def plan_Merge.spec : XSpec Try.prog := XSpec.t 7 [.d .l_Contact, .d .l_Contact] [.l_Contact, .i64] plan_Merge (by kernel_rfl) plan_Merge.fn
end Go.Proofs.Ytjcbpfhlgebgdaa
